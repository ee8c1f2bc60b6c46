/- table.buckets. -/
import Derived.Test.YtjbphoophgbmiaaTabB
import Derived.Test.YtjbphoophgbmiaaTabA
import Derived.Test.YtjbphoophgbmiaaQuery1
import Derived.Deep.RegionHeld3
namespace Go.Proofs.Ytjbphoophgbmiaa
open Go.ChangeShapes Go.WideShapes Go.ChangeAt Go.RowKit Go.Joins Go.Deep

theorem ownRow_lt {w : World} {base size n : Nat} {e : TypeId} {v : Value} {xs : List Value} (h : w.ownsRow base e size v n xs) {q : Nat} (hq : v.ownBlock = some q) : q < w.heap.size := (h.lt q hq).2
/-- Buckets as they lie in memory: a map of lists, each in memory of its own. -/
structure BRep (base n : Nat) (av : List Nat) (S : Nat → List (Nat × Int)) (bm : Nat) (g : Nat → Option Value) (w : World) : Prop where
  m : MapI w bm g
  own : ∀ i, i < n → w.ownsRow 0 111 2 ((g i).getD (.slice none 0 0)) (S i).length ((S i).flatMap entCells)
  lo : ∀ i, i < n → ∀ q, ((g i).getD (.slice none 0 0)).ownBlock = some q → base ≤ q ∧ q ≠ bm ∧ q ∉ av
  dis : ∀ i j, i < n → j < n → i ≠ j → ∀ q, ((g i).getD (.slice none 0 0)).ownBlock = some q → ((g j).getD (.slice none 0 0)).ownBlock ≠ some q
theorem BRep.below {base n : Nat} {av : List Nat} {S : Nat → List (Nat × Int)} {bm : Nat} {g : Nat → Option Value} {w w' : World} (k : BRep base n av S bm g w) (o : Below w.heap.size w w') : BRep base n av S bm g w' :=
  ⟨k.m.below o, fun i hi => own_kept (k.own i hi) (Only.of_below (bs := []) o) (fun _ _ => by simp), k.lo, k.dis⟩
theorem BRep.congr {base n : Nat} {av : List Nat} {S T : Nat → List (Nat × Int)} {bm : Nat} {g : Nat → Option Value} {w : World} (k : BRep base n av S bm g w) (h : ∀ r, r < n → S r = T r) : BRep base n av T bm g w :=
  ⟨k.m, fun i hi => by rw [← h i hi]; exact k.own i hi, k.lo, k.dis⟩
theorem BRep.nil {base n bm : Nat} {av : List Nat} {w : World} (m : MapI w bm fun _ => none) : BRep base n av (fun _ => []) bm (fun _ => none) w :=
  ⟨m, fun i _ => World.ownsRow_nil w 0 111 2, fun i _ q hq => by simp [Value.ownBlock] at hq, fun i j _ _ _ q hq => by simp [Value.ownBlock] at hq⟩
theorem BRep.avoid {base n : Nat} {av aw : List Nat} {S : Nat → List (Nat × Int)} {bm : Nat} {g : Nat → Option Value} {w : World} (k : BRep base n av S bm g w) (h : ∀ i, i < n → ∀ q, ((g i).getD (.slice none 0 0)).ownBlock = some q → q ∉ aw) : BRep base n aw S bm g w :=
  ⟨k.m, k.own, fun i hi q hq => ⟨(k.lo i hi q hq).1, (k.lo i hi q hq).2.1, h i hi q hq⟩, k.dis⟩
theorem BRep.app {base n : Nat} {av : List Nat} {S : Nat → List (Nat × Int)} {bm : Nat} {g : Nat → Option Value} {w w' : World} (k : BRep base n av S bm g w) {i : Nat} (hi : i < n) (s : Nat × Int) (v' : Value) (hbase : base ≤ w.heap.size) (hbm : bm < w.heap.size) (hav : ∀ q ∈ av, q < w.heap.size)
    (h1 : w'.ownsRow 0 111 2 v' ((S i).length + 1) ((S i).flatMap entCells ++ entCells s)) (h2 : ∀ q, v'.ownBlock = some q → ((g i).getD (.slice none 0 0)).ownBlock = some q ∨ w.heap.size ≤ q)
    (h3 : MapI w' bm (fun q => if q = i then some v' else g q)) (h4 : Only (bm :: ((g i).getD (.slice none 0 0)).ownBlock.toList) w w') : BRep base n av (putE S i s) bm (fun q => if q = i then some v' else g q) w' := by
  refine ⟨h3, fun j hj => ?_, fun j hj q hq => ?_, fun a b ha hb hab q hq he => ?_⟩
  · by_cases e : j = i
    · subst e
      simp only [if_true, putE, Option.getD_some]
      rw [List.length_append, List.flatMap_append]
      simpa using h1
    · simp only [if_neg e, putE]
      refine own_kept (k.own j hj) h4 (fun q hq hm => ?_)
      rw [List.mem_cons] at hm
      rcases hm with rfl | hm
      · exact (k.lo j hj _ hq).2.1 rfl
      · exact k.dis j i hj hi e q hq (by simpa using hm)
  · by_cases e : j = i
    · subst e
      simp only [if_true, Option.getD_some] at hq
      rcases h2 q hq with c | c
      · exact k.lo j hj q c
      · exact ⟨by omega, by omega, fun hm => by have := hav q hm; omega⟩
    · simp only [if_neg e] at hq
      exact k.lo j hj q hq
  · by_cases ea : a = i
    · have eb : b ≠ i := fun e => hab (ea.trans e.symm)
      simp only [if_pos ea, Option.getD_some] at hq
      simp only [if_neg eb] at he
      rcases h2 q hq with c | c
      · exact k.dis i b hi hb (fun e => eb e.symm) q c he
      · have := ownRow_lt (k.own b hb) he
        omega
    · simp only [if_neg ea] at hq
      by_cases eb : b = i
      · simp only [if_pos eb, Option.getD_some] at he
        rcases h2 q he with c | c
        · exact k.dis a i ha hi ea q hq c
        · have := ownRow_lt (k.own a ha) hq
          omega
      · simp only [if_neg eb] at he
        exact k.dis a b ha hb hab q hq he
theorem seenOf_len (n : Nat) (D : Nat → Option Int) : (seenOf n D).length ≤ n := by
  unfold seenOf
  have := List.length_filterMap_le (fun r => (D r).map fun d => (r, d)) (List.range n)
  simpa using this
/-- What buckets answers. -/
def BuckNew (h : HierD) (cols : List Int) (w : World) (e : Ending) (w' : World) : Prop :=
  ∃ (bm base : Nat) (E : Nat → Nat → Option Int) (g : Nat → Option Value), e = .returned (.tuple #[.map (some bm), .nilIface]) ∧ (∀ j v, cols[j]? = some v → IsD h.node.length h.dnF h.dn (h.node.idxOf v.toNat) (E j)) ∧
    BRep base h.node.length [] (colTo E cols.length) bm g w' ∧ w.heap.size ≤ bm ∧ bm < base ∧ base ≤ w'.heap.size ∧ Below w.heap.size w w'
theorem cdown_lit (A : HA) (h : HierD) (s : Nat) (w : World) (see : HSee w A h) (hc : checkErr h = .nil) (hs : s < h.node.length) :
    Calls Try.prog 52 #[.agg #[.slice A.a0 h.node.length A.c0, .slice A.a1 h.upF.length A.c1, .slice A.a2 h.up.length A.c2, .slice A.a3 h.dnF.length A.c3, .slice A.a4 h.dn.length A.c4], .int .i64 s] w (ClimbPost h.node.length h.dnF h.dn s w) := cdown_any A h s w see hc hs
set_option linter.unusedSimpArgs false in
set_option maxRecDepth 100000 in
set_option maxHeartbeats 8000000 in
/-- **table.buckets.** -/
theorem buckets_any (A : HA) (h : HierD) (cols : List Int) (ca : Option Addr) (cc rb : Nat) (w : World) (see : HSee w A h) (hc : checkErr h = .nil) (hrk : Cells w rb 3 (rankCells h.node)) (sc : See w ca cc memInt 1 cols) (hl : cols.length ≤ 1048576) (hv : ∀ v ∈ cols, 0 ≤ v ∧ v < h.node.length) :
    Calls Try.prog 34 #[hierVal A h, .slice (some ⟨rb, 0, none⟩) h.node.length h.node.length, .slice ca cols.length cc] w (BuckNew h cols w) := by
  have hp := checkErr_parts hc
  have hn := hp.1.n
  have ORD := Lib.hid (order_nil hp.2.2.2.1)
  have SEE := Lib.hid see
  have HC := Lib.hid hc
  have RK := Lib.hid hrk
  have SC := Lib.hid sc
  have HV := Lib.hid hv
  have lrb := hrk.lt
  have hb0 := ((Below.refl w.heap.size w).alloc (Nat.le_refl _) (.cells (hierCells A h).toArray 25)).alloc (by simp) (.map #[] 0)
  have hx0 := (Cells.new w 25 (hierCells A h)).alloc (.map #[] 0)
  have hm0 : MapI ((w.alloc (.cells (hierCells A h).toArray 25)).alloc (.map #[] 0)) (w.heap.size + 1) (fun _ => none) := by
    have := MapI.made (w.alloc (.cells (hierCells A h).toArray 25))
    simpa using this
  have HB0 := Lib.hid hb0
  have HX0 := Lib.hid hx0
  have HM0 := Lib.hid hm0
  have hmm := fun t w => run_makeMap (P := Try.prog) t w
  clear hp see hc hrk sc hv hb0 hx0 hm0
  unfold hierVal
  go_enter Try.func34, Try.ntmps34
  go_wp2_with fail
  clear hmm
  go_loopg [18] cols.length (fun gg vi wr => ∃ (j : Nat) (E : Nat → Nat → Option Int) (g : Nat → Option Value), vi = .int .i64 (j : Int) ∧ j ≤ cols.length ∧ gg = cols.length - j ∧ (∀ c v, c < j → cols[c]? = some v → IsD h.node.length h.dnF h.dn (h.node.idxOf v.toNat) (E c)) ∧
    BRep (w.heap.size + 2) h.node.length [] (colTo E j) (w.heap.size + 1) g wr ∧ Cells wr w.heap.size 25 (hierCells A h) ∧ Below w.heap.size w wr ∧ w.heap.size + 2 ≤ wr.heap.size)
  case atStart => exact ⟨0, fun _ _ => none, fun _ => none, rfl, Nat.zero_le _, rfl, fun c v hc => absurd hc (by omega), BRep.nil HM0.out, HX0.out, HB0.out, by simp⟩
  case round =>
    obtain ⟨j, E, g, rfl, hj, hgj, hE, hm, hx, hb, hz⟩ := hrel
    obtain ⟨wo, rfl⟩ : ∃ wo : World, wo = wr := ⟨_, rfl⟩
    have HGJ := Lib.hid hgj
    have HE := Lib.hid hE
    have HM := Lib.hid hm
    have HX := Lib.hid hx
    have HB := Lib.hid hb
    have HZ := Lib.hid hz
    clear hgj hE hm hx hb hz HM0 HX0 HB0
    by_cases hjl : j < cols.length
    · obtain ⟨v, hv⟩ : ∃ v, cols[j]? = some v := ⟨_, List.getElem?_eq_getElem hjl⟩
      obtain ⟨hv0, hvn⟩ := HV.out v (List.mem_of_getElem? hv)
      obtain ⟨x, rfl⟩ : ∃ x : Nat, v = x := ⟨v.toNat, by omega⟩
      obtain ⟨b1, o1, ea1, cc1⟩ := (SC.out.below HB.out).cell j _ hv
      have e0 := cc1 0 _ rfl
      rw [Nat.add_zero, Nat.mul_one] at e0
      have EAO := Lib.hid ea1
      have HVJ := Lib.hid hv
      have hxn : x < h.node.length := by omega
      have hix : h.node.idxOf x < h.node.length := List.idxOf_lt_length_of_mem (ORD.out.mem x hxn)
      have k5 : wo.cell? ⟨rb, x, none⟩ = some (.int .i64 (h.node.idxOf x : Int)) := (RK.out.below HB.out lrb).cell (by simp [rankCells, hxn])
      obtain ⟨k0, k1, k2, k3, k4⟩ := hier_five HX.out
      clear cc1 ea1 hv
      rw [EAO.out]
      go_upto_region 5 with fail
      clear e0
      go_region_held3 (fun W => W.cell? ⟨w.heap.size, 0, none⟩ = some (.slice A.a0 h.node.length A.c0) ∧ W.cell? ⟨w.heap.size, 1, none⟩ = some (.slice A.a1 h.upF.length A.c1) ∧ W.cell? ⟨w.heap.size, 2, none⟩ = some (.slice A.a2 h.up.length A.c2) ∧ W.cell? ⟨w.heap.size, 3, none⟩ = some (.slice A.a3 h.dnF.length A.c3) ∧ W.cell? ⟨w.heap.size, 4, none⟩ = some (.slice A.a4 h.dn.length A.c4) ∧ W.cell? ⟨rb, x, none⟩ = some (.int .i64 (h.node.idxOf x : Int))) (go_keep)
        (first | (go_at_call 52; refine (cdown_lit A h (h.node.idxOf x) _ ((SEE.out.below HB.out).below (Below.refl _ _).drew) HC.out hix).mono ?_; rintro e w2 ⟨ao, cap, L, D, rfl, hown, hnew, hd, hm, hb2⟩; (have j0 := ck hb2 k0); (have j1 := ck hb2 k1); (have j2 := ck hb2 k2); (have j3 := ck hb2 k3); (have j4 := ck hb2 k4); (have j5 := ck hb2 k5)))
      have hB2 : Below wo.heap.size wo w2 := (Below.refl wo.heap.size wo).drew.trans hb2
      have HEJ := Lib.hid (show ∀ c v, c < j + 1 → cols[c]? = some v → IsD h.node.length h.dnF h.dn (h.node.idxOf v.toNat) ((fun c => if c = j then D else E c) c) from fun c v hc he => by
        by_cases e : c = j
        · subst e
          rw [HVJ.out] at he
          simp only [Option.some.injEq] at he
          subst he
          simp only [if_true, Int.toNat_natCast]
          exact hd
        · simp only [if_neg e]
          exact HE.out c v (by omega) he)
      obtain ⟨F, hF⟩ : ∃ F : Nat → Nat → Option Int, (fun c => if c = j then D else E c) = F := ⟨_, rfl⟩
      have hFj : F j = D := by rw [← hF]; simp
      have hFc : ∀ c, c < j → F c = E c := fun c hc => by rw [← hF]; simp only [if_neg (show ¬ c = j by omega)]
      rw [hF] at HEJ
      have HM2 := Lib.hid (show BRep (w.heap.size + 2) h.node.length (Value.slice ao L.length cap).ownBlock.toList (bukTo F j 0) (w.heap.size + 1) g w2 from
        ((HM.out.below hB2).avoid (fun i hi q hq hm => by
          have h1 := ownRow_lt (HM.out.own i hi) hq
          have h2 : wo.heap.size ≤ q := hnew q (by simpa using hm)
          omega)).congr (fun r _ => by rw [buk_start]; exact colTo_congr (fun c hc => by rw [hFc c hc])))
      have HX2 := Lib.hid (HX.out.below hB2 HX.out.lt)
      have HB2 := Lib.hid (HB.out.trans (hB2.mono HB.out.size))
      have HZ2 := Lib.hid (show w.heap.size + 2 ≤ w2.heap.size from Nat.le_trans HZ.out hB2.size)
      have HOWN := Lib.hid hown
      have HNEW := Lib.hid (show ∀ q, (Value.slice ao L.length cap).ownBlock = some q → w.heap.size + 2 ≤ q from fun q hq => by
        have h2 : wo.heap.size ≤ q := hnew q hq
        have := HZ.out
        omega)
      have hLn : L.length ≤ h.node.length := by
        have := congrArg List.length hm
        rw [List.length_map] at this
        rw [this]
        exact seenOf_len _ _
      have HLM := Lib.hid (show SeenAt h.node.length (F j) (L.map fun x => (x.rank, x.dist)) 0 0 from by rw [hm, hFj]; exact SeenAt.start _ _)
      clear hB2 hown hnew hd hm hb2 j0 j1 j2 j3 j4 j5 k0 k1 k2 k3 k4 k5 HM HX HB HZ hF hFj hFc
      go_wp2_with fail
      go_loopg [37] L.length (fun gg vi wr => ∃ (i m : Nat) (g2 : Nat → Option Value), vi = .int .i64 (i : Int) ∧ i ≤ L.length ∧ gg = L.length - i ∧ SeenAt h.node.length (F j) (L.map fun x => (x.rank, x.dist)) i m ∧ BRep (w.heap.size + 2) h.node.length (Value.slice ao L.length cap).ownBlock.toList (bukTo F j m) (w.heap.size + 1) g2 wr ∧
        wr.ownsRow 0 106 3 (.slice ao L.length cap) L.length (L.flatMap seenCells) ∧ Cells wr w.heap.size 25 (hierCells A h) ∧ Below w.heap.size w wr ∧ w2.heap.size ≤ wr.heap.size)
      case atStart => exact ⟨0, 0, g, rfl, Nat.zero_le _, rfl, HLM.out, HM2.out, HOWN.out, HX2.out, HB2.out, Nat.le_refl _⟩
      case round =>
        obtain ⟨i, m, g2, rfl, hi, hgi, hsa, hm, ho, hx, hb, hz⟩ := hrel
        obtain ⟨wp, rfl⟩ : ∃ wp : World, wp = wr := ⟨_, rfl⟩
        have HGI := Lib.hid hgi
        have HSA := Lib.hid hsa
        have HM := Lib.hid hm
        have HOW := Lib.hid ho
        have HX := Lib.hid hx
        have HB := Lib.hid hb
        have HZ := Lib.hid (Nat.le_trans HZ2.out hz)
        have HZW := Lib.hid hz
        clear hgi hsa hm ho hx hb hz HLM HM2 HX2 HB2 HOWN
        by_cases hil : i < L.length
        · obtain ⟨y, hy⟩ : ∃ y, L[i]? = some y := ⟨_, List.getElem?_eq_getElem hil⟩
          have hlz : L.length ≤ L.length := Nat.le_refl _
          obtain ⟨b2, o2, ea2, cc2⟩ := (See.of_own seenCells_len HOW.out (by omega)).1.cell i y hy
          have e0 := cc2 0 _ rfl
          have e1 := cc2 1 _ rfl
          have e2 := cc2 2 _ rfl
          rw [Nat.add_zero] at e0
          have hcons := HSA.out.cons (show (L.map fun x => (x.rank, x.dist))[i]? = some (y.rank, y.dist) by rw [List.getElem?_map, hy]; rfl)
          obtain ⟨hrn, hDr, hrest, hput⟩ := buk_step hcons
          have HPUT := Lib.hid hput
          have HREST := Lib.hid (show SeenAt h.node.length (F j) (L.map fun x => (x.rank, x.dist)) (i + 1) (y.rank + 1) from ⟨by omega, hrest⟩)
          have EA := Lib.hid ea2
          obtain ⟨wq, hwq⟩ : ∃ wq, wp.alloc (.cells (seenCells y).toArray 106) = wq := ⟨_, rfl⟩
          have hbx := Cells.new wp 106 (seenCells y)
          have hoo := (Below.refl wp.heap.size wp).alloc (Nat.le_refl _) (.cells (seenCells y).toArray 106)
          have hsz : wq.heap.size = wp.heap.size + 1 := by rw [← hwq]; simp
          rw [hwq] at hbx hoo
          have HLT := Lib.hid (fun i (hi : i < h.node.length) q (hq : ((g2 i).getD (.slice none 0 0)).ownBlock = some q) => ownRow_lt (HM.out.own i hi) hq)
          have HM3 := Lib.hid (HM.out.below hoo)
          have HOW3 := Lib.hid (own_kept (bs := []) HOW.out (Only.of_below hoo) (fun _ _ => by simp))
          have HX3 := Lib.hid (HX.out.below hoo HX.out.lt)
          have HB3 := Lib.hid (HB.out.trans (hoo.mono HB.out.size))
          have v0 : wq.cell? ⟨wp.heap.size, 0, none⟩ = some (.int .i64 (y.rank : Nat)) := hbx.cell rfl
          have v1 : wq.cell? ⟨wp.heap.size, 1, none⟩ = some (.int .u64 y.dist) := hbx.cell rfl
          have HWQ := Lib.hid hwq
          have HSZ := Lib.hid hsz
          have HLW := Lib.hid (fun q (hq : (Value.slice ao L.length cap).ownBlock = some q) => ownRow_lt HOW.out hq)
          clear cc2 ea2 hy hcons hDr hrest hput hwq hbx hoo hsz HM HOW HX HB
          rw [EA.out]
          go_upto_region 11 with fail
          rw [show wp.alloc (.cells #[.int .i64 y.rank, .int .u64 y.dist, .bool y.st] 106) = wq from HWQ.out]
          clear e0 e1 e2
          change Code.wp _ ((regionAt 11 bucksBody).getD .skip) _ _ _
          have hL := HM3.out.own y.rank hrn
          have hne := HM3.out.lo y.rank hrn
          have hlt0 := HLT.out y.rank hrn
          obtain ⟨ao5, cap5, hvs⟩ := own_form' hL
          rw [hvs] at hL hne hlt0
          have hm5 : (bukTo F j m y.rank).length ≤ 1048576 := by
            unfold bukTo
            split
            · have := colTo_len F (j + 1) y.rank; omega
            · have := colTo_len F j y.rank; omega
          refine buck_app (r := y.rank) (j := j) (dd := y.dist) _ (fun _ _ t _ _ hq => by cases t <;> exact hq) v0 v1 (by omega) HM3.out.m hvs hL (fun q hq => ⟨by have := hlt0 q hq; omega, (hne q hq).2.1⟩) (by have := HZ.out; omega) hm5 ?_
          intro t41 t42 t43 t44 t45 t46 t47 t48 t49 t50 t51 t52 t53 ao6 cap6 w6 hown6 hblk6 hmap6 honly6
          rw [← hvs] at hblk6 honly6
          have hnew := HM3.out.app hrn (j, y.dist) _ (by have := HZ.out; have := HSZ.out; omega) (by have := HZ.out; have := HSZ.out; omega) (fun q hq => by have := HLW.out q (by simpa using hq); have := HSZ.out; omega) hown6 hblk6 hmap6 honly6
          have hlo := HM3.out.lo y.rank hrn
          have hnm : ∀ b, b < w.heap.size + 1 → b ∉ ((w.heap.size + 1) :: ((g2 y.rank).getD (.slice none 0 0)).ownBlock.toList) := fun b hb hm2 => by
            rw [List.mem_cons] at hm2
            rcases hm2 with h1 | h1
            · omega
            · have := (hlo b (by simpa using h1)).1; omega
          have HN6 := Lib.hid (hnew.congr (T := bukTo F j (y.rank + 1)) (fun r _ => HPUT.out r))
          have HX6 := Lib.hid (HX3.out.kept honly6 (hnm _ (by omega)))
          have HOW6 := Lib.hid (own_kept HOW3.out honly6 (fun q hq hm2 => by
            rw [List.mem_cons] at hm2
            rcases hm2 with h1 | h1
            · have := HNEW.out q hq; omega
            · exact (hlo q (by simpa using h1)).2.2 (by simpa using hq)))
          have HB6 := Lib.hid (HB3.out.trans (honly6.below HB3.out.size (fun q hq => by
            rcases Nat.lt_or_ge q w.heap.size with h1 | h1
            · exact absurd hq (hnm q (by omega))
            · exact h1)))
          have HS6 := Lib.hid (show w2.heap.size ≤ w6.heap.size from by have := honly6.size; have := HSZ.out; have := HZW.out; omega)
          clear hown6 hblk6 hmap6 honly6 hnew hlo hnm hL hne hlt0 hvs hm5 v0 v1
          go_wp2_with fail
          rw [← EA.out]
          go_roundg (L.length - (i + 1))
          case measure => rw [HGI.out]; omega
          case rel => exact ⟨i + 1, y.rank + 1, _, by go_num, by omega, rfl, HREST.out, HN6.out, HOW6.out, HX6.out, HB6.out, HS6.out⟩
        · obtain rfl : i = L.length := by omega
          have hend := HSA.out.done (by simp)
          have HN := Lib.hid (show BRep (w.heap.size + 2) h.node.length [] (colTo F (j + 1)) (w.heap.size + 1) g2 wp from (HM.out.avoid (fun _ _ _ _ => by simp)).congr (fun r hr => buk_end hend hr))
          clear hend
          go_wp2_with fail
          rw [← EAO.out]
          go_roundg (cols.length - (j + 1))
          case measure => rw [HGJ.out]; omega
          case rel => exact ⟨j + 1, F, g2, by go_num, by omega, rfl, HEJ.out, HN.out, HX.out, HB.out, HZ.out⟩
    · obtain rfl : j = cols.length := by omega
      go_wp2
      go_returns
      exact ⟨w.heap.size + 1, w.heap.size + 2, E, g, rfl, fun c v hv => HE.out c v (List.getElem?_eq_some_iff.1 hv).1 hv, HM.out, by omega, by omega, HZ.out, HB.out⟩
end Go.Proofs.Ytjbphoophgbmiaa
