/- table's check; fault.First. -/
import Derived.Test.YtjbphoophgbmiaaDoorM6
import Derived.Test.YtjbphoophgbmiaaDoorM5
import Derived.Test.YtjbphoophgbmiaaDoorT1
import Derived.Deep.RegionHeld3
import Derived.Test.YtjbphoophgbmiaaDoorMS
import Derived.Test.YtjbphoophgbmiaaDoorM11
import Derived.StillTailTactics
import Derived.Lib.MinMax
namespace Go.Proofs.YtjbphoophgbmiaaDoor
open Go.ChangeShapes Go.WideShapes Go.ChangeAt Go.RowKit Go.Joins Go.Deep

/-- The error of a list of nodes, their places counted from a number on. -/
def listErr (n : Nat) : List Int → Nat → EV
  | [], _ => .nil
  | v :: l, k => if v < 0 ∨ (n : Int) ≤ v then .at 3 (k : Int) 7 else listErr n l (k + 1)
theorem listErr_cons_bad {n : Nat} {v : Int} {l : List Int} {k : Nat} (h : v < 0 ∨ (n : Int) ≤ v) : listErr n (v :: l) k = .at 3 (k : Int) 7 := by unfold listErr; rw [if_pos h]
theorem listErr_cons_ok {n : Nat} {v : Int} {l : List Int} {k : Nat} (h : ¬ (v < 0 ∨ (n : Int) ≤ v)) : listErr n (v :: l) k = listErr n l (k + 1) := by conv => lhs; unfold listErr; rw [if_neg h]
theorem listErr_drop {n : Nat} {l : List Int} {k i : Nat} {v : Int} (hv : l[i]? = some v) (h : ¬ (v < 0 ∨ (n : Int) ≤ v)) : listErr n (l.drop i) (k + i) = listErr n (l.drop (i + 1)) (k + (i + 1)) := by
  obtain ⟨hl, e⟩ := List.getElem?_eq_some_iff.1 hv
  rw [List.drop_eq_getElem_cons hl, e, listErr_cons_ok h, Nat.add_assoc]
theorem listErr_stop {n : Nat} {l : List Int} {k i : Nat} {v : Int} (hv : l[i]? = some v) (h : v < 0 ∨ (n : Int) ≤ v) : listErr n (l.drop i) (k + i) = .at 3 ((k + i : Nat) : Int) 7 := by
  obtain ⟨hl, e⟩ := List.getElem?_eq_some_iff.1 hv
  rw [List.drop_eq_getElem_cons hl, e, listErr_cons_bad h]
theorem listErr_nil {n : Nat} : ∀ {l : List Int} {k : Nat}, listErr n l k = .nil → ∀ v ∈ l, 0 ≤ v ∧ v < n := by
  intro l
  induction l with
  | nil => intro k _ v hv; cases hv
  | cons x l ih =>
    intro k h v hv
    by_cases hx : x < 0 ∨ (n : Int) ≤ x
    · rw [listErr_cons_bad hx] at h; cases h
    · rw [listErr_cons_ok hx] at h
      rcases List.mem_cons.1 hv with rfl | hv
      · omega
      · exact ih h v hv
theorem listErr_pos {n : Nat} {l : List Int} {k : Nat} : listErr n l k = .nil ∨ ∃ i : Nat, listErr n l k = .at 3 (i : Int) 7 ∧ i < k + l.length := by
  induction l generalizing k with
  | nil => exact .inl rfl
  | cons x l ih =>
    by_cases hx : x < 0 ∨ (n : Int) ≤ x
    · rw [listErr_cons_bad hx]; exact .inr ⟨k, rfl, by simp⟩
    · rw [listErr_cons_ok hx]
      rcases ih (k := k + 1) with h | ⟨i, h, hi⟩
      · exact .inl h
      · exact .inr ⟨i, h, by simp only [List.length_cons]; omega⟩

set_option maxRecDepth 100000 in
set_option maxHeartbeats 4000000 in
/-- **table's check.** -/
theorem tcheck_any (l : List Int) (la : Option Addr) (lc n k : Nat) (w : World) (sl : See w la lc memInt 1 l) (hk : k ≤ 140737488355328) (hl : l.length ≤ 140737488355328) (hx : ∀ x ∈ l, x ≤ 9223372036854775807) :
    Calls Tryd.prog 68 #[.slice la l.length lc, .int .i64 (n : Int), .int .i64 (k : Int)] w (ErrPost (listErr n l k) w) := by
  have SL := Lib.hid sl
  have HX := Lib.hid hx
  clear sl hx
  go_enter Tryd.func68, Tryd.ntmps68
  go_wp2_with fail
  go_loopg [11] l.length (fun g vi wr => ∃ i : Nat, vi = .int .i64 (i : Int) ∧ i ≤ l.length ∧ g = l.length - i ∧ listErr n l k = listErr n (l.drop i) (k + i) ∧ wr = w)
  case atStart => exact ⟨0, rfl, Nat.zero_le _, rfl, rfl, rfl⟩
  case round =>
    obtain ⟨i, rfl, hi, hg, he, rfl⟩ := hrel
    have HG := Lib.hid hg
    have HE := Lib.hid he
    clear hg he
    by_cases hil : i < l.length
    · obtain ⟨v, hv⟩ : ∃ v, l[i]? = some v := ⟨_, List.getElem?_eq_getElem hil⟩
      obtain ⟨b, o, ea, cc⟩ := SL.out.cell i v hv
      have e0 := cc 0 _ rfl
      rw [Nat.add_zero, Nat.mul_one] at e0
      have EA := Lib.hid ea
      have HV := Lib.hid hv
      have hv64 := HX.out v (List.mem_of_getElem? hv)
      clear cc ea hv
      rw [EA.out]
      by_cases hb : v < 0 ∨ (n : Int) ≤ v
      · have hs := listErr_stop (k := k) HV.out hb
        have HS := Lib.hid (HE.out.trans hs)
        have hadd : IntKind.i64.wrap ((k : Int) + (i : Int)) = ((k + i : Nat) : Int) := by rw [IntWalk.i64_in _ (by omega)]; omega
        clear hs
        by_cases h0 : v < 0
        · have t1 : decide (v < 0) = true := by simpa using h0
          go_wp2_with fail
          have ha := at_any 3 ((k + i : Nat) : Int) 7 wr
          unfold errV at ha
          rw [Int.natCast_add] at ha
          refine ha.mono ?_
          rintro e w1 ⟨u, rfl, hu, hbl⟩
          have HU := Lib.hid hu
          have HB := Lib.hid hbl
          clear hu hbl
          go_wp2
          go_returns
          exact ⟨u, rfl, by rw [HS.out, Int.natCast_add]; exact HU.out, HB.out⟩
        · have t1 : decide (v < 0) = false := by simpa using h0
          have t2 : decide ((n : Int) ≤ v) = true := by simp only [decide_eq_true_eq]; omega
          clear hb
          go_wp2_with fail
          have ha := at_any 3 ((k + i : Nat) : Int) 7 wr
          unfold errV at ha
          rw [Int.natCast_add] at ha
          refine ha.mono ?_
          rintro e w1 ⟨u, rfl, hu, hbl⟩
          have HU := Lib.hid hu
          have HB := Lib.hid hbl
          clear hu hbl
          go_wp2
          go_returns
          exact ⟨u, rfl, by rw [HS.out, Int.natCast_add]; exact HU.out, HB.out⟩
      · have t1 : decide (v < 0) = false := by simp only [decide_eq_false_iff_not]; omega
        have t2 : decide ((n : Int) ≤ v) = false := by simp only [decide_eq_false_iff_not]; omega
        have HN := Lib.hid (HE.out.trans (listErr_drop HV.out hb))
        clear hb
        go_wp2_with fail
        rw [← EA.out]
        go_roundg (l.length - (i + 1))
        case measure => rw [HG.out]; omega
        case rel => exact ⟨i + 1, by go_num, by omega, rfl, HN.out, rfl⟩
    · obtain rfl : i = l.length := by omega
      go_wp2
      go_returns
      exact ⟨.nilIface, rfl, by rw [HE.out, List.drop_length]; rfl, Below.refl _ _⟩
/-- Of two errors the first that is one. -/
def firstOf (x y : EV) : EV := if x = .nil then y else x
def FirstIs (x y : EV) (w : World) (e : Ending) (w' : World) : Prop := ∃ z, e = .returned z ∧ ErrIs w' z (firstOf x y) ∧ w' = w
set_option maxRecDepth 100000 in
set_option maxHeartbeats 4000000 in
/-- **fault.First**, of two. -/
theorem first_any (v u : Value) (x y : EV) (b cap : Nat) (w : World) (hv : ErrIs w v x) (hu : ErrIs w u y) (c0 : w.cell? ⟨b, 0, none⟩ = some v) (c1 : w.cell? ⟨b, 1, none⟩ = some u) :
    Calls Tryd.prog 67 #[.slice (some ⟨b, 0, none⟩) 2 cap] w (FirstIs x y w) := by
  have HV := Lib.hid hv
  have HU := Lib.hid hu
  clear hv hu
  by_cases hx : x = .nil
  · have hv2 := HV.out.nilv hx
    subst hv2
    have HX := Lib.hid hx
    clear hx
    by_cases hy : y = .nil
    · have hu2 := HU.out.nilv hy
      subst hu2
      have HF := Lib.hid (show firstOf x y = .nil by unfold firstOf; rw [if_pos HX.out, hy])
      clear hy
      go_enter Tryd.func67, Tryd.ntmps67
      go_wp2_with fail
      refine wp_loop_rounds 3 ?_
      rw [rounds_succ]
      go_wp2_with fail
      rw [rounds_succ]
      go_wp2_with fail
      rw [rounds_succ]
      go_wp2
      go_returns
      exact ⟨.nilIface, rfl, by rw [HF.out]; rfl, rfl⟩
    · obtain ⟨t1, v1, rfl⟩ := HU.out.iface hy
      have HF := Lib.hid (show firstOf x y = y by unfold firstOf; rw [if_pos HX.out])
      clear hy
      go_enter Tryd.func67, Tryd.ntmps67
      go_wp2_with fail
      refine wp_loop_rounds 2 ?_
      rw [rounds_succ]
      go_wp2_with fail
      rw [rounds_succ]
      go_wp2
      go_returns
      exact ⟨_, rfl, by rw [HF.out]; exact HU.out, rfl⟩
  · obtain ⟨t1, v1, rfl⟩ := HV.out.iface hx
    have HF := Lib.hid (show firstOf x y = x by unfold firstOf; rw [if_neg hx])
    clear hx
    go_enter Tryd.func67, Tryd.ntmps67
    go_wp2_with fail
    refine wp_loop_rounds 1 ?_
    rw [rounds_succ]
    go_wp2
    go_returns
    exact ⟨_, rfl, by rw [HF.out]; exact HV.out, rfl⟩
end Go.Proofs.YtjbphoophgbmiaaDoor

/- table.buckets. -/
namespace Go.Proofs.YtjbphoophgbmiaaDoor
open Go.ChangeShapes Go.WideShapes Go.ChangeAt Go.RowKit Go.Joins Go.Deep

theorem ownRow_lt {w : World} {base size n : Nat} {e : TypeId} {v : Value} {xs : List Value} (h : w.ownsRow base e size v n xs) {q : Nat} (hq : v.ownBlock = some q) : q < w.heap.size := (h.lt q hq).2
/-- Buckets as they lie in memory: a map of lists, each in memory of its own. -/
structure BRep (base n : Nat) (av : List Nat) (S : Nat → List (Nat × Int)) (bm : Nat) (g : Nat → Option Value) (w : World) : Prop where
  m : MapI w bm g
  own : ∀ i, i < n → w.ownsRow 0 161 2 ((g i).getD (.slice none 0 0)) (S i).length ((S i).flatMap entCells)
  lo : ∀ i, i < n → ∀ q, ((g i).getD (.slice none 0 0)).ownBlock = some q → base ≤ q ∧ q ≠ bm ∧ q ∉ av
  dis : ∀ i j, i < n → j < n → i ≠ j → ∀ q, ((g i).getD (.slice none 0 0)).ownBlock = some q → ((g j).getD (.slice none 0 0)).ownBlock ≠ some q
theorem BRep.below {base n : Nat} {av : List Nat} {S : Nat → List (Nat × Int)} {bm : Nat} {g : Nat → Option Value} {w w' : World} (k : BRep base n av S bm g w) (o : Below w.heap.size w w') : BRep base n av S bm g w' :=
  ⟨k.m.below o, fun i hi => own_kept (k.own i hi) (Only.of_below (bs := []) o) (fun _ _ => by simp), k.lo, k.dis⟩
theorem BRep.congr {base n : Nat} {av : List Nat} {S T : Nat → List (Nat × Int)} {bm : Nat} {g : Nat → Option Value} {w : World} (k : BRep base n av S bm g w) (h : ∀ r, r < n → S r = T r) : BRep base n av T bm g w :=
  ⟨k.m, fun i hi => by rw [← h i hi]; exact k.own i hi, k.lo, k.dis⟩
theorem BRep.nil {base n bm : Nat} {av : List Nat} {w : World} (m : MapI w bm fun _ => none) : BRep base n av (fun _ => []) bm (fun _ => none) w :=
  ⟨m, fun i _ => World.ownsRow_nil w 0 161 2, fun i _ q hq => by simp [Value.ownBlock] at hq, fun i j _ _ _ q hq => by simp [Value.ownBlock] at hq⟩
theorem BRep.avoid {base n : Nat} {av aw : List Nat} {S : Nat → List (Nat × Int)} {bm : Nat} {g : Nat → Option Value} {w : World} (k : BRep base n av S bm g w) (h : ∀ i, i < n → ∀ q, ((g i).getD (.slice none 0 0)).ownBlock = some q → q ∉ aw) : BRep base n aw S bm g w :=
  ⟨k.m, k.own, fun i hi q hq => ⟨(k.lo i hi q hq).1, (k.lo i hi q hq).2.1, h i hi q hq⟩, k.dis⟩
theorem BRep.app {base n : Nat} {av : List Nat} {S : Nat → List (Nat × Int)} {bm : Nat} {g : Nat → Option Value} {w w' : World} (k : BRep base n av S bm g w) {i : Nat} (hi : i < n) (s : Nat × Int) (v' : Value) (hbase : base ≤ w.heap.size) (hbm : bm < w.heap.size) (hav : ∀ q ∈ av, q < w.heap.size)
    (h1 : w'.ownsRow 0 161 2 v' ((S i).length + 1) ((S i).flatMap entCells ++ entCells s)) (h2 : ∀ q, v'.ownBlock = some q → ((g i).getD (.slice none 0 0)).ownBlock = some q ∨ w.heap.size ≤ q)
    (h3 : MapI w' bm (fun q => if q = i then some v' else g q)) (h4 : Only (bm :: ((g i).getD (.slice none 0 0)).ownBlock.toList) w w') : BRep base n av (putE S i s) bm (fun q => if q = i then some v' else g q) w' := by
  refine ⟨h3, fun j hj => ?_, fun j hj q hq => ?_, fun a b ha hb hab q hq he => ?_⟩
  · by_cases e : j = i
    · subst e
      simp only [if_true, putE, Option.getD_some]
      rw [List.length_append, List.flatMap_append]
      simpa using h1
    · simp only [if_neg e, putE]
      refine own_kept (k.own j hj) h4 (fun q hq hm => ?_)
      rw [List.mem_cons] at hm
      rcases hm with rfl | hm
      · exact (k.lo j hj _ hq).2.1 rfl
      · exact k.dis j i hj hi e q hq (by simpa using hm)
  · by_cases e : j = i
    · subst e
      simp only [if_true, Option.getD_some] at hq
      rcases h2 q hq with c | c
      · exact k.lo j hj q c
      · exact ⟨by omega, by omega, fun hm => by have := hav q hm; omega⟩
    · simp only [if_neg e] at hq
      exact k.lo j hj q hq
  · by_cases ea : a = i
    · have eb : b ≠ i := fun e => hab (ea.trans e.symm)
      simp only [if_pos ea, Option.getD_some] at hq
      simp only [if_neg eb] at he
      rcases h2 q hq with c | c
      · exact k.dis i b hi hb (fun e => eb e.symm) q c he
      · have := ownRow_lt (k.own b hb) he
        omega
    · simp only [if_neg ea] at hq
      by_cases eb : b = i
      · simp only [if_pos eb, Option.getD_some] at he
        rcases h2 q he with c | c
        · exact k.dis a i ha hi ea q hq c
        · have := ownRow_lt (k.own a ha) hq
          omega
      · simp only [if_neg eb] at he
        exact k.dis a b ha hb hab q hq he
theorem seenOf_len (n : Nat) (D : Nat → Option Int) : (seenOf n D).length ≤ n := by
  unfold seenOf
  have := List.length_filterMap_le (fun r => (D r).map fun d => (r, d)) (List.range n)
  simpa using this
/-- What buckets answers. -/
def BuckNew (h : HierD) (cols : List Int) (w : World) (e : Ending) (w' : World) : Prop :=
  ∃ (bm base : Nat) (E : Nat → Nat → Option Int) (g : Nat → Option Value), e = .returned (.tuple #[.map (some bm), .nilIface]) ∧ (∀ j v, cols[j]? = some v → IsD h.node.length h.dnF h.dn (h.node.idxOf v.toNat) (E j)) ∧
    BRep base h.node.length [] (colTo E cols.length) bm g w' ∧ w.heap.size ≤ bm ∧ bm < base ∧ base ≤ w'.heap.size ∧ Below w.heap.size w w'
theorem cdown_lit (A : HA) (h : HierD) (s : Nat) (w : World) (see : HSee w A h) (hc : checkErr h = .nil) (hs : s < h.node.length) :
    Calls Tryd.prog 89 #[.agg #[.slice A.a0 h.node.length A.c0, .slice A.a1 h.upF.length A.c1, .slice A.a2 h.up.length A.c2, .slice A.a3 h.dnF.length A.c3, .slice A.a4 h.dn.length A.c4], .int .i64 s] w (ClimbPost h.node.length h.dnF h.dn s w) := cdown_any A h s w see hc hs
set_option linter.unusedSimpArgs false in
set_option maxRecDepth 100000 in
set_option maxHeartbeats 8000000 in
/-- **table.buckets.** -/
theorem buckets_any (A : HA) (h : HierD) (cols : List Int) (ca : Option Addr) (cc rb : Nat) (w : World) (see : HSee w A h) (hc : checkErr h = .nil) (hrk : Cells w rb 3 (rankCells h.node)) (sc : See w ca cc memInt 1 cols) (hl : cols.length ≤ 1048576) (hv : ∀ v ∈ cols, 0 ≤ v ∧ v < h.node.length) :
    Calls Tryd.prog 69 #[hierVal A h, .slice (some ⟨rb, 0, none⟩) h.node.length h.node.length, .slice ca cols.length cc] w (BuckNew h cols w) := by
  have hp := checkErr_parts hc
  have hn := hp.1.n
  have ORD := Lib.hid (order_nil hp.2.2.2.1)
  have SEE := Lib.hid see
  have HC := Lib.hid hc
  have RK := Lib.hid hrk
  have SC := Lib.hid sc
  have HV := Lib.hid hv
  have lrb := hrk.lt
  have hb0 := ((Below.refl w.heap.size w).alloc (Nat.le_refl _) (.cells (hierCells A h).toArray 25)).alloc (by simp) (.map #[] 0)
  have hx0 := (Cells.new w 25 (hierCells A h)).alloc (.map #[] 0)
  have hm0 : MapI ((w.alloc (.cells (hierCells A h).toArray 25)).alloc (.map #[] 0)) (w.heap.size + 1) (fun _ => none) := by
    have := MapI.made (w.alloc (.cells (hierCells A h).toArray 25))
    simpa using this
  have HB0 := Lib.hid hb0
  have HX0 := Lib.hid hx0
  have HM0 := Lib.hid hm0
  have hmm := fun t w => run_makeMap (P := Tryd.prog) t w
  clear hp see hc hrk sc hv hb0 hx0 hm0
  unfold hierVal
  go_enter Tryd.func69, Tryd.ntmps69
  go_wp2_with fail
  clear hmm
  go_loopg [18] cols.length (fun gg vi wr => ∃ (j : Nat) (E : Nat → Nat → Option Int) (g : Nat → Option Value), vi = .int .i64 (j : Int) ∧ j ≤ cols.length ∧ gg = cols.length - j ∧ (∀ c v, c < j → cols[c]? = some v → IsD h.node.length h.dnF h.dn (h.node.idxOf v.toNat) (E c)) ∧
    BRep (w.heap.size + 2) h.node.length [] (colTo E j) (w.heap.size + 1) g wr ∧ Cells wr w.heap.size 25 (hierCells A h) ∧ Below w.heap.size w wr ∧ w.heap.size + 2 ≤ wr.heap.size)
  case atStart => exact ⟨0, fun _ _ => none, fun _ => none, rfl, Nat.zero_le _, rfl, fun c v hc => absurd hc (by omega), BRep.nil HM0.out, HX0.out, HB0.out, by simp⟩
  case round =>
    obtain ⟨j, E, g, rfl, hj, hgj, hE, hm, hx, hb, hz⟩ := hrel
    obtain ⟨wo, rfl⟩ : ∃ wo : World, wo = wr := ⟨_, rfl⟩
    have HGJ := Lib.hid hgj
    have HE := Lib.hid hE
    have HM := Lib.hid hm
    have HX := Lib.hid hx
    have HB := Lib.hid hb
    have HZ := Lib.hid hz
    clear hgj hE hm hx hb hz HM0 HX0 HB0
    by_cases hjl : j < cols.length
    · obtain ⟨v, hv⟩ : ∃ v, cols[j]? = some v := ⟨_, List.getElem?_eq_getElem hjl⟩
      obtain ⟨hv0, hvn⟩ := HV.out v (List.mem_of_getElem? hv)
      obtain ⟨x, rfl⟩ : ∃ x : Nat, v = x := ⟨v.toNat, by omega⟩
      obtain ⟨b1, o1, ea1, cc1⟩ := (SC.out.below HB.out).cell j _ hv
      have e0 := cc1 0 _ rfl
      rw [Nat.add_zero, Nat.mul_one] at e0
      have EAO := Lib.hid ea1
      have HVJ := Lib.hid hv
      have hxn : x < h.node.length := by omega
      have hix : h.node.idxOf x < h.node.length := List.idxOf_lt_length_of_mem (ORD.out.mem x hxn)
      have k5 : wo.cell? ⟨rb, x, none⟩ = some (.int .i64 (h.node.idxOf x : Int)) := (RK.out.below HB.out lrb).cell (by simp [rankCells, hxn])
      obtain ⟨k0, k1, k2, k3, k4⟩ := hier_five HX.out
      clear cc1 ea1 hv
      rw [EAO.out]
      go_upto_region 5 with fail
      clear e0
      go_region_held3 (fun W => W.cell? ⟨w.heap.size, 0, none⟩ = some (.slice A.a0 h.node.length A.c0) ∧ W.cell? ⟨w.heap.size, 1, none⟩ = some (.slice A.a1 h.upF.length A.c1) ∧ W.cell? ⟨w.heap.size, 2, none⟩ = some (.slice A.a2 h.up.length A.c2) ∧ W.cell? ⟨w.heap.size, 3, none⟩ = some (.slice A.a3 h.dnF.length A.c3) ∧ W.cell? ⟨w.heap.size, 4, none⟩ = some (.slice A.a4 h.dn.length A.c4) ∧ W.cell? ⟨rb, x, none⟩ = some (.int .i64 (h.node.idxOf x : Int))) (go_keep)
        (first | (go_at_call 89; refine (cdown_lit A h (h.node.idxOf x) _ ((SEE.out.below HB.out).below (Below.refl _ _).drew) HC.out hix).mono ?_; rintro e w2 ⟨ao, cap, L, D, rfl, hown, hnew, hd, hm, hb2⟩; (have j0 := ck hb2 k0); (have j1 := ck hb2 k1); (have j2 := ck hb2 k2); (have j3 := ck hb2 k3); (have j4 := ck hb2 k4); (have j5 := ck hb2 k5)))
      have hB2 : Below wo.heap.size wo w2 := (Below.refl wo.heap.size wo).drew.trans hb2
      have HEJ := Lib.hid (show ∀ c v, c < j + 1 → cols[c]? = some v → IsD h.node.length h.dnF h.dn (h.node.idxOf v.toNat) ((fun c => if c = j then D else E c) c) from fun c v hc he => by
        by_cases e : c = j
        · subst e
          rw [HVJ.out] at he
          simp only [Option.some.injEq] at he
          subst he
          simp only [if_true, Int.toNat_natCast]
          exact hd
        · simp only [if_neg e]
          exact HE.out c v (by omega) he)
      obtain ⟨F, hF⟩ : ∃ F : Nat → Nat → Option Int, (fun c => if c = j then D else E c) = F := ⟨_, rfl⟩
      have hFj : F j = D := by rw [← hF]; simp
      have hFc : ∀ c, c < j → F c = E c := fun c hc => by rw [← hF]; simp only [if_neg (show ¬ c = j by omega)]
      rw [hF] at HEJ
      have HM2 := Lib.hid (show BRep (w.heap.size + 2) h.node.length (Value.slice ao L.length cap).ownBlock.toList (bukTo F j 0) (w.heap.size + 1) g w2 from
        ((HM.out.below hB2).avoid (fun i hi q hq hm => by
          have h1 := ownRow_lt (HM.out.own i hi) hq
          have h2 : wo.heap.size ≤ q := hnew q (by simpa using hm)
          omega)).congr (fun r _ => by rw [buk_start]; exact colTo_congr (fun c hc => by rw [hFc c hc])))
      have HX2 := Lib.hid (HX.out.below hB2 HX.out.lt)
      have HB2 := Lib.hid (HB.out.trans (hB2.mono HB.out.size))
      have HZ2 := Lib.hid (show w.heap.size + 2 ≤ w2.heap.size from Nat.le_trans HZ.out hB2.size)
      have HOWN := Lib.hid hown
      have HNEW := Lib.hid (show ∀ q, (Value.slice ao L.length cap).ownBlock = some q → w.heap.size + 2 ≤ q from fun q hq => by
        have h2 : wo.heap.size ≤ q := hnew q hq
        have := HZ.out
        omega)
      have hLn : L.length ≤ h.node.length := by
        have := congrArg List.length hm
        rw [List.length_map] at this
        rw [this]
        exact seenOf_len _ _
      have HLM := Lib.hid (show SeenAt h.node.length (F j) (L.map fun x => (x.rank, x.dist)) 0 0 from by rw [hm, hFj]; exact SeenAt.start _ _)
      clear hB2 hown hnew hd hm hb2 j0 j1 j2 j3 j4 j5 k0 k1 k2 k3 k4 k5 HM HX HB HZ hF hFj hFc
      go_wp2_with fail
      go_loopg [37] L.length (fun gg vi wr => ∃ (i m : Nat) (g2 : Nat → Option Value), vi = .int .i64 (i : Int) ∧ i ≤ L.length ∧ gg = L.length - i ∧ SeenAt h.node.length (F j) (L.map fun x => (x.rank, x.dist)) i m ∧ BRep (w.heap.size + 2) h.node.length (Value.slice ao L.length cap).ownBlock.toList (bukTo F j m) (w.heap.size + 1) g2 wr ∧
        wr.ownsRow 0 157 3 (.slice ao L.length cap) L.length (L.flatMap seenCells) ∧ Cells wr w.heap.size 25 (hierCells A h) ∧ Below w.heap.size w wr ∧ w2.heap.size ≤ wr.heap.size)
      case atStart => exact ⟨0, 0, g, rfl, Nat.zero_le _, rfl, HLM.out, HM2.out, HOWN.out, HX2.out, HB2.out, Nat.le_refl _⟩
      case round =>
        obtain ⟨i, m, g2, rfl, hi, hgi, hsa, hm, ho, hx, hb, hz⟩ := hrel
        obtain ⟨wp, rfl⟩ : ∃ wp : World, wp = wr := ⟨_, rfl⟩
        have HGI := Lib.hid hgi
        have HSA := Lib.hid hsa
        have HM := Lib.hid hm
        have HOW := Lib.hid ho
        have HX := Lib.hid hx
        have HB := Lib.hid hb
        have HZ := Lib.hid (Nat.le_trans HZ2.out hz)
        have HZW := Lib.hid hz
        clear hgi hsa hm ho hx hb hz HLM HM2 HX2 HB2 HOWN
        by_cases hil : i < L.length
        · obtain ⟨y, hy⟩ : ∃ y, L[i]? = some y := ⟨_, List.getElem?_eq_getElem hil⟩
          have hlz : L.length ≤ L.length := Nat.le_refl _
          obtain ⟨b2, o2, ea2, cc2⟩ := (See.of_own seenCells_len HOW.out (by omega)).1.cell i y hy
          have e0 := cc2 0 _ rfl
          have e1 := cc2 1 _ rfl
          have e2 := cc2 2 _ rfl
          rw [Nat.add_zero] at e0
          have hcons := HSA.out.cons (show (L.map fun x => (x.rank, x.dist))[i]? = some (y.rank, y.dist) by rw [List.getElem?_map, hy]; rfl)
          obtain ⟨hrn, hDr, hrest, hput⟩ := buk_step hcons
          have HPUT := Lib.hid hput
          have HREST := Lib.hid (show SeenAt h.node.length (F j) (L.map fun x => (x.rank, x.dist)) (i + 1) (y.rank + 1) from ⟨by omega, hrest⟩)
          have EA := Lib.hid ea2
          obtain ⟨wq, hwq⟩ : ∃ wq, wp.alloc (.cells (seenCells y).toArray 157) = wq := ⟨_, rfl⟩
          have hbx := Cells.new wp 157 (seenCells y)
          have hoo := (Below.refl wp.heap.size wp).alloc (Nat.le_refl _) (.cells (seenCells y).toArray 157)
          have hsz : wq.heap.size = wp.heap.size + 1 := by rw [← hwq]; simp
          rw [hwq] at hbx hoo
          have HLT := Lib.hid (fun i (hi : i < h.node.length) q (hq : ((g2 i).getD (.slice none 0 0)).ownBlock = some q) => ownRow_lt (HM.out.own i hi) hq)
          have HM3 := Lib.hid (HM.out.below hoo)
          have HOW3 := Lib.hid (own_kept (bs := []) HOW.out (Only.of_below hoo) (fun _ _ => by simp))
          have HX3 := Lib.hid (HX.out.below hoo HX.out.lt)
          have HB3 := Lib.hid (HB.out.trans (hoo.mono HB.out.size))
          have v0 : wq.cell? ⟨wp.heap.size, 0, none⟩ = some (.int .i64 (y.rank : Nat)) := hbx.cell rfl
          have v1 : wq.cell? ⟨wp.heap.size, 1, none⟩ = some (.int .u64 y.dist) := hbx.cell rfl
          have HWQ := Lib.hid hwq
          have HSZ := Lib.hid hsz
          have HLW := Lib.hid (fun q (hq : (Value.slice ao L.length cap).ownBlock = some q) => ownRow_lt HOW.out hq)
          clear cc2 ea2 hy hcons hDr hrest hput hwq hbx hoo hsz HM HOW HX HB
          rw [EA.out]
          go_upto_region 11 with fail
          rw [show wp.alloc (.cells #[.int .i64 y.rank, .int .u64 y.dist, .bool y.st] 157) = wq from HWQ.out]
          clear e0 e1 e2
          change Code.wp _ ((regionAt 11 bucksBody).getD .skip) _ _ _
          have hL := HM3.out.own y.rank hrn
          have hne := HM3.out.lo y.rank hrn
          have hlt0 := HLT.out y.rank hrn
          obtain ⟨ao5, cap5, hvs⟩ := own_form' hL
          rw [hvs] at hL hne hlt0
          have hm5 : (bukTo F j m y.rank).length ≤ 1048576 := by
            unfold bukTo
            split
            · have := colTo_len F (j + 1) y.rank; omega
            · have := colTo_len F j y.rank; omega
          refine buck_app (r := y.rank) (j := j) (dd := y.dist) _ (fun _ _ t _ _ hq => by cases t <;> exact hq) v0 v1 (by omega) HM3.out.m hvs hL (fun q hq => ⟨by have := hlt0 q hq; omega, (hne q hq).2.1⟩) (by have := HZ.out; omega) hm5 ?_
          intro t41 t42 t43 t44 t45 t46 t47 t48 t49 t50 t51 t52 t53 ao6 cap6 w6 hown6 hblk6 hmap6 honly6
          rw [← hvs] at hblk6 honly6
          have hnew := HM3.out.app hrn (j, y.dist) _ (by have := HZ.out; have := HSZ.out; omega) (by have := HZ.out; have := HSZ.out; omega) (fun q hq => by have := HLW.out q (by simpa using hq); have := HSZ.out; omega) hown6 hblk6 hmap6 honly6
          have hlo := HM3.out.lo y.rank hrn
          have hnm : ∀ b, b < w.heap.size + 1 → b ∉ ((w.heap.size + 1) :: ((g2 y.rank).getD (.slice none 0 0)).ownBlock.toList) := fun b hb hm2 => by
            rw [List.mem_cons] at hm2
            rcases hm2 with h1 | h1
            · omega
            · have := (hlo b (by simpa using h1)).1; omega
          have HN6 := Lib.hid (hnew.congr (T := bukTo F j (y.rank + 1)) (fun r _ => HPUT.out r))
          have HX6 := Lib.hid (HX3.out.kept honly6 (hnm _ (by omega)))
          have HOW6 := Lib.hid (own_kept HOW3.out honly6 (fun q hq hm2 => by
            rw [List.mem_cons] at hm2
            rcases hm2 with h1 | h1
            · have := HNEW.out q hq; omega
            · exact (hlo q (by simpa using h1)).2.2 (by simpa using hq)))
          have HB6 := Lib.hid (HB3.out.trans (honly6.below HB3.out.size (fun q hq => by
            rcases Nat.lt_or_ge q w.heap.size with h1 | h1
            · exact absurd hq (hnm q (by omega))
            · exact h1)))
          have HS6 := Lib.hid (show w2.heap.size ≤ w6.heap.size from by have := honly6.size; have := HSZ.out; have := HZW.out; omega)
          clear hown6 hblk6 hmap6 honly6 hnew hlo hnm hL hne hlt0 hvs hm5 v0 v1
          go_wp2_with fail
          rw [← EA.out]
          go_roundg (L.length - (i + 1))
          case measure => rw [HGI.out]; omega
          case rel => exact ⟨i + 1, y.rank + 1, _, by go_num, by omega, rfl, HREST.out, HN6.out, HOW6.out, HX6.out, HB6.out, HS6.out⟩
        · obtain rfl : i = L.length := by omega
          have hend := HSA.out.done (by simp)
          have HN := Lib.hid (show BRep (w.heap.size + 2) h.node.length [] (colTo F (j + 1)) (w.heap.size + 1) g2 wp from (HM.out.avoid (fun _ _ _ _ => by simp)).congr (fun r hr => buk_end hend hr))
          clear hend
          go_wp2_with fail
          rw [← EAO.out]
          go_roundg (cols.length - (j + 1))
          case measure => rw [HGJ.out]; omega
          case rel => exact ⟨j + 1, F, g2, by go_num, by omega, rfl, HEJ.out, HN.out, HX.out, HB.out, HZ.out⟩
    · obtain rfl : j = cols.length := by omega
      go_wp2
      go_returns
      exact ⟨w.heap.size + 1, w.heap.size + 2, E, g, rfl, fun c v hv => HE.out c v (List.getElem?_eq_some_iff.1 hv).1 hv, HM.out, by omega, by omega, HZ.out, HB.out⟩
end Go.Proofs.YtjbphoophgbmiaaDoor

/- table.row. -/
namespace Go.Proofs.YtjbphoophgbmiaaDoor
open Go.ChangeShapes Go.WideShapes Go.ChangeAt Go.RowKit Go.Joins Go.Deep

noncomputable def rowBody : Code := Tryd.f70.body.getD .skip
def RowNew (h : HierD) (s k : Nat) (E : Nat → Nat → Option Int) (w : World) (e : Ending) (w' : World) : Prop :=
  ∃ (b : Nat) (D : Nat → Option Int), e = .returned (.tuple #[.slice (some ⟨b, 0, none⟩) k k, .nilIface]) ∧ IsD h.node.length h.upF h.up s D ∧ Cells w' b 37 (rowCells k (fun c => cellTo D E h.node.length c)) ∧ w.heap.size ≤ b ∧ Below w.heap.size w w'
theorem cup_lit (A : HA) (h : HierD) (s : Nat) (w : World) (see : HSee w A h) (hc : checkErr h = .nil) (hs : s < h.node.length) :
    Calls Tryd.prog 88 #[.agg #[.slice A.a0 h.node.length A.c0, .slice A.a1 h.upF.length A.c1, .slice A.a2 h.up.length A.c2, .slice A.a3 h.dnF.length A.c3, .slice A.a4 h.dn.length A.c4], .int .i64 s] w (ClimbPost h.node.length h.upF h.up s w) := cup_any A h s w see hc hs
theorem ownBlock_len (ao : Option Addr) (n m cap : Nat) : (Value.slice ao n cap).ownBlock = (Value.slice ao m cap).ownBlock := by cases ao <;> rfl
/-- No distance of the columns is too great for a sum. -/
def ColOk (n k : Nat) (E : Nat → Nat → Option Int) : Prop := ∀ c r d, c < k → r < n → E c r = some d → 0 ≤ d ∧ d ≤ 9223231299366420480
theorem IsD.small {n : Nat} {first : List Nat} {links : List LinkD} {s : Nat} {D : Nat → Option Int} (ok : HalfOk n first links) (hn : n ≤ 65536) (i : IsD n first links s D) {r : Nat} {d : Int} (hr : r < n) (hd : D r = some d) : 0 ≤ d ∧ d ≤ 9223231299366420480 := by
  obtain ⟨h1, h2⟩ := i.bnd ok r d hd
  exact ⟨h1, by omega⟩
set_option linter.unusedSimpArgs false in
set_option maxRecDepth 100000 in
set_option maxHeartbeats 8000000 in
/-- **table.row.** -/
theorem row_any (A : HA) (h : HierD) (s k bm base : Nat) (E : Nat → Nat → Option Int) (g : Nat → Option Value) (w : World) (see : HSee w A h) (hc : checkErr h = .nil) (hs : s < h.node.length) (hk : k ≤ 1048576) (hm : BRep base h.node.length [] (colTo E k) bm g w) (hE : ColOk h.node.length k E) :
    Calls Tryd.prog 70 #[hierVal A h, .int .i64 (s : Nat), .int .i64 (k : Nat), .map (some bm)] w (RowNew h s k E w) := by
  have hn := (checkErr_parts hc).1.n
  have UOK := Lib.hid (half_up hc)
  have SEE := Lib.hid see
  have HC := Lib.hid hc
  have HM := Lib.hid hm
  have HE := Lib.hid hE
  have HX0 := Lib.hid (Cells.new w 25 (hierCells A h))
  have HB0 := Lib.hid ((Below.refl w.heap.size w).alloc (Nat.le_refl _) (.cells (hierCells A h).toArray 25))
  obtain ⟨k0, k1, k2, k3, k4⟩ := hier_five HX0.out
  have hmk := run_make_n (P := Tryd.prog) 57 37 (.int .u64 0) 1 8 Tryd.underlying57 Tryd.infoU64 .i64 .i64 k (by omega) (by omega)
  rw [rowCells_made] at hmk
  clear see hc hm hE
  unfold hierVal
  go_enter Tryd.func70, Tryd.ntmps70
  go_wp2_with fail
  refine (cup_lit A h s _ (SEE.out.below HB0.out) HC.out hs).mono ?_
  rintro e w2 ⟨ao, cap, L, D, rfl, hown, hnew, hd, hml, hb2⟩
  have HD := Lib.hid hd
  have hLn : L.length ≤ h.node.length := by
    have := congrArg List.length hml
    rw [List.length_map] at this
    rw [this]
    exact seenOf_len _ _
  have HLM := Lib.hid (show SeenAt h.node.length D (L.map fun x => (x.rank, x.dist)) 0 0 from by rw [hml]; exact SeenAt.start _ _)
  have HB2 := Lib.hid (HB0.out.trans (hb2.mono HB0.out.size))
  have HOWN := Lib.hid hown
  clear hd hml hb2 hown hnew k0 k1 k2 k3 k4 HX0 HB0
  go_upto_region 5 with fail
  have hz := Cells.new w2 37 (rowCells k fun _ => 0)
  have ho := (Below.refl w2.heap.size w2).alloc (Nat.le_refl _) (.cells (rowCells k fun _ => 0).toArray 37)
  obtain ⟨w3, hw3⟩ : ∃ w3, w2.alloc (.cells (rowCells k fun _ => 0).toArray 37) = w3 := ⟨_, rfl⟩
  rw [hw3] at hz ho ⊢
  have HB3 := Lib.hid (HB2.out.trans (ho.mono HB2.out.size))
  have HOWN3 := Lib.hid (own_kept (bs := []) HOWN.out (Only.of_below ho) (fun _ _ => by simp))
  have HZ3 := Lib.hid hz
  have HLW := Lib.hid (fun q (hq : (Value.slice ao L.length cap).ownBlock = some q) => ownRow_lt HOWN.out hq)
  have HSZ := Lib.hid HB2.out.size
  clear hz ho hw3 hmk HB2 HOWN
  obtain ⟨bd, hbd⟩ : ∃ bd, w2.heap.size = bd := ⟨_, rfl⟩
  rw [hbd] at HZ3 HLW HSZ ⊢
  have HBD := Lib.hid hbd
  clear hbd
  go_wp2_with fail
  go_loopg [31] k (fun gg vi wr => ∃ j : Nat, vi = .int .i64 (j : Int) ∧ j ≤ k ∧ gg = k - j ∧ Cells wr bd 37 (rowCells k fun c => if c < j then 18446744073709551615 else 0) ∧ wr.ownsRow 0 157 3 (.slice ao L.length cap) L.length (L.flatMap seenCells) ∧ Below w.heap.size w wr)
  case atStart => exact ⟨0, rfl, Nat.zero_le _, rfl, by rw [rowCells_congr (g := fun _ => 0) (fun x _ => by simp)]; exact HZ3.out, HOWN3.out, HB3.out⟩
  case round =>
    obtain ⟨j, rfl, hj, hgj, hz, ho, hb⟩ := hrel
    obtain ⟨wo, rfl⟩ : ∃ wo : World, wo = wr := ⟨_, rfl⟩
    have HGJ := Lib.hid hgj
    have HZ := Lib.hid hz
    have HO := Lib.hid ho
    have HB := Lib.hid hb
    clear hgj hz ho hb HZ3 HOWN3 HB3
    by_cases hjk : j < k
    · have y0 : wo.cell? ⟨bd, j, none⟩ = some (.int .u64 (if j < j then 18446744073709551615 else 0)) := HZ.out.cell (rowCells_get hjk)
      have g1 := HZ.out.frozen j
      have lz := HZ.out.lt
      have hst := HZ.out.set j (.int .u64 18446744073709551615)
      rw [rowCells_set, rowCells_congr (g := fun c => if c < j + 1 then 18446744073709551615 else 0) (fun x _ => by
        by_cases e1 : x = j
        · rw [if_pos e1, if_pos (by omega)]
        · rw [if_neg e1]
          by_cases e2 : x < j
          · rw [if_pos e2, if_pos (by omega)]
          · rw [if_neg e2, if_neg (by omega)])] at hst
      have HST := Lib.hid hst
      clear hst
      go_wp2_with fail
      go_roundg (k - (j + 1))
      case measure => rw [HGJ.out]; omega
      case rel =>
        refine ⟨j + 1, by go_num, by omega, rfl, HST.out, own_kept (bs := [bd]) HO.out ((Only.refl _ _).setCell (p := ⟨bd, j, none⟩) (.inl (by simp)) _) (fun q hq => ?_), HB.out.setCell (p := ⟨bd, j, none⟩) HSZ.out _⟩
        have := HLW.out q hq
        simp only [List.mem_singleton]
        omega
    · obtain rfl : j = k := by omega
      have HZ4 := Lib.hid (show Cells wo bd 37 (rowCells j (fun c => cellTo D E 0 c)) from by rw [rowCells_congr (g := fun c => if c < j then 18446744073709551615 else 0) (fun x hx => by rw [if_pos hx]; rfl)]; exact HZ.out)
      clear HZ
      go_wp2_with fail
      go_loopg [40] L.length (fun gg vi wr => ∃ (i m : Nat), vi = .int .i64 (i : Int) ∧ i ≤ L.length ∧ gg = L.length - i ∧ SeenAt h.node.length D (L.map fun x => (x.rank, x.dist)) i m ∧ Cells wr bd 37 (rowCells j fun c => cellTo D E m c) ∧ wr.ownsRow 0 157 3 (.slice ao L.length cap) L.length (L.flatMap seenCells) ∧ Below w.heap.size w wr)
      case atStart => exact ⟨0, 0, rfl, Nat.zero_le _, rfl, HLM.out, HZ4.out, HO.out, HB.out⟩
      case round =>
        obtain ⟨i, m, rfl, hi, hgi, hsa, hz, ho, hb⟩ := hrel
        obtain ⟨wp, rfl⟩ : ∃ wp : World, wp = wr := ⟨_, rfl⟩
        have HGI := Lib.hid hgi
        have HSA := Lib.hid hsa
        have HZ := Lib.hid hz
        have HO1 := Lib.hid ho
        have HB1 := Lib.hid hb
        clear hgi hsa hz ho hb HLM HZ4 HO HB
        by_cases hil : i < L.length
        · obtain ⟨y, hy⟩ : ∃ y, L[i]? = some y := ⟨_, List.getElem?_eq_getElem hil⟩
          obtain ⟨b2, o2, ea2, cc2⟩ := (See.of_own seenCells_len HO1.out (by omega)).1.cell i y hy
          have e0 := cc2 0 _ rfl
          have e1 := cc2 1 _ rfl
          have e2 := cc2 2 _ rfl
          rw [Nat.add_zero] at e0
          have hcons := HSA.out.cons (show (L.map fun x => (x.rank, x.dist))[i]? = some (y.rank, y.dist) by rw [List.getElem?_map, hy]; rfl)
          obtain ⟨hrn, hDr, hrest, hput⟩ := row_step (k := j) (E := E) hcons
          obtain ⟨hy0, hy1⟩ := HD.out.small UOK.out hn hrn hDr
          have HPUT := Lib.hid hput
          have HREST := Lib.hid (show SeenAt h.node.length D (L.map fun x => (x.rank, x.dist)) (i + 1) (y.rank + 1) from ⟨by omega, hrest⟩)
          have EA := Lib.hid ea2
          obtain ⟨wq, hwq⟩ : ∃ wq, wp.alloc (.cells (seenCells y).toArray 157) = wq := ⟨_, rfl⟩
          have hbx := Cells.new wp 157 (seenCells y)
          have hoo := (Below.refl wp.heap.size wp).alloc (Nat.le_refl _) (.cells (seenCells y).toArray 157)
          rw [hwq] at hbx hoo
          have hZ2 := HZ.out.below hoo HZ.out.lt
          have hO2 := own_kept (bs := []) HO1.out (Only.of_below hoo) (fun _ _ => by simp)
          have hB2 := HB1.out.trans (hoo.mono HB1.out.size)
          have hM2 := HM.out.below hB2
          have hlz := HZ.out.lt
          have v0 : wq.cell? ⟨wp.heap.size, 0, none⟩ = some (.int .i64 (y.rank : Nat)) := hbx.cell rfl
          have v1 : wq.cell? ⟨wp.heap.size, 1, none⟩ = some (.int .u64 y.dist) := hbx.cell rfl
          have hlk := hM2.m.look Tryd.underlying113 Tryd.underlying3 (Tryd.zeroEnts _) (r := y.rank) (by omega)
          have hL := hM2.own y.rank hrn
          obtain ⟨ao5, cap5, hvs⟩ := own_form' hL
          have hql : ∀ n2 q, (Value.slice ao5 n2 cap5).ownBlock = some q → q < w.heap.size := fun n2 q hq => ownRow_lt (HM.out.own y.rank hrn) (by rw [hvs, ownBlock_len ao5 _ n2]; exact hq)
          rw [hvs] at hL hlk
          have hlen := colTo_len E j y.rank
          have HWQ := Lib.hid hwq
          have HZ2 := Lib.hid hZ2
          have HO2 := Lib.hid hO2
          have HB2 := Lib.hid hB2
          have HL2 := Lib.hid hL
          have HBX := Lib.hid hbx
          have HMEM := Lib.hid (fun x (hx : x ∈ colTo E j y.rank) => (colTo_mem.1 hx))
          have HNE := Lib.hid (show wp.heap.size ≠ bd by omega)
          clear cc2 ea2 hy hcons hDr hrest hput hwq hbx hoo hZ2 hO2 hB2 hM2 hL hvs HZ HO1 HB1
          obtain ⟨T, hT⟩ : ∃ T, colTo E j y.rank = T := ⟨_, rfl⟩
          rw [hT] at HPUT HL2 HMEM hlen hlk
          clear hT
          obtain ⟨tn, htn⟩ : ∃ tn, T.length = tn := ⟨_, rfl⟩
          rw [htn] at HL2 hlen hlk
          have HQL := Lib.hid (fun q (hq : (Value.slice ao5 tn cap5).ownBlock = some q) => hql tn q hq)
          clear hql
          have HTN := Lib.hid htn
          clear htn
          rw [EA.out]
          go_upto_region 13 with fail
          rw [show wp.alloc (.cells #[.int .i64 y.rank, .int .u64 y.dist, .bool y.st] 157) = wq from HWQ.out]
          clear e0 e1 e2
          go_wp2_with fail
          clear hlk v0
          rw [← EA.out]
          go_loopg [49] tn (fun gg vi wr => ∃ (t : Nat), vi = .int .i64 (t : Int) ∧ t ≤ tn ∧ gg = tn - t ∧ Cells wr bd 37 (rowCells j ((T.take t).foldl (setMin y.dist) (cellTo D E m))) ∧ wr.ownsRow 0 157 3 (.slice ao L.length cap) L.length (L.flatMap seenCells) ∧ Cells wr wp.heap.size 157 (seenCells y) ∧ wr.ownsRow 0 161 2 (.slice ao5 tn cap5) tn (T.flatMap entCells) ∧ Below w.heap.size w wr)
          case atStart => exact ⟨0, rfl, Nat.zero_le _, rfl, HZ2.out, HO2.out, HBX.out, HL2.out, HB2.out⟩
          case round =>
            obtain ⟨t, rfl, ht, hgt, hz, ho, hx, hl, hb⟩ := hrel
            obtain ⟨wu, rfl⟩ : ∃ wu : World, wu = wr := ⟨_, rfl⟩
            have HGT := Lib.hid hgt
            have HZ := Lib.hid hz
            have HO := Lib.hid ho
            have HX := Lib.hid hx
            have HL := Lib.hid hl
            have HB := Lib.hid hb
            clear hgt hz ho hx hl hb HZ2 HO2 HBX HB2
            by_cases htt : t < tn
            · obtain ⟨z, hz⟩ : ∃ z, T[t]? = some z := ⟨_, List.getElem?_eq_getElem (by rw [HTN.out]; exact htt)⟩
              obtain ⟨hz1, hz2⟩ := HMEM.out z (List.mem_of_getElem? hz)
              obtain ⟨hz3, hz4⟩ := HE.out z.1 y.rank z.2 hz1 hrn hz2
              have hof := See.of_own entCells_len HL.out (by omega)
              obtain ⟨b3, o3, ea3, cc3⟩ := hof.1.cell t z hz
              have e0 := cc3 0 _ rfl
              have e1 := cc3 1 _ rfl
              rw [Nat.add_zero] at e0
              have EB := Lib.hid ea3
              have htk : T.take (t + 1) = T.take t ++ [z] := by rw [List.take_add_one, hz]; rfl
              obtain ⟨F, hF⟩ : ∃ F, (T.take t).foldl (setMin y.dist) (cellTo D E m) = F := ⟨_, rfl⟩
              have HNX := Lib.hid (show (T.take (t + 1)).foldl (setMin y.dist) (cellTo D E m) = setMin y.dist F z from by rw [htk, List.foldl_append, hF]; rfl)
              rw [hF] at HZ
              obtain ⟨wv, hwv⟩ : ∃ wv, wu.alloc (.cells (entCells z).toArray 161) = wv := ⟨_, rfl⟩
              have hbe := Cells.new wu 161 (entCells z)
              have hoo := (Below.refl wu.heap.size wu).alloc (Nat.le_refl _) (.cells (entCells z).toArray 161)
              rw [hwv] at hbe hoo
              have hZ2 := HZ.out.below hoo HZ.out.lt
              have HO3 := Lib.hid (own_kept (bs := []) HO.out (Only.of_below hoo) (fun _ _ => by simp))
              have HL3 := Lib.hid (own_kept (bs := []) HL.out (Only.of_below hoo) (fun _ _ => by simp))
              have hX3 := HX.out.below hoo HX.out.lt
              have HB3 := Lib.hid (HB.out.trans (hoo.mono HB.out.size))
              have v1 : wv.cell? ⟨wp.heap.size, 1, none⟩ = some (.int .u64 y.dist) := hX3.cell rfl
              have u0 : wv.cell? ⟨wu.heap.size, 0, none⟩ = some (.int .i64 (z.1 : Nat)) := hbe.cell rfl
              have u1 : wv.cell? ⟨wu.heap.size, 1, none⟩ = some (.int .u64 z.2) := hbe.cell rfl
              have d0 : wv.cell? ⟨bd, z.1, none⟩ = some (.int .u64 (F z.1)) := hZ2.cell (rowCells_get hz1)
              have g1 := hZ2.frozen z.1
              have lz := hZ2.lt
              have usum : IntKind.u64.wrap (y.dist + z.2) = y.dist + z.2 := IntWalk.u64_in _ (by omega)
              have hst := hZ2.set z.1 (.int .u64 (min (F z.1) (y.dist + z.2)))
              rw [rowCells_set] at hst
              have HST := Lib.hid (show Cells (wv.setCell ⟨bd, z.1, none⟩ (.int .u64 (min (F z.1) (y.dist + z.2)))) bd 37 (rowCells j (setMin y.dist F z)) from by
                rw [rowCells_congr (g := fun x => if x = z.1 then min (F z.1) (y.dist + z.2) else F x) (fun x _ => by
                  unfold setMin
                  by_cases e : x = z.1
                  · rw [if_pos e, if_pos e, e]
                  · rw [if_neg e, if_neg e])]
                exact hst)
              have HX3 := Lib.hid hX3
              have HWV := Lib.hid hwv
              have hlw := hz1
              clear cc3 ea3 hz hof htk hF hwv hbe hoo hZ2 hX3 hst HZ HO HX HL HB
              rw [EB.out]
              go_upto_region 16 with fail
              rw [show wu.alloc (.cells #[.int .i64 z.1, .int .u64 z.2] 161) = wv from HWV.out]
              clear e0 e1
              go_still_tail 15, (by kernel_rfl)
              change wpList _ _ _ _ _ wv.drew
              go_wp2_with fail
              rw [← EB.out]
              go_roundg (tn - (t + 1))
              case measure => rw [HGT.out]; omega
              case rel =>
                have ho1 : Only [bd] wv (wv.setCell ⟨bd, z.1, none⟩ (.int .u64 (min (F z.1) (y.dist + z.2)))).drew := ((Only.refl _ _).setCell (p := ⟨bd, z.1, none⟩) (.inl (by simp)) _).drew
                refine ⟨t + 1, by go_num, by omega, rfl, by rw [HNX.out]; exact HST.out.drew, own_kept HO3.out ho1 (fun q hq => ?_), HX3.out.kept ho1 (by simpa using HNE.out), own_kept HL3.out ho1 (fun q hq => ?_), (HB3.out.setCell (p := ⟨bd, z.1, none⟩) HSZ.out _).drew⟩
                · have := HLW.out q hq
                  simp only [List.mem_singleton]
                  omega
                · have h1 := HQL.out q hq
                  have h2 := HSZ.out
                  simp only [List.mem_singleton]
                  omega
            · obtain rfl : t = tn := by omega
              have HZN := Lib.hid (show Cells wu bd 37 (rowCells j fun c => cellTo D E (y.rank + 1) c) from by
                have := HZ.out
                rw [List.take_of_length_le (by rw [HTN.out]; exact Nat.le_refl _)] at this
                rw [rowCells_congr (g := fun c => T.foldl (setMin y.dist) (cellTo D E m) c) (fun c hc => (HPUT.out c hc).symm)]
                exact this)
              go_wp2_with fail
              go_roundg (L.length - (i + 1))
              case measure => rw [HGI.out]; omega
              case rel => exact ⟨i + 1, y.rank + 1, by go_num, by omega, rfl, HREST.out, HZN.out, HO.out, HB.out⟩
        · obtain rfl : i = L.length := by omega
          have hend := HSA.out.done (by simp)
          have HZN := Lib.hid (show Cells wp bd 37 (rowCells j fun c => cellTo D E h.node.length c) from by
            rw [rowCells_congr (g := fun c => cellTo D E m c) (fun c _ => (row_end HSA.out.1 hend c).symm)]
            exact HZ.out)
          clear hend
          go_wp2
          go_returns
          exact ⟨bd, D, rfl, HD.out, HZN.out, HSZ.out, HB1.out⟩
end Go.Proofs.YtjbphoophgbmiaaDoor

/- table.Of. -/
namespace Go.Proofs.YtjbphoophgbmiaaDoor
open Go.ChangeShapes Go.WideShapes Go.ChangeAt Go.RowKit Go.Joins Go.Deep

noncomputable def ofBody : Code := Tryd.f37.body.getD .skip
theorem ErrIs.shape {w : World} {v : Value} {x : EV} (h : ErrIs w v x) : v = .nilIface ∨ ∃ t u, v = .iface t u := by
  by_cases e : x = .nil
  · exact .inl (h.nilv e)
  · exact .inr (h.iface e)
def WfList (l : List Int) : Prop := ∀ x ∈ l, x ≤ 9223372036854775807
/-- The distance between two nodes, or what stands for none. -/
def tabD (h : HierD) (s t : Int) : Int := (meetTo (distsK h.upF h.up (h.node.idxOf s.toNat) h.node.length) (distsK h.dnF h.dn (h.node.idxOf t.toNat) h.node.length) h.node.length).2
/-- A table as it lies in memory: a list of rows, each in a block of its own. -/
structure TabRep (n k : Nat) (X : Nat → Nat → Int) (base : Nat) (m : Value) (rb : Nat → Nat) (w : World) : Prop where
  own : w.ownsRow 0 57 1 m n ((List.range n).map fun i => .slice (some ⟨rb i, 0, none⟩) k k)
  r : ∀ i, i < n → Cells w (rb i) 37 (rowCells k (X i))
  lo : ∀ i, i < n → base ≤ rb i
  bo : ∀ q, m.ownBlock = some q → base ≤ q
  ne : ∀ i, i < n → m.ownBlock ≠ some (rb i)
  inj : ∀ i j, i < n → j < n → rb i = rb j → i = j
theorem TabRep.below {n k : Nat} {X : Nat → Nat → Int} {base : Nat} {m : Value} {rb : Nat → Nat} {w w' : World} (t : TabRep n k X base m rb w) (o : Below w.heap.size w w') : TabRep n k X base m rb w' :=
  ⟨own_kept (bs := []) t.own (Only.of_below o) (fun _ _ => by simp), fun i hi => (t.r i hi).below o (t.r i hi).lt, t.lo, t.bo, t.ne, t.inj⟩
theorem TabRep.mono {n k : Nat} {X : Nat → Nat → Int} {base base' : Nat} {m : Value} {rb : Nat → Nat} {w : World} (t : TabRep n k X base m rb w) (h : base' ≤ base) : TabRep n k X base' m rb w :=
  ⟨t.own, t.r, fun i hi => Nat.le_trans h (t.lo i hi), fun q hq => Nat.le_trans h (t.bo q hq), t.ne, t.inj⟩
/-- A row is laid behind the others. -/
theorem TabRep.app {n k : Nat} {X : Nat → Nat → Int} {base mc b : Nat} {mo : Option Addr} {rb : Nat → Nat} {w w' : World} (t : TabRep n k X base (.slice mo n mc) rb w) (hr : Cells w b 37 (rowCells k (X n))) (hb : base ≤ b) (hnew : ∀ p, p < n → rb p ≠ b) (hne : (Value.slice mo n mc).ownBlock ≠ some b)
    {ao : Option Addr} {cap : Nat} (hown : w'.ownsRow 0 57 1 (.slice ao (n + 1) cap) (n + 1) (((List.range n).map fun i => Value.slice (some ⟨rb i, 0, none⟩) k k) ++ [.slice (some ⟨b, 0, none⟩) k k])) (ho : Only (Value.slice mo n mc).ownBlock.toList w w')
    (hk : ∀ q, (Value.slice ao (n + 1) cap).ownBlock = some q → (Value.slice mo n mc).ownBlock = some q ∨ w.heap.size ≤ q) (hbase : base ≤ w.heap.size) : TabRep (n + 1) k X base (.slice ao (n + 1) cap) (fun p => if p = n then b else rb p) w' := by
  have hb1 := hr.lt
  refine ⟨?_, fun p hp => ?_, fun p hp => ?_, fun q hq => ?_, fun p hp => ?_, fun p q hp hq e => ?_⟩
  · have e : (List.range (n + 1)).map (fun i => Value.slice (some ⟨if i = n then b else rb i, 0, none⟩) k k) = ((List.range n).map fun i => Value.slice (some ⟨rb i, 0, none⟩) k k) ++ [.slice (some ⟨b, 0, none⟩) k k] := by
      rw [List.range_succ, List.map_append]
      congr 1
      · refine List.map_congr_left fun i hi => ?_
        have := List.mem_range.1 hi
        rw [if_neg (by omega)]
      · simp
    rw [e]
    exact hown
  · by_cases c : p = n
    · subst c
      rw [if_pos rfl]
      exact hr.kept ho (by simpa using fun e => hne e)
    · rw [if_neg c]
      exact (t.r p (by omega)).kept ho (by simpa using fun e => t.ne p (by omega) e)
  · by_cases c : p = n
    · rw [if_pos c]; exact hb
    · rw [if_neg c]; exact t.lo p (by omega)
  · rcases hk q hq with c | c
    · exact t.bo q c
    · exact Nat.le_trans hbase c
  · intro e
    rcases hk _ e with c | c
    · by_cases c2 : p = n
      · rw [if_pos c2] at c; exact hne c
      · rw [if_neg c2] at c; exact t.ne p (by omega) c
    · by_cases c2 : p = n
      · rw [if_pos c2] at c; omega
      · rw [if_neg c2] at c
        have := (t.r p (by omega)).lt
        omega
  · by_cases c : p = n <;> by_cases c2 : q = n
    · omega
    · rw [if_pos c, if_neg c2] at e
      exact absurd e.symm (hnew q (by omega))
    · rw [if_neg c, if_pos c2] at e
      exact absurd e (hnew p (by omega))
    · rw [if_neg c, if_neg c2] at e
      exact t.inj p q (by omega) (by omega) e
def ofErr (h : HierD) (rows cols : List Int) : EV := if checkErr h ≠ .nil then checkErr h else if 0 < rows.length ∧ 1048576 / rows.length < cols.length then .code 9 else firstOf (listErr h.node.length rows 0) (listErr h.node.length cols rows.length)
def OfNew (h : HierD) (rows cols : List Int) (w : World) (e : Ending) (w' : World) : Prop := ∃ m v, e = .returned (.tuple #[m, v]) ∧ ErrIs w' v (ofErr h rows cols) ∧ Below w.heap.size w w' ∧ (ofErr h rows cols ≠ .nil → m = .slice none 0 0) ∧
  (ofErr h rows cols = .nil → ∃ rb, TabRep rows.length cols.length (fun i j => tabD h (rows.getD i 0) (cols.getD j 0)) w.heap.size m rb w')
theorem firstOf_nil {x y : EV} (e : firstOf x y = .nil) : x = .nil ∧ y = .nil := by
  unfold firstOf at e
  split at e
  · exact ⟨by assumption, e⟩
  · rename_i c; exact absurd e c
theorem tab_cell {h : HierD} {s t : Int} {D E : Nat → Option Int} (hc : checkErr h = .nil) (hs : 0 ≤ s ∧ s < h.node.length) (ht : 0 ≤ t ∧ t < h.node.length) (hD : IsD h.node.length h.upF h.up (h.node.idxOf s.toNat) D) (hE : IsD h.node.length h.dnF h.dn (h.node.idxOf t.toNat) E) : (meetTo D E h.node.length).2 = tabD h s t := by
  obtain ⟨f, -, -, ho, -⟩ := checkErr_parts hc
  have ok := order_nil ho
  have i1 : h.node.idxOf s.toNat < h.node.length := List.idxOf_lt_length_iff.2 (ok.mem _ (by omega))
  have i2 : h.node.idxOf t.toNat < h.node.length := List.idxOf_lt_length_iff.2 (ok.mem _ (by omega))
  unfold tabD
  rw [meetTo_congr (hD.unique (half_up hc) (dists_isD (half_up hc) i1)) (hE.unique (half_dn hc) (dists_isD (half_dn hc) i2))]
theorem row_lit (A : HA) (h : HierD) (s k bm base : Nat) (E : Nat → Nat → Option Int) (g : Nat → Option Value) (w : World) (see : HSee w A h) (hc : checkErr h = .nil) (hs : s < h.node.length) (hk : k ≤ 1048576) (hm : BRep base h.node.length [] (colTo E k) bm g w) (hE : ColOk h.node.length k E) :
    Calls Tryd.prog 70 #[.agg #[.slice A.a0 h.node.length A.c0, .slice A.a1 h.upF.length A.c1, .slice A.a2 h.up.length A.c2, .slice A.a3 h.dnF.length A.c3, .slice A.a4 h.dn.length A.c4], .int .i64 (s : Nat), .int .i64 (k : Nat), .map (some bm)] w (RowNew h s k E w) := row_any A h s k bm base E g w see hc hs hk hm hE
theorem buckets_lit (A : HA) (h : HierD) (cols : List Int) (ca : Option Addr) (cc rb : Nat) (w : World) (see : HSee w A h) (hc : checkErr h = .nil) (hrk : Cells w rb 3 (rankCells h.node)) (sc : See w ca cc memInt 1 cols) (hl : cols.length ≤ 1048576) (hv : ∀ v ∈ cols, 0 ≤ v ∧ v < h.node.length) :
    Calls Tryd.prog 69 #[.agg #[.slice A.a0 h.node.length A.c0, .slice A.a1 h.upF.length A.c1, .slice A.a2 h.up.length A.c2, .slice A.a3 h.dnF.length A.c3, .slice A.a4 h.dn.length A.c4], .slice (some ⟨rb, 0, none⟩) h.node.length h.node.length, .slice ca cols.length cc] w (BuckNew h cols w) := buckets_any A h cols ca cc rb w see hc hrk sc hl hv
theorem ranks_lit (A : HA) (h : HierD) (w : World) (see : HSee w A h) : Calls Tryd.prog 66 #[.agg #[.slice A.a0 h.node.length A.c0, .slice A.a1 h.upF.length A.c1, .slice A.a2 h.up.length A.c2, .slice A.a3 h.dnF.length A.c3, .slice A.a4 h.dn.length A.c4]] w (RanksPost h w) := ranks_any A h w see
theorem of_parts {h : HierD} {rows cols : List Int} (e : ofErr h rows cols = .nil) : checkErr h = .nil ∧ (∀ v ∈ rows, 0 ≤ v ∧ v < h.node.length) ∧ ∀ v ∈ cols, 0 ≤ v ∧ v < h.node.length := by
  unfold ofErr at e
  split at e
  · rename_i c; exact absurd e c
  · rename_i c
    split at e
    · cases e
    · obtain ⟨e1, e2⟩ := firstOf_nil e
      exact ⟨by simpa using c, listErr_nil e1, listErr_nil e2⟩
set_option linter.unusedSimpArgs false in
set_option maxRecDepth 100000 in
set_option maxHeartbeats 8000000 in
theorem of_loop {s0 s4 s5 s6 s7 s9 s10 s13 s14 s15 s16 s17 s18 s19 s20 s21 s22 s23 s24 s25 s26 s27 s28 s29 s30 s31 s32 s33 s34 s35 s36 s37 s38 s39 s40 s41 s42 s43 s44 s45 s46 s47 s48 s49 s50 s51 s52 s53 s54 s55 s56 s57 s58 s59 s60 s61 s62 s63 s64 s65 s66 s67 s68 s69 s70 s71 s72 s73 s74 s75 s76 s77 s78 s79 s80 s81 s82 s83 s84 s85 s86 s87 s88 : Value} {A : HA} {h : HierD} {rows cols : List Int} {ra ca : Option Addr} {rc cc : Nat} {w wx : World} {rk bm base : Nat} {E : Nat → Nat → Option Int} {g : Nat → Option Value} (see : HSee w A h) (sr : See w ra rc memInt 1 rows) (sc : See w ca cc memInt 1 cols) (hlr : rows.length ≤ 1048576) (hlc : cols.length ≤ 1048576) (hw : WfList rows ∧ WfList cols) (hx : Cells wx w.heap.size 25 (hierCells A h)) (hb : Below w.heap.size w wx) (hok : ofErr h rows cols = .nil) (hrk : Cells wx rk 3 (rankCells h.node)) (hE : ∀ j v, cols[j]? = some v → IsD h.node.length h.dnF h.dn (h.node.idxOf v.toNat) (E j)) (hm : BRep base h.node.length [] (colTo E cols.length) bm g wx) : Code.wp Tryd.prog (tailAt 8 ofBody) (bodyPost Tryd.prog Tryd.f37 (OfNew h rows cols w)) ⟨#[s0, .slice ra rows.length rc, .slice ca cols.length cc, .pointer (some ⟨w.heap.size, 0, none⟩), s4, s5, s6, s7, .slice (some ⟨rk, 0, none⟩) h.node.length h.node.length, s9, s10, .map (some bm), .slice none 0 0, s13, s14, s15, s16, s17, s18, s19, s20, s21, s22, s23, s24, s25, s26, s27, s28, s29, s30, s31, s32, s33, s34, s35, s36, s37, s38, s39, s40, s41, s42, s43, s44, s45, s46, s47, s48, s49, s50, s51, s52, s53, s54, s55, s56, s57, s58, s59, s60, s61, s62, s63, s64, s65, s66, s67, s68, s69, s70, s71, s72, s73, s74, s75, s76, s77, s78, s79, s80, s81, s82, s83, s84, s85, s86, s87, s88], []⟩ wx := by
  obtain ⟨hc, hrv, hcv⟩ := of_parts hok
  have hp := checkErr_parts hc
  have hn := hp.1.n
  have ORD := Lib.hid (order_nil hp.2.2.2.1)
  have HC := Lib.hid hc
  have HOK := Lib.hid hok
  have HRV := Lib.hid hrv
  have HCV := Lib.hid hcv
  have HE := Lib.hid hE
  have HCOL := Lib.hid (show ColOk h.node.length cols.length E from fun c r d hcl hr hd => by
    obtain ⟨v, hv⟩ : ∃ v, cols[c]? = some v := ⟨_, List.getElem?_eq_getElem hcl⟩
    exact (hE c v hv).small (half_dn hc) hn hr hd)
  have SEE := Lib.hid see
  have SR := Lib.hid sr
  have SC := Lib.hid sc
  have HW := Lib.hid hw
  have HX := Lib.hid hx
  have HB := Lib.hid hb
  clear see sr sc hw hx hb
  have RK0 := Lib.hid hrk
  have HM0 := Lib.hid hm
  have HB0 := Lib.hid HB.out
  clear hp hc hok hrv hcv hE hrk hm
  conv => arg 2; whnf
  apply wp_seq_k
  intro KK hK
  have HKK := Lib.hid hK
  clear hK
  go_wp2_with fail
  go_loopg [64, 12] rows.length (fun gg vi vm wr => ∃ (i : Nat) (mo : Option Addr) (mc : Nat) (rb : Nat → Nat), vi = .int .i64 (i : Int) ∧ i ≤ rows.length ∧ gg = rows.length - i ∧ vm = .slice mo i mc ∧ TabRep i cols.length (fun i j => tabD h (rows.getD i 0) (cols.getD j 0)) wx.heap.size (.slice mo i mc) rb wr ∧ Below wx.heap.size wx wr)
  case atStart => exact ⟨0, none, 0, fun _ => 0, rfl, Nat.zero_le _, rfl, rfl, ⟨World.ownsRow_nil _ _ _ _, fun i hi => absurd hi (by omega), fun i hi => absurd hi (by omega), fun q hq => by simp [Value.ownBlock] at hq, fun i hi => absurd hi (by omega), fun i j hi => absurd hi (by omega)⟩, Below.refl _ _⟩
  case round =>
    obtain ⟨i, mo, mc, rb, rfl, hi, hgi, rfl, ht, hb⟩ := hrel
    obtain ⟨wo, rfl⟩ : ∃ wo : World, wo = wr := ⟨_, rfl⟩
    have HGI := Lib.hid hgi
    have HT := Lib.hid ht
    have HBL := Lib.hid hb
    have HM := Lib.hid (HM0.out.below hb)
    have RK := Lib.hid (RK0.out.below hb RK0.out.lt)
    have HX2 := Lib.hid (HX.out.below hb HX.out.lt)
    have HB2 := Lib.hid (HB0.out.trans (hb.mono HB0.out.size))
    clear hgi ht hb
    by_cases hil : i < rows.length
    · obtain ⟨v, hv⟩ : ∃ v, rows[i]? = some v := ⟨_, List.getElem?_eq_getElem hil⟩
      obtain ⟨hv0, hvn⟩ := HRV.out v (List.mem_of_getElem? hv)
      obtain ⟨x, rfl⟩ : ∃ x : Nat, v = x := ⟨v.toNat, by omega⟩
      have hgd : rows.getD i 0 = (x : Int) := by rw [List.getD_eq_getElem?_getD, hv]; rfl
      have HGD := Lib.hid hgd
      obtain ⟨b1, o1, ea1, cc1⟩ := (SR.out.below HB2.out).cell i _ hv
      have e0 := cc1 0 _ rfl
      rw [Nat.add_zero, Nat.mul_one] at e0
      have EA := Lib.hid ea1
      have hxn : x < h.node.length := by omega
      have hix : h.node.idxOf x < h.node.length := List.idxOf_lt_length_of_mem (ORD.out.mem x hxn)
      have k5 : wo.cell? ⟨rk, x, none⟩ = some (.int .i64 (h.node.idxOf x : Int)) := RK.out.cell (by simp [rankCells, hxn])
      obtain ⟨k0, k1, k2, k3, k4⟩ := hier_five HX2.out
      clear cc1 ea1 hv hgd
      rw [EA.out]
      go_upto_region 16 with fail
      clear e0
      go_region_held3 (fun W => W.cell? ⟨w.heap.size, 0, none⟩ = some (.slice A.a0 h.node.length A.c0) ∧ W.cell? ⟨w.heap.size, 1, none⟩ = some (.slice A.a1 h.upF.length A.c1) ∧ W.cell? ⟨w.heap.size, 2, none⟩ = some (.slice A.a2 h.up.length A.c2) ∧ W.cell? ⟨w.heap.size, 3, none⟩ = some (.slice A.a3 h.dnF.length A.c3) ∧ W.cell? ⟨w.heap.size, 4, none⟩ = some (.slice A.a4 h.dn.length A.c4) ∧ W.cell? ⟨rk, x, none⟩ = some (.int .i64 (h.node.idxOf x : Int))) (go_keep)
        (first | (go_at_call 70; refine (row_lit A h (h.node.idxOf x) cols.length bm base E g _ ((SEE.out.below HB2.out).below (Below.refl _ _).drew) HC.out hix hlc (HM.out.below (Below.refl _ _).drew) HCOL.out).mono ?_; rintro e w2 ⟨b, D, rfl, hD, hr, hlo, hb2⟩; (have j0 := ck hb2 k0); (have j1 := ck hb2 k1); (have j2 := ck hb2 k2); (have j3 := ck hb2 k3); (have j4 := ck hb2 k4); (have j5 := ck hb2 k5)))
      have hB2 : Below wo.heap.size wo w2 := (Below.refl wo.heap.size wo).drew.trans hb2
      have hlo2 : wo.heap.size ≤ b := hlo
      have hR : Cells w2 b 37 (rowCells cols.length (fun j => tabD h (rows.getD i 0) (cols.getD j 0))) := by
        rw [rowCells_congr (g := fun c => cellTo D E h.node.length c) (fun c hcl => by
          obtain ⟨u, hu⟩ : ∃ u, cols[c]? = some u := ⟨_, List.getElem?_eq_getElem hcl⟩
          have hgu : cols.getD c 0 = u := by rw [List.getD_eq_getElem?_getD, hu]; rfl
          rw [HGD.out, hgu]
          exact (tab_cell HC.out ⟨hv0, hvn⟩ (HCV.out u (List.mem_of_getElem? hu)) (by rw [Int.toNat_natCast]; exact hD) (HE.out c u hu)).symm)]
        exact hr
      have HR := Lib.hid hR
      have HT2 := Lib.hid (HT.out.below hB2)
      have HBL2 := Lib.hid (HBL.out.trans (hB2.mono HBL.out.size))
      have HLO := Lib.hid hlo2
      have HOLD := Lib.hid (fun (p : Nat) (hp : p < i) => (HT.out.r p hp).lt)
      have HOL := Lib.hid (fun q (hq : (Value.slice mo i mc).ownBlock = some q) => ownRow_lt HT.out.own hq)
      have HBW := Lib.hid (show wx.heap.size ≤ b from Nat.le_trans HBL.out.size hlo2)
      clear hB2 hD hr hlo hlo2 hb2 hR j0 j1 j2 j3 j4 j5 k0 k1 k2 k3 k4 k5 HT HM RK HX2 HB2 HBL
      have how := HT2.out.own
      go_wp2_with (at_builtin; refine wpList_app _ rfl _ _ 49 rfl 57 (.slice none 0 0) 1 24 Tryd.underlying49 Tryd.infoRow rfl (by decide) (.slice mo i mc) i ((List.range i).map fun i => .slice (some ⟨rb i, 0, none⟩) cols.length cols.length) rfl ?own ⟨w2.heap.size, 0, none⟩ 1 1 [.slice (some ⟨b, 0, none⟩) cols.length cols.length] rfl rfl ?c1 ?c2 ?c3 ?c4 ?_)
      case own => exact own_kept (bs := []) how ((Only.refl _ _).alloc _) (fun q _ => by simp)
      case c1 => exact cells_new w2 57 [.slice (some ⟨b, 0, none⟩) cols.length cols.length]
      case c2 => intro u hu; simp at hu; rcases hu with rfl; rfl
      case c3 => unfold maxLen; omega
      case c4 => omega
      intro ao5 cap5 w5 hown5 ho5 hk5
      have hall : Only (Value.slice mo i mc).ownBlock.toList w2 w5 := ((Only.refl _ _).alloc _).trans ho5 (fun x hx => .inl hx)
      have hlow := HLO.out
      have HTN := Lib.hid (HT2.out.app HR.out HBW.out (fun p hp => by have := HOLD.out p hp; omega) (fun e => by have := HOL.out _ e; omega) hown5 hall (fun q hq => (hk5 q hq).imp id (fun h => Nat.le_trans (by simp) h)) HBL2.out.size)
      have HBN := Lib.hid (HBL2.out.trans (hall.below HBL2.out.size (fun q hq => HT2.out.bo q (by simpa using hq))))
      clear hown5 ho5 hk5 hall hlow how
      go_wp2_with fail
      rw [← EA.out]
      go_roundg (rows.length - (i + 1))
      case measure => rw [HGI.out]; omega
      case rel => exact ⟨i + 1, ao5, cap5, _, by go_num, by omega, rfl, rfl, HTN.out, HBN.out⟩
    · obtain rfl : i = rows.length := by omega
      go_wp2_with fail
      refine HKK.out _ _ ?_
      conv => arg 2; whnf
      go_wp2
      go_returns
      exact ⟨_, _, rfl, by rw [HOK.out]; rfl, HB2.out, fun e => absurd HOK.out e, fun _ => ⟨rb, HT.out.mono HB0.out.size⟩⟩

set_option linter.unusedSimpArgs false in
set_option maxRecDepth 100000 in
set_option maxHeartbeats 8000000 in
theorem of_bucks {s0 s4 s5 s6 s7 s9 s10 s11 s12 s13 s14 s15 s16 s17 s18 s19 s20 s21 s22 s23 s24 s25 s26 s27 s28 s29 s30 s31 s32 s33 s34 s35 s36 s37 s38 s39 s40 s41 s42 s43 s44 s45 s46 s47 s48 s49 s50 s51 s52 s53 s54 s55 s56 s57 s58 s59 s60 s61 s62 s63 s64 s65 s66 s67 s68 s69 s70 s71 s72 s73 s74 s75 s76 s77 s78 s79 s80 s81 s82 s83 s84 s85 s86 s87 s88 : Value} {A : HA} {h : HierD} {rows cols : List Int} {ra ca : Option Addr} {rc cc : Nat} {w wx : World} {rk : Nat} (see : HSee w A h) (sr : See w ra rc memInt 1 rows) (sc : See w ca cc memInt 1 cols) (hlr : rows.length ≤ 1048576) (hlc : cols.length ≤ 1048576) (hw : WfList rows ∧ WfList cols) (hx : Cells wx w.heap.size 25 (hierCells A h)) (hb : Below w.heap.size w wx) (hok : ofErr h rows cols = .nil) (hrk : Cells wx rk 3 (rankCells h.node)) : Code.wp Tryd.prog (tailAt 5 ofBody) (bodyPost Tryd.prog Tryd.f37 (OfNew h rows cols w)) ⟨#[s0, .slice ra rows.length rc, .slice ca cols.length cc, .pointer (some ⟨w.heap.size, 0, none⟩), s4, s5, s6, s7, .slice (some ⟨rk, 0, none⟩) h.node.length h.node.length, s9, s10, s11, s12, s13, s14, s15, s16, s17, s18, s19, s20, s21, s22, s23, s24, s25, s26, s27, s28, s29, s30, s31, s32, s33, s34, s35, s36, s37, s38, s39, s40, s41, s42, s43, s44, s45, s46, s47, s48, s49, s50, s51, s52, s53, s54, s55, s56, s57, s58, s59, s60, s61, s62, s63, s64, s65, s66, s67, s68, s69, s70, s71, s72, s73, s74, s75, s76, s77, s78, s79, s80, s81, s82, s83, s84, s85, s86, s87, s88], []⟩ wx := by
  obtain ⟨hc, hrv, hcv⟩ := of_parts hok
  have HC := Lib.hid hc
  have HOK := Lib.hid hok
  have HCV := Lib.hid hcv
  have SEE := Lib.hid see
  have SR := Lib.hid sr
  have SC := Lib.hid sc
  have HW := Lib.hid hw
  have HX := Lib.hid hx
  have HB := Lib.hid hb
  clear see sr sc hw hx hb
  have RK := Lib.hid hrk
  clear hrk
  obtain ⟨k0, k1, k2, k3, k4⟩ := hier_five HX.out
  clear hc hok hrv hcv
  conv => arg 2; whnf
  apply wp_seq_k
  intro KK hK
  have HKK := Lib.hid hK
  clear hK
  go_wp2_with fail
  refine (buckets_lit A h cols ca cc rk _ (SEE.out.below HB.out) HC.out RK.out (SC.out.below HB.out) hlc HCV.out).mono ?_
  rintro e w1 ⟨bm, base, E, g, rfl, hE, hm, -, -, -, hb1⟩
  have HX1 := Lib.hid (HX.out.below hb1 HX.out.lt)
  have HB1 := Lib.hid (HB.out.trans (hb1.mono HB.out.size))
  have RK1 := Lib.hid (RK.out.below hb1 RK.out.lt)
  have HE := Lib.hid hE
  have HM := Lib.hid hm
  clear hE hm hb1 HX HB RK k0 k1 k2 k3 k4
  go_wp2_with fail
  refine HKK.out _ _ ?_
  clear HKK KK
  conv => arg 2; whnf
  apply wp_seq_k
  intro K6 hK
  have HK6 := Lib.hid hK
  clear hK
  go_wp2_with fail
  refine HK6.out _ _ ?_
  clear HK6 K6
  conv => arg 2; whnf
  apply wp_seq_k
  intro K7 hK
  have HK7 := Lib.hid hK
  clear hK
  go_wp2_with fail
  refine HK7.out _ _ ?_
  change Code.wp _ (tailAt 8 ofBody) _ _ _
  exact of_loop SEE.out SR.out SC.out hlr hlc HW.out HX1.out HB1.out HOK.out RK1.out HE.out HM.out

set_option linter.unusedSimpArgs false in
set_option maxRecDepth 100000 in
set_option maxHeartbeats 8000000 in
theorem of_first {s0 s4 s5 s6 s7 s9 s10 s11 s12 s13 s14 s15 s16 s17 s18 s19 s20 s21 s22 s23 s24 s25 s26 s27 s28 s29 s30 s31 s32 s33 s34 s35 s36 s37 s38 s39 s40 s41 s42 s43 s44 s45 s46 s47 s48 s49 s50 s51 s52 s53 s54 s55 s56 s57 s58 s59 s60 s61 s62 s63 s64 s65 s66 s67 s68 s69 s70 s71 s72 s73 s74 s75 s76 s77 s78 s79 s80 s81 s82 s83 s84 s85 s86 s87 s88 : Value} {A : HA} {h : HierD} {rows cols : List Int} {ra ca : Option Addr} {rc cc : Nat} {w wx : World} {rk : Nat} (see : HSee w A h) (sr : See w ra rc memInt 1 rows) (sc : See w ca cc memInt 1 cols) (hlr : rows.length ≤ 1048576) (hlc : cols.length ≤ 1048576) (hw : WfList rows ∧ WfList cols) (hx : Cells wx w.heap.size 25 (hierCells A h)) (hb : Below w.heap.size w wx) (hc : checkErr h = .nil) (hlim : ¬ (0 < rows.length ∧ 1048576 / rows.length < cols.length)) (hrk : Cells wx rk 3 (rankCells h.node)) : Code.wp Tryd.prog (tailAt 4 ofBody) (bodyPost Tryd.prog Tryd.f37 (OfNew h rows cols w)) ⟨#[s0, .slice ra rows.length rc, .slice ca cols.length cc, .pointer (some ⟨w.heap.size, 0, none⟩), s4, s5, s6, s7, .slice (some ⟨rk, 0, none⟩) h.node.length h.node.length, s9, s10, s11, s12, s13, s14, s15, s16, s17, s18, s19, s20, s21, s22, s23, s24, s25, s26, s27, s28, s29, s30, s31, s32, s33, s34, s35, s36, s37, s38, s39, s40, s41, s42, s43, s44, s45, s46, s47, s48, s49, s50, s51, s52, s53, s54, s55, s56, s57, s58, s59, s60, s61, s62, s63, s64, s65, s66, s67, s68, s69, s70, s71, s72, s73, s74, s75, s76, s77, s78, s79, s80, s81, s82, s83, s84, s85, s86, s87, s88], []⟩ wx := by
  have hn := (checkErr_parts hc).1.n
  have HC := Lib.hid hc
  have HOF := Lib.hid (show ofErr h rows cols = firstOf (listErr h.node.length rows 0) (listErr h.node.length cols rows.length) by unfold ofErr; rw [if_neg (fun e => e hc), if_neg hlim])
  have SEE := Lib.hid see
  have SR := Lib.hid sr
  have SC := Lib.hid sc
  have HW := Lib.hid hw
  have HX := Lib.hid hx
  have HB := Lib.hid hb
  clear see sr sc hw hx hb
  have RK := Lib.hid hrk
  clear hrk
  clear hc hlim
  conv => arg 2; whnf
  apply wp_seq_k
  intro KK hK
  have HKK := Lib.hid hK
  clear hK
  go_wp2_with fail
  refine (tcheck_any rows ra rc h.node.length 0 _ (SR.out.below HB.out) (by omega) (by omega) HW.out.1).mono ?_
  rintro e w1 ⟨v, rfl, hv, hb1⟩
  have HX1 := Lib.hid (HX.out.below hb1 HX.out.lt)
  have HB1 := Lib.hid (HB.out.trans (hb1.mono HB.out.size))
  have RK1 := Lib.hid (RK.out.below hb1 RK.out.lt)
  have HV := Lib.hid hv
  clear hv hb1 HX HB RK
  go_wp2_with fail
  refine (tcheck_any cols ca cc h.node.length rows.length _ (SC.out.below HB1.out) (by omega) (by omega) HW.out.2).mono ?_
  rintro e w2 ⟨u, rfl, hu, hb2⟩
  have ho := (Below.refl w2.heap.size w2).alloc (Nat.le_refl _) (.cells #[v, u] 34)
  have hb2' := hb2.trans (ho.mono hb2.size)
  have HX2 := Lib.hid (HX1.out.below hb2' HX1.out.lt)
  have HB2 := Lib.hid (HB1.out.trans (hb2'.mono HB1.out.size))
  have RK2 := Lib.hid (RK1.out.below hb2' RK1.out.lt)
  have HV2 := Lib.hid (HV.out.below hb2')
  have HU2 := Lib.hid (hu.below ho)
  have HC0 := Lib.hid ((Cells.new w2 34 [v, u]).cell (i := 0) rfl)
  have HC1 := Lib.hid ((Cells.new w2 34 [v, u]).cell (i := 1) rfl)
  have HSV := Lib.hid HV.out.shape
  have HSU := Lib.hid hu.shape
  clear hu hb2 ho hb2' HX1 HB1 RK1 HV
  rcases HSV.out with hsv | ⟨t3, v3, hsv⟩ <;> rcases HSU.out with hsu | ⟨t4, v4, hsu⟩
  all_goals
    subst hsv
    subst hsu
    clear HSV HSU
    go_wp2_with fail
    refine (first_any _ _ (listErr h.node.length rows 0) (listErr h.node.length cols rows.length) w2.heap.size 2 _ HV2.out HU2.out HC0.out HC1.out).mono ?_
    rintro e w3 ⟨z, rfl, hz, rfl⟩
    have HZ := Lib.hid hz
    clear hz HV2 HU2 HC0 HC1
    by_cases hf : firstOf (listErr h.node.length rows 0) (listErr h.node.length cols rows.length) = .nil
    · obtain rfl := HZ.out.nilv hf
      have HOK := Lib.hid (HOF.out.trans hf)
      clear hf
      go_wp2_with fail
      refine HKK.out _ _ ?_
      change Code.wp _ (tailAt 5 ofBody) _ _ _
      exact of_bucks SEE.out SR.out SC.out hlr hlc HW.out HX2.out HB2.out HOK.out RK2.out
    · obtain ⟨t1, v1, rfl⟩ := HZ.out.iface hf
      have HF := Lib.hid hf
      clear hf
      go_wp2
      go_returns
      exact ⟨_, _, rfl, by rw [HOF.out]; exact HZ.out, HB2.out, fun _ => rfl, fun e => absurd (HOF.out.symm.trans e) HF.out⟩
set_option linter.unusedSimpArgs false in
set_option maxRecDepth 100000 in
set_option maxHeartbeats 8000000 in
theorem of_lim {s0 s4 s5 s6 s7 s9 s10 s11 s12 s13 s14 s15 s16 s17 s18 s19 s20 s21 s22 s23 s24 s25 s26 s27 s28 s29 s30 s31 s32 s33 s34 s35 s36 s37 s38 s39 s40 s41 s42 s43 s44 s45 s46 s47 s48 s49 s50 s51 s52 s53 s54 s55 s56 s57 s58 s59 s60 s61 s62 s63 s64 s65 s66 s67 s68 s69 s70 s71 s72 s73 s74 s75 s76 s77 s78 s79 s80 s81 s82 s83 s84 s85 s86 s87 s88 : Value} {A : HA} {h : HierD} {rows cols : List Int} {ra ca : Option Addr} {rc cc : Nat} {w wx : World} {rk : Nat} (see : HSee w A h) (sr : See w ra rc memInt 1 rows) (sc : See w ca cc memInt 1 cols) (hlr : rows.length ≤ 1048576) (hlc : cols.length ≤ 1048576) (hw : WfList rows ∧ WfList cols) (hx : Cells wx w.heap.size 25 (hierCells A h)) (hb : Below w.heap.size w wx) (hc : checkErr h = .nil) (hrk : Cells wx rk 3 (rankCells h.node)) : Code.wp Tryd.prog (tailAt 3 ofBody) (bodyPost Tryd.prog Tryd.f37 (OfNew h rows cols w)) ⟨#[s0, .slice ra rows.length rc, .slice ca cols.length cc, .pointer (some ⟨w.heap.size, 0, none⟩), s4, s5, s6, s7, .slice (some ⟨rk, 0, none⟩) h.node.length h.node.length, s9, s10, s11, s12, s13, s14, s15, s16, s17, s18, s19, s20, s21, s22, s23, s24, s25, s26, s27, s28, s29, s30, s31, s32, s33, s34, s35, s36, s37, s38, s39, s40, s41, s42, s43, s44, s45, s46, s47, s48, s49, s50, s51, s52, s53, s54, s55, s56, s57, s58, s59, s60, s61, s62, s63, s64, s65, s66, s67, s68, s69, s70, s71, s72, s73, s74, s75, s76, s77, s78, s79, s80, s81, s82, s83, s84, s85, s86, s87, s88], []⟩ wx := by
  have HC := Lib.hid hc
  have SEE := Lib.hid see
  have SR := Lib.hid sr
  have SC := Lib.hid sc
  have HW := Lib.hid hw
  have HX := Lib.hid hx
  have HB := Lib.hid hb
  clear see sr sc hw hx hb
  have RK := Lib.hid hrk
  clear hrk
  clear hc
  conv => arg 2; whnf
  apply wp_seq_k
  intro KK hK
  have HKK := Lib.hid hK
  clear hK
  by_cases h0 : 0 < rows.length
  · have t0 : decide (0 < rows.length) = true := by simpa using h0
    have hdiv : (1048576 : Int) / (rows.length : Int) = ((1048576 / rows.length : Nat) : Int) := by rw [Int.natCast_ediv]; rfl
    by_cases hq : 1048576 / rows.length < cols.length
    · have t1 : decide ((1048576 : Int) / (rows.length : Int) < (cols.length : Int)) = true := by rw [hdiv]; simp only [decide_eq_true_eq]; omega
      have HE := Lib.hid (show ofErr h rows cols = .code 9 by unfold ofErr; rw [if_neg (fun e => e HC.out), if_pos ⟨h0, hq⟩])
      clear hq hdiv
      go_wp2
      go_returns
      exact ⟨_, _, rfl, by rw [HE.out]; rfl, HB.out, fun _ => rfl, fun e => (by rw [HE.out] at e; cases e)⟩
    · have t1 : decide ((1048576 : Int) / (rows.length : Int) < (cols.length : Int)) = false := by rw [hdiv]; simp only [decide_eq_false_iff_not]; omega
      have HL := Lib.hid (show ¬ (0 < rows.length ∧ 1048576 / rows.length < cols.length) from fun e => hq e.2)
      clear hq hdiv
      go_wp2_with fail
      refine HKK.out _ _ ?_
      change Code.wp _ (tailAt 4 ofBody) _ _ _
      exact of_first SEE.out SR.out SC.out hlr hlc HW.out HX.out HB.out HC.out HL.out RK.out
  · have t0 : decide (0 < rows.length) = false := by simpa using h0
    have HL := Lib.hid (show ¬ (0 < rows.length ∧ 1048576 / rows.length < cols.length) from fun e => h0 e.1)
    clear h0
    go_wp2_with fail
    refine HKK.out _ _ ?_
    change Code.wp _ (tailAt 4 ofBody) _ _ _
    exact of_first SEE.out SR.out SC.out hlr hlc HW.out HX.out HB.out HC.out HL.out RK.out

set_option linter.unusedSimpArgs false in
set_option maxRecDepth 100000 in
set_option maxHeartbeats 8000000 in
theorem of_ranks {s0 s4 s5 s6 s7 s8 s9 s10 s11 s12 s13 s14 s15 s16 s17 s18 s19 s20 s21 s22 s23 s24 s25 s26 s27 s28 s29 s30 s31 s32 s33 s34 s35 s36 s37 s38 s39 s40 s41 s42 s43 s44 s45 s46 s47 s48 s49 s50 s51 s52 s53 s54 s55 s56 s57 s58 s59 s60 s61 s62 s63 s64 s65 s66 s67 s68 s69 s70 s71 s72 s73 s74 s75 s76 s77 s78 s79 s80 s81 s82 s83 s84 s85 s86 s87 s88 : Value} {A : HA} {h : HierD} {rows cols : List Int} {ra ca : Option Addr} {rc cc : Nat} {w wx : World} (see : HSee w A h) (sr : See w ra rc memInt 1 rows) (sc : See w ca cc memInt 1 cols) (hlr : rows.length ≤ 1048576) (hlc : cols.length ≤ 1048576) (hw : WfList rows ∧ WfList cols) (hx : Cells wx w.heap.size 25 (hierCells A h)) (hb : Below w.heap.size w wx) : Code.wp Tryd.prog (tailAt 1 ofBody) (bodyPost Tryd.prog Tryd.f37 (OfNew h rows cols w)) ⟨#[s0, .slice ra rows.length rc, .slice ca cols.length cc, .pointer (some ⟨w.heap.size, 0, none⟩), s4, s5, s6, s7, s8, s9, s10, s11, s12, s13, s14, s15, s16, s17, s18, s19, s20, s21, s22, s23, s24, s25, s26, s27, s28, s29, s30, s31, s32, s33, s34, s35, s36, s37, s38, s39, s40, s41, s42, s43, s44, s45, s46, s47, s48, s49, s50, s51, s52, s53, s54, s55, s56, s57, s58, s59, s60, s61, s62, s63, s64, s65, s66, s67, s68, s69, s70, s71, s72, s73, s74, s75, s76, s77, s78, s79, s80, s81, s82, s83, s84, s85, s86, s87, s88], []⟩ wx := by
  have SEE := Lib.hid see
  have SR := Lib.hid sr
  have SC := Lib.hid sc
  have HW := Lib.hid hw
  have HX := Lib.hid hx
  have HB := Lib.hid hb
  clear see sr sc hw hx hb
  obtain ⟨k0, k1, k2, k3, k4⟩ := hier_five HX.out
  conv => arg 2; whnf
  apply wp_seq_k
  intro KK hK
  have HKK := Lib.hid hK
  clear hK
  go_wp2_with fail
  refine (ranks_lit A h _ (SEE.out.below HB.out)).mono ?_
  rintro e w1 (⟨v, rfl, hv, hne, hb1⟩ | ⟨rk, rfl, hc, -, hrk, hb1⟩)
  · have HV := Lib.hid hv
    have HNE := Lib.hid hne
    have HOF := Lib.hid (show ofErr h rows cols = checkErr h by unfold ofErr; rw [if_pos hne])
    have HB1 := Lib.hid (HB.out.trans (hb1.mono HB.out.size))
    obtain ⟨t1, v1, rfl⟩ := hv.iface hne
    clear hv hne hb1 HB HX k0 k1 k2 k3 k4
    go_wp2_with fail
    refine HKK.out _ _ ?_
    conv => arg 2; whnf
    go_wp2
    go_returns
    exact ⟨_, _, rfl, by rw [HOF.out]; exact HV.out, HB1.out, fun _ => rfl, fun e => absurd (HOF.out.symm.trans e) HNE.out⟩
  · have HC := Lib.hid hc
    have RK := Lib.hid hrk
    have HX1 := Lib.hid (HX.out.below hb1 HX.out.lt)
    have HB1 := Lib.hid (HB.out.trans (hb1.mono HB.out.size))
    clear hc hrk hb1 HB HX k0 k1 k2 k3 k4
    go_wp2_with fail
    refine HKK.out _ _ ?_
    clear HKK KK
    conv => arg 2; whnf
    apply wp_seq_k
    intro K2 hK
    have HK2 := Lib.hid hK
    clear hK
    go_wp2_with fail
    refine HK2.out _ _ ?_
    change Code.wp _ (tailAt 3 ofBody) _ _ _
    exact of_lim SEE.out SR.out SC.out hlr hlc HW.out HX1.out HB1.out HC.out RK.out
set_option linter.unusedSimpArgs false in
set_option maxRecDepth 100000 in
set_option maxHeartbeats 8000000 in
/-- **table.Of.** -/
theorem of_any (A : HA) (h : HierD) (rows cols : List Int) (ra ca : Option Addr) (rc cc : Nat) (w : World) (see : HSee w A h) (sr : See w ra rc memInt 1 rows) (sc : See w ca cc memInt 1 cols) (hlr : rows.length ≤ 1048576) (hlc : cols.length ≤ 1048576) (hw : WfList rows ∧ WfList cols) :
    Calls Tryd.prog 37 #[hierVal A h, .slice ra rows.length rc, .slice ca cols.length cc] w (OfNew h rows cols w) := by
  have SEE := Lib.hid see
  have SR := Lib.hid sr
  have SC := Lib.hid sc
  have HW := Lib.hid hw
  clear see sr sc hw
  unfold hierVal
  go_enter Tryd.func37, Tryd.ntmps37
  apply wp_seq_k
  intro K1 hK
  have HK1 := Lib.hid hK
  clear hK
  go_wp2_with fail
  refine HK1.out _ _ ?_
  change Code.wp _ (tailAt 1 ofBody) _ _ _
  exact of_ranks SEE.out SR.out SC.out hlr hlc HW.out (Cells.new w 25 (hierCells A h)) ((Below.refl w.heap.size w).alloc (Nat.le_refl _) _)
end Go.Proofs.YtjbphoophgbmiaaDoor
