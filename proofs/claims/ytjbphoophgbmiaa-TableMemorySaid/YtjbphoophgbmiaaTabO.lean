/- table.Of. -/
import Derived.Test.YtjbphoophgbmiaaTabR
namespace Go.Proofs.Ytjbphoophgbmiaa
open Go.ChangeShapes Go.WideShapes Go.ChangeAt Go.RowKit Go.Joins Go.Deep

noncomputable def ofBody : Code := Try.f15.body.getD .skip
theorem ErrIs.shape {w : World} {v : Value} {x : EV} (h : ErrIs w v x) : v = .nilIface ∨ ∃ t u, v = .iface t u := by
  by_cases e : x = .nil
  · exact .inl (h.nilv e)
  · exact .inr (h.iface e)
def WfList (l : List Int) : Prop := ∀ x ∈ l, x ≤ 9223372036854775807
/-- The distance between two nodes, or what stands for none. -/
def tabD (h : HierD) (s t : Int) : Int := (meetTo (distsK h.upF h.up (h.node.idxOf s.toNat) h.node.length) (distsK h.dnF h.dn (h.node.idxOf t.toNat) h.node.length) h.node.length).2
/-- A table as it lies in memory: a list of rows, each in a block of its own. -/
structure TabRep (n k : Nat) (X : Nat → Nat → Int) (base : Nat) (m : Value) (rb : Nat → Nat) (w : World) : Prop where
  own : w.ownsRow 0 48 1 m n ((List.range n).map fun i => .slice (some ⟨rb i, 0, none⟩) k k)
  r : ∀ i, i < n → Cells w (rb i) 33 (rowCells k (X i))
  lo : ∀ i, i < n → base ≤ rb i
  bo : ∀ q, m.ownBlock = some q → base ≤ q
  ne : ∀ i, i < n → m.ownBlock ≠ some (rb i)
  inj : ∀ i j, i < n → j < n → rb i = rb j → i = j
theorem TabRep.below {n k : Nat} {X : Nat → Nat → Int} {base : Nat} {m : Value} {rb : Nat → Nat} {w w' : World} (t : TabRep n k X base m rb w) (o : Below w.heap.size w w') : TabRep n k X base m rb w' :=
  ⟨own_kept (bs := []) t.own (Only.of_below o) (fun _ _ => by simp), fun i hi => (t.r i hi).below o (t.r i hi).lt, t.lo, t.bo, t.ne, t.inj⟩
theorem TabRep.mono {n k : Nat} {X : Nat → Nat → Int} {base base' : Nat} {m : Value} {rb : Nat → Nat} {w : World} (t : TabRep n k X base m rb w) (h : base' ≤ base) : TabRep n k X base' m rb w :=
  ⟨t.own, t.r, fun i hi => Nat.le_trans h (t.lo i hi), fun q hq => Nat.le_trans h (t.bo q hq), t.ne, t.inj⟩
/-- A row is laid behind the others. -/
theorem TabRep.app {n k : Nat} {X : Nat → Nat → Int} {base mc b : Nat} {mo : Option Addr} {rb : Nat → Nat} {w w' : World} (t : TabRep n k X base (.slice mo n mc) rb w) (hr : Cells w b 33 (rowCells k (X n))) (hb : base ≤ b) (hnew : ∀ p, p < n → rb p ≠ b) (hne : (Value.slice mo n mc).ownBlock ≠ some b)
    {ao : Option Addr} {cap : Nat} (hown : w'.ownsRow 0 48 1 (.slice ao (n + 1) cap) (n + 1) (((List.range n).map fun i => Value.slice (some ⟨rb i, 0, none⟩) k k) ++ [.slice (some ⟨b, 0, none⟩) k k])) (ho : Only (Value.slice mo n mc).ownBlock.toList w w')
    (hk : ∀ q, (Value.slice ao (n + 1) cap).ownBlock = some q → (Value.slice mo n mc).ownBlock = some q ∨ w.heap.size ≤ q) (hbase : base ≤ w.heap.size) : TabRep (n + 1) k X base (.slice ao (n + 1) cap) (fun p => if p = n then b else rb p) w' := by
  have hb1 := hr.lt
  refine ⟨?_, fun p hp => ?_, fun p hp => ?_, fun q hq => ?_, fun p hp => ?_, fun p q hp hq e => ?_⟩
  · have e : (List.range (n + 1)).map (fun i => Value.slice (some ⟨if i = n then b else rb i, 0, none⟩) k k) = ((List.range n).map fun i => Value.slice (some ⟨rb i, 0, none⟩) k k) ++ [.slice (some ⟨b, 0, none⟩) k k] := by
      rw [List.range_succ, List.map_append]
      congr 1
      · refine List.map_congr_left fun i hi => ?_
        have := List.mem_range.1 hi
        rw [if_neg (by omega)]
      · simp
    rw [e]
    exact hown
  · by_cases c : p = n
    · subst c
      rw [if_pos rfl]
      exact hr.kept ho (by simpa using fun e => hne e)
    · rw [if_neg c]
      exact (t.r p (by omega)).kept ho (by simpa using fun e => t.ne p (by omega) e)
  · by_cases c : p = n
    · rw [if_pos c]; exact hb
    · rw [if_neg c]; exact t.lo p (by omega)
  · rcases hk q hq with c | c
    · exact t.bo q c
    · exact Nat.le_trans hbase c
  · intro e
    rcases hk _ e with c | c
    · by_cases c2 : p = n
      · rw [if_pos c2] at c; exact hne c
      · rw [if_neg c2] at c; exact t.ne p (by omega) c
    · by_cases c2 : p = n
      · rw [if_pos c2] at c; omega
      · rw [if_neg c2] at c
        have := (t.r p (by omega)).lt
        omega
  · by_cases c : p = n <;> by_cases c2 : q = n
    · omega
    · rw [if_pos c, if_neg c2] at e
      exact absurd e.symm (hnew q (by omega))
    · rw [if_neg c, if_pos c2] at e
      exact absurd e (hnew p (by omega))
    · rw [if_neg c, if_neg c2] at e
      exact t.inj p q (by omega) (by omega) e
def ofErr (h : HierD) (rows cols : List Int) : EV := if checkErr h ≠ .nil then checkErr h else if 0 < rows.length ∧ 1048576 / rows.length < cols.length then .code 9 else firstOf (listErr h.node.length rows 0) (listErr h.node.length cols rows.length)
def OfNew (h : HierD) (rows cols : List Int) (w : World) (e : Ending) (w' : World) : Prop := ∃ m v, e = .returned (.tuple #[m, v]) ∧ ErrIs w' v (ofErr h rows cols) ∧ Below w.heap.size w w' ∧ (ofErr h rows cols ≠ .nil → m = .slice none 0 0) ∧
  (ofErr h rows cols = .nil → ∃ rb, TabRep rows.length cols.length (fun i j => tabD h (rows.getD i 0) (cols.getD j 0)) w.heap.size m rb w')
theorem firstOf_nil {x y : EV} (e : firstOf x y = .nil) : x = .nil ∧ y = .nil := by
  unfold firstOf at e
  split at e
  · exact ⟨by assumption, e⟩
  · rename_i c; exact absurd e c
theorem tab_cell {h : HierD} {s t : Int} {D E : Nat → Option Int} (hc : checkErr h = .nil) (hs : 0 ≤ s ∧ s < h.node.length) (ht : 0 ≤ t ∧ t < h.node.length) (hD : IsD h.node.length h.upF h.up (h.node.idxOf s.toNat) D) (hE : IsD h.node.length h.dnF h.dn (h.node.idxOf t.toNat) E) : (meetTo D E h.node.length).2 = tabD h s t := by
  obtain ⟨f, -, -, ho, -⟩ := checkErr_parts hc
  have ok := order_nil ho
  have i1 : h.node.idxOf s.toNat < h.node.length := List.idxOf_lt_length_iff.2 (ok.mem _ (by omega))
  have i2 : h.node.idxOf t.toNat < h.node.length := List.idxOf_lt_length_iff.2 (ok.mem _ (by omega))
  unfold tabD
  rw [meetTo_congr (hD.unique (half_up hc) (dists_isD (half_up hc) i1)) (hE.unique (half_dn hc) (dists_isD (half_dn hc) i2))]
theorem row_lit (A : HA) (h : HierD) (s k bm base : Nat) (E : Nat → Nat → Option Int) (g : Nat → Option Value) (w : World) (see : HSee w A h) (hc : checkErr h = .nil) (hs : s < h.node.length) (hk : k ≤ 1048576) (hm : BRep base h.node.length [] (colTo E k) bm g w) (hE : ColOk h.node.length k E) :
    Calls Try.prog 35 #[.agg #[.slice A.a0 h.node.length A.c0, .slice A.a1 h.upF.length A.c1, .slice A.a2 h.up.length A.c2, .slice A.a3 h.dnF.length A.c3, .slice A.a4 h.dn.length A.c4], .int .i64 (s : Nat), .int .i64 (k : Nat), .map (some bm)] w (RowNew h s k E w) := row_any A h s k bm base E g w see hc hs hk hm hE
theorem buckets_lit (A : HA) (h : HierD) (cols : List Int) (ca : Option Addr) (cc rb : Nat) (w : World) (see : HSee w A h) (hc : checkErr h = .nil) (hrk : Cells w rb 3 (rankCells h.node)) (sc : See w ca cc memInt 1 cols) (hl : cols.length ≤ 1048576) (hv : ∀ v ∈ cols, 0 ≤ v ∧ v < h.node.length) :
    Calls Try.prog 34 #[.agg #[.slice A.a0 h.node.length A.c0, .slice A.a1 h.upF.length A.c1, .slice A.a2 h.up.length A.c2, .slice A.a3 h.dnF.length A.c3, .slice A.a4 h.dn.length A.c4], .slice (some ⟨rb, 0, none⟩) h.node.length h.node.length, .slice ca cols.length cc] w (BuckNew h cols w) := buckets_any A h cols ca cc rb w see hc hrk sc hl hv
theorem ranks_lit (A : HA) (h : HierD) (w : World) (see : HSee w A h) : Calls Try.prog 31 #[.agg #[.slice A.a0 h.node.length A.c0, .slice A.a1 h.upF.length A.c1, .slice A.a2 h.up.length A.c2, .slice A.a3 h.dnF.length A.c3, .slice A.a4 h.dn.length A.c4]] w (RanksPost h w) := ranks_any A h w see
theorem of_parts {h : HierD} {rows cols : List Int} (e : ofErr h rows cols = .nil) : checkErr h = .nil ∧ (∀ v ∈ rows, 0 ≤ v ∧ v < h.node.length) ∧ ∀ v ∈ cols, 0 ≤ v ∧ v < h.node.length := by
  unfold ofErr at e
  split at e
  · rename_i c; exact absurd e c
  · rename_i c
    split at e
    · cases e
    · obtain ⟨e1, e2⟩ := firstOf_nil e
      exact ⟨by simpa using c, listErr_nil e1, listErr_nil e2⟩
set_option linter.unusedSimpArgs false in
set_option maxRecDepth 100000 in
set_option maxHeartbeats 8000000 in
theorem of_loop {s0 s4 s5 s6 s7 s9 s10 s13 s14 s15 s16 s17 s18 s19 s20 s21 s22 s23 s24 s25 s26 s27 s28 s29 s30 s31 s32 s33 s34 s35 s36 s37 s38 s39 s40 s41 s42 s43 s44 s45 s46 s47 s48 s49 s50 s51 s52 s53 s54 s55 s56 s57 s58 s59 s60 s61 s62 s63 s64 s65 s66 s67 s68 s69 s70 s71 s72 s73 s74 s75 s76 s77 s78 s79 s80 s81 s82 s83 s84 s85 s86 s87 s88 : Value} {A : HA} {h : HierD} {rows cols : List Int} {ra ca : Option Addr} {rc cc : Nat} {w wx : World} {rk bm base : Nat} {E : Nat → Nat → Option Int} {g : Nat → Option Value} (see : HSee w A h) (sr : See w ra rc memInt 1 rows) (sc : See w ca cc memInt 1 cols) (hlr : rows.length ≤ 1048576) (hlc : cols.length ≤ 1048576) (hw : WfList rows ∧ WfList cols) (hx : Cells wx w.heap.size 25 (hierCells A h)) (hb : Below w.heap.size w wx) (hok : ofErr h rows cols = .nil) (hrk : Cells wx rk 3 (rankCells h.node)) (hE : ∀ j v, cols[j]? = some v → IsD h.node.length h.dnF h.dn (h.node.idxOf v.toNat) (E j)) (hm : BRep base h.node.length [] (colTo E cols.length) bm g wx) : Code.wp Try.prog (tailAt 8 ofBody) (bodyPost Try.prog Try.f15 (OfNew h rows cols w)) ⟨#[s0, .slice ra rows.length rc, .slice ca cols.length cc, .pointer (some ⟨w.heap.size, 0, none⟩), s4, s5, s6, s7, .slice (some ⟨rk, 0, none⟩) h.node.length h.node.length, s9, s10, .map (some bm), .slice none 0 0, s13, s14, s15, s16, s17, s18, s19, s20, s21, s22, s23, s24, s25, s26, s27, s28, s29, s30, s31, s32, s33, s34, s35, s36, s37, s38, s39, s40, s41, s42, s43, s44, s45, s46, s47, s48, s49, s50, s51, s52, s53, s54, s55, s56, s57, s58, s59, s60, s61, s62, s63, s64, s65, s66, s67, s68, s69, s70, s71, s72, s73, s74, s75, s76, s77, s78, s79, s80, s81, s82, s83, s84, s85, s86, s87, s88], []⟩ wx := by
  obtain ⟨hc, hrv, hcv⟩ := of_parts hok
  have hp := checkErr_parts hc
  have hn := hp.1.n
  have ORD := Lib.hid (order_nil hp.2.2.2.1)
  have HC := Lib.hid hc
  have HOK := Lib.hid hok
  have HRV := Lib.hid hrv
  have HCV := Lib.hid hcv
  have HE := Lib.hid hE
  have HCOL := Lib.hid (show ColOk h.node.length cols.length E from fun c r d hcl hr hd => by
    obtain ⟨v, hv⟩ : ∃ v, cols[c]? = some v := ⟨_, List.getElem?_eq_getElem hcl⟩
    exact (hE c v hv).small (half_dn hc) hn hr hd)
  have SEE := Lib.hid see
  have SR := Lib.hid sr
  have SC := Lib.hid sc
  have HW := Lib.hid hw
  have HX := Lib.hid hx
  have HB := Lib.hid hb
  clear see sr sc hw hx hb
  have RK0 := Lib.hid hrk
  have HM0 := Lib.hid hm
  have HB0 := Lib.hid HB.out
  clear hp hc hok hrv hcv hE hrk hm
  conv => arg 2; whnf
  apply wp_seq_k
  intro KK hK
  have HKK := Lib.hid hK
  clear hK
  go_wp2_with fail
  go_loopg [64, 12] rows.length (fun gg vi vm wr => ∃ (i : Nat) (mo : Option Addr) (mc : Nat) (rb : Nat → Nat), vi = .int .i64 (i : Int) ∧ i ≤ rows.length ∧ gg = rows.length - i ∧ vm = .slice mo i mc ∧ TabRep i cols.length (fun i j => tabD h (rows.getD i 0) (cols.getD j 0)) wx.heap.size (.slice mo i mc) rb wr ∧ Below wx.heap.size wx wr)
  case atStart => exact ⟨0, none, 0, fun _ => 0, rfl, Nat.zero_le _, rfl, rfl, ⟨World.ownsRow_nil _ _ _ _, fun i hi => absurd hi (by omega), fun i hi => absurd hi (by omega), fun q hq => by simp [Value.ownBlock] at hq, fun i hi => absurd hi (by omega), fun i j hi => absurd hi (by omega)⟩, Below.refl _ _⟩
  case round =>
    obtain ⟨i, mo, mc, rb, rfl, hi, hgi, rfl, ht, hb⟩ := hrel
    obtain ⟨wo, rfl⟩ : ∃ wo : World, wo = wr := ⟨_, rfl⟩
    have HGI := Lib.hid hgi
    have HT := Lib.hid ht
    have HBL := Lib.hid hb
    have HM := Lib.hid (HM0.out.below hb)
    have RK := Lib.hid (RK0.out.below hb RK0.out.lt)
    have HX2 := Lib.hid (HX.out.below hb HX.out.lt)
    have HB2 := Lib.hid (HB0.out.trans (hb.mono HB0.out.size))
    clear hgi ht hb
    by_cases hil : i < rows.length
    · obtain ⟨v, hv⟩ : ∃ v, rows[i]? = some v := ⟨_, List.getElem?_eq_getElem hil⟩
      obtain ⟨hv0, hvn⟩ := HRV.out v (List.mem_of_getElem? hv)
      obtain ⟨x, rfl⟩ : ∃ x : Nat, v = x := ⟨v.toNat, by omega⟩
      have hgd : rows.getD i 0 = (x : Int) := by rw [List.getD_eq_getElem?_getD, hv]; rfl
      have HGD := Lib.hid hgd
      obtain ⟨b1, o1, ea1, cc1⟩ := (SR.out.below HB2.out).cell i _ hv
      have e0 := cc1 0 _ rfl
      rw [Nat.add_zero, Nat.mul_one] at e0
      have EA := Lib.hid ea1
      have hxn : x < h.node.length := by omega
      have hix : h.node.idxOf x < h.node.length := List.idxOf_lt_length_of_mem (ORD.out.mem x hxn)
      have k5 : wo.cell? ⟨rk, x, none⟩ = some (.int .i64 (h.node.idxOf x : Int)) := RK.out.cell (by simp [rankCells, hxn])
      obtain ⟨k0, k1, k2, k3, k4⟩ := hier_five HX2.out
      clear cc1 ea1 hv hgd
      rw [EA.out]
      go_upto_region 16 with fail
      clear e0
      go_region_held3 (fun W => W.cell? ⟨w.heap.size, 0, none⟩ = some (.slice A.a0 h.node.length A.c0) ∧ W.cell? ⟨w.heap.size, 1, none⟩ = some (.slice A.a1 h.upF.length A.c1) ∧ W.cell? ⟨w.heap.size, 2, none⟩ = some (.slice A.a2 h.up.length A.c2) ∧ W.cell? ⟨w.heap.size, 3, none⟩ = some (.slice A.a3 h.dnF.length A.c3) ∧ W.cell? ⟨w.heap.size, 4, none⟩ = some (.slice A.a4 h.dn.length A.c4) ∧ W.cell? ⟨rk, x, none⟩ = some (.int .i64 (h.node.idxOf x : Int))) (go_keep)
        (first | (go_at_call 35; refine (row_lit A h (h.node.idxOf x) cols.length bm base E g _ ((SEE.out.below HB2.out).below (Below.refl _ _).drew) HC.out hix hlc (HM.out.below (Below.refl _ _).drew) HCOL.out).mono ?_; rintro e w2 ⟨b, D, rfl, hD, hr, hlo, hb2⟩; (have j0 := ck hb2 k0); (have j1 := ck hb2 k1); (have j2 := ck hb2 k2); (have j3 := ck hb2 k3); (have j4 := ck hb2 k4); (have j5 := ck hb2 k5)))
      have hB2 : Below wo.heap.size wo w2 := (Below.refl wo.heap.size wo).drew.trans hb2
      have hlo2 : wo.heap.size ≤ b := hlo
      have hR : Cells w2 b 33 (rowCells cols.length (fun j => tabD h (rows.getD i 0) (cols.getD j 0))) := by
        rw [rowCells_congr (g := fun c => cellTo D E h.node.length c) (fun c hcl => by
          obtain ⟨u, hu⟩ : ∃ u, cols[c]? = some u := ⟨_, List.getElem?_eq_getElem hcl⟩
          have hgu : cols.getD c 0 = u := by rw [List.getD_eq_getElem?_getD, hu]; rfl
          rw [HGD.out, hgu]
          exact (tab_cell HC.out ⟨hv0, hvn⟩ (HCV.out u (List.mem_of_getElem? hu)) (by rw [Int.toNat_natCast]; exact hD) (HE.out c u hu)).symm)]
        exact hr
      have HR := Lib.hid hR
      have HT2 := Lib.hid (HT.out.below hB2)
      have HBL2 := Lib.hid (HBL.out.trans (hB2.mono HBL.out.size))
      have HLO := Lib.hid hlo2
      have HOLD := Lib.hid (fun (p : Nat) (hp : p < i) => (HT.out.r p hp).lt)
      have HOL := Lib.hid (fun q (hq : (Value.slice mo i mc).ownBlock = some q) => ownRow_lt HT.out.own hq)
      have HBW := Lib.hid (show wx.heap.size ≤ b from Nat.le_trans HBL.out.size hlo2)
      clear hB2 hD hr hlo hlo2 hb2 hR j0 j1 j2 j3 j4 j5 k0 k1 k2 k3 k4 k5 HT HM RK HX2 HB2 HBL
      have how := HT2.out.own
      go_wp2_with (at_builtin; refine wpList_app _ rfl _ _ 43 rfl 48 (.slice none 0 0) 1 24 Try.underlying43 Try.infoRow rfl (by decide) (.slice mo i mc) i ((List.range i).map fun i => .slice (some ⟨rb i, 0, none⟩) cols.length cols.length) rfl ?own ⟨w2.heap.size, 0, none⟩ 1 1 [.slice (some ⟨b, 0, none⟩) cols.length cols.length] rfl rfl ?c1 ?c2 ?c3 ?c4 ?_)
      case own => exact own_kept (bs := []) how ((Only.refl _ _).alloc _) (fun q _ => by simp)
      case c1 => exact cells_new w2 48 [.slice (some ⟨b, 0, none⟩) cols.length cols.length]
      case c2 => intro u hu; simp at hu; rcases hu with rfl; rfl
      case c3 => unfold maxLen; omega
      case c4 => omega
      intro ao5 cap5 w5 hown5 ho5 hk5
      have hall : Only (Value.slice mo i mc).ownBlock.toList w2 w5 := ((Only.refl _ _).alloc _).trans ho5 (fun x hx => .inl hx)
      have hlow := HLO.out
      have HTN := Lib.hid (HT2.out.app HR.out HBW.out (fun p hp => by have := HOLD.out p hp; omega) (fun e => by have := HOL.out _ e; omega) hown5 hall (fun q hq => (hk5 q hq).imp id (fun h => Nat.le_trans (by simp) h)) HBL2.out.size)
      have HBN := Lib.hid (HBL2.out.trans (hall.below HBL2.out.size (fun q hq => HT2.out.bo q (by simpa using hq))))
      clear hown5 ho5 hk5 hall hlow how
      go_wp2_with fail
      rw [← EA.out]
      go_roundg (rows.length - (i + 1))
      case measure => rw [HGI.out]; omega
      case rel => exact ⟨i + 1, ao5, cap5, _, by go_num, by omega, rfl, rfl, HTN.out, HBN.out⟩
    · obtain rfl : i = rows.length := by omega
      go_wp2_with fail
      refine HKK.out _ _ ?_
      conv => arg 2; whnf
      go_wp2
      go_returns
      exact ⟨_, _, rfl, by rw [HOK.out]; rfl, HB2.out, fun e => absurd HOK.out e, fun _ => ⟨rb, HT.out.mono HB0.out.size⟩⟩

set_option linter.unusedSimpArgs false in
set_option maxRecDepth 100000 in
set_option maxHeartbeats 8000000 in
theorem of_bucks {s0 s4 s5 s6 s7 s9 s10 s11 s12 s13 s14 s15 s16 s17 s18 s19 s20 s21 s22 s23 s24 s25 s26 s27 s28 s29 s30 s31 s32 s33 s34 s35 s36 s37 s38 s39 s40 s41 s42 s43 s44 s45 s46 s47 s48 s49 s50 s51 s52 s53 s54 s55 s56 s57 s58 s59 s60 s61 s62 s63 s64 s65 s66 s67 s68 s69 s70 s71 s72 s73 s74 s75 s76 s77 s78 s79 s80 s81 s82 s83 s84 s85 s86 s87 s88 : Value} {A : HA} {h : HierD} {rows cols : List Int} {ra ca : Option Addr} {rc cc : Nat} {w wx : World} {rk : Nat} (see : HSee w A h) (sr : See w ra rc memInt 1 rows) (sc : See w ca cc memInt 1 cols) (hlr : rows.length ≤ 1048576) (hlc : cols.length ≤ 1048576) (hw : WfList rows ∧ WfList cols) (hx : Cells wx w.heap.size 25 (hierCells A h)) (hb : Below w.heap.size w wx) (hok : ofErr h rows cols = .nil) (hrk : Cells wx rk 3 (rankCells h.node)) : Code.wp Try.prog (tailAt 5 ofBody) (bodyPost Try.prog Try.f15 (OfNew h rows cols w)) ⟨#[s0, .slice ra rows.length rc, .slice ca cols.length cc, .pointer (some ⟨w.heap.size, 0, none⟩), s4, s5, s6, s7, .slice (some ⟨rk, 0, none⟩) h.node.length h.node.length, s9, s10, s11, s12, s13, s14, s15, s16, s17, s18, s19, s20, s21, s22, s23, s24, s25, s26, s27, s28, s29, s30, s31, s32, s33, s34, s35, s36, s37, s38, s39, s40, s41, s42, s43, s44, s45, s46, s47, s48, s49, s50, s51, s52, s53, s54, s55, s56, s57, s58, s59, s60, s61, s62, s63, s64, s65, s66, s67, s68, s69, s70, s71, s72, s73, s74, s75, s76, s77, s78, s79, s80, s81, s82, s83, s84, s85, s86, s87, s88], []⟩ wx := by
  obtain ⟨hc, hrv, hcv⟩ := of_parts hok
  have HC := Lib.hid hc
  have HOK := Lib.hid hok
  have HCV := Lib.hid hcv
  have SEE := Lib.hid see
  have SR := Lib.hid sr
  have SC := Lib.hid sc
  have HW := Lib.hid hw
  have HX := Lib.hid hx
  have HB := Lib.hid hb
  clear see sr sc hw hx hb
  have RK := Lib.hid hrk
  clear hrk
  obtain ⟨k0, k1, k2, k3, k4⟩ := hier_five HX.out
  clear hc hok hrv hcv
  conv => arg 2; whnf
  apply wp_seq_k
  intro KK hK
  have HKK := Lib.hid hK
  clear hK
  go_wp2_with fail
  refine (buckets_lit A h cols ca cc rk _ (SEE.out.below HB.out) HC.out RK.out (SC.out.below HB.out) hlc HCV.out).mono ?_
  rintro e w1 ⟨bm, base, E, g, rfl, hE, hm, -, -, -, hb1⟩
  have HX1 := Lib.hid (HX.out.below hb1 HX.out.lt)
  have HB1 := Lib.hid (HB.out.trans (hb1.mono HB.out.size))
  have RK1 := Lib.hid (RK.out.below hb1 RK.out.lt)
  have HE := Lib.hid hE
  have HM := Lib.hid hm
  clear hE hm hb1 HX HB RK k0 k1 k2 k3 k4
  go_wp2_with fail
  refine HKK.out _ _ ?_
  clear HKK KK
  conv => arg 2; whnf
  apply wp_seq_k
  intro K6 hK
  have HK6 := Lib.hid hK
  clear hK
  go_wp2_with fail
  refine HK6.out _ _ ?_
  clear HK6 K6
  conv => arg 2; whnf
  apply wp_seq_k
  intro K7 hK
  have HK7 := Lib.hid hK
  clear hK
  go_wp2_with fail
  refine HK7.out _ _ ?_
  change Code.wp _ (tailAt 8 ofBody) _ _ _
  exact of_loop SEE.out SR.out SC.out hlr hlc HW.out HX1.out HB1.out HOK.out RK1.out HE.out HM.out

set_option linter.unusedSimpArgs false in
set_option maxRecDepth 100000 in
set_option maxHeartbeats 8000000 in
theorem of_first {s0 s4 s5 s6 s7 s9 s10 s11 s12 s13 s14 s15 s16 s17 s18 s19 s20 s21 s22 s23 s24 s25 s26 s27 s28 s29 s30 s31 s32 s33 s34 s35 s36 s37 s38 s39 s40 s41 s42 s43 s44 s45 s46 s47 s48 s49 s50 s51 s52 s53 s54 s55 s56 s57 s58 s59 s60 s61 s62 s63 s64 s65 s66 s67 s68 s69 s70 s71 s72 s73 s74 s75 s76 s77 s78 s79 s80 s81 s82 s83 s84 s85 s86 s87 s88 : Value} {A : HA} {h : HierD} {rows cols : List Int} {ra ca : Option Addr} {rc cc : Nat} {w wx : World} {rk : Nat} (see : HSee w A h) (sr : See w ra rc memInt 1 rows) (sc : See w ca cc memInt 1 cols) (hlr : rows.length ≤ 1048576) (hlc : cols.length ≤ 1048576) (hw : WfList rows ∧ WfList cols) (hx : Cells wx w.heap.size 25 (hierCells A h)) (hb : Below w.heap.size w wx) (hc : checkErr h = .nil) (hlim : ¬ (0 < rows.length ∧ 1048576 / rows.length < cols.length)) (hrk : Cells wx rk 3 (rankCells h.node)) : Code.wp Try.prog (tailAt 4 ofBody) (bodyPost Try.prog Try.f15 (OfNew h rows cols w)) ⟨#[s0, .slice ra rows.length rc, .slice ca cols.length cc, .pointer (some ⟨w.heap.size, 0, none⟩), s4, s5, s6, s7, .slice (some ⟨rk, 0, none⟩) h.node.length h.node.length, s9, s10, s11, s12, s13, s14, s15, s16, s17, s18, s19, s20, s21, s22, s23, s24, s25, s26, s27, s28, s29, s30, s31, s32, s33, s34, s35, s36, s37, s38, s39, s40, s41, s42, s43, s44, s45, s46, s47, s48, s49, s50, s51, s52, s53, s54, s55, s56, s57, s58, s59, s60, s61, s62, s63, s64, s65, s66, s67, s68, s69, s70, s71, s72, s73, s74, s75, s76, s77, s78, s79, s80, s81, s82, s83, s84, s85, s86, s87, s88], []⟩ wx := by
  have hn := (checkErr_parts hc).1.n
  have HC := Lib.hid hc
  have HOF := Lib.hid (show ofErr h rows cols = firstOf (listErr h.node.length rows 0) (listErr h.node.length cols rows.length) by unfold ofErr; rw [if_neg (fun e => e hc), if_neg hlim])
  have SEE := Lib.hid see
  have SR := Lib.hid sr
  have SC := Lib.hid sc
  have HW := Lib.hid hw
  have HX := Lib.hid hx
  have HB := Lib.hid hb
  clear see sr sc hw hx hb
  have RK := Lib.hid hrk
  clear hrk
  clear hc hlim
  conv => arg 2; whnf
  apply wp_seq_k
  intro KK hK
  have HKK := Lib.hid hK
  clear hK
  go_wp2_with fail
  refine (tcheck_any rows ra rc h.node.length 0 _ (SR.out.below HB.out) (by omega) (by omega) HW.out.1).mono ?_
  rintro e w1 ⟨v, rfl, hv, hb1⟩
  have HX1 := Lib.hid (HX.out.below hb1 HX.out.lt)
  have HB1 := Lib.hid (HB.out.trans (hb1.mono HB.out.size))
  have RK1 := Lib.hid (RK.out.below hb1 RK.out.lt)
  have HV := Lib.hid hv
  clear hv hb1 HX HB RK
  go_wp2_with fail
  refine (tcheck_any cols ca cc h.node.length rows.length _ (SC.out.below HB1.out) (by omega) (by omega) HW.out.2).mono ?_
  rintro e w2 ⟨u, rfl, hu, hb2⟩
  have ho := (Below.refl w2.heap.size w2).alloc (Nat.le_refl _) (.cells #[v, u] 29)
  have hb2' := hb2.trans (ho.mono hb2.size)
  have HX2 := Lib.hid (HX1.out.below hb2' HX1.out.lt)
  have HB2 := Lib.hid (HB1.out.trans (hb2'.mono HB1.out.size))
  have RK2 := Lib.hid (RK1.out.below hb2' RK1.out.lt)
  have HV2 := Lib.hid (HV.out.below hb2')
  have HU2 := Lib.hid (hu.below ho)
  have HC0 := Lib.hid ((Cells.new w2 29 [v, u]).cell (i := 0) rfl)
  have HC1 := Lib.hid ((Cells.new w2 29 [v, u]).cell (i := 1) rfl)
  have HSV := Lib.hid HV.out.shape
  have HSU := Lib.hid hu.shape
  clear hu hb2 ho hb2' HX1 HB1 RK1 HV
  rcases HSV.out with hsv | ⟨t3, v3, hsv⟩ <;> rcases HSU.out with hsu | ⟨t4, v4, hsu⟩
  all_goals
    subst hsv
    subst hsu
    clear HSV HSU
    go_wp2_with fail
    refine (first_any _ _ (listErr h.node.length rows 0) (listErr h.node.length cols rows.length) w2.heap.size 2 _ HV2.out HU2.out HC0.out HC1.out).mono ?_
    rintro e w3 ⟨z, rfl, hz, rfl⟩
    have HZ := Lib.hid hz
    clear hz HV2 HU2 HC0 HC1
    by_cases hf : firstOf (listErr h.node.length rows 0) (listErr h.node.length cols rows.length) = .nil
    · obtain rfl := HZ.out.nilv hf
      have HOK := Lib.hid (HOF.out.trans hf)
      clear hf
      go_wp2_with fail
      refine HKK.out _ _ ?_
      change Code.wp _ (tailAt 5 ofBody) _ _ _
      exact of_bucks SEE.out SR.out SC.out hlr hlc HW.out HX2.out HB2.out HOK.out RK2.out
    · obtain ⟨t1, v1, rfl⟩ := HZ.out.iface hf
      have HF := Lib.hid hf
      clear hf
      go_wp2
      go_returns
      exact ⟨_, _, rfl, by rw [HOF.out]; exact HZ.out, HB2.out, fun _ => rfl, fun e => absurd (HOF.out.symm.trans e) HF.out⟩
set_option linter.unusedSimpArgs false in
set_option maxRecDepth 100000 in
set_option maxHeartbeats 8000000 in
theorem of_lim {s0 s4 s5 s6 s7 s9 s10 s11 s12 s13 s14 s15 s16 s17 s18 s19 s20 s21 s22 s23 s24 s25 s26 s27 s28 s29 s30 s31 s32 s33 s34 s35 s36 s37 s38 s39 s40 s41 s42 s43 s44 s45 s46 s47 s48 s49 s50 s51 s52 s53 s54 s55 s56 s57 s58 s59 s60 s61 s62 s63 s64 s65 s66 s67 s68 s69 s70 s71 s72 s73 s74 s75 s76 s77 s78 s79 s80 s81 s82 s83 s84 s85 s86 s87 s88 : Value} {A : HA} {h : HierD} {rows cols : List Int} {ra ca : Option Addr} {rc cc : Nat} {w wx : World} {rk : Nat} (see : HSee w A h) (sr : See w ra rc memInt 1 rows) (sc : See w ca cc memInt 1 cols) (hlr : rows.length ≤ 1048576) (hlc : cols.length ≤ 1048576) (hw : WfList rows ∧ WfList cols) (hx : Cells wx w.heap.size 25 (hierCells A h)) (hb : Below w.heap.size w wx) (hc : checkErr h = .nil) (hrk : Cells wx rk 3 (rankCells h.node)) : Code.wp Try.prog (tailAt 3 ofBody) (bodyPost Try.prog Try.f15 (OfNew h rows cols w)) ⟨#[s0, .slice ra rows.length rc, .slice ca cols.length cc, .pointer (some ⟨w.heap.size, 0, none⟩), s4, s5, s6, s7, .slice (some ⟨rk, 0, none⟩) h.node.length h.node.length, s9, s10, s11, s12, s13, s14, s15, s16, s17, s18, s19, s20, s21, s22, s23, s24, s25, s26, s27, s28, s29, s30, s31, s32, s33, s34, s35, s36, s37, s38, s39, s40, s41, s42, s43, s44, s45, s46, s47, s48, s49, s50, s51, s52, s53, s54, s55, s56, s57, s58, s59, s60, s61, s62, s63, s64, s65, s66, s67, s68, s69, s70, s71, s72, s73, s74, s75, s76, s77, s78, s79, s80, s81, s82, s83, s84, s85, s86, s87, s88], []⟩ wx := by
  have HC := Lib.hid hc
  have SEE := Lib.hid see
  have SR := Lib.hid sr
  have SC := Lib.hid sc
  have HW := Lib.hid hw
  have HX := Lib.hid hx
  have HB := Lib.hid hb
  clear see sr sc hw hx hb
  have RK := Lib.hid hrk
  clear hrk
  clear hc
  conv => arg 2; whnf
  apply wp_seq_k
  intro KK hK
  have HKK := Lib.hid hK
  clear hK
  by_cases h0 : 0 < rows.length
  · have t0 : decide (0 < rows.length) = true := by simpa using h0
    have hdiv : (1048576 : Int) / (rows.length : Int) = ((1048576 / rows.length : Nat) : Int) := by rw [Int.natCast_ediv]; rfl
    by_cases hq : 1048576 / rows.length < cols.length
    · have t1 : decide ((1048576 : Int) / (rows.length : Int) < (cols.length : Int)) = true := by rw [hdiv]; simp only [decide_eq_true_eq]; omega
      have HE := Lib.hid (show ofErr h rows cols = .code 9 by unfold ofErr; rw [if_neg (fun e => e HC.out), if_pos ⟨h0, hq⟩])
      clear hq hdiv
      go_wp2
      go_returns
      exact ⟨_, _, rfl, by rw [HE.out]; rfl, HB.out, fun _ => rfl, fun e => (by rw [HE.out] at e; cases e)⟩
    · have t1 : decide ((1048576 : Int) / (rows.length : Int) < (cols.length : Int)) = false := by rw [hdiv]; simp only [decide_eq_false_iff_not]; omega
      have HL := Lib.hid (show ¬ (0 < rows.length ∧ 1048576 / rows.length < cols.length) from fun e => hq e.2)
      clear hq hdiv
      go_wp2_with fail
      refine HKK.out _ _ ?_
      change Code.wp _ (tailAt 4 ofBody) _ _ _
      exact of_first SEE.out SR.out SC.out hlr hlc HW.out HX.out HB.out HC.out HL.out RK.out
  · have t0 : decide (0 < rows.length) = false := by simpa using h0
    have HL := Lib.hid (show ¬ (0 < rows.length ∧ 1048576 / rows.length < cols.length) from fun e => h0 e.1)
    clear h0
    go_wp2_with fail
    refine HKK.out _ _ ?_
    change Code.wp _ (tailAt 4 ofBody) _ _ _
    exact of_first SEE.out SR.out SC.out hlr hlc HW.out HX.out HB.out HC.out HL.out RK.out

set_option linter.unusedSimpArgs false in
set_option maxRecDepth 100000 in
set_option maxHeartbeats 8000000 in
theorem of_ranks {s0 s4 s5 s6 s7 s8 s9 s10 s11 s12 s13 s14 s15 s16 s17 s18 s19 s20 s21 s22 s23 s24 s25 s26 s27 s28 s29 s30 s31 s32 s33 s34 s35 s36 s37 s38 s39 s40 s41 s42 s43 s44 s45 s46 s47 s48 s49 s50 s51 s52 s53 s54 s55 s56 s57 s58 s59 s60 s61 s62 s63 s64 s65 s66 s67 s68 s69 s70 s71 s72 s73 s74 s75 s76 s77 s78 s79 s80 s81 s82 s83 s84 s85 s86 s87 s88 : Value} {A : HA} {h : HierD} {rows cols : List Int} {ra ca : Option Addr} {rc cc : Nat} {w wx : World} (see : HSee w A h) (sr : See w ra rc memInt 1 rows) (sc : See w ca cc memInt 1 cols) (hlr : rows.length ≤ 1048576) (hlc : cols.length ≤ 1048576) (hw : WfList rows ∧ WfList cols) (hx : Cells wx w.heap.size 25 (hierCells A h)) (hb : Below w.heap.size w wx) : Code.wp Try.prog (tailAt 1 ofBody) (bodyPost Try.prog Try.f15 (OfNew h rows cols w)) ⟨#[s0, .slice ra rows.length rc, .slice ca cols.length cc, .pointer (some ⟨w.heap.size, 0, none⟩), s4, s5, s6, s7, s8, s9, s10, s11, s12, s13, s14, s15, s16, s17, s18, s19, s20, s21, s22, s23, s24, s25, s26, s27, s28, s29, s30, s31, s32, s33, s34, s35, s36, s37, s38, s39, s40, s41, s42, s43, s44, s45, s46, s47, s48, s49, s50, s51, s52, s53, s54, s55, s56, s57, s58, s59, s60, s61, s62, s63, s64, s65, s66, s67, s68, s69, s70, s71, s72, s73, s74, s75, s76, s77, s78, s79, s80, s81, s82, s83, s84, s85, s86, s87, s88], []⟩ wx := by
  have SEE := Lib.hid see
  have SR := Lib.hid sr
  have SC := Lib.hid sc
  have HW := Lib.hid hw
  have HX := Lib.hid hx
  have HB := Lib.hid hb
  clear see sr sc hw hx hb
  obtain ⟨k0, k1, k2, k3, k4⟩ := hier_five HX.out
  conv => arg 2; whnf
  apply wp_seq_k
  intro KK hK
  have HKK := Lib.hid hK
  clear hK
  go_wp2_with fail
  refine (ranks_lit A h _ (SEE.out.below HB.out)).mono ?_
  rintro e w1 (⟨v, rfl, hv, hne, hb1⟩ | ⟨rk, rfl, hc, -, hrk, hb1⟩)
  · have HV := Lib.hid hv
    have HNE := Lib.hid hne
    have HOF := Lib.hid (show ofErr h rows cols = checkErr h by unfold ofErr; rw [if_pos hne])
    have HB1 := Lib.hid (HB.out.trans (hb1.mono HB.out.size))
    obtain ⟨t1, v1, rfl⟩ := hv.iface hne
    clear hv hne hb1 HB HX k0 k1 k2 k3 k4
    go_wp2_with fail
    refine HKK.out _ _ ?_
    conv => arg 2; whnf
    go_wp2
    go_returns
    exact ⟨_, _, rfl, by rw [HOF.out]; exact HV.out, HB1.out, fun _ => rfl, fun e => absurd (HOF.out.symm.trans e) HNE.out⟩
  · have HC := Lib.hid hc
    have RK := Lib.hid hrk
    have HX1 := Lib.hid (HX.out.below hb1 HX.out.lt)
    have HB1 := Lib.hid (HB.out.trans (hb1.mono HB.out.size))
    clear hc hrk hb1 HB HX k0 k1 k2 k3 k4
    go_wp2_with fail
    refine HKK.out _ _ ?_
    clear HKK KK
    conv => arg 2; whnf
    apply wp_seq_k
    intro K2 hK
    have HK2 := Lib.hid hK
    clear hK
    go_wp2_with fail
    refine HK2.out _ _ ?_
    change Code.wp _ (tailAt 3 ofBody) _ _ _
    exact of_lim SEE.out SR.out SC.out hlr hlc HW.out HX1.out HB1.out HC.out RK.out
set_option linter.unusedSimpArgs false in
set_option maxRecDepth 100000 in
set_option maxHeartbeats 8000000 in
/-- **table.Of.** -/
theorem of_any (A : HA) (h : HierD) (rows cols : List Int) (ra ca : Option Addr) (rc cc : Nat) (w : World) (see : HSee w A h) (sr : See w ra rc memInt 1 rows) (sc : See w ca cc memInt 1 cols) (hlr : rows.length ≤ 1048576) (hlc : cols.length ≤ 1048576) (hw : WfList rows ∧ WfList cols) :
    Calls Try.prog 15 #[hierVal A h, .slice ra rows.length rc, .slice ca cols.length cc] w (OfNew h rows cols w) := by
  have SEE := Lib.hid see
  have SR := Lib.hid sr
  have SC := Lib.hid sc
  have HW := Lib.hid hw
  clear see sr sc hw
  unfold hierVal
  go_enter Try.func15, Try.ntmps15
  apply wp_seq_k
  intro K1 hK
  have HK1 := Lib.hid hK
  clear hK
  go_wp2_with fail
  refine HK1.out _ _ ?_
  change Code.wp _ (tailAt 1 ofBody) _ _ _
  exact of_ranks SEE.out SR.out SC.out hlr hlc HW.out (Cells.new w 25 (hierCells A h)) ((Below.refl w.heap.size w).alloc (Nat.le_refl _) _)
end Go.Proofs.Ytjbphoophgbmiaa
