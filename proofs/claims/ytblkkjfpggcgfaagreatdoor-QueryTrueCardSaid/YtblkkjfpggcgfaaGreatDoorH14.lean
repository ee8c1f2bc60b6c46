/- The contracts of hier's Check and Ranks. -/
import Derived.Test.YtblkkjfpggcgfaaGreatDoorH13
import Derived.Laws.ResultCell
import Derived.Laws.Rows
namespace Go.Proofs.YtblkkjfpggcgfaaGreatDoor
open Go.ChangeShapes Go.WideShapes Go.ChangeAt Go.RowKit Go.Joins Go.Deep
theorem pigeon (n : Nat) : ∀ l : List Nat, l.Nodup → (∀ x ∈ l, x < n) → l.length ≤ n := by
  induction n with
  | zero =>
    intro l _ h
    cases l with
    | nil => simp
    | cons a l => exact absurd (h a (by simp)) (by omega)
  | succ n ih =>
    intro l hn h
    by_cases hm : n ∈ l
    · have h1 := List.length_erase_of_mem hm
      have h2 := ih (l.erase n) (hn.erase n) (fun x hx => by
        have h3 := h x (List.mem_of_mem_erase hx)
        have h4 : x ≠ n := fun e => by subst e; exact hn.not_mem_erase hx
        omega)
      omega
    · have h2 := ih l hn (fun x hx => by
        have h3 := h x hx
        have h4 : x ≠ n := fun e => by subst e; exact hm hx
        omega)
      omega
structure OrderOk (l : List Nat) : Prop where
  nodup : l.Nodup
  lt : ∀ x ∈ l, x < l.length
  mem : ∀ v, v < l.length → v ∈ l
theorem orderGo_nil {l : List Nat} : ∀ k, k ≤ l.length → orderGo l k = .nil → (l.take k).Nodup ∧ ∀ x ∈ l.take k, x < l.length := by
  intro k
  induction k with
  | zero => intro _ _; simp
  | succ k ih =>
    intro hk h
    unfold orderGo at h
    split at h
    · rename_i h0
      obtain ⟨h1, h2⟩ := ih (by omega) h0
      split at h
      · cases h
      · rename_i h3
        have hx : l[k]? = some l[k] := List.getElem?_eq_getElem (by omega)
        rw [List.getD_eq_getElem?_getD, hx] at h3
        simp only [Option.getD_some, not_or] at h3
        rw [List.take_add_one, hx]
        simp only [Option.toList_some]
        refine ⟨List.nodup_append.2 ⟨h1, by simp, fun a ha b hb => ?_⟩, fun x hxm => ?_⟩
        · simp only [List.mem_singleton] at hb
          subst hb
          intro e
          subst e
          exact h3.2 ha
        · rw [List.mem_append, List.mem_singleton] at hxm
          rcases hxm with hxm | rfl
          · exact h2 x hxm
          · omega
    · rename_i e he; exact absurd h he
theorem order_nil {l : List Nat} (h : orderErr l = .nil) : OrderOk l := by
  obtain ⟨h1, h2⟩ := orderGo_nil l.length (Nat.le_refl _) h
  rw [List.take_length] at h1 h2
  refine ⟨h1, h2, fun v hv => ?_⟩
  apply Classical.byContradiction
  intro hm
  have := pigeon l.length (v :: l) (List.nodup_cons.2 ⟨hm, h1⟩) (fun x hx => by
    rw [List.mem_cons] at hx
    rcases hx with rfl | hx
    · exact hv
    · exact h2 x hx)
  simp only [List.length_cons] at this
  omega
theorem idxOf_getElem {l : List Nat} (h : l.Nodup) {k x : Nat} (hx : l[k]? = some x) : l.idxOf x = k := by
  obtain ⟨hk, rfl⟩ := List.getElem?_eq_some_iff.1 hx
  exact h.idxOf_getElem k hk
def rankPart (l : List Nat) (k : Nat) : List Value := (List.range l.length).map fun v => .int .i64 ((if v ∈ l.take k then l.idxOf v else 0 : Nat) : Int)
def rankCells (l : List Nat) : List Value := (List.range l.length).map fun v => .int .i64 (l.idxOf v : Int)
theorem rankPart_zero (l : List Nat) : rankPart l 0 = marksOf [] l.length := by simp [rankPart, marksOf]
theorem rankPart_full {l : List Nat} (ok : OrderOk l) : rankPart l l.length = rankCells l := by
  unfold rankPart rankCells
  apply List.map_congr_left
  intro v hv
  rw [List.take_length, if_pos (ok.mem v (List.mem_range.1 hv))]
theorem rankPart_set {l : List Nat} (ok : OrderOk l) {k x : Nat} (hx : l[k]? = some x) : (rankPart l k).set x (.int .i64 (k : Int)) = rankPart l (k + 1) := by
  have hlt := ok.lt x (List.mem_of_getElem? hx)
  have hi := idxOf_getElem ok.nodup hx
  apply List.ext_getElem?
  intro j
  rw [List.getElem?_set]
  simp only [rankPart, List.getElem?_map, List.length_map, List.length_range]
  by_cases hj : x = j
  · subst hj
    rw [if_pos rfl, if_pos hlt, List.getElem?_range hlt]
    simp only [Option.map_some, List.take_add_one, hx, Option.toList_some, List.mem_append, List.mem_singleton, or_true, if_true, hi]
  · rw [if_neg hj]
    rcases Nat.lt_or_ge j l.length with h1 | h1
    · rw [List.getElem?_range h1]
      have : ¬ j = x := fun e => hj e.symm
      simp only [Option.map_some, List.take_add_one, hx, Option.toList_some, List.mem_append, List.mem_singleton, this, or_false]
    · rw [List.getElem?_eq_none (by simpa using h1)]; rfl
theorem checkErr_parts {h : HierD} (hc : checkErr h = .nil) : Fits h ∧ firstsErr h.upF h.up.length = .nil ∧ firstsErr h.dnF h.dn.length = .nil ∧ orderErr h.node = .nil ∧ linksGo h.node.length h.up.length (endsOf h) (endsOf h).length = .nil := by
  have hc' := hc
  unfold checkErr at hc
  split at hc
  · cases hc
  rename_i h1
  split at hc
  · cases hc
  rename_i h2
  have f : Fits h := ⟨by omega, by omega, by omega, by omega⟩
  rw [f.err] at hc'
  split at hc'
  · rename_i e1
    split at hc'
    · rename_i e2
      split at hc'
      · rename_i e3
        exact ⟨f, e1, e2, e3, hc'⟩
      · rename_i e he; exact absurd hc' he
    · rename_i e he; exact absurd hc' he
  · rename_i e he; exact absurd hc' he
set_option maxRecDepth 100000 in
theorem hcheck_any (A : HA) (h : HierD) (w : World) (see : HSee w A h) : Calls Tryz.prog 28 #[hierVal A h] w (ErrPost (checkErr h) w) := by
  have SEE := Lib.hid see
  clear see
  unfold hierVal
  go_enter Tryz.func28, Tryz.ntmps28
  go_wp2_with fail
  refine (ends_any A h _ (SEE.out.below ((Below.refl _ _).alloc (Nat.le_refl _) _))).mono ?_
  rintro e w1 (⟨v, rfl, hv, -, hb⟩ | ⟨ao, cap, rfl, hc, -, hb⟩)
  · have HV := Lib.hid hv
    have HB := Lib.hid (((Below.refl w.heap.size w).alloc (Nat.le_refl _) _).trans (hb.mono (by simp)))
    clear hv hb
    go_wp2
    go_returns
    exact ⟨_, rfl, HV.out, HB.out⟩
  · have HC := Lib.hid hc
    have HB := Lib.hid (((Below.refl w.heap.size w).alloc (Nat.le_refl _) _).trans (hb.mono (by simp)))
    clear hc hb
    go_wp2
    go_returns
    exact ⟨_, rfl, by rw [HC.out]; rfl, HB.out⟩
def RanksPost (h : HierD) (w : World) (e : Ending) (w' : World) : Prop :=
  (∃ v, e = .returned (.tuple #[.slice none 0 0, v]) ∧ ErrIs w' v (checkErr h) ∧ checkErr h ≠ .nil ∧ Below w.heap.size w w') ∨
  (∃ b, e = .returned (.tuple #[.slice (some ⟨b, 0, none⟩) h.node.length h.node.length, .nilIface]) ∧ checkErr h = .nil ∧ w.heap.size ≤ b ∧ Cells w' b 3 (rankCells h.node) ∧ Below w.heap.size w w')
set_option maxRecDepth 100000 in
theorem ranks_any (A : HA) (h : HierD) (w : World) (see : HSee w A h) : Calls Tryz.prog 42 #[hierVal A h] w (RanksPost h w) := by
  have SEE := Lib.hid see
  clear see
  unfold hierVal
  go_enter Tryz.func42, Tryz.ntmps42
  go_wp2_with fail
  refine (hcheck_any A h _ (SEE.out.below ((Below.refl _ _).alloc (Nat.le_refl _) _))).mono ?_
  rintro e w1 ⟨v, rfl, hv, hb⟩
  have hB := ((Below.refl w.heap.size w).alloc (Nat.le_refl _) _).trans (hb.mono (by simp))
  by_cases hc : checkErr h = .nil
  · obtain rfl := hv.nilv hc
    have hcs := (Cells.new w 25 (hierCells A h)).below hb (by simp)
    have c0 : w1.cell? ⟨w.heap.size, 0, none⟩ = some (.slice A.a0 h.node.length A.c0) := hcs.cell rfl
    obtain ⟨f, -, -, ho, -⟩ := checkErr_parts hc
    have hnl := f.n
    have ok := order_nil ho
    have hmk := run_make_n (P := Tryz.prog) 38 3 (.int .i64 0) 1 8 Tryz.underlying38 Tryz.infoInt .i64 .i64 h.node.length (by omega) (by omega)
    rw [marks_made, ← rankPart_zero] at hmk
    have OK := Lib.hid ok
    have HB := Lib.hid hB
    have HC := Lib.hid hc
    have lb0 := hcs.lt
    clear hv hb hcs ho ok hB hc f
    go_wp2_with fail
    go_loopg [20] h.node.length (fun g vi wr => ∃ k : Nat, vi = .int .i64 k ∧ k ≤ h.node.length ∧ g = h.node.length - k ∧ Cells wr w1.heap.size 3 (rankPart h.node k) ∧ Below w1.heap.size w1 wr)
    case atStart => exact ⟨0, rfl, Nat.zero_le _, rfl, Cells.new w1 3 (rankPart h.node 0), (Below.refl _ _).alloc (Nat.le_refl _) _⟩
    case round =>
      obtain ⟨k, rfl, hk, hg, hcs, hbl⟩ := hrel
      have HBL := Lib.hid hbl
      have HG := Lib.hid hg
      have HCS := Lib.hid hcs
      have hsz := hcs.lt
      clear hbl hg hcs
      by_cases hkl : k < h.node.length
      · obtain ⟨x, hx⟩ : ∃ x, h.node[k]? = some x := ⟨_, List.getElem?_eq_getElem (by omega)⟩
        obtain ⟨b, o, ea, cc⟩ := ((SEE.out.below HB.out).below HBL.out).node.cell k x hx
        have e0 := cc 0 _ rfl
        rw [Nat.mul_one, Nat.add_zero] at e0
        have lb := block_lt e0
        have hx32 : x < 4294967296 := SEE.out.bn x (List.mem_of_getElem? hx)
        have hxl : x < h.node.length := OK.out.lt x (List.mem_of_getElem? hx)
        have hf := HCS.out.frozen x
        have hm : wr.cell? ⟨w1.heap.size, x, none⟩ = some (.int .i64 ((if x ∈ h.node.take k then h.node.idxOf x else 0 : Nat) : Int)) := HCS.out.cell (by simp [rankPart, hxl])
        have EA := Lib.hid ea
        have HX := Lib.hid hx
        have HM2 := Lib.hid (HCS.out.set x (.int .i64 (k : Int)))
        clear hx cc ea
        generalize ((if x ∈ h.node.take k then h.node.idxOf x else 0 : Nat) : Int) = old at hm
        rw [EA.out]
        go_wp2_with fail
        rw [← EA.out]
        go_roundg (h.node.length - (k + 1))
        case measure => rw [HG.out]; omega
        case rel =>
          refine ⟨k + 1, by go_num, by omega, rfl, ?_, HBL.out.setCell (p := ⟨w1.heap.size, x, none⟩) (Nat.le_refl _) _⟩
          rw [← rankPart_set OK.out HX.out]
          exact HM2.out
      · obtain rfl : k = h.node.length := by omega
        go_wp2
        go_returns
        refine .inr ⟨w1.heap.size, rfl, HC.out, HB.out.size, ?_, HB.out.trans (HBL.out.mono HB.out.size)⟩
        rw [← rankPart_full OK.out]
        exact HCS.out
  · obtain ⟨t, u, rfl⟩ := hv.iface hc
    have HV := Lib.hid hv
    have HB := Lib.hid hB
    have HC := Lib.hid hc
    clear hv hb hB hc
    go_wp2
    go_returns
    exact .inl ⟨_, rfl, HV.out, HC.out, HB.out⟩
end Go.Proofs.YtblkkjfpggcgfaaGreatDoor
namespace Go.Proofs.YtblkkjfpggcgfaaGreatDoor
theorem linksGo_nil {n ups : Nat} {all : List EndD} {m : Nat} (h : linksGo n ups all m = .nil) : ∀ k, k < m → shapeB n ups all k = true ∧ weightB all k = true := by
  induction m with
  | zero => intro k hk; omega
  | succ m ih =>
    intro k hk
    unfold linksGo at h
    split at h
    · rename_i h0
      rcases Nat.lt_or_ge k m with h1 | h1
      · exact ih h0 k h1
      · obtain rfl : k = m := by omega
        split at h
        · cases h
        · rename_i h2
          split at h
          · cases h
          · rename_i h3
            exact ⟨by simpa using h2, by simpa using h3⟩
    · rename_i e he; exact absurd h he
theorem end_facts {n ups : Nat} {all : List EndD} (h : linksGo n ups all all.length = .nil) : ∀ x ∈ all, x.rank < x.link.to ∧ x.link.to < n ∧ x.link.wt ≤ 140737488355328 := by
  intro x hx
  obtain ⟨k, hk, rfl⟩ := List.mem_iff_getElem.1 hx
  obtain ⟨hs, hw⟩ := linksGo_nil h k hk
  have hg : all.getD k default = all[k] := by rw [List.getD_eq_getElem?_getD, List.getElem?_eq_getElem hk]; rfl
  rw [shapeB_eq n ups all k _ _ hg rfl] at hs
  split at hs
  · cases hs
  rename_i h1
  refine ⟨by omega, by omega, ?_⟩
  unfold weightB at hw
  simp only [hg] at hw
  split at hw
  · have := of_decide_eq_true hw; omega
  · exact (of_decide_eq_true hw).1
def upSide (h : HierD) : SideD := ⟨h.node.length, h.upF, h.up, h.dnF, h.dn⟩
def dnSide (h : HierD) : SideD := ⟨h.node.length, h.dnF, h.dn, h.upF, h.up⟩
theorem half_up {h : HierD} (hc : checkErr h = .nil) : HalfOk h.node.length h.upF h.up := by
  obtain ⟨f, e1, -, -, e4⟩ := checkErr_parts hc
  have u := firsts_nil f.u e1
  refine ⟨u.len, u.mono, fun r hr => u.le r hr, fun r hr l hl => ?_⟩
  have := end_facts e4 ⟨l, r, l.to, r⟩ (by
    unfold endsOf
    rw [List.mem_append, List.mem_flatMap]
    exact .inl ⟨r, List.mem_range.2 hr, by simp only [endsUp, List.mem_map]; exact ⟨l, hl, rfl⟩⟩)
  exact this
theorem half_dn {h : HierD} (hc : checkErr h = .nil) : HalfOk h.node.length h.dnF h.dn := by
  obtain ⟨f, -, e2, -, e4⟩ := checkErr_parts hc
  have u := firsts_nil f.d e2
  refine ⟨u.len, u.mono, fun r hr => u.le r hr, fun r hr l hl => ?_⟩
  have := end_facts e4 ⟨l, l.to, r, r⟩ (by
    unfold endsOf
    rw [List.mem_append, List.mem_flatMap, List.mem_flatMap]
    exact .inr ⟨r, List.mem_range.2 hr, by simp only [endsDn, List.mem_map]; exact ⟨l, hl, rfl⟩⟩)
  exact this
theorem side_up {h : HierD} (hc : checkErr h = .nil) : SideOk (upSide h) := ⟨(checkErr_parts hc).1.n, half_up hc, half_dn hc⟩
theorem side_dn {h : HierD} (hc : checkErr h = .nil) : SideOk (dnSide h) := ⟨(checkErr_parts hc).1.n, half_dn hc, half_up hc⟩
theorem IsD.bnd {n : Nat} {first : List Nat} {links : List LinkD} {s : Nat} {D : Nat → Option Int} (ok : HalfOk n first links) (h : IsD n first links s D) : ∀ r e, D r = some e → 0 ≤ e ∧ e ≤ r * 140737488355328 := by
  intro r
  induction r using Nat.strongRecOn with
  | _ r ih =>
    intro e he
    by_cases hr : r = s
    · subst hr
      rw [h.src] at he
      simp at he
      subst he
      exact ⟨by omega, by omega⟩
    · obtain ⟨x, d, l, hx, hd, hl, hto, rfl⟩ := h.bwd r e hr he
      obtain ⟨h1, h2, h3⟩ := ok.up x hx l hl
      rw [hto] at h1
      obtain ⟨h4, h5⟩ := ih x h1 d hd
      refine ⟨by omega, ?_⟩
      have : (x : Int) * 140737488355328 + 140737488355328 ≤ r * 140737488355328 := by omega
      omega
def meetTo (D E : Nat → Option Int) : Nat → Nat × Int
  | 0 => (0, 18446744073709551615)
  | k + 1 => match D k, E k with
    | some x, some y => if x + y < (meetTo D E k).2 then (k, x + y) else meetTo D E k
    | _, _ => meetTo D E k
def seenFrom (n : Nat) (D : Nat → Option Int) (m : Nat) : List (Nat × Int) := (List.range' m (n - m)).filterMap fun r => (D r).map fun d => (r, d)
theorem seenFrom_zero (n : Nat) (D : Nat → Option Int) : seenFrom n D 0 = seenOf n D := by
  unfold seenFrom seenOf
  rw [Nat.sub_zero, List.range_eq_range']
theorem seenFrom_step (n : Nat) (D : Nat → Option Int) (m : Nat) (hm : m < n) : seenFrom n D m = (match D m with | some d => [(m, d)] | none => []) ++ seenFrom n D (m + 1) := by
  unfold seenFrom
  have e : n - m = (n - (m + 1)) + 1 := by omega
  rw [e, List.range'_succ, List.filterMap_cons]
  cases D m <;> rfl
theorem seenFrom_end (n : Nat) (D : Nat → Option Int) (m : Nat) (hm : n ≤ m) : seenFrom n D m = [] := by
  unfold seenFrom
  rw [show n - m = 0 by omega]
  rfl
theorem seenFrom_nil {n : Nat} {D : Nat → Option Int} : ∀ k m, n - m = k → seenFrom n D m = [] → ∀ r, m ≤ r → r < n → D r = none := by
  intro k
  induction k with
  | zero => intro m hk _ r h1 h2; omega
  | succ k ih =>
    intro m hk h r h1 h2
    rw [seenFrom_step n D m (by omega)] at h
    cases hD : D m with
    | some d => rw [hD] at h; cases h
    | none =>
      rw [hD] at h
      rcases Nat.eq_or_lt_of_le h1 with rfl | h3
      · exact hD
      · exact ih (m + 1) (by omega) h r h3 h2
theorem seenFrom_cons {n : Nat} {D : Nat → Option Int} {r : Nat} {d : Int} {t : List (Nat × Int)} : ∀ k m, n - m = k → seenFrom n D m = (r, d) :: t → m ≤ r ∧ r < n ∧ D r = some d ∧ t = seenFrom n D (r + 1) ∧ ∀ q, m ≤ q → q < r → D q = none := by
  intro k
  induction k with
  | zero =>
    intro m hk h
    rw [seenFrom_end n D m (by omega)] at h
    cases h
  | succ k ih =>
    intro m hk h
    rw [seenFrom_step n D m (by omega)] at h
    cases hD : D m with
    | some e =>
      rw [hD] at h
      simp only [List.cons_append, List.nil_append, List.cons.injEq, Prod.mk.injEq] at h
      obtain ⟨⟨rfl, rfl⟩, rfl⟩ := h
      exact ⟨Nat.le_refl _, by omega, hD, rfl, fun q h1 h2 => by omega⟩
    | none =>
      rw [hD] at h
      obtain ⟨h1, h2, h3, h4, h5⟩ := ih (m + 1) (by omega) h
      refine ⟨by omega, h2, h3, h4, fun q hq1 hq2 => ?_⟩
      rcases Nat.eq_or_lt_of_le hq1 with rfl | hq3
      · exact hD
      · exact h5 q hq3 hq2
theorem seenFrom_skip {n : Nat} {D : Nat → Option Int} {m : Nat} : ∀ k, m + k ≤ n → (∀ q, m ≤ q → q < m + k → D q = none) → seenFrom n D m = seenFrom n D (m + k) := by
  intro k
  induction k with
  | zero => intro _ _; rfl
  | succ k ih =>
    intro hk h
    rw [ih (by omega) (fun q h1 h2 => h q h1 (by omega)), seenFrom_step n D (m + k) (by omega), h (m + k) (by omega) (by omega)]
    rfl
theorem meetTo_skip {D E : Nat → Option Int} {m : Nat} : ∀ k, (∀ q, m ≤ q → q < m + k → D q = none ∨ E q = none) → meetTo D E (m + k) = meetTo D E m := by
  intro k
  induction k with
  | zero => intro _; rfl
  | succ k ih =>
    intro h
    rw [← ih (fun q h1 h2 => h q h1 (by omega)), ← Nat.add_assoc]
    rcases h (m + k) (by omega) (by omega) with h1 | h1
    · conv => lhs; unfold meetTo
      rw [h1]
    · conv => lhs; unfold meetTo
      rw [h1]
      cases D (m + k) <;> rfl
theorem meetTo_swap (D E : Nat → Option Int) (k : Nat) : meetTo D E k = meetTo E D k := by
  induction k with
  | zero => rfl
  | succ k ih =>
    unfold meetTo
    rw [ih]
    cases D k <;> cases E k <;> simp only [Int.add_comm]
theorem meetTo_step {D E : Nat → Option Int} {k : Nat} {x y : Int} (hx : D k = some x) (hy : E k = some y) : meetTo D E (k + 1) = if x + y < (meetTo D E k).2 then (k, x + y) else meetTo D E k := by
  conv => lhs; unfold meetTo
  rw [hx, hy]
theorem meetTo_bnd {D E : Nat → Option Int} (hD : ∀ r d, D r = some d → 0 ≤ d) (hE : ∀ r d, E r = some d → 0 ≤ d) (k : Nat) : (meetTo D E k).1 ≤ k ∧ 0 ≤ (meetTo D E k).2 ∧ (meetTo D E k).2 ≤ 18446744073709551615 := by
  induction k with
  | zero => exact ⟨Nat.le_refl _, by show (0 : Int) ≤ 18446744073709551615; omega, by show (18446744073709551615 : Int) ≤ 18446744073709551615; omega⟩
  | succ k ih =>
    unfold meetTo
    split
    · rename_i x y hx hy
      have := hD k x hx
      have := hE k y hy
      split
      · exact ⟨by simp only; omega, by simp only; omega, by simp only; omega⟩
      · exact ⟨by omega, ih.2⟩
    · exact ⟨by omega, ih.2⟩
end Go.Proofs.YtblkkjfpggcgfaaGreatDoor
namespace Go.Proofs.YtblkkjfpggcgfaaGreatDoor
open Go.ChangeShapes Go.WideShapes Go.ChangeAt Go.RowKit Go.Joins Go.Deep
set_option maxRecDepth 100000 in
theorem cup_any (A : HA) (h : HierD) (s : Nat) (w : World) (see : HSee w A h) (hc : checkErr h = .nil) (hs : s < h.node.length) :
    Calls Tryz.prog 43 #[hierVal A h, .int .i64 s] w (ClimbPost h.node.length h.upF h.up s w) := by
  have SEE := Lib.hid see
  have HC := Lib.hid hc
  have hs' : s < (upSide h).n := hs
  have hn := (checkErr_parts hc).1.n
  clear see hc
  unfold hierVal
  go_enter Tryz.func43, Tryz.ntmps43
  go_wp2_with fail
  refine (hcheck_any A h _ (SEE.out.below ((Below.refl _ _).alloc (Nat.le_refl _) _))).mono ?_
  rintro e w1 ⟨v, rfl, hv, hb⟩
  obtain rfl := hv.nilv HC.out
  have hcs := (Cells.new w 25 (hierCells A h)).below hb (by simp)
  have c0 : w1.cell? ⟨w.heap.size, 0, none⟩ = some (.slice A.a0 h.node.length A.c0) := hcs.cell rfl
  have c1 : w1.cell? ⟨w.heap.size, 1, none⟩ = some (.slice A.a1 h.upF.length A.c1) := hcs.cell rfl
  have c2 : w1.cell? ⟨w.heap.size, 2, none⟩ = some (.slice A.a2 h.up.length A.c2) := hcs.cell rfl
  have c3 : w1.cell? ⟨w.heap.size, 3, none⟩ = some (.slice A.a3 h.dnF.length A.c3) := hcs.cell rfl
  have c4 : w1.cell? ⟨w.heap.size, 4, none⟩ = some (.slice A.a4 h.dn.length A.c4) := hcs.cell rfl
  have HB := Lib.hid (((Below.refl w.heap.size w).alloc (Nat.le_refl _) _).trans (hb.mono (by simp)))
  have lb := hcs.lt
  clear hv hb hcs
  go_wp2_with fail
  have S1 := SEE.out.below HB.out
  refine (climb_any (upSide h) ⟨A.a1, A.a2, A.a3, A.a4, A.c1, A.c2, A.c3, A.c4⟩ s _ ⟨S1.upF, S1.up, S1.dnF, S1.dn, S1.bu, S1.bup, S1.bd, S1.bdn⟩ (side_up HC.out) hs').mono ?_
  rintro e w2 ⟨ao, cap, L, D, rfl, hown, hnew, hd, hm, hb2⟩
  have POST := Lib.hid (show ClimbPost h.node.length h.upF h.up s w (.returned (.tuple #[.slice ao L.length cap, .nilIface])) w2 from
    ⟨ao, cap, L, D, rfl, hown, (fun k hk => Nat.le_trans HB.out.size (hnew k hk)), hd, hm, HB.out.trans (hb2.mono HB.out.size)⟩)
  clear hown hnew hd hm hb2 S1
  go_wp2
  go_returns
  exact POST.out
set_option maxRecDepth 100000 in
theorem cdown_any (A : HA) (h : HierD) (s : Nat) (w : World) (see : HSee w A h) (hc : checkErr h = .nil) (hs : s < h.node.length) :
    Calls Tryz.prog 44 #[hierVal A h, .int .i64 s] w (ClimbPost h.node.length h.dnF h.dn s w) := by
  have SEE := Lib.hid see
  have HC := Lib.hid hc
  have hs' : s < (dnSide h).n := hs
  have hn := (checkErr_parts hc).1.n
  clear see hc
  unfold hierVal
  go_enter Tryz.func44, Tryz.ntmps44
  go_wp2_with fail
  refine (hcheck_any A h _ (SEE.out.below ((Below.refl _ _).alloc (Nat.le_refl _) _))).mono ?_
  rintro e w1 ⟨v, rfl, hv, hb⟩
  obtain rfl := hv.nilv HC.out
  have hcs := (Cells.new w 25 (hierCells A h)).below hb (by simp)
  have c0 : w1.cell? ⟨w.heap.size, 0, none⟩ = some (.slice A.a0 h.node.length A.c0) := hcs.cell rfl
  have c1 : w1.cell? ⟨w.heap.size, 1, none⟩ = some (.slice A.a1 h.upF.length A.c1) := hcs.cell rfl
  have c2 : w1.cell? ⟨w.heap.size, 2, none⟩ = some (.slice A.a2 h.up.length A.c2) := hcs.cell rfl
  have c3 : w1.cell? ⟨w.heap.size, 3, none⟩ = some (.slice A.a3 h.dnF.length A.c3) := hcs.cell rfl
  have c4 : w1.cell? ⟨w.heap.size, 4, none⟩ = some (.slice A.a4 h.dn.length A.c4) := hcs.cell rfl
  have HB := Lib.hid (((Below.refl w.heap.size w).alloc (Nat.le_refl _) _).trans (hb.mono (by simp)))
  have lb := hcs.lt
  clear hv hb hcs
  go_wp2_with fail
  have S1 := SEE.out.below HB.out
  refine (climb_any (dnSide h) ⟨A.a3, A.a4, A.a1, A.a2, A.c3, A.c4, A.c1, A.c2⟩ s _ ⟨S1.dnF, S1.dn, S1.upF, S1.up, S1.bd, S1.bdn, S1.bu, S1.bup⟩ (side_dn HC.out) hs').mono ?_
  rintro e w2 ⟨ao, cap, L, D, rfl, hown, hnew, hd, hm, hb2⟩
  have POST := Lib.hid (show ClimbPost h.node.length h.dnF h.dn s w (.returned (.tuple #[.slice ao L.length cap, .nilIface])) w2 from
    ⟨ao, cap, L, D, rfl, hown, (fun k hk => Nat.le_trans HB.out.size (hnew k hk)), hd, hm, HB.out.trans (hb2.mono HB.out.size)⟩)
  clear hown hnew hd hm hb2 S1
  go_wp2
  go_returns
  exact POST.out
theorem results_ct {P : Program} {fn : Func} {p u : Tmp} {ty : TypeId} (h : fn.results = #[.cell p ty, .tmp u]) (tmps : Array Value) (w : World) (g : Nat) (t : TypeId) (cs : List Value) (d : TypeDesc)
    (hp : tmps.getD p undef = .pointer (some ⟨g, 0, none⟩)) (hg : Cells w g t cs)
    (hu : P.underlying ty = some d) (hd : (match d with | .struct _ | .array _ _ => true | _ => false) = true) (hi : (P.info? ty).map (·.size) = some cs.length) :
    (results fn tmps).run P w = .ok (.tuple #[.agg cs.toArray, tmps.getD u undef]) w := by
  have hp' : tmps[p]?.getD undef = .pointer (some ⟨g, 0, none⟩) := by simpa using hp
  have hr := run_loadVar_row (P := P) w g t ty cs.toArray (0, 0) d hg hu hd (by simpa using hi)
  simp [results, h, hp', asAddr, hr]
def nodesErr (n : Nat) (s t : Int) : EV := if s < 0 ∨ (n : Int) ≤ s then .at 3 0 7 else if t < 0 ∨ (n : Int) ≤ t then .at 3 1 7 else .nil
inductive MeetIs (h : HierD) (s t : Int) : Nat → Int → EV → Prop
  | form (e : checkErr h ≠ .nil) : MeetIs h s t 0 0 (checkErr h)
  | nodes (e : checkErr h = .nil) (k : nodesErr h.node.length s t ≠ .nil) : MeetIs h s t 0 0 (nodesErr h.node.length s t)
  | walk (D E : Nat → Option Int) (r : Nat) (d : Int) (e : checkErr h = .nil) (k : nodesErr h.node.length s t = .nil) (hD : IsD h.node.length h.upF h.up (h.node.idxOf s.toNat) D) (hE : IsD h.node.length h.dnF h.dn (h.node.idxOf t.toNat) E)
      (hm : meetTo D E h.node.length = (r, d)) (hd : d ≠ 18446744073709551615) : MeetIs h s t r d .nil
  | none (D E : Nat → Option Int) (e : checkErr h = .nil) (k : nodesErr h.node.length s t = .nil) (hD : IsD h.node.length h.upF h.up (h.node.idxOf s.toNat) D) (hE : IsD h.node.length h.dnF h.dn (h.node.idxOf t.toNat) E)
      (hd : (meetTo D E h.node.length).2 = 18446744073709551615) : MeetIs h s t 0 0 (.code 16)
def bestVal (r : Nat) (d : Int) : Value := .agg #[.int .i64 r, .int .u64 d]
def MeetPost (h : HierD) (s t : Int) (w : World) (e : Ending) (w' : World) : Prop :=
  ∃ r d x v, e = .returned (.tuple #[bestVal r d, v]) ∧ ErrIs w' v x ∧ MeetIs h s t r d x ∧ Below w.heap.size w w'
theorem Tryz.sizeBest : (Tryz.prog.info? 72).map (·.size) = some 2 := by kernel_rfl
theorem ErrIs.set2 {w : World} {v : Value} {x : EV} {B : Nat} {l : List Value} {a b : Value} (h : ErrIs w v x) (hc : Cells w B 72 l) : ErrIs ((w.setCell ⟨B, 0, none⟩ a).setCell ⟨B, 1, none⟩ b) v x := by
  cases x with
  | nil => exact h
  | code n => exact h
  | «at» k i n =>
    obtain ⟨g, e, hg⟩ := h
    have hne : g ≠ B := by
      rintro rfl
      have := (show w.heap[g]? = _ from hg).symm.trans hc
      simp at this
    exact ⟨g, e, (hg.other (a := ⟨B, 0, none⟩) hne _).other (a := ⟨B, 1, none⟩) hne _⟩
set_option maxRecDepth 100000 in
theorem meet_form (A : HA) (h : HierD) (s t : Int) (w : World) (see : HSee w A h) (hc : checkErr h ≠ .nil) : Calls Tryz.prog 20 #[hierVal A h, .int .i64 s, .int .i64 t] w (MeetPost h s t w) := by
  have SEE := Lib.hid see
  have HC := Lib.hid hc
  clear see hc
  unfold hierVal
  go_enter Tryz.func20, Tryz.ntmps20
  go_wp2_with fail
  refine (ranks_any A h _ (SEE.out.below (((Below.refl _ _).alloc (Nat.le_refl _) _).alloc (by simp) _))).mono ?_
  rintro e w1 (⟨v, rfl, hv, -, hb⟩ | ⟨b, rfl, hc, -⟩)
  · obtain ⟨tt, u, rfl⟩ := hv.iface HC.out
    have hcs := (Cells.new (w.alloc (.cells (hierCells A h).toArray 25)) 72 [.int .i64 0, .int .u64 0]).below hb (by simp)
    rw [World.size_alloc] at hcs
    have c0 : w1.cell? ⟨w.heap.size + 1, 0, none⟩ = some (.int .i64 0) := hcs.cell rfl
    have c1 : w1.cell? ⟨w.heap.size + 1, 1, none⟩ = some (.int .u64 0) := hcs.cell rfl
    have f0 := hcs.frozen 0
    have f1 := hcs.frozen 1
    have lb := hcs.lt
    have HV := Lib.hid hv
    have HCS := Lib.hid hcs
    have HB := Lib.hid ((((Below.refl w.heap.size w).alloc (Nat.le_refl _) _).alloc (by simp) _).trans (hb.mono (by simp; omega)))
    clear hv hb hcs
    go_wp2_with fail
    refine bodyPost_ret (results_ct rfl _ _ (w.heap.size + 1) 72 [.int .i64 0, .int .u64 0] _ rfl ((HCS.out.set 0 _).set 1 _) Tryz.underlying72 rfl (by rw [Tryz.sizeBest]; rfl)) rfl ?_
    exact ⟨0, 0, _, _, rfl, HV.out.set2 HCS.out, .form HC.out, (HB.out.setCell (p := ⟨w.heap.size + 1, 0, none⟩) (by simp) _).setCell (p := ⟨w.heap.size + 1, 1, none⟩) (by simp) _⟩
  · exact absurd hc HC.out
set_option maxRecDepth 100000 in
theorem meet_nodes (A : HA) (h : HierD) (s t : Int) (w : World) (see : HSee w A h) (hc : checkErr h = .nil) (hk : nodesErr h.node.length s t ≠ .nil) (hs64 : s ≤ 9223372036854775807) (ht64 : t ≤ 9223372036854775807) : Calls Tryz.prog 20 #[hierVal A h, .int .i64 s, .int .i64 t] w (MeetPost h s t w) := by
  have SEE := Lib.hid see
  have HC := Lib.hid hc
  have hn := (checkErr_parts hc).1.n
  have HK := Lib.hid hk
  clear see hc hk
  unfold hierVal
  go_enter Tryz.func20, Tryz.ntmps20
  go_wp2_with fail
  refine (ranks_any A h _ (SEE.out.below (((Below.refl _ _).alloc (Nat.le_refl _) _).alloc (by simp) _))).mono ?_
  rintro e w1 (⟨v, rfl, hv, hcc, hb⟩ | ⟨b, rfl, -, hbb, hrk, hb⟩)
  · exact absurd HC.out hcc
  have hcs := (Cells.new (w.alloc (.cells (hierCells A h).toArray 25)) 72 [.int .i64 0, .int .u64 0]).below hb (by simp)
  rw [World.size_alloc] at hcs
  have lb := hcs.lt
  have HCS := Lib.hid hcs
  have HB := Lib.hid ((((Below.refl w.heap.size w).alloc (Nat.le_refl _) _).alloc (by simp) _).trans (hb.mono (by simp; omega)))
  clear hb hcs hrk hbb
  by_cases h0 : s < 0 ∨ (h.node.length : Int) ≤ s
  · have hans : nodesErr h.node.length s t = .at 3 0 7 := if_pos h0
    have HANS := Lib.hid hans
    clear hans
    have hd : (decide (s < 0) = true) ∨ (decide (s < 0) = false ∧ decide ((h.node.length : Int) ≤ s) = true) := by
      by_cases h1 : s < 0
      · exact .inl (by simpa using h1)
      · exact .inr ⟨by simpa using h1, by simp; omega⟩
    clear h0
    rcases hd with d1 | ⟨d1, d2⟩
    all_goals
      go_wp2_with fail
      go_loopg [30] 2 (fun g vi wr => vi = .int .i64 0 ∧ g = 2 ∧ wr = w1.alloc (.cells #[.int .i64 s, .int .i64 t] 3))
      case atStart => exact ⟨rfl, rfl, rfl⟩
      case round =>
        obtain ⟨rfl, hg, rfl⟩ := hrel
        go_wp2_with fail
        refine (at_any 3 0 7 _).mono ?_
        rintro e w2 ⟨v, rfl, hv, hb2⟩
        have hcs2 := (HCS.out.alloc (.cells #[.int .i64 s, .int .i64 t] 3)).below hb2 (by simp; omega)
        have c0 : w2.cell? ⟨w.heap.size + 1, 0, none⟩ = some (.int .i64 0) := hcs2.cell rfl
        have c1 : w2.cell? ⟨w.heap.size + 1, 1, none⟩ = some (.int .u64 0) := hcs2.cell rfl
        have f0 := hcs2.frozen 0
        have f1 := hcs2.frozen 1
        have lb2 := hcs2.lt
        have HCS2 := Lib.hid hcs2
        have HV := Lib.hid hv
        have HB2 := Lib.hid ((HB.out.alloc HB.out.size _).trans (hb2.mono (by have := HB.out.size; simp; omega)))
        clear hb2 hv hcs2
        go_wp2
        refine bodyPost_ret (results_ct rfl _ _ (w.heap.size + 1) 72 [.int .i64 0, .int .u64 0] _ rfl ((HCS2.out.set 0 _).set 1 _) Tryz.underlying72 rfl (by rw [Tryz.sizeBest]; rfl)) rfl ?_
        refine ⟨0, 0, nodesErr h.node.length s t, _, rfl, ?_, .nodes HC.out HK.out, (HB2.out.setCell (p := ⟨w.heap.size + 1, 0, none⟩) (by simp) _).setCell (p := ⟨w.heap.size + 1, 1, none⟩) (by simp) _⟩
        rw [HANS.out]
        exact HV.out.set2 HCS2.out
  · have e1 : decide (s < 0) = false := by simp; omega
    have e2 : decide ((h.node.length : Int) ≤ s) = false := by simp; omega
    have ht : t < 0 ∨ (h.node.length : Int) ≤ t := by
      have := HK.out
      unfold nodesErr at this
      rw [if_neg h0] at this
      apply Classical.byContradiction
      intro hnt
      rw [if_neg hnt] at this
      exact this rfl
    have hans : nodesErr h.node.length s t = .at 3 1 7 := (if_neg h0).trans (if_pos ht)
    have HANS := Lib.hid hans
    clear hans
    have hd : (decide (t < 0) = true) ∨ (decide (t < 0) = false ∧ decide ((h.node.length : Int) ≤ t) = true) := by
      by_cases h1 : t < 0
      · exact .inl (by simpa using h1)
      · exact .inr ⟨by simpa using h1, by simp; omega⟩
    clear h0 ht
    rcases hd with d1 | ⟨d1, d2⟩
    all_goals
      go_wp2_with fail
      go_loopg [30] 2 (fun g vi wr => ∃ k : Nat, vi = .int .i64 k ∧ k ≤ 1 ∧ g = 2 - k ∧ wr = w1.alloc (.cells #[.int .i64 s, .int .i64 t] 3))
      case atStart => exact ⟨0, rfl, by omega, rfl, rfl⟩
      case round =>
        obtain ⟨k, rfl, hk, hg, rfl⟩ := hrel
        rcases (by omega : k = 0 ∨ k = 1) with rfl | rfl
        · go_wp2_with fail
          go_roundg 1
          case measure => omega
          case rel => exact ⟨1, rfl, by omega, rfl, rfl⟩
        · go_wp2_with fail
          refine (at_any 3 1 7 _).mono ?_
          rintro e w2 ⟨v, rfl, hv, hb2⟩
          have hcs2 := (HCS.out.alloc (.cells #[.int .i64 s, .int .i64 t] 3)).below hb2 (by simp; omega)
          have c0 : w2.cell? ⟨w.heap.size + 1, 0, none⟩ = some (.int .i64 0) := hcs2.cell rfl
          have c1 : w2.cell? ⟨w.heap.size + 1, 1, none⟩ = some (.int .u64 0) := hcs2.cell rfl
          have f0 := hcs2.frozen 0
          have f1 := hcs2.frozen 1
          have lb2 := hcs2.lt
          have HCS2 := Lib.hid hcs2
          have HV := Lib.hid hv
          have HB2 := Lib.hid ((HB.out.alloc HB.out.size _).trans (hb2.mono (by have := HB.out.size; simp; omega)))
          clear hb2 hv hcs2
          go_wp2
          refine bodyPost_ret (results_ct rfl _ _ (w.heap.size + 1) 72 [.int .i64 0, .int .u64 0] _ rfl ((HCS2.out.set 0 _).set 1 _) Tryz.underlying72 rfl (by rw [Tryz.sizeBest]; rfl)) rfl ?_
          refine ⟨0, 0, nodesErr h.node.length s t, _, rfl, ?_, .nodes HC.out HK.out, (HB2.out.setCell (p := ⟨w.heap.size + 1, 0, none⟩) (by simp) _).setCell (p := ⟨w.heap.size + 1, 1, none⟩) (by simp) _⟩
          rw [HANS.out]
          exact HV.out.set2 HCS2.out
end Go.Proofs.YtblkkjfpggcgfaaGreatDoor
