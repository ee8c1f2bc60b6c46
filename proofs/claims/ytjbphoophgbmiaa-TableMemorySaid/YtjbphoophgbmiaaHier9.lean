/- The contracts of hier's Check and Ranks. -/
import Derived.Test.YtjbphoophgbmiaaHier8
namespace Go.Proofs.Ytjbphoophgbmiaa
open Go.ChangeShapes Go.WideShapes Go.ChangeAt Go.RowKit Go.Joins Go.Deep

/-! ### a list that has each number once -/
theorem pigeon (n : Nat) : ∀ l : List Nat, l.Nodup → (∀ x ∈ l, x < n) → l.length ≤ n := by
  induction n with
  | zero =>
    intro l _ h
    cases l with
    | nil => simp
    | cons a l => exact absurd (h a (by simp)) (by omega)
  | succ n ih =>
    intro l hn h
    by_cases hm : n ∈ l
    · have h1 := List.length_erase_of_mem hm
      have h2 := ih (l.erase n) (hn.erase n) (fun x hx => by
        have h3 := h x (List.mem_of_mem_erase hx)
        have h4 : x ≠ n := fun e => by subst e; exact hn.not_mem_erase hx
        omega)
      omega
    · have h2 := ih l hn (fun x hx => by
        have h3 := h x hx
        have h4 : x ≠ n := fun e => by subst e; exact hm hx
        omega)
      omega
structure OrderOk (l : List Nat) : Prop where
  nodup : l.Nodup
  lt : ∀ x ∈ l, x < l.length
  mem : ∀ v, v < l.length → v ∈ l
theorem orderGo_nil {l : List Nat} : ∀ k, k ≤ l.length → orderGo l k = .nil → (l.take k).Nodup ∧ ∀ x ∈ l.take k, x < l.length := by
  intro k
  induction k with
  | zero => intro _ _; simp
  | succ k ih =>
    intro hk h
    unfold orderGo at h
    split at h
    · rename_i h0
      obtain ⟨h1, h2⟩ := ih (by omega) h0
      split at h
      · cases h
      · rename_i h3
        have hx : l[k]? = some l[k] := List.getElem?_eq_getElem (by omega)
        rw [List.getD_eq_getElem?_getD, hx] at h3
        simp only [Option.getD_some, not_or] at h3
        rw [List.take_add_one, hx]
        simp only [Option.toList_some]
        refine ⟨List.nodup_append.2 ⟨h1, by simp, fun a ha b hb => ?_⟩, fun x hxm => ?_⟩
        · simp only [List.mem_singleton] at hb
          subst hb
          intro e
          subst e
          exact h3.2 ha
        · rw [List.mem_append, List.mem_singleton] at hxm
          rcases hxm with hxm | rfl
          · exact h2 x hxm
          · omega
    · rename_i e he; exact absurd h he
theorem order_nil {l : List Nat} (h : orderErr l = .nil) : OrderOk l := by
  obtain ⟨h1, h2⟩ := orderGo_nil l.length (Nat.le_refl _) h
  rw [List.take_length] at h1 h2
  refine ⟨h1, h2, fun v hv => ?_⟩
  apply Classical.byContradiction
  intro hm
  have := pigeon l.length (v :: l) (List.nodup_cons.2 ⟨hm, h1⟩) (fun x hx => by
    rw [List.mem_cons] at hx
    rcases hx with rfl | hx
    · exact hv
    · exact h2 x hx)
  simp only [List.length_cons] at this
  omega
theorem idxOf_getElem {l : List Nat} (h : l.Nodup) {k x : Nat} (hx : l[k]? = some x) : l.idxOf x = k := by
  obtain ⟨hk, rfl⟩ := List.getElem?_eq_some_iff.1 hx
  exact h.idxOf_getElem k hk
def rankPart (l : List Nat) (k : Nat) : List Value := (List.range l.length).map fun v => .int .i64 ((if v ∈ l.take k then l.idxOf v else 0 : Nat) : Int)
def rankCells (l : List Nat) : List Value := (List.range l.length).map fun v => .int .i64 (l.idxOf v : Int)
theorem rankPart_zero (l : List Nat) : rankPart l 0 = marksOf [] l.length := by simp [rankPart, marksOf]
theorem rankPart_full {l : List Nat} (ok : OrderOk l) : rankPart l l.length = rankCells l := by
  unfold rankPart rankCells
  apply List.map_congr_left
  intro v hv
  rw [List.take_length, if_pos (ok.mem v (List.mem_range.1 hv))]
theorem rankPart_set {l : List Nat} (ok : OrderOk l) {k x : Nat} (hx : l[k]? = some x) : (rankPart l k).set x (.int .i64 (k : Int)) = rankPart l (k + 1) := by
  have hlt := ok.lt x (List.mem_of_getElem? hx)
  have hi := idxOf_getElem ok.nodup hx
  apply List.ext_getElem?
  intro j
  rw [List.getElem?_set]
  simp only [rankPart, List.getElem?_map, List.length_map, List.length_range]
  by_cases hj : x = j
  · subst hj
    rw [if_pos rfl, if_pos hlt, List.getElem?_range hlt]
    simp only [Option.map_some, List.take_add_one, hx, Option.toList_some, List.mem_append, List.mem_singleton, or_true, if_true, hi]
  · rw [if_neg hj]
    rcases Nat.lt_or_ge j l.length with h1 | h1
    · rw [List.getElem?_range h1]
      have : ¬ j = x := fun e => hj e.symm
      simp only [Option.map_some, List.take_add_one, hx, Option.toList_some, List.mem_append, List.mem_singleton, this, or_false]
    · rw [List.getElem?_eq_none (by simpa using h1)]; rfl

theorem checkErr_parts {h : HierD} (hc : checkErr h = .nil) : Fits h ∧ firstsErr h.upF h.up.length = .nil ∧ firstsErr h.dnF h.dn.length = .nil ∧ orderErr h.node = .nil ∧ linksGo h.node.length h.up.length (endsOf h) (endsOf h).length = .nil := by
  have hc' := hc
  unfold checkErr at hc
  split at hc
  · cases hc
  rename_i h1
  split at hc
  · cases hc
  rename_i h2
  have f : Fits h := ⟨by omega, by omega, by omega, by omega⟩
  rw [f.err] at hc'
  split at hc'
  · rename_i e1
    split at hc'
    · rename_i e2
      split at hc'
      · rename_i e3
        exact ⟨f, e1, e2, e3, hc'⟩
      · rename_i e he; exact absurd hc' he
    · rename_i e he; exact absurd hc' he
  · rename_i e he; exact absurd hc' he

set_option maxRecDepth 100000 in
theorem hcheck_any (A : HA) (h : HierD) (w : World) (see : HSee w A h) : Calls Try.prog 9 #[hierVal A h] w (ErrPost (checkErr h) w) := by
  have SEE := Lib.hid see
  clear see
  unfold hierVal
  go_enter Try.func9, Try.ntmps9
  go_wp2_with fail
  refine (ends_any A h _ (SEE.out.below ((Below.refl _ _).alloc (Nat.le_refl _) _))).mono ?_
  rintro e w1 (⟨v, rfl, hv, -, hb⟩ | ⟨ao, cap, rfl, hc, -, hb⟩)
  · have HV := Lib.hid hv
    have HB := Lib.hid (((Below.refl w.heap.size w).alloc (Nat.le_refl _) _).trans (hb.mono (by simp)))
    clear hv hb
    go_wp2
    go_returns
    exact ⟨_, rfl, HV.out, HB.out⟩
  · have HC := Lib.hid hc
    have HB := Lib.hid (((Below.refl w.heap.size w).alloc (Nat.le_refl _) _).trans (hb.mono (by simp)))
    clear hc hb
    go_wp2
    go_returns
    exact ⟨_, rfl, by rw [HC.out]; rfl, HB.out⟩

def RanksPost (h : HierD) (w : World) (e : Ending) (w' : World) : Prop :=
  (∃ v, e = .returned (.tuple #[.slice none 0 0, v]) ∧ ErrIs w' v (checkErr h) ∧ checkErr h ≠ .nil ∧ Below w.heap.size w w') ∨
  (∃ b, e = .returned (.tuple #[.slice (some ⟨b, 0, none⟩) h.node.length h.node.length, .nilIface]) ∧ checkErr h = .nil ∧ w.heap.size ≤ b ∧ Cells w' b 3 (rankCells h.node) ∧ Below w.heap.size w w')

set_option maxRecDepth 100000 in
theorem ranks_any (A : HA) (h : HierD) (w : World) (see : HSee w A h) : Calls Try.prog 31 #[hierVal A h] w (RanksPost h w) := by
  have SEE := Lib.hid see
  clear see
  unfold hierVal
  go_enter Try.func31, Try.ntmps31
  go_wp2_with fail
  refine (hcheck_any A h _ (SEE.out.below ((Below.refl _ _).alloc (Nat.le_refl _) _))).mono ?_
  rintro e w1 ⟨v, rfl, hv, hb⟩
  have hB := ((Below.refl w.heap.size w).alloc (Nat.le_refl _) _).trans (hb.mono (by simp))
  by_cases hc : checkErr h = .nil
  · obtain rfl := hv.nilv hc
    have hcs := (Cells.new w 25 (hierCells A h)).below hb (by simp)
    have c0 : w1.cell? ⟨w.heap.size, 0, none⟩ = some (.slice A.a0 h.node.length A.c0) := hcs.cell rfl
    obtain ⟨f, -, -, ho, -⟩ := checkErr_parts hc
    have hnl := f.n
    have ok := order_nil ho
    have hmk := run_make_n (P := Try.prog) 40 3 (.int .i64 0) 1 8 Try.underlying40 Try.infoInt .i64 .i64 h.node.length (by omega) (by omega)
    rw [marks_made, ← rankPart_zero] at hmk
    have OK := Lib.hid ok
    have HB := Lib.hid hB
    have HC := Lib.hid hc
    have lb0 := hcs.lt
    clear hv hb hcs ho ok hB hc f
    go_wp2_with fail
    go_loopg [20] h.node.length (fun g vi wr => ∃ k : Nat, vi = .int .i64 k ∧ k ≤ h.node.length ∧ g = h.node.length - k ∧ Cells wr w1.heap.size 3 (rankPart h.node k) ∧ Below w1.heap.size w1 wr)
    case atStart => exact ⟨0, rfl, Nat.zero_le _, rfl, Cells.new w1 3 (rankPart h.node 0), (Below.refl _ _).alloc (Nat.le_refl _) _⟩
    case round =>
      obtain ⟨k, rfl, hk, hg, hcs, hbl⟩ := hrel
      have HBL := Lib.hid hbl
      have HG := Lib.hid hg
      have HCS := Lib.hid hcs
      have hsz := hcs.lt
      clear hbl hg hcs
      by_cases hkl : k < h.node.length
      · obtain ⟨x, hx⟩ : ∃ x, h.node[k]? = some x := ⟨_, List.getElem?_eq_getElem (by omega)⟩
        obtain ⟨b, o, ea, cc⟩ := ((SEE.out.below HB.out).below HBL.out).node.cell k x hx
        have e0 := cc 0 _ rfl
        rw [Nat.mul_one, Nat.add_zero] at e0
        have lb := block_lt e0
        have hx32 : x < 4294967296 := SEE.out.bn x (List.mem_of_getElem? hx)
        have hxl : x < h.node.length := OK.out.lt x (List.mem_of_getElem? hx)
        have hf := HCS.out.frozen x
        have hm : wr.cell? ⟨w1.heap.size, x, none⟩ = some (.int .i64 ((if x ∈ h.node.take k then h.node.idxOf x else 0 : Nat) : Int)) := HCS.out.cell (by simp [rankPart, hxl])
        have EA := Lib.hid ea
        have HX := Lib.hid hx
        have HM2 := Lib.hid (HCS.out.set x (.int .i64 (k : Int)))
        clear hx cc ea
        generalize ((if x ∈ h.node.take k then h.node.idxOf x else 0 : Nat) : Int) = old at hm
        rw [EA.out]
        go_wp2_with fail
        rw [← EA.out]
        go_roundg (h.node.length - (k + 1))
        case measure => rw [HG.out]; omega
        case rel =>
          refine ⟨k + 1, by go_num, by omega, rfl, ?_, HBL.out.setCell (p := ⟨w1.heap.size, x, none⟩) (Nat.le_refl _) _⟩
          rw [← rankPart_set OK.out HX.out]
          exact HM2.out
      · obtain rfl : k = h.node.length := by omega
        go_wp2
        go_returns
        refine .inr ⟨w1.heap.size, rfl, HC.out, HB.out.size, ?_, HB.out.trans (HBL.out.mono HB.out.size)⟩
        rw [← rankPart_full OK.out]
        exact HCS.out
  · obtain ⟨t, u, rfl⟩ := hv.iface hc
    have HV := Lib.hid hv
    have HB := Lib.hid hB
    have HC := Lib.hid hc
    clear hv hb hB hc
    go_wp2
    go_returns
    exact .inl ⟨_, rfl, HV.out, HC.out, HB.out⟩
end Go.Proofs.Ytjbphoophgbmiaa
