/- Tables, as data. No program here. -/
import Derived.Test.YtjbphoophgbmiaaDistP
namespace Go.Proofs.Ytjbphoophgbmiaa

/-- At a rank: the columns below j that are reached down from it, and how far. -/
def colTo (E : Nat → Nat → Option Int) (j r : Nat) : List (Nat × Int) := (List.range j).filterMap fun c => (E c r).map fun d => (c, d)
theorem colTo_succ (E : Nat → Nat → Option Int) (j r : Nat) : colTo E (j + 1) r = colTo E j r ++ (match E j r with | some d => [(j, d)] | none => []) := by
  unfold colTo
  rw [List.range_succ, List.filterMap_append]
  cases h : E j r <;> simp [h]
theorem colTo_none {E : Nat → Nat → Option Int} {j r : Nat} (h : E j r = none) : colTo E (j + 1) r = colTo E j r := by rw [colTo_succ, h]; simp
theorem colTo_some {E : Nat → Nat → Option Int} {j r : Nat} {d : Int} (h : E j r = some d) : colTo E (j + 1) r = colTo E j r ++ [(j, d)] := by rw [colTo_succ, h]
theorem colTo_len (E : Nat → Nat → Option Int) (j r : Nat) : (colTo E j r).length ≤ j := by
  unfold colTo
  have := List.length_filterMap_le (fun c => (E c r).map fun d => (c, d)) (List.range j)
  simpa using this
theorem colTo_mem {E : Nat → Nat → Option Int} {j r : Nat} {x : Nat × Int} : x ∈ colTo E j r ↔ x.1 < j ∧ E x.1 r = some x.2 := by
  unfold colTo
  rw [List.mem_filterMap]
  constructor
  · rintro ⟨c, hc, h⟩
    rw [Option.map_eq_some_iff] at h
    obtain ⟨d, hd, rfl⟩ := h
    exact ⟨List.mem_range.1 hc, hd⟩
  · rintro ⟨h1, h2⟩
    exact ⟨x.1, List.mem_range.2 h1, by rw [h2]; rfl⟩
theorem colTo_congr {E F : Nat → Nat → Option Int} {j r : Nat} (h : ∀ c, c < j → E c r = F c r) : colTo E j r = colTo F j r := by
  induction j with
  | zero => rfl
  | succ j ih => rw [colTo_succ, colTo_succ, ih (fun c hc => h c (by omega)), h j (by omega)]
def putE (S : Nat → List (Nat × Int)) (i : Nat) (s : Nat × Int) : Nat → List (Nat × Int) := fun v => if v = i then S v ++ [s] else S v
/-- The buckets while a column is laid in, up to the rank m. -/
def bukTo (E : Nat → Nat → Option Int) (j m : Nat) : Nat → List (Nat × Int) := fun r => if r < m then colTo E (j + 1) r else colTo E j r
theorem buk_step {n m j R : Nat} {E : Nat → Nat → Option Int} {X : Int} {t : List (Nat × Int)} (h : seenFrom n (E j) m = (R, X) :: t) : R < n ∧ E j R = some X ∧ t = seenFrom n (E j) (R + 1) ∧ ∀ r, putE (bukTo E j m) R (j, X) r = bukTo E j (R + 1) r := by
  obtain ⟨h1, h2, h3, h4, h5⟩ := seenFrom_cons _ m rfl h
  refine ⟨h2, h3, h4, fun r => ?_⟩
  unfold putE bukTo
  by_cases e : r = R
  · subst e
    rw [if_pos rfl, if_neg (by omega), if_pos (by omega), colTo_some h3]
  · rw [if_neg e]
    by_cases c : r < m
    · rw [if_pos c, if_pos (by omega)]
    · rw [if_neg c]
      by_cases c2 : r < R + 1
      · rw [if_pos c2, colTo_none (h5 r (by omega) (by omega))]
      · rw [if_neg c2]
theorem buk_end {n m j : Nat} {E : Nat → Nat → Option Int} (h : seenFrom n (E j) m = []) {r : Nat} (hr : r < n) : bukTo E j m r = colTo E (j + 1) r := by
  unfold bukTo
  split
  · rfl
  · rw [colTo_none (seenFrom_nil _ m rfl h r (by omega) hr)]
theorem buk_start (E : Nat → Nat → Option Int) (j r : Nat) : bukTo E j 0 r = colTo E j r := by simp [bukTo]

/-- A row while an entry is laid in. -/
def setMin (X : Int) (d : Nat → Int) (e : Nat × Int) : Nat → Int := fun c => if c = e.1 then min (d c) (X + e.2) else d c
theorem rowFold (X : Int) (E : Nat → Nat → Option Int) (R : Nat) (d : Nat → Int) : ∀ k c, (colTo E k R).foldl (setMin X) d c = if c < k then (match E c R with | some y => min (d c) (X + y) | none => d c) else d c := by
  intro k
  induction k with
  | zero => intro c; rfl
  | succ k ih =>
    intro c
    rw [colTo_succ, List.foldl_append]
    cases h : E k R with
    | none =>
      simp only [List.foldl_nil]
      rw [ih c]
      by_cases c1 : c < k
      · rw [if_pos c1, if_pos (by omega)]
      · rw [if_neg c1]
        by_cases c2 : c = k
        · subst c2; rw [if_pos (by omega), h]
        · rw [if_neg (by omega)]
    | some y =>
      simp only [List.foldl_cons, List.foldl_nil]
      unfold setMin
      by_cases c2 : c = k
      · subst c2
        simp only [if_true]
        have := ih c
        rw [if_neg (by omega)] at this
        unfold setMin at this
        rw [this, if_pos (by omega), h]
      · simp only [if_neg c2]
        have := ih c
        unfold setMin at this
        rw [this]
        by_cases c1 : c < k
        · rw [if_pos c1, if_pos (by omega)]
        · rw [if_neg c1, if_neg (by omega)]
/-- A number of a row while the ranks below m have been looked at. -/
def cellTo (D : Nat → Option Int) (E : Nat → Nat → Option Int) (m c : Nat) : Int := (meetTo D (E c) m).2
theorem cell_zero (D : Nat → Option Int) (E : Nat → Nat → Option Int) (c : Nat) : cellTo D E 0 c = 18446744073709551615 := rfl
theorem row_step {n m R k : Nat} {D : Nat → Option Int} {E : Nat → Nat → Option Int} {X : Int} {t : List (Nat × Int)} (h : seenFrom n D m = (R, X) :: t) : R < n ∧ D R = some X ∧ t = seenFrom n D (R + 1) ∧ ∀ c, c < k → (colTo E k R).foldl (setMin X) (cellTo D E m) c = cellTo D E (R + 1) c := by
  obtain ⟨h1, h2, h3, h4, h5⟩ := seenFrom_cons _ m rfl h
  refine ⟨h2, h3, h4, fun c hc => ?_⟩
  rw [rowFold, if_pos hc]
  unfold cellTo
  have hs := meetTo_skip (D := D) (E := E c) (m := m) (R - m) (fun q q1 q2 => .inl (h5 q q1 (by omega)))
  rw [show m + (R - m) = R from by omega] at hs
  rw [← hs]
  cases he : E c R with
  | none =>
    simp only
    conv => rhs; unfold meetTo
    rw [h3, he]
  | some y =>
    simp only
    rw [meetTo_step h3 he]
    split
    · simp only; omega
    · omega
theorem row_end {n m : Nat} {D : Nat → Option Int} {E : Nat → Nat → Option Int} (hm : m ≤ n) (h : seenFrom n D m = []) (c : Nat) : cellTo D E m c = cellTo D E n c := by
  unfold cellTo
  have hs := meetTo_skip (D := D) (E := E c) (m := m) (n - m) (fun q q1 q2 => .inl (seenFrom_nil _ m rfl h q q1 (by omega)))
  rw [show m + (n - m) = n from by omega] at hs
  rw [hs]
/-- A list of what was seen, from its place i on. -/
def SeenAt (n : Nat) (D : Nat → Option Int) (L : List (Nat × Int)) (i m : Nat) : Prop := m ≤ n ∧ L.drop i = seenFrom n D m
theorem SeenAt.start (n : Nat) (D : Nat → Option Int) : SeenAt n D (seenOf n D) 0 0 := ⟨Nat.zero_le _, by rw [seenFrom_zero]; rfl⟩
theorem SeenAt.cons {n i m R : Nat} {D : Nat → Option Int} {L : List (Nat × Int)} {X : Int} (h : SeenAt n D L i m) (hi : L[i]? = some (R, X)) : seenFrom n D m = (R, X) :: L.drop (i + 1) := by
  rw [← h.2]
  have hl := (List.getElem?_eq_some_iff.1 hi)
  obtain ⟨hl, e⟩ := hl
  rw [List.drop_eq_getElem_cons hl, e]
theorem SeenAt.done {n i m : Nat} {D : Nat → Option Int} {L : List (Nat × Int)} (h : SeenAt n D L i m) (hi : L.length ≤ i) : seenFrom n D m = [] := by
  rw [← h.2, List.drop_eq_nil_of_le hi]
end Go.Proofs.Ytjbphoophgbmiaa
