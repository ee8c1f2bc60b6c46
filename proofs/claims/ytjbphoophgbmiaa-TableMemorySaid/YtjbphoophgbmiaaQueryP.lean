/- Where two searches meet, as data; a hierarchy in form has sides in form. No program here. -/
import Derived.Test.YtjbphoophgbmiaaHier9
namespace Go.Proofs.Ytjbphoophgbmiaa

/-! ### a hierarchy in form -/
theorem linksGo_nil {n ups : Nat} {all : List EndD} {m : Nat} (h : linksGo n ups all m = .nil) : ∀ k, k < m → shapeB n ups all k = true ∧ weightB all k = true := by
  induction m with
  | zero => intro k hk; omega
  | succ m ih =>
    intro k hk
    unfold linksGo at h
    split at h
    · rename_i h0
      rcases Nat.lt_or_ge k m with h1 | h1
      · exact ih h0 k h1
      · obtain rfl : k = m := by omega
        split at h
        · cases h
        · rename_i h2
          split at h
          · cases h
          · rename_i h3
            exact ⟨by simpa using h2, by simpa using h3⟩
    · rename_i e he; exact absurd h he
theorem end_facts {n ups : Nat} {all : List EndD} (h : linksGo n ups all all.length = .nil) : ∀ x ∈ all, x.rank < x.link.to ∧ x.link.to < n ∧ x.link.wt ≤ 140737488355328 := by
  intro x hx
  obtain ⟨k, hk, rfl⟩ := List.mem_iff_getElem.1 hx
  obtain ⟨hs, hw⟩ := linksGo_nil h k hk
  have hg : all.getD k default = all[k] := by rw [List.getD_eq_getElem?_getD, List.getElem?_eq_getElem hk]; rfl
  rw [shapeB_eq n ups all k _ _ hg rfl] at hs
  split at hs
  · cases hs
  rename_i h1
  refine ⟨by omega, by omega, ?_⟩
  unfold weightB at hw
  simp only [hg] at hw
  split at hw
  · have := of_decide_eq_true hw; omega
  · exact (of_decide_eq_true hw).1
def upSide (h : HierD) : SideD := ⟨h.node.length, h.upF, h.up, h.dnF, h.dn⟩
def dnSide (h : HierD) : SideD := ⟨h.node.length, h.dnF, h.dn, h.upF, h.up⟩
theorem half_up {h : HierD} (hc : checkErr h = .nil) : HalfOk h.node.length h.upF h.up := by
  obtain ⟨f, e1, -, -, e4⟩ := checkErr_parts hc
  have u := firsts_nil f.u e1
  refine ⟨u.len, u.mono, fun r hr => u.le r hr, fun r hr l hl => ?_⟩
  have := end_facts e4 ⟨l, r, l.to, r⟩ (by
    unfold endsOf
    rw [List.mem_append, List.mem_flatMap]
    exact .inl ⟨r, List.mem_range.2 hr, by simp only [endsUp, List.mem_map]; exact ⟨l, hl, rfl⟩⟩)
  exact this
theorem half_dn {h : HierD} (hc : checkErr h = .nil) : HalfOk h.node.length h.dnF h.dn := by
  obtain ⟨f, -, e2, -, e4⟩ := checkErr_parts hc
  have u := firsts_nil f.d e2
  refine ⟨u.len, u.mono, fun r hr => u.le r hr, fun r hr l hl => ?_⟩
  have := end_facts e4 ⟨l, l.to, r, r⟩ (by
    unfold endsOf
    rw [List.mem_append, List.mem_flatMap, List.mem_flatMap]
    exact .inr ⟨r, List.mem_range.2 hr, by simp only [endsDn, List.mem_map]; exact ⟨l, hl, rfl⟩⟩)
  exact this
theorem side_up {h : HierD} (hc : checkErr h = .nil) : SideOk (upSide h) := ⟨(checkErr_parts hc).1.n, half_up hc, half_dn hc⟩
theorem side_dn {h : HierD} (hc : checkErr h = .nil) : SideOk (dnSide h) := ⟨(checkErr_parts hc).1.n, half_dn hc, half_up hc⟩
theorem IsD.bnd {n : Nat} {first : List Nat} {links : List LinkD} {s : Nat} {D : Nat → Option Int} (ok : HalfOk n first links) (h : IsD n first links s D) : ∀ r e, D r = some e → 0 ≤ e ∧ e ≤ r * 140737488355328 := by
  intro r
  induction r using Nat.strongRecOn with
  | _ r ih =>
    intro e he
    by_cases hr : r = s
    · subst hr
      rw [h.src] at he
      simp at he
      subst he
      exact ⟨by omega, by omega⟩
    · obtain ⟨x, d, l, hx, hd, hl, hto, rfl⟩ := h.bwd r e hr he
      obtain ⟨h1, h2, h3⟩ := ok.up x hx l hl
      rw [hto] at h1
      obtain ⟨h4, h5⟩ := ih x h1 d hd
      refine ⟨by omega, ?_⟩
      have : (x : Int) * 140737488355328 + 140737488355328 ≤ r * 140737488355328 := by omega
      omega

/-! ### where two searches meet -/
/-- Of the ranks below k the first one of least sum, and the sum. -/
def meetTo (D E : Nat → Option Int) : Nat → Nat × Int
  | 0 => (0, 18446744073709551615)
  | k + 1 => match D k, E k with
    | some x, some y => if x + y < (meetTo D E k).2 then (k, x + y) else meetTo D E k
    | _, _ => meetTo D E k
/-- What is seen from a rank on. -/
def seenFrom (n : Nat) (D : Nat → Option Int) (m : Nat) : List (Nat × Int) := (List.range' m (n - m)).filterMap fun r => (D r).map fun d => (r, d)
theorem seenFrom_zero (n : Nat) (D : Nat → Option Int) : seenFrom n D 0 = seenOf n D := by
  unfold seenFrom seenOf
  rw [Nat.sub_zero, List.range_eq_range']
theorem seenFrom_step (n : Nat) (D : Nat → Option Int) (m : Nat) (hm : m < n) : seenFrom n D m = (match D m with | some d => [(m, d)] | none => []) ++ seenFrom n D (m + 1) := by
  unfold seenFrom
  have e : n - m = (n - (m + 1)) + 1 := by omega
  rw [e, List.range'_succ, List.filterMap_cons]
  cases D m <;> rfl
theorem seenFrom_end (n : Nat) (D : Nat → Option Int) (m : Nat) (hm : n ≤ m) : seenFrom n D m = [] := by
  unfold seenFrom
  rw [show n - m = 0 by omega]
  rfl
theorem seenFrom_nil {n : Nat} {D : Nat → Option Int} : ∀ k m, n - m = k → seenFrom n D m = [] → ∀ r, m ≤ r → r < n → D r = none := by
  intro k
  induction k with
  | zero => intro m hk _ r h1 h2; omega
  | succ k ih =>
    intro m hk h r h1 h2
    rw [seenFrom_step n D m (by omega)] at h
    cases hD : D m with
    | some d => rw [hD] at h; cases h
    | none =>
      rw [hD] at h
      rcases Nat.eq_or_lt_of_le h1 with rfl | h3
      · exact hD
      · exact ih (m + 1) (by omega) h r h3 h2
theorem seenFrom_cons {n : Nat} {D : Nat → Option Int} {r : Nat} {d : Int} {t : List (Nat × Int)} : ∀ k m, n - m = k → seenFrom n D m = (r, d) :: t → m ≤ r ∧ r < n ∧ D r = some d ∧ t = seenFrom n D (r + 1) ∧ ∀ q, m ≤ q → q < r → D q = none := by
  intro k
  induction k with
  | zero =>
    intro m hk h
    rw [seenFrom_end n D m (by omega)] at h
    cases h
  | succ k ih =>
    intro m hk h
    rw [seenFrom_step n D m (by omega)] at h
    cases hD : D m with
    | some e =>
      rw [hD] at h
      simp only [List.cons_append, List.nil_append, List.cons.injEq, Prod.mk.injEq] at h
      obtain ⟨⟨rfl, rfl⟩, rfl⟩ := h
      exact ⟨Nat.le_refl _, by omega, hD, rfl, fun q h1 h2 => by omega⟩
    | none =>
      rw [hD] at h
      obtain ⟨h1, h2, h3, h4, h5⟩ := ih (m + 1) (by omega) h
      refine ⟨by omega, h2, h3, h4, fun q hq1 hq2 => ?_⟩
      rcases Nat.eq_or_lt_of_le hq1 with rfl | hq3
      · exact hD
      · exact h5 q hq3 hq2
theorem seenFrom_skip {n : Nat} {D : Nat → Option Int} {m : Nat} : ∀ k, m + k ≤ n → (∀ q, m ≤ q → q < m + k → D q = none) → seenFrom n D m = seenFrom n D (m + k) := by
  intro k
  induction k with
  | zero => intro _ _; rfl
  | succ k ih =>
    intro hk h
    rw [ih (by omega) (fun q h1 h2 => h q h1 (by omega)), seenFrom_step n D (m + k) (by omega), h (m + k) (by omega) (by omega)]
    rfl
/-- Ranks that only one side sees change nothing. -/
theorem meetTo_skip {D E : Nat → Option Int} {m : Nat} : ∀ k, (∀ q, m ≤ q → q < m + k → D q = none ∨ E q = none) → meetTo D E (m + k) = meetTo D E m := by
  intro k
  induction k with
  | zero => intro _; rfl
  | succ k ih =>
    intro h
    rw [← ih (fun q h1 h2 => h q h1 (by omega)), ← Nat.add_assoc]
    rcases h (m + k) (by omega) (by omega) with h1 | h1
    · conv => lhs; unfold meetTo
      rw [h1]
    · conv => lhs; unfold meetTo
      rw [h1]
      cases D (m + k) <;> rfl
theorem meetTo_swap (D E : Nat → Option Int) (k : Nat) : meetTo D E k = meetTo E D k := by
  induction k with
  | zero => rfl
  | succ k ih =>
    unfold meetTo
    rw [ih]
    cases D k <;> cases E k <;> simp only [Int.add_comm]
theorem meetTo_step {D E : Nat → Option Int} {k : Nat} {x y : Int} (hx : D k = some x) (hy : E k = some y) : meetTo D E (k + 1) = if x + y < (meetTo D E k).2 then (k, x + y) else meetTo D E k := by
  conv => lhs; unfold meetTo
  rw [hx, hy]
theorem meetTo_bnd {D E : Nat → Option Int} (hD : ∀ r d, D r = some d → 0 ≤ d) (hE : ∀ r d, E r = some d → 0 ≤ d) (k : Nat) : (meetTo D E k).1 ≤ k ∧ 0 ≤ (meetTo D E k).2 ∧ (meetTo D E k).2 ≤ 18446744073709551615 := by
  induction k with
  | zero => exact ⟨Nat.le_refl _, by show (0 : Int) ≤ 18446744073709551615; omega, by show (18446744073709551615 : Int) ≤ 18446744073709551615; omega⟩
  | succ k ih =>
    unfold meetTo
    split
    · rename_i x y hx hy
      have := hD k x hx
      have := hE k y hy
      split
      · exact ⟨by simp only; omega, by simp only; omega, by simp only; omega⟩
      · exact ⟨by omega, ih.2⟩
    · exact ⟨by omega, ih.2⟩
end Go.Proofs.Ytjbphoophgbmiaa
