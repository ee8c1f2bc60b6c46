/- The distances upwards as the document reckons them, rank by rank: they are the least lengths. The example of three nodes. No program here. -/
import Derived.Test.YtjbphoophgbmiaaTurnQ
namespace Go.Proofs.Ytjbphoophgbmiaa

def relaxD (d : Int) (D : Nat → Option Int) (l : LinkD) : Nat → Option Int := fun r => if r = l.to then some (match D r with | some e => if d + l.wt < e then d + l.wt else e | none => d + l.wt) else D r
def startD (s : Nat) : Nat → Option Int := fun r => if r = s then some 0 else none
def distsK (first : List Nat) (links : List LinkD) (s : Nat) : Nat → Nat → Option Int
  | 0 => startD s
  | k + 1 => match distsK first links s k k with
    | none => distsK first links s k
    | some d => (seg first links k).foldl (relaxD d) (distsK first links s k)

theorem relax_le (d : Int) (ls : List LinkD) (k : Nat) (h : ∀ l ∈ ls, k < l.to) : ∀ (D : Nat → Option Int) r, r ≤ k → ls.foldl (relaxD d) D r = D r := by
  induction ls with
  | nil => intro D r _; rfl
  | cons l ls ih =>
    intro D r hr
    rw [List.foldl_cons, ih (fun x hx => h x (by simp [hx])) _ r hr]
    have := h l (by simp)
    exact if_neg (by omega)
theorem relax_mono (d : Int) (ls : List LinkD) : ∀ (D : Nat → Option Int) r e, D r = some e → ∃ e', ls.foldl (relaxD d) D r = some e' ∧ e' ≤ e := by
  induction ls with
  | nil => intro D r e h; exact ⟨e, h, Int.le_refl _⟩
  | cons l ls ih =>
    intro D r e h
    rw [List.foldl_cons]
    have : ∃ e1, relaxD d D l r = some e1 ∧ e1 ≤ e := by
      unfold relaxD
      by_cases hr : r = l.to
      · rw [if_pos hr, h]
        simp only
        by_cases h1 : d + l.wt < e
        · rw [if_pos h1]; exact ⟨_, rfl, by omega⟩
        · rw [if_neg h1]; exact ⟨_, rfl, Int.le_refl _⟩
      · rw [if_neg hr]; exact ⟨e, h, Int.le_refl _⟩
    obtain ⟨e1, h1, h2⟩ := this
    obtain ⟨e2, h3, h4⟩ := ih _ r e1 h1
    exact ⟨e2, h3, by omega⟩
theorem relax_new (d : Int) (ls : List LinkD) : ∀ (D : Nat → Option Int), ∀ l ∈ ls, ∃ e, ls.foldl (relaxD d) D l.to = some e ∧ e ≤ d + l.wt := by
  induction ls with
  | nil => intro D l h; cases h
  | cons x ls ih =>
    intro D l h
    rw [List.foldl_cons]
    rw [List.mem_cons] at h
    rcases h with rfl | h
    · have : ∃ e1, relaxD d D l l.to = some e1 ∧ e1 ≤ d + l.wt := by
        unfold relaxD
        rw [if_pos rfl]
        cases D l.to with
        | none => exact ⟨_, rfl, Int.le_refl _⟩
        | some e =>
          simp only
          by_cases h1 : d + l.wt < e
          · rw [if_pos h1]; exact ⟨_, rfl, Int.le_refl _⟩
          · rw [if_neg h1]; exact ⟨_, rfl, by omega⟩
      obtain ⟨e1, h1, h2⟩ := this
      obtain ⟨e2, h3, h4⟩ := relax_mono d ls _ _ _ h1
      exact ⟨e2, h3, by omega⟩
    · exact ih _ l h
theorem relax_src (d : Int) (ls : List LinkD) : ∀ (D : Nat → Option Int) r e, ls.foldl (relaxD d) D r = some e → D r = some e ∨ ∃ l ∈ ls, l.to = r ∧ e = d + l.wt := by
  induction ls with
  | nil => intro D r e h; exact .inl h
  | cons x ls ih =>
    intro D r e h
    rw [List.foldl_cons] at h
    rcases ih _ r e h with h1 | ⟨l, hl, h1⟩
    · unfold relaxD at h1
      by_cases hr : r = x.to
      · rw [if_pos hr] at h1
        cases hD : D r with
        | none =>
          rw [hD] at h1
          simp only [Option.some.injEq] at h1
          exact .inr ⟨x, by simp, hr.symm, h1.symm⟩
        | some e0 =>
          rw [hD] at h1
          simp only [Option.some.injEq] at h1
          by_cases h2 : d + x.wt < e0
          · rw [if_pos h2] at h1
            exact .inr ⟨x, by simp, hr.symm, h1.symm⟩
          · rw [if_neg h2] at h1
            exact .inl (by rw [h1])
      · rw [if_neg hr] at h1
        exact .inl h1
    · exact .inr ⟨l, by simp [hl], h1⟩

structure DistK (n : Nat) (first : List Nat) (links : List LinkD) (s k : Nat) (D : Nat → Option Int) : Prop where
  src : D s = some 0
  fwd : ∀ x d l, x < k → D x = some d → l ∈ seg first links x → ∃ e, D l.to = some e ∧ e ≤ d + l.wt
  bwd : ∀ r e, r ≠ s → D r = some e → ∃ x d l, x < k ∧ x < r ∧ D x = some d ∧ l ∈ seg first links x ∧ l.to = r ∧ e = d + l.wt
  dom : ∀ r e, D r = some e → r < n
  low : ∀ r e, D r = some e → s ≤ r
theorem distsK_ok {n : Nat} {first : List Nat} {links : List LinkD} {s : Nat} (ok : HalfOk n first links) (hs : s < n) : ∀ k, k ≤ n → DistK n first links s k (distsK first links s k) := by
  intro k
  induction k with
  | zero =>
    intro _
    refine ⟨by simp [distsK, startD], fun x d l h => by omega, fun r e hr h => ?_, fun r e h => ?_, fun r e h => ?_⟩
    · simp [distsK, startD, hr] at h
    · by_cases hr : r = s
      · omega
      · simp [distsK, startD, hr] at h
    · by_cases hr : r = s
      · omega
      · simp [distsK, startD, hr] at h
  | succ k ih =>
    intro hk
    have I := ih (by omega)
    conv => rhs; unfold distsK
    cases hD : distsK first links s k k with
    | none =>
      simp only
      refine ⟨I.src, fun x d l hx hd hl => ?_, fun r e hr h => ?_, I.dom, I.low⟩
      · rcases Nat.lt_or_ge x k with h1 | h1
        · exact I.fwd x d l h1 hd hl
        · obtain rfl : x = k := by omega
          rw [hD] at hd; cases hd
      · obtain ⟨x, d, l, h1, h2⟩ := I.bwd r e hr h
        exact ⟨x, d, l, by omega, h2⟩
    | some d =>
      simp only
      have hup : ∀ l ∈ seg first links k, k < l.to := fun l hl => (ok.up k (by omega) l hl).1
      have hle := relax_le d (seg first links k) k hup (distsK first links s k)
      have hsk := I.low k d hD
      refine ⟨by rw [hle s hsk]; exact I.src, fun x d' l hx hd hl => ?_, fun r e hr h => ?_, fun r e h => ?_, fun r e h => ?_⟩
      · rw [hle x (by omega)] at hd
        rcases Nat.lt_or_ge x k with h1 | h1
        · obtain ⟨e, h2, h3⟩ := I.fwd x d' l h1 hd hl
          obtain ⟨e', h4, h5⟩ := relax_mono d (seg first links k) _ _ _ h2
          exact ⟨e', h4, by omega⟩
        · obtain rfl : x = k := by omega
          rw [hD] at hd
          simp only [Option.some.injEq] at hd
          subst hd
          exact relax_new d _ _ l hl
      · rcases relax_src d _ _ r e h with h1 | ⟨l, hl, hto, he⟩
        · obtain ⟨x, d', l, h2, h3, h4, h5⟩ := I.bwd r e hr h1
          exact ⟨x, d', l, by omega, h3, by rw [hle x (by omega)]; exact h4, h5⟩
        · exact ⟨k, d, l, by omega, by rw [← hto]; exact hup l hl, by rw [hle k (Nat.le_refl _)]; exact hD, hl, hto, he⟩
      · rcases relax_src d _ _ r e h with h1 | ⟨l, hl, hto, he⟩
        · exact I.dom r e h1
        · rw [← hto]; exact (ok.up k (by omega) l hl).2.1
      · rcases relax_src d _ _ r e h with h1 | ⟨l, hl, hto, he⟩
        · exact I.low r e h1
        · have := hup l hl
          omega
/-- Reckoned through all ranks: the least lengths. -/
theorem dists_isD {n : Nat} {first : List Nat} {links : List LinkD} {s : Nat} (ok : HalfOk n first links) (hs : s < n) : IsD n first links s (distsK first links s n) := by
  have I := distsK_ok ok hs n (Nat.le_refl _)
  exact ⟨I.src, fun x d l hx hd hl => I.fwd x d l hx hd hl, fun r e hr h => by
    obtain ⟨x, d, l, h1, h2, h3⟩ := I.bwd r e hr h
    exact ⟨x, d, l, h1, h3⟩, I.dom⟩

/-! ### the example of three nodes -/
def threeD : HierD := ⟨[1, 0, 2], [0, 1, 2, 2], [⟨2, 1, 4294967295, 4294967295⟩, ⟨2, 5, 2, 0⟩], [0, 1, 1, 1], [⟨1, 4, 4294967295, 4294967295⟩]⟩
theorem three_form : checkErr threeD = .nil := by decide +kernel
/-- What Distance and Meet answer of a hierarchy in form, reckoned. -/
theorem MeetIs.is {h : HierD} {s t : Int} {r : Nat} {d : Int} {x : EV} (hc : checkErr h = .nil) (hk : nodesErr h.node.length s t = .nil) (a : MeetIs h s t r d x) :
    (if (meetTo (distsK h.upF h.up (h.node.idxOf s.toNat) h.node.length) (distsK h.dnF h.dn (h.node.idxOf t.toNat) h.node.length) h.node.length).2 = 18446744073709551615 then (0, (0 : Int), EV.code 16)
      else ((meetTo (distsK h.upF h.up (h.node.idxOf s.toNat) h.node.length) (distsK h.dnF h.dn (h.node.idxOf t.toNat) h.node.length) h.node.length).1, (meetTo (distsK h.upF h.up (h.node.idxOf s.toNat) h.node.length) (distsK h.dnF h.dn (h.node.idxOf t.toNat) h.node.length) h.node.length).2, .nil)) = (r, d, x) := by
  obtain ⟨f, -, -, ho, -⟩ := checkErr_parts hc
  have ok := order_nil ho
  obtain ⟨⟨h1, h2⟩, h3, h4⟩ := nodesErr_nil.1 hk
  have i1 : h.node.idxOf s.toNat < h.node.length := List.idxOf_lt_length_iff.2 (ok.mem _ (by omega))
  have i2 : h.node.idxOf t.toNat < h.node.length := List.idxOf_lt_length_iff.2 (ok.mem _ (by omega))
  have D := dists_isD (half_up hc) i1
  have E := dists_isD (half_dn hc) i2
  split
  · rename_i h5
    obtain ⟨a1, a2, a3⟩ := (MeetIs.none _ _ hc hk D E h5).same a
    rw [a1, a2, a3]
  · rename_i h5
    obtain ⟨a1, a2, a3⟩ := (MeetIs.walk _ _ _ _ hc hk D E rfl h5).same a
    rw [a1, a2, ← a3]
theorem three_02 {r : Nat} {d : Int} {x : EV} (a : MeetIs threeD 0 2 r d x) : r = 2 ∧ d = 5 ∧ x = .nil := by
  have h := MeetIs.is three_form (by decide +kernel) a
  rw [show (if _ = _ then _ else _ : Nat × Int × EV) = (2, 5, .nil) from by decide +kernel] at h
  simp only [Prod.mk.injEq] at h
  exact ⟨h.1.symm, h.2.1.symm, h.2.2.symm⟩
theorem three_01 {r : Nat} {d : Int} {x : EV} (a : MeetIs threeD 0 1 r d x) : r = 1 ∧ d = 4 ∧ x = .nil := by
  have h := MeetIs.is three_form (by decide +kernel) a
  rw [show (if _ = _ then _ else _ : Nat × Int × EV) = (1, 4, .nil) from by decide +kernel] at h
  simp only [Prod.mk.injEq] at h
  exact ⟨h.1.symm, h.2.1.symm, h.2.2.symm⟩
end Go.Proofs.Ytjbphoophgbmiaa
