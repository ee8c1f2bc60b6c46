/- What the steps of the heap's lists keep: each thing is where its place says, keys are told alike, and the order comes back. No program here. -/
import Derived.Test.YtjbphoophgbmiaaHeapP
namespace Go.Proofs.Ytjbphoophgbmiaa

theorem lt2_iff (a b : Item) : lt2 a b = true ↔ a.1 < b.1 ∨ (a.1 = b.1 ∧ a.2 < b.2) := by
  simp [lt2]
theorem lt2_false (a b : Item) : lt2 a b = false ↔ b.1 < a.1 ∨ (a.1 = b.1 ∧ b.2 ≤ a.2) := by
  rw [Bool.eq_false_iff, Ne, lt2_iff]; omega
/-- a does not come behind b. -/
def le2 (a b : Item) : Prop := lt2 b a = false
theorem le2_iff (a b : Item) : le2 a b ↔ a.1 < b.1 ∨ (a.1 = b.1 ∧ a.2 ≤ b.2) := by unfold le2; rw [lt2_false]; omega
theorem le2_refl (a : Item) : le2 a a := by rw [le2_iff]; omega
theorem le2_trans {a b c : Item} (h : le2 a b) (k : le2 b c) : le2 a c := by rw [le2_iff] at *; omega
theorem le2_of_lt {a b : Item} (h : lt2 a b = true) : le2 a b := by rw [lt2_iff] at h; rw [le2_iff]; omega

/-- The key of a thing. -/
def keyOf (s : HS) (id : Nat) : Option Int :=
  match s.2[id]? with
  | some (p + 1) => (s.1[p]?).map (·.1)
  | _ => none
/-- Each thing is where its place says. -/
structure WF (s : HS) : Prop where
  a : ∀ i x, s.1[i]? = some x → s.2[x.2]? = some (i + 1)
  b : ∀ id p, s.2[id]? = some (p + 1) → ∃ x, s.1[p]? = some x ∧ x.2 = id

theorem put1 (s : HS) (i : Nat) (x : Item) (j : Nat) : (putP s i x).1[j]? = if i = j then (if i < s.1.length then some x else none) else s.1[j]? := by
  simp only [putP, List.getElem?_set]
theorem put2 (s : HS) (i : Nat) (x : Item) (id : Nat) : (putP s i x).2[id]? = if x.2 = id then (if x.2 < s.2.length then some (i + 1) else none) else s.2[id]? := by
  simp only [putP, List.getElem?_set]

theorem keyOf_at {s : HS} (h : WF s) {i : Nat} {x : Item} (hx : s.1[i]? = some x) : keyOf s x.2 = some x.1 := by
  simp [keyOf, h.a i x hx, hx]
theorem keyOf_some {s : HS} (h : WF s) {id : Nat} {k : Int} (hk : keyOf s id = some k) : ∃ i, s.1[i]? = some (k, id) ∧ s.2[id]? = some (i + 1) := by
  unfold keyOf at hk
  split at hk
  · rename_i p hp
    obtain ⟨x, hx, rfl⟩ := h.b _ _ hp
    rw [hx] at hk
    simp only [Option.map_some, Option.some.injEq] at hk
    exact ⟨p, by rw [hx, ← hk], hp⟩
  · cases hk

section swap
variable {s : HS} {i p : Nat} {x y : Item}
/-- The hole goes from i to p: what stood at p stands at i. -/
theorem swap_len (hi : i < s.1.length) (hw : WF (putP s i x)) (hy : s.1[p]? = some y) (hp : p ≠ i) : y.2 ≠ x.2 ∧ y.2 < s.2.length ∧ s.2[y.2]? = some (p + 1) := by
  have h1 := hw.a p y (by rw [put1, if_neg (fun e => hp e.symm)]; exact hy)
  have h2 := hw.a i x (by rw [put1, if_pos rfl, if_pos hi])
  have hne : y.2 ≠ x.2 := by
    intro e
    rw [e, h2] at h1
    simp at h1
    exact hp h1.symm
  rw [put2, if_neg (fun e => hne e.symm)] at h1
  exact ⟨hne, (List.getElem?_eq_some_iff.1 h1).1, h1⟩
theorem swap_WF (hi : i < s.1.length) (hx : x.2 < s.2.length) (hw : WF (putP s i x)) (hy : s.1[p]? = some y) (hp : p ≠ i) : WF (putP (putP s i y) p x) := by
  obtain ⟨hne, hyl, hyp⟩ := swap_len hi hw hy hp
  have hpl : p < s.1.length := (List.getElem?_eq_some_iff.1 hy).1
  have f1 : ∀ j, (putP (putP s i y) p x).1[j]? = if p = j then some x else if i = j then some y else s.1[j]? := by
    intro j
    rw [put1, putP_length, if_pos hpl, put1, if_pos hi]
  have f2 : ∀ d, (putP (putP s i y) p x).2[d]? = if x.2 = d then some (p + 1) else if y.2 = d then some (i + 1) else s.2[d]? := by
    intro d
    rw [put2, putP_length2, if_pos hx, put2, if_pos hyl]
  constructor
  · intro j z hz
    rw [f1] at hz
    rw [f2]
    by_cases h1 : p = j
    · subst h1
      rw [if_pos rfl] at hz
      obtain rfl : x = z := by simpa using hz
      rw [if_pos rfl]
    rw [if_neg h1] at hz
    by_cases h2 : i = j
    · subst h2
      rw [if_pos rfl] at hz
      obtain rfl : y = z := by simpa using hz
      rw [if_neg (fun e => hne e.symm), if_pos rfl]
    rw [if_neg h2] at hz
    have h3 := hw.a j z (by rw [put1, if_neg h2]; exact hz)
    rw [put2] at h3
    by_cases h4 : x.2 = z.2
    · rw [if_pos h4, if_pos hx] at h3; simp at h3; omega
    · rw [if_neg h4] at h3
      rw [if_neg h4]
      by_cases h5 : y.2 = z.2
      · rw [← h5, hyp] at h3; simp at h3; omega
      · rw [if_neg h5]; exact h3
  · intro d q hd
    rw [f2] at hd
    by_cases h1 : x.2 = d
    · rw [if_pos h1] at hd
      simp at hd
      subst hd
      exact ⟨x, by rw [f1, if_pos rfl], h1⟩
    rw [if_neg h1] at hd
    by_cases h2 : y.2 = d
    · rw [if_pos h2] at hd
      simp at hd
      subst hd
      exact ⟨y, by rw [f1, if_neg hp, if_pos rfl], h2⟩
    rw [if_neg h2] at hd
    obtain ⟨z, hz, hzd⟩ := hw.b d q (by rw [put2, if_neg h1]; exact hd)
    rw [put1] at hz
    by_cases h3 : i = q
    · rw [if_pos h3, if_pos hi] at hz
      obtain rfl : x = z := by simpa using hz
      exact absurd hzd h1
    · rw [if_neg h3] at hz
      refine ⟨z, ?_, hzd⟩
      rw [f1]
      by_cases h4 : p = q
      · subst h4
        rw [hy] at hz
        obtain rfl : y = z := by simpa using hz
        exact absurd hzd h2
      · rw [if_neg h4, if_neg h3]; exact hz
theorem swap_key (hi : i < s.1.length) (hx : x.2 < s.2.length) (hw : WF (putP s i x)) (hy : s.1[p]? = some y) (hp : p ≠ i) (d : Nat) : keyOf (putP (putP s i y) p x) d = keyOf (putP s i x) d := by
  have hw' := swap_WF hi hx hw hy hp
  have hpl : p < s.1.length := (List.getElem?_eq_some_iff.1 hy).1
  obtain ⟨hne, hyl, hyp⟩ := swap_len hi hw hy hp
  by_cases h1 : x.2 = d
  · subst h1
    rw [keyOf_at hw' (i := p) (by rw [put1, if_pos rfl, putP_length, if_pos hpl]), keyOf_at hw (i := i) (by rw [put1, if_pos rfl, if_pos hi])]
  by_cases h2 : y.2 = d
  · subst h2
    rw [keyOf_at hw' (i := i) (by rw [put1, if_neg hp, put1, if_pos rfl, if_pos hi]), keyOf_at hw (i := p) (by rw [put1, if_neg (fun e => hp e.symm)]; exact hy)]
  · unfold keyOf
    rw [put2, if_neg h1, put2, if_neg h2, put2, if_neg h1]
    split
    · rename_i q hq
      have h3 : q ≠ i := by
        rintro rfl
        obtain ⟨z, hz, hzd⟩ := hw.b d q (by rw [put2, if_neg h1]; exact hq)
        rw [put1, if_pos rfl, if_pos hi] at hz
        obtain rfl : x = z := by simpa using hz
        exact h1 hzd
      have h4 : q ≠ p := by
        rintro rfl
        obtain ⟨z, hz, hzd⟩ := hw.b d q (by rw [put2, if_neg h1]; exact hq)
        rw [put1, if_neg (fun e => hp e.symm), hy] at hz
        obtain rfl : y = z := by simpa using hz
        exact h2 hzd
      rw [put1, if_neg (fun e => h4 e.symm), put1, if_neg (fun e => h3 e.symm), put1, if_neg (fun e => h3 e.symm)]
    · rfl
end swap

/-! ### the order -/
def par (j : Nat) : Nat := (j - 1) / 4
/-- Item j does not come ahead of item i. -/
def okp (s : HS) (i j : Nat) : Prop := ∀ x y, s.1[i]? = some x → s.1[j]? = some y → le2 x y
def Ord (s : HS) : Prop := ∀ j, 0 < j → okp s (par j) j
/-- In order but for the item i. -/
structure Almost (s : HS) (i : Nat) : Prop where
  far : ∀ j, 0 < j → j ≠ i → par j ≠ i → okp s (par j) j
  near : ∀ j, 0 < j → par j = i → 0 < i → okp s (par i) j
/-- In order but for the children of i. -/
structure DownOrd (s : HS) (i : Nat) : Prop where
  far : ∀ j, 0 < j → par j ≠ i → okp s (par j) j
  near : ∀ j, 0 < j → par j = i → 0 < i → okp s (par i) j

theorem par_lt {j : Nat} (h : 0 < j) : par j < j := by unfold par; omega

/-- What the way up makes. -/
theorem upP_spec (x : Item) : ∀ (n : Nat) (s : HS) (i : Nat), i = n → i < s.1.length → x.2 < s.2.length → WF (putP s i x) → Almost (putP s i x) i →
    ∃ j, j ≤ i ∧ WF (upP s i x) ∧ (upP s i x).1[j]? = some x ∧ DownOrd (upP s i x) j ∧ (∀ d, keyOf (upP s i x) d = keyOf (putP s i x) d) ∧ (upP s i x).1.length = s.1.length ∧ (upP s i x).2.length = s.2.length := by
  intro n
  induction n using Nat.strongRecOn with
  | _ n ih =>
    intro s i hin hi hx hw ha
    subst hin
    have stop : ∀ (hle : 0 < i → ∀ y, s.1[par i]? = some y → le2 y x), ∃ j, j ≤ i ∧ WF (putP s i x) ∧ (putP s i x).1[j]? = some x ∧ DownOrd (putP s i x) j ∧ (∀ d, keyOf (putP s i x) d = keyOf (putP s i x) d) ∧ (putP s i x).1.length = s.1.length ∧ (putP s i x).2.length = s.2.length := by
      intro hle
      refine ⟨i, Nat.le_refl _, hw, by rw [put1, if_pos rfl, if_pos hi], ⟨?_, ha.near⟩, fun _ => rfl, putP_length _ _ _, putP_length2 _ _ _⟩
      intro j hj hpj
      by_cases hji : j = i
      · subst hji
        intro a b h1 h2
        have hlt := par_lt hj
        rw [put1, if_neg (by omega)] at h1
        rw [put1, if_pos rfl, if_pos hi] at h2
        obtain rfl : x = b := by simpa using h2
        exact hle hj a h1
      · exact ha.far j hj hji hpj
    by_cases h0 : 0 < i
    · have hpi := par_lt h0
      obtain ⟨y, hy⟩ : ∃ y, s.1[par i]? = some y := ⟨_, List.getElem?_eq_getElem (by omega)⟩
      have hya : itemAt s ((i - 1) / 4) = y := by
        have : s.1[(i - 1) / 4]? = some y := hy
        simp [itemAt, this]
      by_cases hlt : lt2 x y = true
      · have e : upP s i x = upP (putP s i y) (par i) x := by rw [upP, if_pos h0, hya, if_pos hlt]; rfl
        rw [e]
        have hpne : par i ≠ i := by omega
        have hw' := swap_WF hi hx hw hy hpne
        have f1 : ∀ j, (putP (putP s i y) (par i) x).1[j]? = if par i = j then some x else if i = j then some y else s.1[j]? := by
          intro j
          have hpl : par i < s.1.length := by omega
          simp only [put1, putP_length, if_pos hpl, if_pos hi]
        have fT : ∀ j, (putP s i x).1[j]? = if i = j then some x else s.1[j]? := by
          intro j
          rw [put1, if_pos hi]
        have ha' : Almost (putP (putP s i y) (par i) x) (par i) := by
          constructor
          · intro j hj h1 h2 a b h3 h4
            rw [f1, if_neg (fun e => h2 e.symm)] at h3
            rw [f1, if_neg (fun e => h1 e.symm)] at h4
            by_cases hij : i = j
            · subst hij
              exact absurd rfl h2
            rw [if_neg hij] at h4
            by_cases hip : i = par j
            · rw [if_pos hip] at h3
              obtain rfl : y = a := by simpa using h3
              -- the children of i: not ahead of what stood above i
              exact ha.near j hj hip.symm h0 y b (by rw [fT, if_neg (by omega)]; exact hy) (by rw [fT, if_neg hij]; exact h4)
            · rw [if_neg hip] at h3
              exact ha.far j hj (fun e => hij e.symm) (fun e => hip e.symm) a b (by rw [fT, if_neg hip]; exact h3) (by rw [fT, if_neg hij]; exact h4)
          · intro j hj h1 h2 a b h3 h4
            have hlt2 := par_lt h2
            have hltj := par_lt hj
            rw [f1, if_neg (by omega), if_neg (by omega)] at h3
            rw [f1, if_neg (by omega)] at h4
            have hay : le2 a y := ha.far (par i) h2 (by omega) (by omega) a y (by rw [fT, if_neg (by omega)]; exact h3) (by rw [fT, if_neg (by omega)]; exact hy)
            by_cases hij : i = j
            · rw [if_pos hij] at h4
              obtain rfl : y = b := by simpa using h4
              exact hay
            · rw [if_neg hij] at h4
              have := ha.far j hj (fun e => hij e.symm) (by omega) y b (by rw [fT, h1, if_neg (by omega)]; exact hy) (by rw [fT, if_neg hij]; exact h4)
              exact le2_trans hay this
        obtain ⟨j, hj, r1, r2, r3, r4, r5, r6⟩ := ih (par i) hpi (putP s i y) (par i) rfl (by rw [putP_length]; omega) (by rw [putP_length2]; exact hx) hw' ha'
        exact ⟨j, by omega, r1, r2, r3, fun d => (r4 d).trans (swap_key hi hx hw hy hpne d), r5.trans (putP_length _ _ _), r6.trans (putP_length2 _ _ _)⟩
      · have e : upP s i x = putP s i x := by rw [upP, if_pos h0, hya, if_neg hlt]
        rw [e]
        refine stop (fun _ z hz => ?_)
        rw [hy] at hz
        obtain rfl : y = z := by simpa using hz
        simpa [le2] using hlt
    · have e : upP s i x = putP s i x := by rw [upP, if_neg h0]
      rw [e]
      exact stop (fun h => absurd h h0)
end Go.Proofs.Ytjbphoophgbmiaa
