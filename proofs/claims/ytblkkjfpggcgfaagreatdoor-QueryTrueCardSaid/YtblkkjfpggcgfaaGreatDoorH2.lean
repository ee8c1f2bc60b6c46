/- The heap of package heap as lists: what each step makes of its items and of its places. No program here. -/

namespace Go.Proofs.YtblkkjfpggcgfaaGreatDoor
abbrev Item := Int × Nat
def lt2 (a b : Item) : Bool := decide (a.1 < b.1) || (a.1 == b.1 && decide ((a.2 : Int) < (b.2 : Int)))
abbrev HS := List Item × List Nat
def putP (s : HS) (i : Nat) (x : Item) : HS := (s.1.set i x, s.2.set x.2 (i + 1))
def itemAt (s : HS) (i : Nat) : Item := s.1.getD i (0, 0)
def upP (s : HS) (i : Nat) (x : Item) : HS :=
  if 0 < i then
    if lt2 x (itemAt s ((i - 1) / 4)) then upP (putP s i (itemAt s ((i - 1) / 4))) ((i - 1) / 4) x else putP s i x
  else putP s i x
termination_by i
decreasing_by omega
def bestStep (s : HS) (i : Nat) (b : Option Nat) (k : Nat) : Option Nat :=
  if i * 4 + 1 + k < s.1.length then
    match b with
    | none => some (i * 4 + 1 + k)
    | some c => if lt2 (itemAt s (i * 4 + 1 + k)) (itemAt s c) then some (i * 4 + 1 + k) else some c
  else b
def bestTo (s : HS) (i : Nat) : Nat → Option Nat
  | 0 => none
  | k + 1 => bestStep s i (bestTo s i k) k
theorem bestStep_range (s : HS) (i : Nat) (b : Option Nat) (k : Nat) (hb : ∀ c, b = some c → i < c ∧ c < s.1.length) : ∀ c, bestStep s i b k = some c → i < c ∧ c < s.1.length := by
  intro c hc
  unfold bestStep at hc
  split at hc
  · cases b with
    | none => simp at hc; omega
    | some d =>
      simp only at hc
      split at hc
      · simp at hc; omega
      · exact hb c hc
  · exact hb c hc
theorem bestTo_range (s : HS) (i : Nat) : ∀ k c, bestTo s i k = some c → i < c ∧ c < s.1.length
  | 0, _, h => by simp [bestTo] at h
  | k + 1, c, h => bestStep_range s i _ k (fun d hd => bestTo_range s i k d hd) c h
theorem putP_length (s : HS) (i : Nat) (x : Item) : (putP s i x).1.length = s.1.length := by simp [putP]
theorem putP_length2 (s : HS) (i : Nat) (x : Item) : (putP s i x).2.length = s.2.length := by simp [putP]
def downP (s : HS) (i : Nat) (x : Item) : HS :=
  match _h : bestTo s i 4 with
  | none => putP s i x
  | some c => if lt2 (itemAt s c) x then downP (putP s i (itemAt s c)) c x else putP s i x
termination_by s.1.length - i
decreasing_by
  have := bestTo_range s i 4 c _h
  rw [putP_length]; omega
theorem downP_none {s : HS} {i : Nat} {x : Item} (h : bestTo s i 4 = none) : downP s i x = putP s i x := by
  rw [downP]; split
  · rfl
  · simp_all
theorem downP_some {s : HS} {i c : Nat} {x : Item} (h : bestTo s i 4 = some c) : downP s i x = if lt2 (itemAt s c) x then downP (putP s i (itemAt s c)) c x else putP s i x := by
  rw [downP]; split
  · simp_all
  · simp_all
end Go.Proofs.YtblkkjfpggcgfaaGreatDoor
/- What the steps of the heap's lists keep: each thing is where its place says, keys are told alike, and the order comes back. No program here. -/
namespace Go.Proofs.YtblkkjfpggcgfaaGreatDoor
theorem lt2_iff (a b : Item) : lt2 a b = true ↔ a.1 < b.1 ∨ (a.1 = b.1 ∧ a.2 < b.2) := by
  simp [lt2]
theorem lt2_false (a b : Item) : lt2 a b = false ↔ b.1 < a.1 ∨ (a.1 = b.1 ∧ b.2 ≤ a.2) := by
  rw [Bool.eq_false_iff, Ne, lt2_iff]; omega
def le2 (a b : Item) : Prop := lt2 b a = false
theorem le2_iff (a b : Item) : le2 a b ↔ a.1 < b.1 ∨ (a.1 = b.1 ∧ a.2 ≤ b.2) := by unfold le2; rw [lt2_false]; omega
theorem le2_refl (a : Item) : le2 a a := by rw [le2_iff]; omega
theorem le2_trans {a b c : Item} (h : le2 a b) (k : le2 b c) : le2 a c := by rw [le2_iff] at *; omega
theorem le2_of_lt {a b : Item} (h : lt2 a b = true) : le2 a b := by rw [lt2_iff] at h; rw [le2_iff]; omega
def keyOf (s : HS) (id : Nat) : Option Int :=
  match s.2[id]? with
  | some (p + 1) => (s.1[p]?).map (·.1)
  | _ => none
structure WF (s : HS) : Prop where
  a : ∀ i x, s.1[i]? = some x → s.2[x.2]? = some (i + 1)
  b : ∀ id p, s.2[id]? = some (p + 1) → ∃ x, s.1[p]? = some x ∧ x.2 = id
theorem put1 (s : HS) (i : Nat) (x : Item) (j : Nat) : (putP s i x).1[j]? = if i = j then (if i < s.1.length then some x else none) else s.1[j]? := by
  simp only [putP, List.getElem?_set]
theorem put2 (s : HS) (i : Nat) (x : Item) (id : Nat) : (putP s i x).2[id]? = if x.2 = id then (if x.2 < s.2.length then some (i + 1) else none) else s.2[id]? := by
  simp only [putP, List.getElem?_set]
theorem keyOf_at {s : HS} (h : WF s) {i : Nat} {x : Item} (hx : s.1[i]? = some x) : keyOf s x.2 = some x.1 := by
  simp [keyOf, h.a i x hx, hx]
theorem keyOf_some {s : HS} (h : WF s) {id : Nat} {k : Int} (hk : keyOf s id = some k) : ∃ i, s.1[i]? = some (k, id) ∧ s.2[id]? = some (i + 1) := by
  unfold keyOf at hk
  split at hk
  · rename_i p hp
    obtain ⟨x, hx, rfl⟩ := h.b _ _ hp
    rw [hx] at hk
    simp only [Option.map_some, Option.some.injEq] at hk
    exact ⟨p, by rw [hx, ← hk], hp⟩
  · cases hk
section swap
variable {s : HS} {i p : Nat} {x y : Item}
theorem swap_len (hi : i < s.1.length) (hw : WF (putP s i x)) (hy : s.1[p]? = some y) (hp : p ≠ i) : y.2 ≠ x.2 ∧ y.2 < s.2.length ∧ s.2[y.2]? = some (p + 1) := by
  have h1 := hw.a p y (by rw [put1, if_neg (fun e => hp e.symm)]; exact hy)
  have h2 := hw.a i x (by rw [put1, if_pos rfl, if_pos hi])
  have hne : y.2 ≠ x.2 := by
    intro e
    rw [e, h2] at h1
    simp at h1
    exact hp h1.symm
  rw [put2, if_neg (fun e => hne e.symm)] at h1
  exact ⟨hne, (List.getElem?_eq_some_iff.1 h1).1, h1⟩
theorem swap_WF (hi : i < s.1.length) (hx : x.2 < s.2.length) (hw : WF (putP s i x)) (hy : s.1[p]? = some y) (hp : p ≠ i) : WF (putP (putP s i y) p x) := by
  obtain ⟨hne, hyl, hyp⟩ := swap_len hi hw hy hp
  have hpl : p < s.1.length := (List.getElem?_eq_some_iff.1 hy).1
  have f1 : ∀ j, (putP (putP s i y) p x).1[j]? = if p = j then some x else if i = j then some y else s.1[j]? := by
    intro j
    rw [put1, putP_length, if_pos hpl, put1, if_pos hi]
  have f2 : ∀ d, (putP (putP s i y) p x).2[d]? = if x.2 = d then some (p + 1) else if y.2 = d then some (i + 1) else s.2[d]? := by
    intro d
    rw [put2, putP_length2, if_pos hx, put2, if_pos hyl]
  constructor
  · intro j z hz
    rw [f1] at hz
    rw [f2]
    by_cases h1 : p = j
    · subst h1
      rw [if_pos rfl] at hz
      obtain rfl : x = z := by simpa using hz
      rw [if_pos rfl]
    rw [if_neg h1] at hz
    by_cases h2 : i = j
    · subst h2
      rw [if_pos rfl] at hz
      obtain rfl : y = z := by simpa using hz
      rw [if_neg (fun e => hne e.symm), if_pos rfl]
    rw [if_neg h2] at hz
    have h3 := hw.a j z (by rw [put1, if_neg h2]; exact hz)
    rw [put2] at h3
    by_cases h4 : x.2 = z.2
    · rw [if_pos h4, if_pos hx] at h3; simp at h3; omega
    · rw [if_neg h4] at h3
      rw [if_neg h4]
      by_cases h5 : y.2 = z.2
      · rw [← h5, hyp] at h3; simp at h3; omega
      · rw [if_neg h5]; exact h3
  · intro d q hd
    rw [f2] at hd
    by_cases h1 : x.2 = d
    · rw [if_pos h1] at hd
      simp at hd
      subst hd
      exact ⟨x, by rw [f1, if_pos rfl], h1⟩
    rw [if_neg h1] at hd
    by_cases h2 : y.2 = d
    · rw [if_pos h2] at hd
      simp at hd
      subst hd
      exact ⟨y, by rw [f1, if_neg hp, if_pos rfl], h2⟩
    rw [if_neg h2] at hd
    obtain ⟨z, hz, hzd⟩ := hw.b d q (by rw [put2, if_neg h1]; exact hd)
    rw [put1] at hz
    by_cases h3 : i = q
    · rw [if_pos h3, if_pos hi] at hz
      obtain rfl : x = z := by simpa using hz
      exact absurd hzd h1
    · rw [if_neg h3] at hz
      refine ⟨z, ?_, hzd⟩
      rw [f1]
      by_cases h4 : p = q
      · subst h4
        rw [hy] at hz
        obtain rfl : y = z := by simpa using hz
        exact absurd hzd h2
      · rw [if_neg h4, if_neg h3]; exact hz
theorem swap_key (hi : i < s.1.length) (hx : x.2 < s.2.length) (hw : WF (putP s i x)) (hy : s.1[p]? = some y) (hp : p ≠ i) (d : Nat) : keyOf (putP (putP s i y) p x) d = keyOf (putP s i x) d := by
  have hw' := swap_WF hi hx hw hy hp
  have hpl : p < s.1.length := (List.getElem?_eq_some_iff.1 hy).1
  obtain ⟨hne, hyl, hyp⟩ := swap_len hi hw hy hp
  by_cases h1 : x.2 = d
  · subst h1
    rw [keyOf_at hw' (i := p) (by rw [put1, if_pos rfl, putP_length, if_pos hpl]), keyOf_at hw (i := i) (by rw [put1, if_pos rfl, if_pos hi])]
  by_cases h2 : y.2 = d
  · subst h2
    rw [keyOf_at hw' (i := i) (by rw [put1, if_neg hp, put1, if_pos rfl, if_pos hi]), keyOf_at hw (i := p) (by rw [put1, if_neg (fun e => hp e.symm)]; exact hy)]
  · unfold keyOf
    rw [put2, if_neg h1, put2, if_neg h2, put2, if_neg h1]
    split
    · rename_i q hq
      have h3 : q ≠ i := by
        rintro rfl
        obtain ⟨z, hz, hzd⟩ := hw.b d q (by rw [put2, if_neg h1]; exact hq)
        rw [put1, if_pos rfl, if_pos hi] at hz
        obtain rfl : x = z := by simpa using hz
        exact h1 hzd
      have h4 : q ≠ p := by
        rintro rfl
        obtain ⟨z, hz, hzd⟩ := hw.b d q (by rw [put2, if_neg h1]; exact hq)
        rw [put1, if_neg (fun e => hp e.symm), hy] at hz
        obtain rfl : y = z := by simpa using hz
        exact h2 hzd
      rw [put1, if_neg (fun e => h4 e.symm), put1, if_neg (fun e => h3 e.symm), put1, if_neg (fun e => h3 e.symm)]
    · rfl
end swap
def par (j : Nat) : Nat := (j - 1) / 4
def okp (s : HS) (i j : Nat) : Prop := ∀ x y, s.1[i]? = some x → s.1[j]? = some y → le2 x y
def Ord (s : HS) : Prop := ∀ j, 0 < j → okp s (par j) j
structure Almost (s : HS) (i : Nat) : Prop where
  far : ∀ j, 0 < j → j ≠ i → par j ≠ i → okp s (par j) j
  near : ∀ j, 0 < j → par j = i → 0 < i → okp s (par i) j
structure DownOrd (s : HS) (i : Nat) : Prop where
  far : ∀ j, 0 < j → par j ≠ i → okp s (par j) j
  near : ∀ j, 0 < j → par j = i → 0 < i → okp s (par i) j
theorem par_lt {j : Nat} (h : 0 < j) : par j < j := by unfold par; omega
theorem upP_spec (x : Item) : ∀ (n : Nat) (s : HS) (i : Nat), i = n → i < s.1.length → x.2 < s.2.length → WF (putP s i x) → Almost (putP s i x) i →
    ∃ j, j ≤ i ∧ WF (upP s i x) ∧ (upP s i x).1[j]? = some x ∧ DownOrd (upP s i x) j ∧ (∀ d, keyOf (upP s i x) d = keyOf (putP s i x) d) ∧ (upP s i x).1.length = s.1.length ∧ (upP s i x).2.length = s.2.length := by
  intro n
  induction n using Nat.strongRecOn with
  | _ n ih =>
    intro s i hin hi hx hw ha
    subst hin
    have stop : ∀ (hle : 0 < i → ∀ y, s.1[par i]? = some y → le2 y x), ∃ j, j ≤ i ∧ WF (putP s i x) ∧ (putP s i x).1[j]? = some x ∧ DownOrd (putP s i x) j ∧ (∀ d, keyOf (putP s i x) d = keyOf (putP s i x) d) ∧ (putP s i x).1.length = s.1.length ∧ (putP s i x).2.length = s.2.length := by
      intro hle
      refine ⟨i, Nat.le_refl _, hw, by rw [put1, if_pos rfl, if_pos hi], ⟨?_, ha.near⟩, fun _ => rfl, putP_length _ _ _, putP_length2 _ _ _⟩
      intro j hj hpj
      by_cases hji : j = i
      · subst hji
        intro a b h1 h2
        have hlt := par_lt hj
        rw [put1, if_neg (by omega)] at h1
        rw [put1, if_pos rfl, if_pos hi] at h2
        obtain rfl : x = b := by simpa using h2
        exact hle hj a h1
      · exact ha.far j hj hji hpj
    by_cases h0 : 0 < i
    · have hpi := par_lt h0
      obtain ⟨y, hy⟩ : ∃ y, s.1[par i]? = some y := ⟨_, List.getElem?_eq_getElem (by omega)⟩
      have hya : itemAt s ((i - 1) / 4) = y := by
        have : s.1[(i - 1) / 4]? = some y := hy
        simp [itemAt, this]
      by_cases hlt : lt2 x y = true
      · have e : upP s i x = upP (putP s i y) (par i) x := by rw [upP, if_pos h0, hya, if_pos hlt]; rfl
        rw [e]
        have hpne : par i ≠ i := by omega
        have hw' := swap_WF hi hx hw hy hpne
        have f1 : ∀ j, (putP (putP s i y) (par i) x).1[j]? = if par i = j then some x else if i = j then some y else s.1[j]? := by
          intro j
          have hpl : par i < s.1.length := by omega
          simp only [put1, putP_length, if_pos hpl, if_pos hi]
        have fT : ∀ j, (putP s i x).1[j]? = if i = j then some x else s.1[j]? := by
          intro j
          rw [put1, if_pos hi]
        have ha' : Almost (putP (putP s i y) (par i) x) (par i) := by
          constructor
          · intro j hj h1 h2 a b h3 h4
            rw [f1, if_neg (fun e => h2 e.symm)] at h3
            rw [f1, if_neg (fun e => h1 e.symm)] at h4
            by_cases hij : i = j
            · subst hij
              exact absurd rfl h2
            rw [if_neg hij] at h4
            by_cases hip : i = par j
            · rw [if_pos hip] at h3
              obtain rfl : y = a := by simpa using h3
              exact ha.near j hj hip.symm h0 y b (by rw [fT, if_neg (by omega)]; exact hy) (by rw [fT, if_neg hij]; exact h4)
            · rw [if_neg hip] at h3
              exact ha.far j hj (fun e => hij e.symm) (fun e => hip e.symm) a b (by rw [fT, if_neg hip]; exact h3) (by rw [fT, if_neg hij]; exact h4)
          · intro j hj h1 h2 a b h3 h4
            have hlt2 := par_lt h2
            have hltj := par_lt hj
            rw [f1, if_neg (by omega), if_neg (by omega)] at h3
            rw [f1, if_neg (by omega)] at h4
            have hay : le2 a y := ha.far (par i) h2 (by omega) (by omega) a y (by rw [fT, if_neg (by omega)]; exact h3) (by rw [fT, if_neg (by omega)]; exact hy)
            by_cases hij : i = j
            · rw [if_pos hij] at h4
              obtain rfl : y = b := by simpa using h4
              exact hay
            · rw [if_neg hij] at h4
              have := ha.far j hj (fun e => hij e.symm) (by omega) y b (by rw [fT, h1, if_neg (by omega)]; exact hy) (by rw [fT, if_neg hij]; exact h4)
              exact le2_trans hay this
        obtain ⟨j, hj, r1, r2, r3, r4, r5, r6⟩ := ih (par i) hpi (putP s i y) (par i) rfl (by rw [putP_length]; omega) (by rw [putP_length2]; exact hx) hw' ha'
        exact ⟨j, by omega, r1, r2, r3, fun d => (r4 d).trans (swap_key hi hx hw hy hpne d), r5.trans (putP_length _ _ _), r6.trans (putP_length2 _ _ _)⟩
      · have e : upP s i x = putP s i x := by rw [upP, if_pos h0, hya, if_neg hlt]
        rw [e]
        refine stop (fun _ z hz => ?_)
        rw [hy] at hz
        obtain rfl : y = z := by simpa using hz
        simpa [le2] using hlt
    · have e : upP s i x = putP s i x := by rw [upP, if_neg h0]
      rw [e]
      exact stop (fun h => absurd h h0)
end Go.Proofs.YtblkkjfpggcgfaaGreatDoor
/- What the way down makes; a thing set, a thing taken out. No program here. -/
namespace Go.Proofs.YtblkkjfpggcgfaaGreatDoor
theorem itemAt_eq {s : HS} {i : Nat} {y : Item} (h : s.1[i]? = some y) : itemAt s i = y := by simp [itemAt, h]
theorem bestTo_spec (s : HS) (i : Nat) : ∀ k, (bestTo s i k = none → ∀ m, m < k → ¬ i * 4 + 1 + m < s.1.length) ∧
    (∀ c, bestTo s i k = some c → (∃ m, m < k ∧ c = i * 4 + 1 + m) ∧ c < s.1.length ∧ ∀ m, m < k → i * 4 + 1 + m < s.1.length → le2 (itemAt s c) (itemAt s (i * 4 + 1 + m)))
  | 0 => ⟨fun _ m h => by omega, fun c h => by simp [bestTo] at h⟩
  | k + 1 => by
    obtain ⟨h1, h2⟩ := bestTo_spec s i k
    have e : bestTo s i (k + 1) = bestStep s i (bestTo s i k) k := rfl
    rw [e]
    by_cases hc : i * 4 + 1 + k < s.1.length
    · cases hb : bestTo s i k with
      | none =>
        have e2 : bestStep s i none k = some (i * 4 + 1 + k) := by rw [bestStep, if_pos hc]
        rw [e2]
        refine ⟨fun h => (by cases h), fun c h => ?_⟩
        obtain rfl : i * 4 + 1 + k = c := by simpa using h
        refine ⟨⟨k, by omega, rfl⟩, hc, fun m hm hml => ?_⟩
        by_cases hmk : m = k
        · subst hmk; exact le2_refl _
        · exact absurd hml (h1 hb m (by omega))
      | some d =>
        obtain ⟨⟨m0, hm0, hd0⟩, hdl, hbest⟩ := h2 d hb
        by_cases hlt : lt2 (itemAt s (i * 4 + 1 + k)) (itemAt s d) = true
        · have e2 : bestStep s i (some d) k = some (i * 4 + 1 + k) := by rw [bestStep.eq_def, if_pos hc]; simp [hlt]
          rw [e2]
          refine ⟨fun h => (by cases h), fun c h => ?_⟩
          obtain rfl : i * 4 + 1 + k = c := by simpa using h
          refine ⟨⟨k, by omega, rfl⟩, hc, fun m hm hml => ?_⟩
          by_cases hmk : m = k
          · subst hmk; exact le2_refl _
          · exact le2_trans (le2_of_lt hlt) (hbest m (by omega) hml)
        · have e2 : bestStep s i (some d) k = some d := by rw [bestStep.eq_def, if_pos hc]; simp [hlt]
          rw [e2]
          refine ⟨fun h => (by cases h), fun c h => ?_⟩
          obtain rfl : d = c := by simpa using h
          refine ⟨⟨m0, by omega, hd0⟩, hdl, fun m hm hml => ?_⟩
          by_cases hmk : m = k
          · subst hmk; simpa [le2] using hlt
          · exact hbest m (by omega) hml
    · have e2 : bestStep s i (bestTo s i k) k = bestTo s i k := by rw [bestStep.eq_def, if_neg hc]
      rw [e2]
      refine ⟨fun h m hm => ?_, fun c h => ?_⟩
      · by_cases hmk : m = k
        · subst hmk; exact hc
        · exact h1 h m (by omega)
      · obtain ⟨⟨m0, hm0, hd0⟩, hdl, hbest⟩ := h2 c h
        refine ⟨⟨m0, by omega, hd0⟩, hdl, fun m hm hml => ?_⟩
        by_cases hmk : m = k
        · subst hmk; exact absurd hml hc
        · exact hbest m (by omega) hml
theorem par_iff {i j : Nat} (hj : 0 < j) : par j = i ↔ ∃ m, m < 4 ∧ j = i * 4 + 1 + m := by
  unfold par
  constructor
  · intro h; exact ⟨(j - 1) % 4, by omega, by omega⟩
  · rintro ⟨m, hm, rfl⟩; omega
theorem downP_spec (x : Item) : ∀ (n : Nat) (s : HS) (i : Nat), s.1.length - i = n → i < s.1.length → x.2 < s.2.length → WF (putP s i x) → DownOrd (putP s i x) i →
    WF (downP s i x) ∧ Ord (downP s i x) ∧ (∀ d, keyOf (downP s i x) d = keyOf (putP s i x) d) ∧ (downP s i x).1.length = s.1.length ∧ (downP s i x).2.length = s.2.length := by
  intro n
  induction n using Nat.strongRecOn with
  | _ n ih =>
    intro s i hin hi hx hw ha
    have fT : ∀ j, (putP s i x).1[j]? = if i = j then some x else s.1[j]? := by
      intro j
      rw [put1, if_pos hi]
    cases hb : bestTo s i 4 with
    | none =>
      rw [downP_none hb]
      refine ⟨hw, fun j hj => ?_, fun _ => rfl, putP_length _ _ _, putP_length2 _ _ _⟩
      by_cases hp : par j = i
      · intro a b _ h2
        obtain ⟨m, hm, rfl⟩ := (par_iff hj).1 hp
        have hl := (List.getElem?_eq_some_iff.1 h2).1
        rw [putP_length] at hl
        exact absurd hl ((bestTo_spec s i 4).1 hb m hm)
      · exact ha.far j hj hp
    | some c =>
      obtain ⟨⟨m0, hm0, hc0⟩, hcl, hbest⟩ := (bestTo_spec s i 4).2 c hb
      have hc1 : 0 < c := by omega
      have hpc : par c = i := (par_iff hc1).2 ⟨m0, hm0, hc0⟩
      have hic : i < c := by omega
      obtain ⟨y, hy⟩ : ∃ y, s.1[c]? = some y := ⟨_, List.getElem?_eq_getElem hcl⟩
      rw [downP_some hb, itemAt_eq hy]
      have hch : ∀ j z, 0 < j → par j = i → s.1[j]? = some z → le2 y z := by
        intro j z hj hp hz
        obtain ⟨m, hm, rfl⟩ := (par_iff hj).1 hp
        have := hbest m hm (List.getElem?_eq_some_iff.1 hz).1
        rwa [itemAt_eq hy, itemAt_eq hz] at this
      by_cases hlt : lt2 y x = true
      · rw [if_pos hlt]
        have hne : c ≠ i := by omega
        have hw' := swap_WF hi hx hw hy hne
        have f1 : ∀ j, (putP (putP s i y) c x).1[j]? = if c = j then some x else if i = j then some y else s.1[j]? := by
          intro j
          simp only [put1, putP_length, if_pos hcl, if_pos hi]
        have ha' : DownOrd (putP (putP s i y) c x) c := by
          constructor
          · intro j hj hp a b h3 h4
            have hpj := par_lt hj
            rw [f1, if_neg (fun e => hp e.symm)] at h3
            rw [f1] at h4
            by_cases hcj : c = j
            · subst hcj
              rw [if_pos rfl] at h4
              rw [hpc, if_pos rfl] at h3
              obtain rfl : x = b := by simpa using h4
              obtain rfl : y = a := by simpa using h3
              exact le2_of_lt hlt
            rw [if_neg hcj] at h4
            by_cases hij : i = j
            · subst hij
              rw [if_pos rfl] at h4
              rw [if_neg (by omega)] at h3
              obtain rfl : y = b := by simpa using h4
              exact ha.near c hc1 hpc hj a y (by rw [fT, if_neg (by omega)]; exact h3) (by rw [fT, if_neg (by omega)]; exact hy)
            rw [if_neg hij] at h4
            by_cases hip : i = par j
            · rw [if_pos hip] at h3
              obtain rfl : y = a := by simpa using h3
              exact hch j b hj hip.symm h4
            · rw [if_neg hip] at h3
              exact ha.far j hj (fun e => hip e.symm) a b (by rw [fT, if_neg hip]; exact h3) (by rw [fT, if_neg hij]; exact h4)
          · intro j hj hp _ a b h3 h4
            have hpj := par_lt hj
            rw [f1, hpc, if_neg (by omega), if_pos rfl] at h3
            rw [f1, if_neg (by omega), if_neg (by omega)] at h4
            obtain rfl : y = a := by simpa using h3
            exact ha.far j hj (by omega) y b (by rw [fT, hp, if_neg (by omega)]; exact hy) (by rw [fT, if_neg (by omega)]; exact h4)
        obtain ⟨r1, r2, r3, r4, r5⟩ := ih (s.1.length - c) (by omega) (putP s i y) c (by rw [putP_length]) (by rw [putP_length]; exact hcl) (by rw [putP_length2]; exact hx) hw' ha'
        exact ⟨r1, r2, fun d => (r3 d).trans (swap_key hi hx hw hy hne d), r4.trans (putP_length _ _ _), r5.trans (putP_length2 _ _ _)⟩
      · rw [if_neg hlt]
        refine ⟨hw, fun j hj => ?_, fun _ => rfl, putP_length _ _ _, putP_length2 _ _ _⟩
        by_cases hp : par j = i
        · intro a b h3 h4
          have hpj := par_lt hj
          rw [fT, if_pos hp.symm] at h3
          rw [fT, if_neg (by omega)] at h4
          obtain rfl : x = a := by simpa using h3
          exact le2_trans (by simpa [le2] using hlt) (hch j b hj hp h4)
        · exact ha.far j hj hp
def slotP (s : HS) (id : Nat) : Nat := if s.2.getD id 0 = 0 then s.1.length else s.2.getD id 0 - 1
def roomP (s : HS) (id : Nat) : HS := if s.2.getD id 0 = 0 then (s.1 ++ [(0, 0)], s.2) else s
def settleP (s : HS) (i : Nat) (x : Item) : HS :=
  let u := upP (putP s i x) i x
  downP u (u.2.getD x.2 0 - 1) (itemAt u (u.2.getD x.2 0 - 1))
def setP (s : HS) (id : Nat) (k : Int) : HS := settleP (roomP s id) (slotP s id) (k, id)
theorem putP_putP (s : HS) (i : Nat) (x : Item) : putP (putP s i x) i x = putP s i x := by simp [putP, List.set_set]
theorem putP_self {s : HS} {i : Nat} {x : Item} (h : WF s) (hx : s.1[i]? = some x) : putP s i x = s := by
  have h2 := h.a i x hx
  obtain ⟨h3, h4⟩ := List.getElem?_eq_some_iff.1 hx
  obtain ⟨h5, h6⟩ := List.getElem?_eq_some_iff.1 h2
  have e1 : s.1.set i x = s.1 := by
    apply List.ext_getElem?
    intro j
    rw [List.getElem?_set]
    split
    · rename_i e; subst e; first | exact hx.symm | (rw [if_pos h3]; exact hx.symm)
    · rfl
  have e2 : s.2.set x.2 (i + 1) = s.2 := by
    apply List.ext_getElem?
    intro j
    rw [List.getElem?_set]
    split
    · rename_i e; subst e; first | exact h2.symm | (rw [if_pos h5]; exact h2.symm)
    · rfl
  simp [putP, e1, e2]
theorem settleP_spec (s : HS) (i : Nat) (x : Item) (hi : i < s.1.length) (hx : x.2 < s.2.length) (hw : WF (putP s i x)) (ha : Almost (putP s i x) i) :
    WF (settleP s i x) ∧ Ord (settleP s i x) ∧ (∀ d, keyOf (settleP s i x) d = keyOf (putP s i x) d) ∧ (settleP s i x).1.length = s.1.length ∧ (settleP s i x).2.length = s.2.length ∧
      ∃ j, (upP (putP s i x) i x).2.getD x.2 0 = j + 1 ∧ (upP (putP s i x) i x).1[j]? = some x := by
  obtain ⟨j, hj, r1, r2, r3, r4, r5, r6⟩ := upP_spec x i (putP s i x) i rfl (by rw [putP_length]; exact hi) (by rw [putP_length2]; exact hx) (by rw [putP_putP]; exact hw) (by rw [putP_putP]; exact ha)
  rw [putP_length] at r5
  rw [putP_length2] at r6
  have e1 : (upP (putP s i x) i x).2.getD x.2 0 = j + 1 := by simp [List.getD_eq_getElem?_getD, r1.a j x r2]
  have e2 : settleP s i x = downP (upP (putP s i x) i x) j x := by
    simp only [settleP, e1, Nat.add_sub_cancel, itemAt_eq r2]
  have e3 : putP (upP (putP s i x) i x) j x = upP (putP s i x) i x := putP_self r1 r2
  obtain ⟨d1, d2, d3, d4, d5⟩ := downP_spec x _ (upP (putP s i x) i x) j rfl (by rw [r5]; omega) (by rw [r6]; exact hx) (by rw [e3]; exact r1) (by rw [e3]; exact r3)
  rw [e2]
  refine ⟨d1, d2, fun d => ?_, by rw [d4, r5], by rw [d5, r6], j, e1, r2⟩
  rw [d3, e3, r4, putP_putP]
end Go.Proofs.YtblkkjfpggcgfaaGreatDoor
/- A thing set, a thing taken out, the least thing: what becomes of the keys. No program here. -/
namespace Go.Proofs.YtblkkjfpggcgfaaGreatDoor
structure Good (s : HS) : Prop where
  wf : WF s
  ord : Ord s
theorem getD_some {l : List Nat} {i n : Nat} (h : l[i]? = some n) : l.getD i 0 = n := by simp [List.getD_eq_getElem?_getD, h]
theorem setP_spec {s : HS} (g : Good s) (id : Nat) (k : Int) (hid : id < s.2.length) :
    Good (setP s id k) ∧ (∀ d, keyOf (setP s id k) d = if d = id then some k else keyOf s d) ∧ (setP s id k).2.length = s.2.length ∧
      slotP s id < (roomP s id).1.length ∧ (roomP s id).2.length = s.2.length ∧ (setP s id k).1.length = (roomP s id).1.length ∧
      ∃ j, (upP (putP (roomP s id) (slotP s id) (k, id)) (slotP s id) (k, id)).2.getD id 0 = j + 1 ∧ (upP (putP (roomP s id) (slotP s id) (k, id)) (slotP s id) (k, id)).1[j]? = some (k, id) := by
  obtain ⟨pl, hpl⟩ : ∃ pl, s.2[id]? = some pl := ⟨_, List.getElem?_eq_getElem hid⟩
  have hgd := getD_some hpl
  cases pl with
  | zero =>
    have e1 : roomP s id = (s.1 ++ [(0, 0)], s.2) := by simp [roomP, hpl]
    have e2 : slotP s id = s.1.length := by simp [slotP, hpl]
    have fT1 : ∀ j, (putP (roomP s id) (slotP s id) (k, id)).1[j]? = if j < s.1.length then s.1[j]? else if j = s.1.length then some (k, id) else none := by
      intro j
      rw [put1, e1, e2]
      by_cases h1 : s.1.length = j
      · subst h1; simp
      · by_cases h2 : j < s.1.length
        · rw [if_neg h1, if_pos h2, List.getElem?_append_left h2]
        · rw [if_neg h1, if_neg h2, if_neg (fun e => h1 e.symm), List.getElem?_eq_none (by simp; omega)]
    have fT2 : ∀ d, (putP (roomP s id) (slotP s id) (k, id)).2[d]? = if id = d then some (s.1.length + 1) else s.2[d]? := by
      intro d
      rw [put2, e1, e2]
      by_cases h1 : id = d
      · rw [if_pos h1, if_pos h1, if_pos hid]
      · rw [if_neg h1, if_neg h1]
    have hw : WF (putP (roomP s id) (slotP s id) (k, id)) := by
      constructor
      · intro j z hz
        rw [fT1] at hz
        rw [fT2]
        by_cases h1 : j < s.1.length
        · rw [if_pos h1] at hz
          have := g.wf.a j z hz
          by_cases h2 : id = z.2
          · rw [← h2, hpl] at this; simp at this
          · rw [if_neg h2]; exact this
        · rw [if_neg h1] at hz
          by_cases h2 : j = s.1.length
          · rw [if_pos h2] at hz
            obtain rfl : (k, id) = z := by simpa using hz
            rw [if_pos rfl, h2]
          · rw [if_neg h2] at hz; cases hz
      · intro d p hd
        rw [fT2] at hd
        by_cases h1 : id = d
        · rw [if_pos h1] at hd
          obtain rfl : s.1.length = p := by simpa using hd
          exact ⟨(k, id), by rw [fT1, if_neg (by omega), if_pos rfl], h1⟩
        · rw [if_neg h1] at hd
          obtain ⟨z, hz, hzd⟩ := g.wf.b d p hd
          exact ⟨z, by rw [fT1, if_pos (List.getElem?_eq_some_iff.1 hz).1]; exact hz, hzd⟩
    have ha : Almost (putP (roomP s id) (slotP s id) (k, id)) (slotP s id) := by
      constructor
      · intro j hj h1 h2 a b h3 h4
        have hp := par_lt hj
        rw [e2] at h1
        rw [fT1] at h3 h4
        by_cases h5 : j < s.1.length
        · rw [if_pos (by omega)] at h3
          rw [if_pos h5] at h4
          exact g.ord j hj a b h3 h4
        · rw [if_neg h5, if_neg h1] at h4; cases h4
      · intro j hj h1 h2 a b h3 h4
        have hp := par_lt hj
        rw [e2] at h1
        rw [fT1, if_neg (by omega), if_neg (by omega)] at h4
        cases h4
    have hsl : slotP s id < (roomP s id).1.length := by rw [e1, e2]; simp
    have hr2 : (roomP s id).2.length = s.2.length := by rw [e1]
    obtain ⟨r1, r2, r3, r4, r5, r6⟩ := settleP_spec (roomP s id) (slotP s id) (k, id) hsl (by rw [hr2]; exact hid) hw ha
    refine ⟨⟨r1, r2⟩, fun d => (r3 d).trans ?_, r5.trans hr2, hsl, hr2, r4, r6⟩
    by_cases h1 : d = id
    · subst h1
      rw [if_pos rfl, keyOf_at hw (i := s.1.length) (x := (k, d)) (by rw [fT1, if_neg (by omega), if_pos rfl])]
    · rw [if_neg h1]
      unfold keyOf
      rw [fT2, if_neg (fun e => h1 e.symm)]
      split
      · rename_i p hp
        obtain ⟨z, hz, _⟩ := g.wf.b d p hp
        rw [fT1, if_pos (List.getElem?_eq_some_iff.1 hz).1]
      · rfl
  | succ p =>
    obtain ⟨y, hy, hyd⟩ := g.wf.b id p hpl
    have hpl' := (List.getElem?_eq_some_iff.1 hy).1
    have e1 : roomP s id = s := by simp [roomP, hpl]
    have e2 : slotP s id = p := by simp [slotP, hpl]
    have fT1 : ∀ j, (putP (roomP s id) (slotP s id) (k, id)).1[j]? = if p = j then some (k, id) else s.1[j]? := by
      intro j
      rw [put1, e1, e2, if_pos hpl']
    have fT2 : ∀ d : Nat, (putP (roomP s id) (slotP s id) (k, id)).2[d]? = s.2[d]? := by
      intro d
      rw [put2, e1, e2]
      by_cases h1 : id = d
      · subst h1; rw [if_pos rfl, if_pos hid, hpl]
      · rw [if_neg h1]
    have hw : WF (putP (roomP s id) (slotP s id) (k, id)) := by
      constructor
      · intro j z hz
        rw [fT1] at hz
        rw [fT2]
        by_cases h1 : p = j
        · rw [if_pos h1] at hz
          obtain rfl : (k, id) = z := by simpa using hz
          rw [← h1]; exact hpl
        · rw [if_neg h1] at hz
          exact g.wf.a j z hz
      · intro d q hd
        rw [fT2] at hd
        obtain ⟨z, hz, hzd⟩ := g.wf.b d q hd
        by_cases h1 : p = q
        · subst h1
          rw [hy] at hz
          obtain rfl : y = z := by simpa using hz
          exact ⟨(k, id), by rw [fT1, if_pos rfl], by rw [← hzd, hyd]⟩
        · exact ⟨z, by rw [fT1, if_neg h1]; exact hz, hzd⟩
    have ha : Almost (putP (roomP s id) (slotP s id) (k, id)) (slotP s id) := by
      constructor
      · intro j hj h1 h2 a b h3 h4
        rw [e2] at h1 h2
        rw [fT1, if_neg (fun e => h2 e.symm)] at h3
        rw [fT1, if_neg (fun e => h1 e.symm)] at h4
        exact g.ord j hj a b h3 h4
      · intro j hj h1 h2 a b h3 h4
        rw [e2] at h1 h2
        have hp := par_lt h2
        have hp2 := par_lt hj
        rw [fT1, e2, if_neg (by omega)] at h3
        rw [fT1, if_neg (by omega)] at h4
        have o1 := g.ord p h2 a y h3 hy
        have o2 := g.ord j hj y b (by rw [h1]; exact hy) h4
        exact le2_trans o1 o2
    have hsl : slotP s id < (roomP s id).1.length := by rw [e1, e2]; exact hpl'
    have hr2 : (roomP s id).2.length = s.2.length := by rw [e1]
    obtain ⟨r1, r2, r3, r4, r5, r6⟩ := settleP_spec (roomP s id) (slotP s id) (k, id) hsl (by rw [hr2]; exact hid) hw ha
    refine ⟨⟨r1, r2⟩, fun d => (r3 d).trans ?_, r5.trans hr2, hsl, hr2, r4, r6⟩
    by_cases h1 : d = id
    · subst h1
      rw [if_pos rfl, keyOf_at hw (i := p) (x := (k, d)) (by rw [fT1, if_pos rfl])]
    · rw [if_neg h1]
      unfold keyOf
      rw [fT2]
      split
      · rename_i q hq
        obtain ⟨z, hz, hzd⟩ := g.wf.b d q hq
        by_cases h2 : p = q
        · subst h2
          rw [hy] at hz
          obtain rfl : y = z := by simpa using hz
          exact absurd (hzd.symm.trans hyd) h1
        · rw [fT1, if_neg h2]
      · rfl
def lessP (s : HS) (id : Nat) : HS := (s.1.take (s.1.length - 1), s.2.set id 0)
def removeP (s : HS) (id : Nat) : HS :=
  if s.2.getD id 0 - 1 < s.1.length - 1 then settleP (lessP s id) (s.2.getD id 0 - 1) (itemAt s (s.1.length - 1)) else lessP s id
theorem removeP_spec {s : HS} (g : Good s) (id i : Nat) (hpl : s.2[id]? = some (i + 1)) :
    Good (removeP s id) ∧ (∀ d, keyOf (removeP s id) d = if d = id then none else keyOf s d) ∧ (removeP s id).2.length = s.2.length ∧ (removeP s id).1.length = s.1.length - 1 ∧ i < s.1.length ∧
      (i < s.1.length - 1 → ∃ x, s.1[s.1.length - 1]? = some x ∧ x.2 < s.2.length ∧ ∃ j, (upP (putP (lessP s id) i x) i x).2.getD x.2 0 = j + 1 ∧ (upP (putP (lessP s id) i x) i x).1[j]? = some x) := by
  obtain ⟨y, hy, hyd⟩ := g.wf.b id i hpl
  have hil := (List.getElem?_eq_some_iff.1 hy).1
  have hid := (List.getElem?_eq_some_iff.1 hpl).1
  have hgd := getD_some hpl
  have l1 : ∀ j, (lessP s id).1[j]? = if j < s.1.length - 1 then s.1[j]? else none := by
    intro j
    simp only [lessP, List.getElem?_take]
  have l2 : ∀ d, (lessP s id).2[d]? = if id = d then some 0 else s.2[d]? := by
    intro d
    simp only [lessP, List.getElem?_set]
    by_cases h1 : id = d
    · rw [if_pos h1, if_pos h1, if_pos hid]
    · rw [if_neg h1, if_neg h1]
  have len1 : (lessP s id).1.length = s.1.length - 1 := by simp [lessP]
  have len2 : (lessP s id).2.length = s.2.length := by simp [lessP]
  by_cases hlast : i < s.1.length - 1
  · obtain ⟨x, hx⟩ : ∃ x, s.1[s.1.length - 1]? = some x := ⟨_, List.getElem?_eq_getElem (by omega)⟩
    have hxp := g.wf.a _ x hx
    have hxl := (List.getElem?_eq_some_iff.1 hxp).1
    have hxid : x.2 ≠ id := by
      intro e
      rw [e, hpl] at hxp
      simp at hxp
      omega
    have e0 : removeP s id = settleP (lessP s id) i x := by
      simp only [removeP, hgd, Nat.add_sub_cancel, if_pos hlast, itemAt_eq hx]
    have fT1 : ∀ j, (putP (lessP s id) i x).1[j]? = if i = j then some x else if j < s.1.length - 1 then s.1[j]? else none := by
      intro j
      rw [put1, len1, if_pos hlast, l1]
    have fT2 : ∀ d, (putP (lessP s id) i x).2[d]? = if x.2 = d then some (i + 1) else if id = d then some 0 else s.2[d]? := by
      intro d
      rw [put2, len2, if_pos hxl, l2]
    have hw : WF (putP (lessP s id) i x) := by
      constructor
      · intro j z hz
        rw [fT1] at hz
        rw [fT2]
        by_cases h1 : i = j
        · rw [if_pos h1] at hz
          obtain rfl : x = z := by simpa using hz
          rw [if_pos rfl, h1]
        · rw [if_neg h1] at hz
          by_cases h2 : j < s.1.length - 1
          · rw [if_pos h2] at hz
            have h3 := g.wf.a j z hz
            by_cases h4 : x.2 = z.2
            · rw [← h4, hxp] at h3; simp at h3; omega
            · rw [if_neg h4]
              by_cases h5 : id = z.2
              · rw [← h5, hpl] at h3; simp at h3; omega
              · rw [if_neg h5]; exact h3
          · rw [if_neg h2] at hz; cases hz
      · intro d q hd
        rw [fT2] at hd
        by_cases h1 : x.2 = d
        · rw [if_pos h1] at hd
          obtain rfl : i = q := by simpa using hd
          exact ⟨x, by rw [fT1, if_pos rfl], h1⟩
        · rw [if_neg h1] at hd
          by_cases h2 : id = d
          · rw [if_pos h2] at hd; simp at hd
          · rw [if_neg h2] at hd
            obtain ⟨z, hz, hzd⟩ := g.wf.b d q hd
            have hql := (List.getElem?_eq_some_iff.1 hz).1
            by_cases h3 : i = q
            · subst h3
              rw [hy] at hz
              obtain rfl : y = z := by simpa using hz
              exact absurd (hyd.symm.trans hzd) h2
            · by_cases h4 : q = s.1.length - 1
              · subst h4
                rw [hx] at hz
                obtain rfl : x = z := by simpa using hz
                exact absurd hzd h1
              · exact ⟨z, by rw [fT1, if_neg h3, if_pos (by omega)]; exact hz, hzd⟩
    have ha : Almost (putP (lessP s id) i x) i := by
      constructor
      · intro j hj h1 h2 a b h3 h4
        have hp := par_lt hj
        rw [fT1, if_neg (fun e => h2 e.symm)] at h3
        rw [fT1, if_neg (fun e => h1 e.symm)] at h4
        by_cases h5 : j < s.1.length - 1
        · rw [if_pos (by omega)] at h3
          rw [if_pos h5] at h4
          exact g.ord j hj a b h3 h4
        · rw [if_neg h5] at h4; cases h4
      · intro j hj h1 h2 a b h3 h4
        have hp := par_lt h2
        have hp2 := par_lt hj
        rw [fT1, if_neg (by omega)] at h3
        rw [fT1, if_neg (by omega)] at h4
        by_cases h5 : j < s.1.length - 1
        · rw [if_pos (by omega)] at h3
          rw [if_pos h5] at h4
          exact le2_trans (g.ord i h2 a y h3 hy) (g.ord j hj y b (by rw [h1]; exact hy) h4)
        · rw [if_neg h5] at h4; cases h4
    obtain ⟨r1, r2, r3, r4, r5, r6⟩ := settleP_spec (lessP s id) i x (by rw [len1]; exact hlast) (by rw [len2]; exact hxl) hw ha
    rw [e0]
    refine ⟨⟨r1, r2⟩, fun d => (r3 d).trans ?_, r5.trans len2, r4.trans len1, hil, fun _ => ⟨x, hx, hxl, r6⟩⟩
    by_cases h1 : d = id
    · subst h1
      rw [if_pos rfl]
      unfold keyOf
      rw [fT2, if_neg hxid, if_pos rfl]
    · rw [if_neg h1]
      by_cases h2 : x.2 = d
      · subst h2
        rw [keyOf_at hw (i := i) (by rw [fT1, if_pos rfl]), keyOf_at g.wf hx]
      · unfold keyOf
        rw [fT2, if_neg h2, if_neg (fun e => h1 e.symm)]
        split
        · rename_i q hq
          obtain ⟨z, hz, hzd⟩ := g.wf.b d q hq
          have hql := (List.getElem?_eq_some_iff.1 hz).1
          have h3 : i ≠ q := by
            rintro rfl
            rw [hy] at hz
            obtain rfl : y = z := by simpa using hz
            exact h1 (hzd.symm.trans hyd)
          have h4 : q ≠ s.1.length - 1 := by
            rintro rfl
            rw [hx] at hz
            obtain rfl : x = z := by simpa using hz
            exact h2 hzd
          rw [fT1, if_neg h3, if_pos (by omega)]
        · rfl
  · have e0 : removeP s id = lessP s id := by simp only [removeP, hgd, Nat.add_sub_cancel, if_neg hlast]
    rw [e0]
    refine ⟨⟨⟨?_, ?_⟩, ?_⟩, ?_, len2, len1, hil, fun h => absurd h hlast⟩
    · intro j z hz
      rw [l1] at hz
      rw [l2]
      by_cases h2 : j < s.1.length - 1
      · rw [if_pos h2] at hz
        have h3 := g.wf.a j z hz
        by_cases h5 : id = z.2
        · rw [← h5, hpl] at h3; simp at h3; omega
        · rw [if_neg h5]; exact h3
      · rw [if_neg h2] at hz; cases hz
    · intro d q hd
      rw [l2] at hd
      by_cases h2 : id = d
      · rw [if_pos h2] at hd; simp at hd
      · rw [if_neg h2] at hd
        obtain ⟨z, hz, hzd⟩ := g.wf.b d q hd
        have hql := (List.getElem?_eq_some_iff.1 hz).1
        by_cases h3 : i = q
        · subst h3
          rw [hy] at hz
          obtain rfl : y = z := by simpa using hz
          exact absurd (hyd.symm.trans hzd) h2
        · exact ⟨z, by rw [l1, if_pos (by omega)]; exact hz, hzd⟩
    · intro j hj a b h3 h4
      have hp := par_lt hj
      rw [l1] at h3 h4
      by_cases h5 : j < s.1.length - 1
      · rw [if_pos (by omega)] at h3
        rw [if_pos h5] at h4
        exact g.ord j hj a b h3 h4
      · rw [if_neg h5] at h4; cases h4
    · intro d
      unfold keyOf
      rw [l2]
      by_cases h1 : d = id
      · subst h1; rw [if_pos rfl, if_pos rfl]
      · rw [if_neg (fun e => h1 e.symm), if_neg h1]
        split
        · rename_i q hq
          obtain ⟨z, hz, hzd⟩ := g.wf.b d q hq
          have hql := (List.getElem?_eq_some_iff.1 hz).1
          have h3 : q ≠ i := by
            rintro rfl
            rw [hy] at hz
            obtain rfl : y = z := by simpa using hz
            exact h1 (hzd.symm.trans hyd)
          rw [l1, if_pos (by omega)]
        · rfl
theorem top_least {s : HS} (o : Ord s) {x : Item} (hx : s.1[0]? = some x) : ∀ (n j : Nat) (y : Item), j = n → s.1[j]? = some y → le2 x y := by
  intro n
  induction n using Nat.strongRecOn with
  | _ n ih =>
    intro j y hj hy
    subst hj
    by_cases h0 : 0 < j
    · have hp := par_lt h0
      have hjl := (List.getElem?_eq_some_iff.1 hy).1
      obtain ⟨z, hz⟩ : ∃ z, s.1[par j]? = some z := ⟨_, List.getElem?_eq_getElem (by omega)⟩
      exact le2_trans (ih (par j) hp (par j) z rfl hz) (o j h0 z y hz hy)
    · obtain rfl : j = 0 := by omega
      rw [hx] at hy
      obtain rfl : x = y := by simpa using hy
      exact le2_refl _
structure Holds (s : HS) (n : Nat) (m : Nat → Option Int) : Prop where
  good : Good s
  len : s.2.length = n
  key : ∀ d, keyOf s d = m d
theorem Holds.top {s : HS} {n : Nat} {m : Nat → Option Int} (h : Holds s n m) {k : Int} {id : Nat} (hx : s.1[0]? = some (k, id)) : m id = some k ∧ id < n ∧ ∀ d v, m d = some v → le2 (k, id) (v, d) := by
  refine ⟨?_, ?_, ?_⟩
  · rw [← h.key, keyOf_at h.good.wf hx]
  · rw [← h.len]
    exact (List.getElem?_eq_some_iff.1 (h.good.wf.a 0 _ hx)).1
  · intro d v hd
    rw [← h.key] at hd
    obtain ⟨i, hi, _⟩ := keyOf_some h.good.wf hd
    exact top_least h.good.ord hx i i _ rfl hi
theorem Holds.empty {s : HS} {n : Nat} {m : Nat → Option Int} (h : Holds s n m) (h0 : s.1 = []) : ∀ d, m d = none := by
  intro d
  rw [← h.key]
  cases hk : keyOf s d with
  | none => rfl
  | some k =>
    obtain ⟨i, hi, _⟩ := keyOf_some h.good.wf hk
    rw [h0] at hi
    simp at hi
theorem Holds.new (n : Nat) : Holds ([], List.replicate n 0) n (fun _ => none) := by
  refine ⟨⟨⟨fun i x h => (by simp at h), fun id p h => ?_⟩, fun j _ a b h => (by simp at h)⟩, by simp, fun d => ?_⟩
  · have := List.mem_of_getElem? h
    simp at this
  · unfold keyOf
    split
    · rename_i p hp
      have := List.mem_of_getElem? hp
      simp at this
    · rfl
end Go.Proofs.YtblkkjfpggcgfaaGreatDoor
/- A heap holds no more things than it has places. No program here. -/
namespace Go.Proofs.YtblkkjfpggcgfaaGreatDoor
theorem nodup_bound : ∀ (n : Nat) (l : List Nat), l.Nodup → (∀ x ∈ l, x < n) → l.length ≤ n
  | 0, l, _, h => by
    cases l with
    | nil => simp
    | cons a l => exact absurd (h a (by simp)) (by omega)
  | n + 1, l, hd, h => by
    by_cases hn : n ∈ l
    · have h1 := nodup_bound n (l.erase n) (hd.erase n) (fun x hx => by
        have h2 := (List.Nodup.mem_erase_iff hd).1 hx
        have h3 := h x h2.2
        omega)
      rw [List.length_erase_of_mem hn] at h1
      omega
    · have := nodup_bound n l hd (fun x hx => by
        have h3 := h x hx
        have : x ≠ n := fun e => hn (e ▸ hx)
        omega)
      omega
theorem downP_length2 (x : Item) : ∀ (n : Nat) (s : HS) (i : Nat), s.1.length - i = n → (downP s i x).2.length = s.2.length := by
  intro n
  induction n using Nat.strongRecOn with
  | _ n ih =>
    intro s i hn
    cases hb : bestTo s i 4 with
    | none => rw [downP_none hb, putP_length2]
    | some c =>
      have hr := bestTo_range s i 4 c hb
      rw [downP_some hb]
      split
      · rw [ih (s.1.length - c) (by omega) _ c (by rw [putP_length]), putP_length2]
      · rw [putP_length2]
theorem upP_length2 (x : Item) : ∀ (n : Nat) (s : HS) (i : Nat), i = n → (upP s i x).2.length = s.2.length := by
  intro n
  induction n using Nat.strongRecOn with
  | _ n ih =>
    intro s i hn
    rw [upP]
    split
    · split
      · rw [ih ((i - 1) / 4) (by omega) _ _ rfl, putP_length2]
      · rw [putP_length2]
    · rw [putP_length2]
theorem WF.bound {s : HS} (h : WF s) : s.1.length ≤ s.2.length := by
  have hd : (s.1.map (·.2)).Nodup := by
    rw [List.nodup_iff_pairwise_ne, List.pairwise_iff_getElem]
    intro i j hi hj hij e
    simp only [List.length_map] at hi hj
    simp only [List.getElem_map] at e
    have h1 := h.a i _ (List.getElem?_eq_getElem hi)
    have h2 := h.a j _ (List.getElem?_eq_getElem hj)
    rw [e, h2] at h1
    simp at h1
    omega
  have := nodup_bound s.2.length (s.1.map (·.2)) hd (fun x hx => by
    obtain ⟨y, hy, rfl⟩ := List.mem_map.1 hx
    obtain ⟨i, hi⟩ := List.mem_iff_getElem?.1 hy
    exact (List.getElem?_eq_some_iff.1 (h.a i y hi)).1)
  simpa using this
end Go.Proofs.YtblkkjfpggcgfaaGreatDoor
