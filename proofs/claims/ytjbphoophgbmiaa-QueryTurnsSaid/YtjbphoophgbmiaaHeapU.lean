/- What the way down makes; a thing set, a thing taken out. No program here. -/
import Derived.Test.YtjbphoophgbmiaaHeapT
namespace Go.Proofs.Ytjbphoophgbmiaa

theorem itemAt_eq {s : HS} {i : Nat} {y : Item} (h : s.1[i]? = some y) : itemAt s i = y := by simp [itemAt, h]

theorem bestTo_spec (s : HS) (i : Nat) : ∀ k, (bestTo s i k = none → ∀ m, m < k → ¬ i * 4 + 1 + m < s.1.length) ∧
    (∀ c, bestTo s i k = some c → (∃ m, m < k ∧ c = i * 4 + 1 + m) ∧ c < s.1.length ∧ ∀ m, m < k → i * 4 + 1 + m < s.1.length → le2 (itemAt s c) (itemAt s (i * 4 + 1 + m)))
  | 0 => ⟨fun _ m h => by omega, fun c h => by simp [bestTo] at h⟩
  | k + 1 => by
    obtain ⟨h1, h2⟩ := bestTo_spec s i k
    have e : bestTo s i (k + 1) = bestStep s i (bestTo s i k) k := rfl
    rw [e]
    by_cases hc : i * 4 + 1 + k < s.1.length
    · cases hb : bestTo s i k with
      | none =>
        have e2 : bestStep s i none k = some (i * 4 + 1 + k) := by rw [bestStep, if_pos hc]
        rw [e2]
        refine ⟨fun h => (by cases h), fun c h => ?_⟩
        obtain rfl : i * 4 + 1 + k = c := by simpa using h
        refine ⟨⟨k, by omega, rfl⟩, hc, fun m hm hml => ?_⟩
        by_cases hmk : m = k
        · subst hmk; exact le2_refl _
        · exact absurd hml (h1 hb m (by omega))
      | some d =>
        obtain ⟨⟨m0, hm0, hd0⟩, hdl, hbest⟩ := h2 d hb
        by_cases hlt : lt2 (itemAt s (i * 4 + 1 + k)) (itemAt s d) = true
        · have e2 : bestStep s i (some d) k = some (i * 4 + 1 + k) := by rw [bestStep.eq_def, if_pos hc]; simp [hlt]
          rw [e2]
          refine ⟨fun h => (by cases h), fun c h => ?_⟩
          obtain rfl : i * 4 + 1 + k = c := by simpa using h
          refine ⟨⟨k, by omega, rfl⟩, hc, fun m hm hml => ?_⟩
          by_cases hmk : m = k
          · subst hmk; exact le2_refl _
          · exact le2_trans (le2_of_lt hlt) (hbest m (by omega) hml)
        · have e2 : bestStep s i (some d) k = some d := by rw [bestStep.eq_def, if_pos hc]; simp [hlt]
          rw [e2]
          refine ⟨fun h => (by cases h), fun c h => ?_⟩
          obtain rfl : d = c := by simpa using h
          refine ⟨⟨m0, by omega, hd0⟩, hdl, fun m hm hml => ?_⟩
          by_cases hmk : m = k
          · subst hmk; simpa [le2] using hlt
          · exact hbest m (by omega) hml
    · have e2 : bestStep s i (bestTo s i k) k = bestTo s i k := by rw [bestStep.eq_def, if_neg hc]
      rw [e2]
      refine ⟨fun h m hm => ?_, fun c h => ?_⟩
      · by_cases hmk : m = k
        · subst hmk; exact hc
        · exact h1 h m (by omega)
      · obtain ⟨⟨m0, hm0, hd0⟩, hdl, hbest⟩ := h2 c h
        refine ⟨⟨m0, by omega, hd0⟩, hdl, fun m hm hml => ?_⟩
        by_cases hmk : m = k
        · subst hmk; exact absurd hml hc
        · exact hbest m (by omega) hml

theorem par_iff {i j : Nat} (hj : 0 < j) : par j = i ↔ ∃ m, m < 4 ∧ j = i * 4 + 1 + m := by
  unfold par
  constructor
  · intro h; exact ⟨(j - 1) % 4, by omega, by omega⟩
  · rintro ⟨m, hm, rfl⟩; omega

/-- What the way down makes. -/
theorem downP_spec (x : Item) : ∀ (n : Nat) (s : HS) (i : Nat), s.1.length - i = n → i < s.1.length → x.2 < s.2.length → WF (putP s i x) → DownOrd (putP s i x) i →
    WF (downP s i x) ∧ Ord (downP s i x) ∧ (∀ d, keyOf (downP s i x) d = keyOf (putP s i x) d) ∧ (downP s i x).1.length = s.1.length ∧ (downP s i x).2.length = s.2.length := by
  intro n
  induction n using Nat.strongRecOn with
  | _ n ih =>
    intro s i hin hi hx hw ha
    have fT : ∀ j, (putP s i x).1[j]? = if i = j then some x else s.1[j]? := by
      intro j
      rw [put1, if_pos hi]
    cases hb : bestTo s i 4 with
    | none =>
      rw [downP_none hb]
      refine ⟨hw, fun j hj => ?_, fun _ => rfl, putP_length _ _ _, putP_length2 _ _ _⟩
      by_cases hp : par j = i
      · intro a b _ h2
        obtain ⟨m, hm, rfl⟩ := (par_iff hj).1 hp
        have hl := (List.getElem?_eq_some_iff.1 h2).1
        rw [putP_length] at hl
        exact absurd hl ((bestTo_spec s i 4).1 hb m hm)
      · exact ha.far j hj hp
    | some c =>
      obtain ⟨⟨m0, hm0, hc0⟩, hcl, hbest⟩ := (bestTo_spec s i 4).2 c hb
      have hc1 : 0 < c := by omega
      have hpc : par c = i := (par_iff hc1).2 ⟨m0, hm0, hc0⟩
      have hic : i < c := by omega
      obtain ⟨y, hy⟩ : ∃ y, s.1[c]? = some y := ⟨_, List.getElem?_eq_getElem hcl⟩
      rw [downP_some hb, itemAt_eq hy]
      -- the best child is not behind any other
      have hch : ∀ j z, 0 < j → par j = i → s.1[j]? = some z → le2 y z := by
        intro j z hj hp hz
        obtain ⟨m, hm, rfl⟩ := (par_iff hj).1 hp
        have := hbest m hm (List.getElem?_eq_some_iff.1 hz).1
        rwa [itemAt_eq hy, itemAt_eq hz] at this
      by_cases hlt : lt2 y x = true
      · rw [if_pos hlt]
        have hne : c ≠ i := by omega
        have hw' := swap_WF hi hx hw hy hne
        have f1 : ∀ j, (putP (putP s i y) c x).1[j]? = if c = j then some x else if i = j then some y else s.1[j]? := by
          intro j
          simp only [put1, putP_length, if_pos hcl, if_pos hi]
        have ha' : DownOrd (putP (putP s i y) c x) c := by
          constructor
          · intro j hj hp a b h3 h4
            have hpj := par_lt hj
            rw [f1, if_neg (fun e => hp e.symm)] at h3
            rw [f1] at h4
            by_cases hcj : c = j
            · subst hcj
              rw [if_pos rfl] at h4
              rw [hpc, if_pos rfl] at h3
              obtain rfl : x = b := by simpa using h4
              obtain rfl : y = a := by simpa using h3
              exact le2_of_lt hlt
            rw [if_neg hcj] at h4
            by_cases hij : i = j
            · subst hij
              rw [if_pos rfl] at h4
              rw [if_neg (by omega)] at h3
              obtain rfl : y = b := by simpa using h4
              exact ha.near c hc1 hpc hj a y (by rw [fT, if_neg (by omega)]; exact h3) (by rw [fT, if_neg (by omega)]; exact hy)
            rw [if_neg hij] at h4
            by_cases hip : i = par j
            · rw [if_pos hip] at h3
              obtain rfl : y = a := by simpa using h3
              exact hch j b hj hip.symm h4
            · rw [if_neg hip] at h3
              exact ha.far j hj (fun e => hip e.symm) a b (by rw [fT, if_neg hip]; exact h3) (by rw [fT, if_neg hij]; exact h4)
          · intro j hj hp _ a b h3 h4
            have hpj := par_lt hj
            rw [f1, hpc, if_neg (by omega), if_pos rfl] at h3
            rw [f1, if_neg (by omega), if_neg (by omega)] at h4
            obtain rfl : y = a := by simpa using h3
            exact ha.far j hj (by omega) y b (by rw [fT, hp, if_neg (by omega)]; exact hy) (by rw [fT, if_neg (by omega)]; exact h4)
        obtain ⟨r1, r2, r3, r4, r5⟩ := ih (s.1.length - c) (by omega) (putP s i y) c (by rw [putP_length]) (by rw [putP_length]; exact hcl) (by rw [putP_length2]; exact hx) hw' ha'
        exact ⟨r1, r2, fun d => (r3 d).trans (swap_key hi hx hw hy hne d), r4.trans (putP_length _ _ _), r5.trans (putP_length2 _ _ _)⟩
      · rw [if_neg hlt]
        refine ⟨hw, fun j hj => ?_, fun _ => rfl, putP_length _ _ _, putP_length2 _ _ _⟩
        by_cases hp : par j = i
        · intro a b h3 h4
          have hpj := par_lt hj
          rw [fT, if_pos hp.symm] at h3
          rw [fT, if_neg (by omega)] at h4
          obtain rfl : x = a := by simpa using h3
          exact le2_trans (by simpa [le2] using hlt) (hch j b hj hp h4)
        · exact ha.far j hj hp

/-! ### a thing set -/
/-- Its place, or a new one at the end. -/
def slotP (s : HS) (id : Nat) : Nat := if s.2.getD id 0 = 0 then s.1.length else s.2.getD id 0 - 1
def roomP (s : HS) (id : Nat) : HS := if s.2.getD id 0 = 0 then (s.1 ++ [(0, 0)], s.2) else s
def settleP (s : HS) (i : Nat) (x : Item) : HS :=
  let u := upP (putP s i x) i x
  downP u (u.2.getD x.2 0 - 1) (itemAt u (u.2.getD x.2 0 - 1))
def setP (s : HS) (id : Nat) (k : Int) : HS := settleP (roomP s id) (slotP s id) (k, id)

theorem putP_putP (s : HS) (i : Nat) (x : Item) : putP (putP s i x) i x = putP s i x := by simp [putP, List.set_set]
theorem putP_self {s : HS} {i : Nat} {x : Item} (h : WF s) (hx : s.1[i]? = some x) : putP s i x = s := by
  have h2 := h.a i x hx
  obtain ⟨h3, h4⟩ := List.getElem?_eq_some_iff.1 hx
  obtain ⟨h5, h6⟩ := List.getElem?_eq_some_iff.1 h2
  have e1 : s.1.set i x = s.1 := by
    apply List.ext_getElem?
    intro j
    rw [List.getElem?_set]
    split
    · rename_i e; subst e; first | exact hx.symm | (rw [if_pos h3]; exact hx.symm)
    · rfl
  have e2 : s.2.set x.2 (i + 1) = s.2 := by
    apply List.ext_getElem?
    intro j
    rw [List.getElem?_set]
    split
    · rename_i e; subst e; first | exact h2.symm | (rw [if_pos h5]; exact h2.symm)
    · rfl
  simp [putP, e1, e2]

/-- A thing put somewhere, and brought to its place. -/
theorem settleP_spec (s : HS) (i : Nat) (x : Item) (hi : i < s.1.length) (hx : x.2 < s.2.length) (hw : WF (putP s i x)) (ha : Almost (putP s i x) i) :
    WF (settleP s i x) ∧ Ord (settleP s i x) ∧ (∀ d, keyOf (settleP s i x) d = keyOf (putP s i x) d) ∧ (settleP s i x).1.length = s.1.length ∧ (settleP s i x).2.length = s.2.length ∧
      ∃ j, (upP (putP s i x) i x).2.getD x.2 0 = j + 1 ∧ (upP (putP s i x) i x).1[j]? = some x := by
  obtain ⟨j, hj, r1, r2, r3, r4, r5, r6⟩ := upP_spec x i (putP s i x) i rfl (by rw [putP_length]; exact hi) (by rw [putP_length2]; exact hx) (by rw [putP_putP]; exact hw) (by rw [putP_putP]; exact ha)
  rw [putP_length] at r5
  rw [putP_length2] at r6
  have e1 : (upP (putP s i x) i x).2.getD x.2 0 = j + 1 := by simp [List.getD_eq_getElem?_getD, r1.a j x r2]
  have e2 : settleP s i x = downP (upP (putP s i x) i x) j x := by
    simp only [settleP, e1, Nat.add_sub_cancel, itemAt_eq r2]
  have e3 : putP (upP (putP s i x) i x) j x = upP (putP s i x) i x := putP_self r1 r2
  obtain ⟨d1, d2, d3, d4, d5⟩ := downP_spec x _ (upP (putP s i x) i x) j rfl (by rw [r5]; omega) (by rw [r6]; exact hx) (by rw [e3]; exact r1) (by rw [e3]; exact r3)
  rw [e2]
  refine ⟨d1, d2, fun d => ?_, by rw [d4, r5], by rw [d5, r6], j, e1, r2⟩
  rw [d3, e3, r4, putP_putP]
end Go.Proofs.Ytjbphoophgbmiaa
