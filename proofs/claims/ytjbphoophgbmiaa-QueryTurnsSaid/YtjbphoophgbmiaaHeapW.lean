/- A heap holds no more things than it has places. No program here. -/
import Derived.Test.YtjbphoophgbmiaaHeapV
namespace Go.Proofs.Ytjbphoophgbmiaa
theorem nodup_bound : ∀ (n : Nat) (l : List Nat), l.Nodup → (∀ x ∈ l, x < n) → l.length ≤ n
  | 0, l, _, h => by
    cases l with
    | nil => simp
    | cons a l => exact absurd (h a (by simp)) (by omega)
  | n + 1, l, hd, h => by
    by_cases hn : n ∈ l
    · have h1 := nodup_bound n (l.erase n) (hd.erase n) (fun x hx => by
        have h2 := (List.Nodup.mem_erase_iff hd).1 hx
        have h3 := h x h2.2
        omega)
      rw [List.length_erase_of_mem hn] at h1
      omega
    · have := nodup_bound n l hd (fun x hx => by
        have h3 := h x hx
        have : x ≠ n := fun e => hn (e ▸ hx)
        omega)
      omega
theorem downP_length2 (x : Item) : ∀ (n : Nat) (s : HS) (i : Nat), s.1.length - i = n → (downP s i x).2.length = s.2.length := by
  intro n
  induction n using Nat.strongRecOn with
  | _ n ih =>
    intro s i hn
    cases hb : bestTo s i 4 with
    | none => rw [downP_none hb, putP_length2]
    | some c =>
      have hr := bestTo_range s i 4 c hb
      rw [downP_some hb]
      split
      · rw [ih (s.1.length - c) (by omega) _ c (by rw [putP_length]), putP_length2]
      · rw [putP_length2]
theorem upP_length2 (x : Item) : ∀ (n : Nat) (s : HS) (i : Nat), i = n → (upP s i x).2.length = s.2.length := by
  intro n
  induction n using Nat.strongRecOn with
  | _ n ih =>
    intro s i hn
    rw [upP]
    split
    · split
      · rw [ih ((i - 1) / 4) (by omega) _ _ rfl, putP_length2]
      · rw [putP_length2]
    · rw [putP_length2]
theorem WF.bound {s : HS} (h : WF s) : s.1.length ≤ s.2.length := by
  have hd : (s.1.map (·.2)).Nodup := by
    rw [List.nodup_iff_pairwise_ne, List.pairwise_iff_getElem]
    intro i j hi hj hij e
    simp only [List.length_map] at hi hj
    simp only [List.getElem_map] at e
    have h1 := h.a i _ (List.getElem?_eq_getElem hi)
    have h2 := h.a j _ (List.getElem?_eq_getElem hj)
    rw [e, h2] at h1
    simp at h1
    omega
  have := nodup_bound s.2.length (s.1.map (·.2)) hd (fun x hx => by
    obtain ⟨y, hy, rfl⟩ := List.mem_map.1 hx
    obtain ⟨i, hi⟩ := List.mem_iff_getElem?.1 hy
    exact (List.getElem?_eq_some_iff.1 (h.a i y hi)).1)
  simpa using this
end Go.Proofs.Ytjbphoophgbmiaa
