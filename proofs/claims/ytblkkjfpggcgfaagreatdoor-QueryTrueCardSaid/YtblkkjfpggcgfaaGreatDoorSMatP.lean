/- search.Matrix: its rows as data and in memory. -/
import Derived.Test.YtblkkjfpggcgfaaGreatDoorBNeedQ
namespace Go.Proofs.YtblkkjfpggcgfaaGreatDoor
open Go.ChangeShapes Go.WideShapes Go.ChangeAt Go.RowKit Go.Joins Go.Deep

/-- A row of distances of which k are written. -/
def rowF (n : Nat) (D : Nat → Option Int) (k : Nat) : List Value := (List.range n).map fun v => .int .u64 (if v < k then farOf (D v) else 0)
theorem rowF_len (n : Nat) (D : Nat → Option Int) (k : Nat) : (rowF n D k).length = n := by simp [rowF]
theorem rowF_get {n : Nat} {D : Nat → Option Int} {k j : Nat} (hj : j < n) : (rowF n D k)[j]? = some (.int .u64 (if j < k then farOf (D j) else 0)) := by
  unfold rowF
  rw [List.getElem?_map, List.getElem?_range hj]
  rfl
theorem rowF_full {n : Nat} {D : Nat → Option Int} {j : Nat} (hj : j < n) : (rowF n D n)[j]? = some (.int .u64 (farOf (D j))) := by rw [rowF_get hj, if_pos hj]
theorem rowF_zero (n : Nat) (D : Nat → Option Int) : rowF n D 0 = List.replicate n (.int .u64 0) := by
  apply List.ext_getElem?
  intro i
  by_cases hi : i < n
  · rw [rowF_get hi, List.getElem?_replicate, if_pos hi, if_neg (by omega)]
  · rw [List.getElem?_eq_none (by rw [rowF_len]; omega), List.getElem?_eq_none (by simp; omega)]
theorem rowF_set {n : Nat} {D : Nat → Option Int} {k : Nat} (hk : k < n) : (rowF n D k).set k (.int .u64 (farOf (D k))) = rowF n D (k + 1) := by
  apply List.ext_getElem?
  intro i
  by_cases hi : i < n
  · rw [List.getElem?_set, rowF_get hi, rowF_get hi, rowF_len]
    by_cases e : k = i
    · subst e
      rw [if_pos rfl, if_pos hk, if_pos (by omega)]
    · rw [if_neg e]
      by_cases h2 : i < k
      · rw [if_pos h2, if_pos (by omega)]
      · rw [if_neg h2, if_neg (by omega)]
  · rw [List.getElem?_eq_none (by rw [List.length_set, rowF_len]; omega), List.getElem?_eq_none (by rw [rowF_len]; omega)]
/-- A cell that holds a row. -/
def ptrC (n x : Nat) : List Value := [.slice (some ⟨x, 0, none⟩) n n]
/-- Rows of distances under way: ps tells where they lie. -/
structure MatO (base n : Nat) (ps : List Nat) (D : Nat → Nat → Option Int) (v : Value) (w : World) : Prop where
  o : w.ownsRow 0 46 1 v ps.length (ps.flatMap (ptrC n))
  r : ∀ s x, ps[s]? = some x → Cells w x 35 (rowF n (D s) n)
  nb : ∀ x, v.ownBlock = some x → base ≤ x
  nr : ∀ x ∈ ps, base ≤ x
  ne : ∀ x, v.ownBlock = some x → x ∉ ps
namespace MatO
variable {base n : Nat} {ps : List Nat} {D : Nat → Nat → Option Int} {v : Value} {w w' : World}
theorem nil (base n : Nat) (D : Nat → Nat → Option Int) (w : World) : MatO base n [] D (.slice none 0 0) w :=
  ⟨World.ownsRow_nil _ _ _ _, fun s x h => (by simp at h), fun x h => (by simp [Value.ownBlock] at h), fun x h => (by simp at h), fun x h => (by simp [Value.ownBlock] at h)⟩
theorem below (h : MatO base n ps D v w) (o : Below w.heap.size w w') : MatO base n ps D v w' :=
  ⟨own_kept (bs := []) h.o (Only.of_below o) (fun _ _ => by simp), fun s x hx => (h.r s x hx).below o (h.r s x hx).lt, h.nb, h.nr, h.ne⟩
theorem kept {bs : List Nat} (h : MatO base n ps D v w) (o : Only bs w w') (hb : ∀ x ∈ bs, x < base) : MatO base n ps D v w' :=
  ⟨own_kept h.o o (fun x hx hm => by have := hb x hm; have := h.nb x hx; omega), fun s x hx => (h.r s x hx).kept o (fun hm => by have := hb _ hm; have := h.nr x (List.mem_of_getElem? hx); omega), h.nb, h.nr, h.ne⟩
theorem congr {E : Nat → Nat → Option Int} (h : MatO base n ps D v w) (e : ∀ s, s < ps.length → D s = E s) : MatO base n ps E v w :=
  ⟨h.o, fun s x hx => by rw [← e s (List.getElem?_eq_some_iff.1 hx).1]; exact h.r s x hx, h.nb, h.nr, h.ne⟩
/-- One more row. -/
theorem app {v' : Value} {x : Nat} {wm : World} (h : MatO base n ps D v w) (hb : base ≤ w.heap.size) (hx : w.heap.size ≤ x) (hm : Below w.heap.size w wm) (hc : Cells wm x 35 (rowF n (D ps.length) n))
    (o : Only v.ownBlock.toList wm w') (h5 : w'.ownsRow 0 46 1 v' (ps.length + 1) (ps.flatMap (ptrC n) ++ ptrC n x)) (hk : ∀ y, v'.ownBlock = some y → v.ownBlock = some y ∨ wm.heap.size ≤ y) : MatO base n (ps ++ [x]) D v' w' := by
  have g := h.below hm
  have hlt : ∀ y ∈ ps, y < w.heap.size := by
    intro y hy
    obtain ⟨s, hs⟩ := List.getElem?_of_mem hy
    exact (h.r s y hs).lt
  refine ⟨?_, fun s y hy => ?_, fun y hy => ?_, fun y hy => ?_, fun y hy hm2 => ?_⟩
  · rw [List.length_append, List.flatMap_append]
    simpa using h5
  · by_cases hs : s < ps.length
    · rw [List.getElem?_append_left hs] at hy
      exact (g.r s y hy).kept o (fun hm2 => h.ne y (own_mem hm2) (List.mem_of_getElem? hy))
    · rw [List.getElem?_append_right (by omega)] at hy
      have e : s - ps.length = 0 := by
        have := (List.getElem?_eq_some_iff.1 hy).1
        simp at this
        omega
      rw [e] at hy
      simp only [List.getElem?_cons_zero, Option.some.injEq] at hy
      subst hy
      rw [show s = ps.length by omega]
      refine hc.kept o (fun hm2 => ?_)
      have := (h.o.lt _ (own_mem hm2)).2
      omega
  · rcases hk y hy with e | e
    · exact h.nb y e
    · have := hm.size; omega
  · rcases List.mem_append.1 hy with hy | hy
    · exact h.nr y hy
    · simp at hy; omega
  · rcases hk y hy with e | e
    · rcases List.mem_append.1 hm2 with h2 | h2
      · exact h.ne y e h2
      · have := (h.o.lt _ e).2
        simp at h2
        omega
    · rcases List.mem_append.1 hm2 with h2 | h2
      · have := hlt y h2; have := hm.size; omega
      · simp at h2
        have := hc.lt
        omega
end MatO
/-- The matrix, as it is read. -/
structure MatSee (n : Nat) (ao : Option Addr) (cap : Nat) (ps : List Nat) (D : Nat → Nat → Option Int) (w : World) : Prop where
  see : See w ao cap (ptrC n) 1 ps
  len : ps.length = n
  r : ∀ s x, ps[s]? = some x → Cells w x 35 (rowF n (D s) n)
theorem MatSee.below {n : Nat} {ao : Option Addr} {cap : Nat} {ps : List Nat} {D : Nat → Nat → Option Int} {w w' : World} (h : MatSee n ao cap ps D w) (o : Below w.heap.size w w') : MatSee n ao cap ps D w' :=
  ⟨h.see.below o, h.len, fun s x hx => (h.r s x hx).below o (h.r s x hx).lt⟩
end Go.Proofs.YtblkkjfpggcgfaaGreatDoor
