/- Rows and matrices in memory. -/
import Derived.Test.YtjbphoophgbmiaaLawQ1
namespace Go.Proofs.Ytjbphoophgbmiaa
open Go.ChangeShapes Go.WideShapes Go.ChangeAt Go.RowKit Go.Joins Go.Deep

def rowCells (n : Nat) (f : Nat → Int) : List Value := (List.range n).map fun x => .int .u64 (f x)
def ptrRow (n : Nat) (vs : Nat → Value) : List Value := (List.range n).map vs
theorem rowCells_len (n : Nat) (f : Nat → Int) : (rowCells n f).length = n := by simp [rowCells]
theorem ptrRow_len (n : Nat) (f : Nat → Value) : (ptrRow n f).length = n := by simp [ptrRow]
theorem rowCells_get {n : Nat} {f : Nat → Int} {i : Nat} (hi : i < n) : (rowCells n f)[i]? = some (.int .u64 (f i)) := by simp [rowCells, hi]
theorem ptrRow_get {n : Nat} {f : Nat → Value} {i : Nat} (hi : i < n) : (ptrRow n f)[i]? = some (f i) := by simp [ptrRow, hi]
theorem range_set {α : Type} (n k : Nat) (f : Nat → α) (v : α) : ((List.range n).map f).set k v = (List.range n).map (fun x => if x = k then v else f x) := by
  apply List.ext_getElem?
  intro i
  rw [List.getElem?_set]
  by_cases hk : k = i
  · subst hk
    by_cases hl : k < n
    · simp [hl]
    · simp [hl]
  · have : i ≠ k := fun e => hk e.symm
    by_cases hl : i < n
    · simp [hk, hl, this]
    · simp [hk, hl]
theorem rowCells_set {n k : Nat} {f : Nat → Int} {v : Int} : (rowCells n f).set k (.int .u64 v) = rowCells n (fun x => if x = k then v else f x) := by
  unfold rowCells
  rw [range_set]
  congr 1
  funext x
  simp only
  split <;> rfl
theorem ptrRow_set {n k : Nat} {f : Nat → Value} {v : Value} : (ptrRow n f).set k v = ptrRow n (fun x => if x = k then v else f x) := range_set n k f v
theorem rowCells_congr {n : Nat} {f g : Nat → Int} (h : ∀ x, x < n → f x = g x) : rowCells n f = rowCells n g := by
  unfold rowCells
  exact List.map_congr_left fun x hx => by rw [h x (List.mem_range.1 hx)]
theorem ptrRow_congr {n : Nat} {f g : Nat → Value} (h : ∀ x, x < n → f x = g x) : ptrRow n f = ptrRow n g := by
  unfold ptrRow
  exact List.map_congr_left fun x hx => h x (List.mem_range.1 hx)
theorem made_one (z : Value) (hz : z.cells = #[z]) (n : Nat) : madeCells z.cells (n * 1) = ((List.range n).map fun _ => z).toArray := by
  have e := madeCells_eq [z] n (by simp)
  have h : ((List.replicate n ()).flatMap fun _ => [z]) = (List.range n).map fun _ => z := by
    apply List.ext_getElem?
    intro j
    have hg := flat_get (f := fun (_ : Unit) => [z]) (sz := 1) (fun _ => rfl) (List.replicate n ()) j 0 (by omega)
    rw [Nat.mul_one, Nat.add_zero] at hg
    rw [hg]
    rcases Nat.lt_or_ge j n with h1 | h1
    · simp [h1]
    · rw [List.getElem?_eq_none (l := List.replicate n ()) (by simpa using h1), List.getElem?_eq_none (l := (List.range n).map _) (by simpa using h1)]; rfl
  rw [h] at e
  rw [hz]
  exact e
theorem rowCells_made (n : Nat) : madeCells (Value.int .u64 0).cells (n * 1) = (rowCells n fun _ => 0).toArray := made_one _ rfl n
theorem ptrRow_made (n : Nat) : madeCells (Value.slice none 0 0).cells (n * 1) = (ptrRow n fun _ => .slice none 0 0).toArray := made_one _ rfl n
theorem Try.infoRow : (Try.prog.info? 48).map (fun i => (i.zero, i.size, i.bytes)) = some (some (.slice none 0 0), 1, 24) := by kernel_rfl
/-- A square of numbers: a block of rows, each in a block of its own. -/
structure MRep (n : Nat) (X : Nat → Nat → Int) (bm : Nat) (rb : Nat → Nat) (w : World) : Prop where
  m : Cells w bm 48 (ptrRow n fun v => .slice (some ⟨rb v, 0, none⟩) n n)
  r : ∀ v, v < n → Cells w (rb v) 33 (rowCells n (X v))
theorem MRep.below {n : Nat} {X : Nat → Nat → Int} {bm : Nat} {rb : Nat → Nat} {w w' : World} (k : MRep n X bm rb w) (o : Below w.heap.size w w') : MRep n X bm rb w' :=
  ⟨k.m.below o k.m.lt, fun v hv => (k.r v hv).below o (k.r v hv).lt⟩
end Go.Proofs.Ytjbphoophgbmiaa
