/- Rows and matrices in memory. -/
import Derived.Test.YtjbphoophgbmiaaDoorM6
import Derived.Deep.RegionHeld3
import Derived.Deep.Cut
namespace Go.Proofs.YtjbphoophgbmiaaDoor
open Go.ChangeShapes Go.WideShapes Go.ChangeAt Go.RowKit Go.Joins Go.Deep

def rowCells (n : Nat) (f : Nat → Int) : List Value := (List.range n).map fun x => .int .u64 (f x)
def ptrRow (n : Nat) (vs : Nat → Value) : List Value := (List.range n).map vs
theorem rowCells_len (n : Nat) (f : Nat → Int) : (rowCells n f).length = n := by simp [rowCells]
theorem ptrRow_len (n : Nat) (f : Nat → Value) : (ptrRow n f).length = n := by simp [ptrRow]
theorem rowCells_get {n : Nat} {f : Nat → Int} {i : Nat} (hi : i < n) : (rowCells n f)[i]? = some (.int .u64 (f i)) := by simp [rowCells, hi]
theorem ptrRow_get {n : Nat} {f : Nat → Value} {i : Nat} (hi : i < n) : (ptrRow n f)[i]? = some (f i) := by simp [ptrRow, hi]
theorem range_set {α : Type} (n k : Nat) (f : Nat → α) (v : α) : ((List.range n).map f).set k v = (List.range n).map (fun x => if x = k then v else f x) := by
  apply List.ext_getElem?
  intro i
  rw [List.getElem?_set]
  by_cases hk : k = i
  · subst hk
    by_cases hl : k < n
    · simp [hl]
    · simp [hl]
  · have : i ≠ k := fun e => hk e.symm
    by_cases hl : i < n
    · simp [hk, hl, this]
    · simp [hk, hl]
theorem rowCells_set {n k : Nat} {f : Nat → Int} {v : Int} : (rowCells n f).set k (.int .u64 v) = rowCells n (fun x => if x = k then v else f x) := by
  unfold rowCells
  rw [range_set]
  congr 1
  funext x
  simp only
  split <;> rfl
theorem ptrRow_set {n k : Nat} {f : Nat → Value} {v : Value} : (ptrRow n f).set k v = ptrRow n (fun x => if x = k then v else f x) := range_set n k f v
theorem rowCells_congr {n : Nat} {f g : Nat → Int} (h : ∀ x, x < n → f x = g x) : rowCells n f = rowCells n g := by
  unfold rowCells
  exact List.map_congr_left fun x hx => by rw [h x (List.mem_range.1 hx)]
theorem ptrRow_congr {n : Nat} {f g : Nat → Value} (h : ∀ x, x < n → f x = g x) : ptrRow n f = ptrRow n g := by
  unfold ptrRow
  exact List.map_congr_left fun x hx => h x (List.mem_range.1 hx)
theorem made_one (z : Value) (hz : z.cells = #[z]) (n : Nat) : madeCells z.cells (n * 1) = ((List.range n).map fun _ => z).toArray := by
  have e := madeCells_eq [z] n (by simp)
  have h : ((List.replicate n ()).flatMap fun _ => [z]) = (List.range n).map fun _ => z := by
    apply List.ext_getElem?
    intro j
    have hg := flat_get (f := fun (_ : Unit) => [z]) (sz := 1) (fun _ => rfl) (List.replicate n ()) j 0 (by omega)
    rw [Nat.mul_one, Nat.add_zero] at hg
    rw [hg]
    rcases Nat.lt_or_ge j n with h1 | h1
    · simp [h1]
    · rw [List.getElem?_eq_none (l := List.replicate n ()) (by simpa using h1), List.getElem?_eq_none (l := (List.range n).map _) (by simpa using h1)]; rfl
  rw [h] at e
  rw [hz]
  exact e
theorem rowCells_made (n : Nat) : madeCells (Value.int .u64 0).cells (n * 1) = (rowCells n fun _ => 0).toArray := made_one _ rfl n
theorem ptrRow_made (n : Nat) : madeCells (Value.slice none 0 0).cells (n * 1) = (ptrRow n fun _ => .slice none 0 0).toArray := made_one _ rfl n
theorem Tryd.infoRow : (Tryd.prog.info? 57).map (fun i => (i.zero, i.size, i.bytes)) = some (some (.slice none 0 0), 1, 24) := by kernel_rfl
/-- A square of numbers: a block of rows, each in a block of its own. -/
structure MRep (n : Nat) (X : Nat → Nat → Int) (bm : Nat) (rb : Nat → Nat) (w : World) : Prop where
  m : Cells w bm 57 (ptrRow n fun v => .slice (some ⟨rb v, 0, none⟩) n n)
  r : ∀ v, v < n → Cells w (rb v) 37 (rowCells n (X v))
theorem MRep.below {n : Nat} {X : Nat → Nat → Int} {bm : Nat} {rb : Nat → Nat} {w w' : World} (k : MRep n X bm rb w) (o : Below w.heap.size w w') : MRep n X bm rb w' :=
  ⟨k.m.below o k.m.lt, fun v hv => (k.r v hv).below o (k.r v hv).lt⟩
end Go.Proofs.YtjbphoophgbmiaaDoor

/- Are two squares of numbers the same? -/

namespace Go.Proofs.YtjbphoophgbmiaaDoor
open Go.ChangeShapes Go.WideShapes Go.ChangeAt Go.RowKit Go.Joins Go.Deep

set_option linter.unusedSimpArgs false in
set_option maxRecDepth 100000 in
set_option maxHeartbeats 8000000 in
theorem samerow_any (n b1 b2 : Nat) (f g : Nat → Int) (w : World) (hn : n ≤ 65536) (h1 : Cells w b1 37 (rowCells n f)) (h2 : Cells w b2 37 (rowCells n g)) (he : ∀ x, x < n → f x = g x) : Calls Tryd.prog 57 #[.slice (some ⟨b1, 0, none⟩) n n, .slice (some ⟨b2, 0, none⟩) n n] w (BoolIs true w) := by
  have H1 := Lib.hid h1
  have H2 := Lib.hid h2
  have HE := Lib.hid he
  clear h1 h2 he
  go_enter Tryd.func57, Tryd.ntmps57
  go_wp2_with fail
  go_loopg [13] n (fun g vi wr => ∃ i : Nat, vi = .int .i64 i ∧ i ≤ n ∧ g = n - i ∧ Below w.heap.size w wr)
  case atStart => exact ⟨0, rfl, Nat.zero_le _, rfl, Below.refl _ _⟩
  case round =>
    obtain ⟨i, rfl, hi, hgi, hb⟩ := hrel
    obtain ⟨wo, rfl⟩ : ∃ wo : World, wo = wr := ⟨_, rfl⟩
    have HGI := Lib.hid hgi
    have HB := Lib.hid hb
    clear hgi hb
    by_cases hin : i < n
    · have c1 := (H1.out.below HB.out H1.out.lt).cell (rowCells_get (f := f) hin)
      have c2 := (H2.out.below HB.out H2.out.lt).cell (rowCells_get (f := g) hin)
      rw [← HE.out i hin] at c2
      go_upto_region 6 with fail
      go_quiet (fail)
      go_wp2_with fail
      go_roundg (n - (i + 1))
      case measure => rw [HGI.out]; omega
      case rel => exact ⟨i + 1, by go_num, by omega, rfl, below_drewN HB.out nq⟩
    · obtain rfl : i = n := by omega
      go_wp2
      go_returns
      exact ⟨rfl, HB.out⟩

theorem samerow_lit (n b1 b2 : Nat) (f g : Nat → Int) (w : World) (hn : n ≤ 65536) (h1 : Cells w b1 37 (rowCells n f)) (h2 : Cells w b2 37 (rowCells n g)) (he : ∀ x, x < n → f x = g x) : Calls Tryd.prog 57 #[.slice (some ⟨b1, 0, none⟩) n n, .slice (some ⟨b2, 0, none⟩) n n] w (BoolIs true w) := samerow_any n b1 b2 f g w hn h1 h2 he
set_option linter.unusedSimpArgs false in
set_option maxRecDepth 100000 in
set_option maxHeartbeats 8000000 in
theorem samematrix_any (n b1 b2 : Nat) (r1 r2 : Nat → Nat) (X Y : Nat → Nat → Int) (w : World) (hn : n ≤ 65536) (h1 : MRep n X b1 r1 w) (h2 : MRep n Y b2 r2 w) (he : ∀ v x, v < n → x < n → X v x = Y v x) : Calls Tryd.prog 26 #[.slice (some ⟨b1, 0, none⟩) n n, .slice (some ⟨b2, 0, none⟩) n n] w (BoolIs true w) := by
  have H1 := Lib.hid h1
  have H2 := Lib.hid h2
  have HE := Lib.hid he
  clear h1 h2 he
  go_enter Tryd.func26, Tryd.ntmps26
  go_wp2_with fail
  go_loopg [13] n (fun g vi wr => ∃ i : Nat, vi = .int .i64 i ∧ i ≤ n ∧ g = n - i ∧ Below w.heap.size w wr)
  case atStart => exact ⟨0, rfl, Nat.zero_le _, rfl, Below.refl _ _⟩
  case round =>
    obtain ⟨i, rfl, hi, hgi, hb⟩ := hrel
    obtain ⟨wo, rfl⟩ : ∃ wo : World, wo = wr := ⟨_, rfl⟩
    have HGI := Lib.hid hgi
    have HB := Lib.hid hb
    clear hgi hb
    by_cases hin : i < n
    · have c1 : wo.cell? ⟨b1, i, none⟩ = some (.slice (some ⟨r1 i, 0, none⟩) n n) := (H1.out.below HB.out).m.cell (ptrRow_get hin)
      have c2 : wo.cell? ⟨b2, i, none⟩ = some (.slice (some ⟨r2 i, 0, none⟩) n n) := (H2.out.below HB.out).m.cell (ptrRow_get hin)
      go_upto_region 6 with fail
      go_region_held3 (fun W => W.cell? ⟨b1, i, none⟩ = some (.slice (some ⟨r1 i, 0, none⟩) n n) ∧ W.cell? ⟨b2, i, none⟩ = some (.slice (some ⟨r2 i, 0, none⟩) n n)) (go_keep)
        (first
        | (go_at_call 57; (with_reducible refine (samerow_lit n (r1 i) (r2 i) (X i) (Y i) _ hn ((H1.out.below (HB.out.drew)).r i hin) ((H2.out.below (HB.out.drew)).r i hin) (fun x hx => HE.out i x hin hx)).mono ?_); rintro e w1 ⟨rfl, hb⟩; (have hbd := (HB.out.drew).trans (hb.mono (HB.out.drew).size)); (have d1 := ck hb c1); (have d2 := ck hb c2); (have HB1 := Lib.hid hbd); clear hbd hb))
      go_wp2_with fail
      go_roundg (n - (i + 1))
      case measure => rw [HGI.out]; omega
      case rel => exact ⟨i + 1, by go_num, by omega, rfl, HB1.out⟩
    · obtain rfl : i = n := by omega
      go_wp2
      go_returns
      exact ⟨rfl, HB.out⟩
end Go.Proofs.YtjbphoophgbmiaaDoor
