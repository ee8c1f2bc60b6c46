/- Slices that are only read: what each element's cells hold. A hierarchy as data. -/
import Derived.Test.YtjbphoophgbmiaaLists
namespace Go.Proofs.Ytjbphoophgbmiaa
open Go.ChangeShapes Go.WideShapes Go.ChangeAt Go.RowKit Go.Joins Go.Deep

/-- The slice at ao of the capacity cap reads as the list l; an element takes sz cells, which hold f of it. -/
structure See {α : Type} (w : World) (ao : Option Addr) (cap : Nat) (f : α → List Value) (sz : Nat) (l : List α) : Prop where
  hcap : l.length ≤ cap
  hmax : cap ≤ maxLen
  cell : ∀ i x, l[i]? = some x → ∃ b off, ao = some ⟨b, off, none⟩ ∧ ∀ j u, (f x)[j]? = some u → w.cell? ⟨b, off + i * sz + j, none⟩ = some u
/-- Where the slice x[lo:..] begins. -/
def slBase (ao : Option Addr) (lo cap sz : Nat) : Option Addr := if cap = lo then ao else ao.map (·.add (lo * sz))
namespace See
variable {α : Type} {w w' : World} {ao : Option Addr} {cap sz : Nat} {f : α → List Value} {l : List α}
theorem below (h : See w ao cap f sz l) (o : Below w.heap.size w w') : See w' ao cap f sz l :=
  ⟨h.hcap, h.hmax, fun i x hx => by
    obtain ⟨b, off, e, hc⟩ := h.cell i x hx
    exact ⟨b, off, e, fun j u hu => ck o (hc j u hu)⟩⟩
theorem kept {bs : List Nat} (h : See w ao cap f sz l) (o : Only bs w w') (hn : ∀ b off, ao = some ⟨b, off, none⟩ → b ∉ bs) : See w' ao cap f sz l :=
  ⟨h.hcap, h.hmax, fun i x hx => by
    obtain ⟨b, off, e, hc⟩ := h.cell i x hx
    exact ⟨b, off, e, fun j u hu => o.cell (hc j u hu) (hn b off e)⟩⟩
/-- Below a bound. -/
theorem belowB {B : Nat} (h : See w ao cap f sz l) (o : Below B w w') (hn : ∀ b off, ao = some ⟨b, off, none⟩ → b < B) : See w' ao cap f sz l :=
  ⟨h.hcap, h.hmax, fun i x hx => by
    obtain ⟨b, off, e, hc⟩ := h.cell i x hx
    exact ⟨b, off, e, fun j u hu => (o.cell (p := ⟨b, off + i * sz + j, none⟩) (hn b off e)).trans (hc j u hu)⟩⟩
theorem drew (h : See w ao cap f sz l) : See w.drew ao cap f sz l := h.below (Below.refl _ _).drew
theorem alloc (h : See w ao cap f sz l) (o : Obj) : See (w.alloc o) ao cap f sz l := h.below ((Below.refl _ _).alloc (Nat.le_refl _) o)
theorem nil (w : World) (f : α → List Value) (sz : Nat) : See w none 0 f sz [] := ⟨by simp, by simp [maxLen], fun i x h => by simp at h⟩
/-- A slice of the call's own. -/
theorem of_own {e : TypeId} {base n : Nat} (hf : ∀ x, (f x).length = sz) (h : w.ownsRow base e sz (.slice ao n cap) n (l.flatMap f)) (hsz : 0 < sz) : See w ao cap f sz l ∧ n = l.length := by
  have hl : l.length = n := by
    have := h.1
    rw [flat_length hf] at this
    exact Nat.eq_of_mul_eq_mul_right hsz this
  subst hl
  rcases h.2 with ⟨h1, h2⟩ | ⟨g, cap', cur, e1, hb, hg, hn, hc, hcs, ht⟩
  · simp only [Value.slice.injEq] at h1
    obtain ⟨rfl, -, rfl⟩ := h1
    have : l = [] := List.eq_nil_of_length_eq_zero h2
    subst this
    exact ⟨nil w f sz, rfl⟩
  · simp only [Value.slice.injEq] at e1
    obtain ⟨rfl, -, rfl⟩ := e1
    refine ⟨⟨hn, hc, fun i x hx => ⟨g, 0, rfl, fun j u hu => ?_⟩⟩, rfl⟩
    have hi := (List.getElem?_eq_some_iff.1 hx).1
    have hj : j < sz := by rw [← hf x]; exact (List.getElem?_eq_some_iff.1 hu).1
    have hij : i * sz + j < l.length * sz := by
      have := Nat.mul_le_mul_right sz (show i + 1 ≤ l.length from hi)
      rw [Nat.add_mul, Nat.one_mul] at this
      omega
    rw [Nat.zero_add, h.cellAt _ hij, flat_get hf l i j hj, hx]
    exact hu
/-- A part of it. -/
theorem sub (h : See w ao cap f sz l) (lo hi : Nat) (h2 : hi ≤ l.length) : See w (slBase ao lo cap sz) (cap - lo) f sz ((l.take hi).drop lo) := by
  have hc := h.hcap
  refine ⟨by simp; omega, by have := h.hmax; omega, fun i x hx => ?_⟩
  have hil := (List.getElem?_eq_some_iff.1 hx).1
  simp only [List.length_drop, List.length_take] at hil
  rw [List.getElem?_drop, List.getElem?_take, if_pos (by omega)] at hx
  obtain ⟨b, off, e, hcell⟩ := h.cell _ _ hx
  have hne : ¬ cap = lo := by omega
  have hadd : (⟨b, off, none⟩ : Addr).add (lo * sz) = ⟨b, off + lo * sz, none⟩ := by
    unfold Addr.add
    split
    · simp_all
    · rfl
  refine ⟨b, off + lo * sz, by rw [slBase, if_neg hne, e, Option.map_some, hadd], fun j u hu => ?_⟩
  have := hcell j u hu
  rw [Nat.add_mul, ← Nat.add_assoc] at this
  exact this
theorem lt (h : See w ao cap f sz l) {i : Nat} {x : α} {u : Value} (hx : l[i]? = some x) (hu : (f x)[0]? = some u) : ∃ b off, ao = some ⟨b, off, none⟩ ∧ b < w.heap.size := by
  obtain ⟨b, off, e, hc⟩ := h.cell i x hx
  exact ⟨b, off, e, block_lt (hc 0 u hu)⟩
end See

/-- A part of a slice is taken: one word for where it begins. -/
theorem run_sub {P : Program} (t e : TypeId) (sz : Nat) (ht : P.underlying t = some (.slice e)) (hs : ∀ w, (sizeOf e).run P w = .ok sz w) (ao : Option Addr) (n cap lo hi : Nat) (kl kh : IntKind) (h1 : lo ≤ hi) (h2 : hi ≤ cap) (w : World) :
    (Instr.slice t (.slice ao n cap) (some (.int kl (lo : Int))) (some (.int kh (hi : Int))) none).run P w = .ok (.slice (slBase ao lo cap sz) (hi - lo) (cap - lo)) w := by
  have he : P.elem t = e := by simp [Program.elem, ht]
  have h := run_slice_lh (P := P) (w := w) t ao n cap (by rw [ht, he]) kl kh (lo : Int) (hi : Int) (by omega) (by omega) (by omega)
  rw [h, he, hs]
  simp [Result.andThen, sliced, slBase]

structure LinkD where
  to : Nat
  wt : Nat
  left : Nat
  right : Nat
  deriving DecidableEq, Repr, Inhabited
def linkCells (l : LinkD) : List Value := [.int .u32 l.to, .int .u64 l.wt, .int .u32 l.left, .int .u32 l.right]
theorem linkCells_len (l : LinkD) : (linkCells l).length = 4 := rfl
def u32Cells (n : Nat) : List Value := [.int .u32 n]
theorem u32Cells_len (n : Nat) : (u32Cells n).length = 1 := rfl
structure HierD where
  node : List Nat
  upF : List Nat
  up : List LinkD
  dnF : List Nat
  dn : List LinkD
  deriving DecidableEq, Repr, Inhabited
/-- Where the five slices of a hierarchy lie, and their capacities. -/
structure HA where
  a0 : Option Addr
  a1 : Option Addr
  a2 : Option Addr
  a3 : Option Addr
  a4 : Option Addr
  c0 : Nat
  c1 : Nat
  c2 : Nat
  c3 : Nat
  c4 : Nat
def hierVal (A : HA) (h : HierD) : Value := .agg #[.slice A.a0 h.node.length A.c0, .slice A.a1 h.upF.length A.c1, .slice A.a2 h.up.length A.c2, .slice A.a3 h.dnF.length A.c3, .slice A.a4 h.dn.length A.c4]
def LinkD.ok (l : LinkD) : Prop := l.to < 4294967296 ∧ l.wt < 18446744073709551616 ∧ l.left < 4294967296 ∧ l.right < 4294967296
/-- The hierarchy's slices read as h, and h's numbers fit. -/
structure HSee (w : World) (A : HA) (h : HierD) : Prop where
  node : See w A.a0 A.c0 u32Cells 1 h.node
  upF : See w A.a1 A.c1 u32Cells 1 h.upF
  up : See w A.a2 A.c2 linkCells 4 h.up
  dnF : See w A.a3 A.c3 u32Cells 1 h.dnF
  dn : See w A.a4 A.c4 linkCells 4 h.dn
  bn : ∀ x ∈ h.node, x < 4294967296
  bu : ∀ x ∈ h.upF, x < 4294967296
  bd : ∀ x ∈ h.dnF, x < 4294967296
  bup : ∀ l ∈ h.up, l.ok
  bdn : ∀ l ∈ h.dn, l.ok
theorem HSee.below {w w' : World} {A : HA} {h : HierD} (s : HSee w A h) (o : Below w.heap.size w w') : HSee w' A h :=
  ⟨s.node.below o, s.upF.below o, s.up.below o, s.dnF.below o, s.dn.below o, s.bn, s.bu, s.bd, s.bup, s.bdn⟩
end Go.Proofs.Ytjbphoophgbmiaa
