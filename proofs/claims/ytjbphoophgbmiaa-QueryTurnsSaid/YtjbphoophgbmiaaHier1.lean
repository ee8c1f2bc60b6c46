/- The contracts of fault.At and of the small functions of hier. -/
import Derived.Test.YtjbphoophgbmiaaHierP
namespace Go.Proofs.Ytjbphoophgbmiaa
open Go.ChangeShapes Go.WideShapes Go.ChangeAt Go.RowKit Go.Joins Go.Deep

/-- The value v is the error x. -/
def ErrIs (w : World) (v : Value) : EV → Prop
  | .nil => v = .nilIface
  | .code n => v = errV n
  | .at k i n => ∃ b, v = .iface 120 (.pointer (some ⟨b, 0, none⟩)) ∧ Cells w b 124 [.int .i64 k, .int .i64 i, errV n]
theorem ErrIs.below {w w' : World} {v : Value} {x : EV} (h : ErrIs w v x) (o : Below w.heap.size w w') : ErrIs w' v x := by
  cases x with
  | nil => exact h
  | code n => exact h
  | «at» k i n => obtain ⟨b, e, hc⟩ := h; exact ⟨b, e, hc.below o hc.lt⟩
theorem ErrIs.drew {w : World} {v : Value} {x : EV} (h : ErrIs w v x) : ErrIs w.drew v x := h.below (Below.refl _ _).drew
theorem ErrIs.alloc {w : World} {v : Value} {x : EV} (h : ErrIs w v x) (o : Obj) : ErrIs (w.alloc o) v x := h.below ((Below.refl _ _).alloc (Nat.le_refl _) o)
/-- An error comes out, and memory is only made. -/
def ErrPost (x : EV) (w : World) (e : Ending) (w' : World) : Prop := ∃ v, e = .returned v ∧ ErrIs w' v x ∧ Below w.heap.size w w'

set_option maxRecDepth 100000 in
theorem at_any (k i n : Int) (w : World) : Calls Try.prog 49 #[.int .i64 k, .int .i64 i, errV n] w (ErrPost (.at k i n) w) := by
  unfold errV
  go_enter Try.func49, Try.ntmps49
  go_wp2
  go_returns
  exact ⟨_, rfl, ⟨w.heap.size, rfl, Cells.new w 124 [.int .i64 k, .int .i64 i, errV n]⟩, by go_grown⟩

def linkVal (l : LinkD) : Value := .agg #[.int .u32 l.to, .int .u64 l.wt, .int .u32 l.left, .int .u32 l.right]
set_option maxRecDepth 100000 in
theorem plain_any (l : LinkD) (w : World) : Calls Try.prog 60 #[linkVal l] w fun e w' => e = .returned (.bool l.plain) ∧ Below w.heap.size w w' := by
  unfold linkVal LinkD.plain
  by_cases h1 : l.left = 4294967295
  · have d1 : ((l.left : Int) == 4294967295) = true := by simp; omega
    have e : (l.left == 4294967295 && l.right == 4294967295) = ((l.right : Int) == 4294967295) := by rw [h1, Bool.eq_iff_iff]; simp; omega
    rw [e]
    clear e h1
    go_enter Try.func60, Try.ntmps60
    go_wp2
    go_returns
    exact ⟨rfl, by go_grown⟩
  · have d1 : ((l.left : Int) == 4294967295) = false := by simp; omega
    have e : (l.left == 4294967295 && l.right == 4294967295) = false := by simp [h1]
    rw [e]
    clear e h1
    go_enter Try.func60, Try.ntmps60
    go_wp2
    go_returns
    exact ⟨rfl, by go_grown⟩
/-- A slice whose elements take one cell each. -/
theorem see_one {α : Type} {w : World} {ao : Option Addr} {cap : Nat} {f : α → Value} {l : List α} (see : See w ao cap (fun x => [f x]) 1 l) (h0 : 0 < l.length) :
    ∃ b o, ao = some ⟨b, o, none⟩ ∧ b < w.heap.size ∧ ∀ (i : Nat) (x : α), l[i]? = some x → w.cell? ⟨b, o + i, none⟩ = some (f x) := by
  obtain ⟨b, o, e, cc⟩ := see.cell 0 l[0] (List.getElem?_eq_getElem h0)
  refine ⟨b, o, e, block_lt (cc 0 _ rfl), fun i x hx => ?_⟩
  obtain ⟨b', o', e', cc'⟩ := see.cell i x hx
  rw [e] at e'
  simp only [Option.some.injEq, Addr.mk.injEq, and_true] at e'
  obtain ⟨rfl, rfl⟩ := e'
  have := cc' 0 _ rfl
  rwa [Nat.mul_one, Nat.add_zero] at this
end Go.Proofs.Ytjbphoophgbmiaa
