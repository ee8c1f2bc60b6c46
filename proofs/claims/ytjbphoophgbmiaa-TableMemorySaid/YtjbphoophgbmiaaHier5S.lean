/- The contract of hier's shape. -/
import Derived.Test.YtjbphoophgbmiaaHier4
namespace Go.Proofs.Ytjbphoophgbmiaa
open Go.ChangeShapes Go.WideShapes Go.ChangeAt Go.RowKit Go.Joins Go.Deep

theorem shapeB_eq (n ups : Nat) (all : List EndD) (i : Nat) (x y : EndD) (hx : all.getD i default = x) (hy : all.getD (i - 1) default = y) : shapeB n ups all i =
    if n ≤ x.link.to ∨ x.link.to ≤ x.rank then false
    else if 0 < i ∧ i ≠ ups ∧ y.rank = x.rank ∧ x.link.to ≤ y.link.to then false
    else if x.link.plain then true
    else if x.link.left < ups ∨ all.length ≤ x.link.left ∨ ups ≤ x.link.right then false
    else decide ((all.getD x.link.left default).tail = x.tail ∧ (all.getD x.link.right default).head = x.head ∧ (all.getD x.link.left default).rank = (all.getD x.link.right default).rank) := by
  unfold shapeB
  simp only [hx, hy]

end Go.Proofs.Ytjbphoophgbmiaa
