/- The contract of hier's shape. -/
import Derived.Test.YtblkkjfpggcgfaaGreatDoorH9
import Derived.Test.YtblkkjfpggcgfaaGreatDoorH10
import Derived.Test.YtblkkjfpggcgfaaGreatDoorH11
namespace Go.Proofs.YtblkkjfpggcgfaaGreatDoor
open Go.ChangeShapes Go.WideShapes Go.ChangeAt Go.RowKit Go.Joins Go.Deep
theorem shape_any (h : HierD) (A : HA) (all : List EndD) (ao : Option Addr) (cap i : Nat) (w : World) (see : See w ao cap endCells 7 all) (ok : ∀ x ∈ all, x.ok) (h1 : all.length ≤ 1048576) (hi : i < all.length) (hu : h.up.length ≤ all.length) :
    Calls Tryz.prog 38 #[hierVal A h, .slice ao all.length cap, .int .i64 i] w (BoolPost (shapeB h.node.length h.up.length all i) w) := by
  by_cases hcase : (all.getD i default).link.plain = false ∧ ¬ (all.getD i default).link.left < h.up.length ∧ ¬ all.length ≤ (all.getD i default).link.left ∧ ¬ h.up.length ≤ (all.getD i default).link.right
  · by_cases hd1 : h.node.length ≤ (all.getD i default).link.to
    · exact shape_c h A all ao cap i w see ok h1 hi (.inl hd1)
    by_cases hd2 : (all.getD i default).link.to ≤ (all.getD i default).rank
    · exact shape_c h A all ao cap i w see ok h1 hi (.inr (.inl hd2))
    by_cases hd3 : 0 < i ∧ i ≠ h.up.length ∧ (all.getD (i - 1) default).rank = (all.getD i default).rank ∧ (all.getD i default).link.to ≤ (all.getD (i - 1) default).link.to
    · exact shape_c h A all ao cap i w see ok h1 hi (.inr (.inr hd3))
    exact shape_b h A all ao cap i w see ok h1 hi hu hcase hd1 hd2 hd3
  · exact shape_a h A all ao cap i w see ok h1 hi hcase
end Go.Proofs.YtblkkjfpggcgfaaGreatDoor
