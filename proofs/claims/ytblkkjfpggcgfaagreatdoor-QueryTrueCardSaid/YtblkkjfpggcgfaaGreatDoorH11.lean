/- The contract of hier's shape. -/
import Derived.Test.YtblkkjfpggcgfaaGreatDoorH8
namespace Go.Proofs.YtblkkjfpggcgfaaGreatDoor
open Go.ChangeShapes Go.WideShapes Go.ChangeAt Go.RowKit Go.Joins Go.Deep
set_option maxRecDepth 100000 in
set_option maxHeartbeats 8000000 in
theorem shape_c (h : HierD) (A : HA) (all : List EndD) (ao : Option Addr) (cap i : Nat) (w : World) (see : See w ao cap endCells 7 all) (ok : ∀ x ∈ all, x.ok) (h1 : all.length ≤ 1048576) (hi : i < all.length) (hcase : h.node.length ≤ (all.getD i default).link.to ∨ (all.getD i default).link.to ≤ (all.getD i default).rank ∨ (0 < i ∧ i ≠ h.up.length ∧ (all.getD (i - 1) default).rank = (all.getD i default).rank ∧ (all.getD i default).link.to ≤ (all.getD (i - 1) default).link.to)) :
    Calls Tryz.prog 38 #[hierVal A h, .slice ao all.length cap, .int .i64 i] w (BoolPost (shapeB h.node.length h.up.length all i) w) := by
  obtain ⟨b, o, rfl, lb, hcell⟩ := see_base see (by omega) endCells_len (by omega)
  obtain ⟨x, hx⟩ : ∃ x, all[i]? = some x := ⟨_, List.getElem?_eq_getElem hi⟩
  obtain ⟨y, hy⟩ : ∃ y, all[i - 1]? = some y := ⟨_, List.getElem?_eq_getElem (by omega)⟩
  have hgx : all.getD i default = x := by rw [List.getD_eq_getElem?_getD, hx]; rfl
  have hgy : all.getD (i - 1) default = y := by rw [List.getD_eq_getElem?_getD, hy]; rfl
  rw [hgx, hgy] at hcase
  have HCASE := Lib.hid hcase
  clear hcase
  have hS := shapeB_eq h.node.length h.up.length all i x y hgx hgy
  have c0 := hcell i x hx 0 _ rfl
  have c1 := hcell i x hx 1 _ rfl
  have c2 := hcell i x hx 2 _ rfl
  have c3 := hcell i x hx 3 _ rfl
  have c4 := hcell i x hx 4 _ rfl
  have c5 := hcell i x hx 5 _ rfl
  have c6 := hcell i x hx 6 _ rfl
  have y0 := hcell (i - 1) y hy 0 _ rfl
  have y6 := hcell (i - 1) y hy 6 _ rfl
  rw [Nat.add_zero] at c0 y0
  have HC := Lib.hid hcell
  have OK := Lib.hid ok
  have hxo := ok x (List.mem_of_getElem? hx)
  have hyo := ok y (List.mem_of_getElem? hy)
  have bt0 := hxo.1.1
  have bl := hxo.1.2.2.1
  have br := hxo.1.2.2.2
  have br6 := hxo.2.2.2
  have by6 := hyo.2.2.2
  have HS := Lib.hid hS
  clear see ok hcell hx hy hgx hgy hxo hyo hS
  unfold hierVal
  by_cases d1 : h.node.length ≤ x.link.to
  · have e1 : decide (h.node.length ≤ x.link.to) = true := by simpa using d1
    go_enter Tryz.func38, Tryz.ntmps38
    go_wp2
    go_returns
    refine ⟨?_, by go_grown⟩
    rw [HS.out, if_pos (.inl d1)]
    rfl
  have e1 : decide (h.node.length ≤ x.link.to) = false := by simpa using d1
  by_cases d2 : x.link.to ≤ x.rank
  · have e2 : decide (x.link.to ≤ x.rank) = true := by simpa using d2
    go_enter Tryz.func38, Tryz.ntmps38
    go_wp2
    go_returns
    refine ⟨?_, by go_grown⟩
    rw [HS.out, if_pos (.inr d2)]
    rfl
  have e2 : decide (x.link.to ≤ x.rank) = false := by simpa using d2
  have hS2 : shapeB h.node.length h.up.length all i = _ := HS.out.trans (if_neg (by simp [d1, d2]))
  have HS2 := Lib.hid hS2
  clear HS hS2
  by_cases d3 : 0 < i ∧ i ≠ h.up.length ∧ y.rank = x.rank ∧ x.link.to ≤ y.link.to
  · obtain ⟨f1, f2, f3, f4⟩ := d3
    have g1 : decide (0 < i) = true := by simpa using f1
    have g2 : ((i : Int) != (h.up.length : Int)) = true := by simp; omega
    have g3 : ((y.rank : Int) == (x.rank : Int)) = true := by simp; omega
    have g4 : decide (x.link.to ≤ y.link.to) = true := by simpa using f4
    have HF := Lib.hid (And.intro f1 (And.intro f2 (And.intro f3 f4)))
    clear f2 f3 f4
    go_enter Tryz.func38, Tryz.ntmps38
    go_wp2_with fail
    go_quiet (fail)
    go_wp2
    go_returns
    refine ⟨?_, below_drewN (((Below.refl w.heap.size w).alloc (Nat.le_refl _) _).alloc (by simp) _) _⟩
    rw [HS2.out, if_pos HF.out]
    rfl
  exact absurd HCASE.out (by simp only [not_or]; exact ⟨d1, d2, d3⟩)
end Go.Proofs.YtblkkjfpggcgfaaGreatDoor
