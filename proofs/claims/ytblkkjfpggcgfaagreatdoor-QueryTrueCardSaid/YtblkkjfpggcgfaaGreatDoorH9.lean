/- The contract of hier's shape. -/
import Derived.Test.YtblkkjfpggcgfaaGreatDoorH8
namespace Go.Proofs.YtblkkjfpggcgfaaGreatDoor
open Go.ChangeShapes Go.WideShapes Go.ChangeAt Go.RowKit Go.Joins Go.Deep
set_option maxRecDepth 100000 in
set_option maxHeartbeats 8000000 in
theorem shape_a (h : HierD) (A : HA) (all : List EndD) (ao : Option Addr) (cap i : Nat) (w : World) (see : See w ao cap endCells 7 all) (ok : ∀ x ∈ all, x.ok) (h1 : all.length ≤ 1048576) (hi : i < all.length) (hcase : ¬ ((all.getD i default).link.plain = false ∧ ¬ (all.getD i default).link.left < h.up.length ∧ ¬ all.length ≤ (all.getD i default).link.left ∧ ¬ h.up.length ≤ (all.getD i default).link.right)) :
    Calls Tryz.prog 38 #[hierVal A h, .slice ao all.length cap, .int .i64 i] w (BoolPost (shapeB h.node.length h.up.length all i) w) := by
  obtain ⟨b, o, rfl, lb, hcell⟩ := see_base see (by omega) endCells_len (by omega)
  obtain ⟨x, hx⟩ : ∃ x, all[i]? = some x := ⟨_, List.getElem?_eq_getElem hi⟩
  obtain ⟨y, hy⟩ : ∃ y, all[i - 1]? = some y := ⟨_, List.getElem?_eq_getElem (by omega)⟩
  have hgx : all.getD i default = x := by rw [List.getD_eq_getElem?_getD, hx]; rfl
  have hgy : all.getD (i - 1) default = y := by rw [List.getD_eq_getElem?_getD, hy]; rfl
  rw [hgx] at hcase
  have HCASE := Lib.hid hcase
  clear hcase
  have hS := shapeB_eq h.node.length h.up.length all i x y hgx hgy
  have c0 := hcell i x hx 0 _ rfl
  have c1 := hcell i x hx 1 _ rfl
  have c2 := hcell i x hx 2 _ rfl
  have c3 := hcell i x hx 3 _ rfl
  have c4 := hcell i x hx 4 _ rfl
  have c5 := hcell i x hx 5 _ rfl
  have c6 := hcell i x hx 6 _ rfl
  have y0 := hcell (i - 1) y hy 0 _ rfl
  have y6 := hcell (i - 1) y hy 6 _ rfl
  rw [Nat.add_zero] at c0 y0
  have HC := Lib.hid hcell
  have OK := Lib.hid ok
  have hxo := ok x (List.mem_of_getElem? hx)
  have hyo := ok y (List.mem_of_getElem? hy)
  have bt0 := hxo.1.1
  have bl := hxo.1.2.2.1
  have br := hxo.1.2.2.2
  have br6 := hxo.2.2.2
  have by6 := hyo.2.2.2
  have HS := Lib.hid hS
  clear see ok hcell hx hy hgx hgy hxo hyo hS
  unfold hierVal
  by_cases d1 : h.node.length ≤ x.link.to
  · have e1 : decide (h.node.length ≤ x.link.to) = true := by simpa using d1
    go_enter Tryz.func38, Tryz.ntmps38
    go_wp2
    go_returns
    refine ⟨?_, by go_grown⟩
    rw [HS.out, if_pos (.inl d1)]
    rfl
  have e1 : decide (h.node.length ≤ x.link.to) = false := by simpa using d1
  by_cases d2 : x.link.to ≤ x.rank
  · have e2 : decide (x.link.to ≤ x.rank) = true := by simpa using d2
    go_enter Tryz.func38, Tryz.ntmps38
    go_wp2
    go_returns
    refine ⟨?_, by go_grown⟩
    rw [HS.out, if_pos (.inr d2)]
    rfl
  have e2 : decide (x.link.to ≤ x.rank) = false := by simpa using d2
  have hS2 : shapeB h.node.length h.up.length all i = _ := HS.out.trans (if_neg (by simp [d1, d2]))
  have HS2 := Lib.hid hS2
  clear HS hS2
  by_cases d3 : 0 < i ∧ i ≠ h.up.length ∧ y.rank = x.rank ∧ x.link.to ≤ y.link.to
  · obtain ⟨f1, f2, f3, f4⟩ := d3
    have g1 : decide (0 < i) = true := by simpa using f1
    have g2 : ((i : Int) != (h.up.length : Int)) = true := by simp; omega
    have g3 : ((y.rank : Int) == (x.rank : Int)) = true := by simp; omega
    have g4 : decide (x.link.to ≤ y.link.to) = true := by simpa using f4
    have HF := Lib.hid (And.intro f1 (And.intro f2 (And.intro f3 f4)))
    clear f2 f3 f4
    go_enter Tryz.func38, Tryz.ntmps38
    go_wp2_with fail
    go_quiet (fail)
    go_wp2
    go_returns
    refine ⟨?_, below_drewN (((Below.refl w.heap.size w).alloc (Nat.le_refl _) _).alloc (by simp) _) _⟩
    rw [HS2.out, if_pos HF.out]
    rfl
  have hS3 : shapeB h.node.length h.up.length all i = _ := HS2.out.trans (if_neg d3)
  have HS3 := Lib.hid hS3
  have hdis : (decide (0 < i) = false) ∨ (0 < i ∧ decide (0 < i) = true ∧ ((i : Int) != (h.up.length : Int)) = false) ∨ (0 < i ∧ decide (0 < i) = true ∧ ((i : Int) != (h.up.length : Int)) = true ∧ ((y.rank : Int) == (x.rank : Int)) = false) ∨
      (0 < i ∧ decide (0 < i) = true ∧ ((i : Int) != (h.up.length : Int)) = true ∧ ((y.rank : Int) == (x.rank : Int)) = true ∧ decide (x.link.to ≤ y.link.to) = false) := by
    simp only [decide_eq_false_iff_not, decide_eq_true_eq, bne_eq_false_iff_eq, bne_iff_ne, beq_eq_false_iff_ne, beq_iff_eq, ne_eq, Int.natCast_inj]
    omega
  clear HS2 hS3 d3
  cases hp : x.link.plain with
  | true =>
    rw [hp] at HS3
    have HP := Lib.hid hp
    clear hp
    rcases hdis with g1 | ⟨g0, g1, g2⟩ | ⟨g0, g1, g2, g3⟩ | ⟨g0, g1, g2, g3, g4⟩
    all_goals
      go_enter Tryz.func38, Tryz.ntmps38
      go_wp2_with fail
      go_quiet (fail)
      go_wp2_with fail
      refine (plain_any x.link _).mono ?_
      rintro e w1 ⟨rfl, hb1⟩
      rw [HP.out]
      go_wp2
      go_returns
      refine ⟨?_, ?_⟩
      · rw [HS3.out, if_pos (by first | trivial | rfl)]
        rfl
      · exact (below_drewN (((Below.refl w.heap.size w).alloc (Nat.le_refl _) _).alloc (by simp) _) _).trans (hb1.mono (by simp [World.drewN]; omega))
  | false =>
    have hS4 : shapeB h.node.length h.up.length all i = _ := HS3.out.trans (if_neg (by simp [hp]))
    have HP := Lib.hid hp
    have HS4 := Lib.hid hS4
    clear HS3 hS4 hp
    by_cases q1 : x.link.left < h.up.length
    · have r1 : decide (x.link.left < h.up.length) = true := by simpa using q1
      have hz : shapeB h.node.length h.up.length all i = false := HS4.out.trans (if_pos (.inl q1))
      have HZ := Lib.hid hz
      clear hz HS4
      rcases hdis with g1 | ⟨g0, g1, g2⟩ | ⟨g0, g1, g2, g3⟩ | ⟨g0, g1, g2, g3, g4⟩
      all_goals
        go_enter Tryz.func38, Tryz.ntmps38
        go_wp2_with fail
        go_quiet (fail)
        go_wp2_with fail
        refine (plain_any x.link _).mono ?_
        rintro e w1 ⟨rfl, hb1⟩
        rw [HP.out]
        have hB := (below_drewN (((Below.refl w.heap.size w).alloc (Nat.le_refl _) (.cells #[.slice A.a0 h.node.length A.c0, .slice A.a1 h.upF.length A.c1, .slice A.a2 h.up.length A.c2, .slice A.a3 h.dnF.length A.c3, .slice A.a4 h.dn.length A.c4] 25)).alloc (by simp) (.cells (endCells x).toArray 65)) nq).trans (hb1.mono (by simp [World.drewN]; omega))
        have hsz1 : w.heap.size + 1 < w1.heap.size := by have := hb1.size; simp [World.drewN] at this; omega
        have m0 := (((Cells.new w 25 [.slice A.a0 h.node.length A.c0, .slice A.a1 h.upF.length A.c1, .slice A.a2 h.up.length A.c2, .slice A.a3 h.dnF.length A.c3, .slice A.a4 h.dn.length A.c4]).alloc (.cells (endCells x).toArray 65)).drewN nq).below hb1 (by simp [World.drewN]; omega)
        have m1 := ((Cells.new (w.alloc (.cells #[.slice A.a0 h.node.length A.c0, .slice A.a1 h.upF.length A.c1, .slice A.a2 h.up.length A.c2, .slice A.a3 h.dnF.length A.c3, .slice A.a4 h.dn.length A.c4] 25)) 65 (endCells x)).drewN nq).below hb1 (by simp [World.drewN])
        rw [World.size_alloc] at m1
        have u2 : w1.cell? ⟨w.heap.size, 2, none⟩ = some (.slice A.a2 h.up.length A.c2) := m0.cell rfl
        have v2 : w1.cell? ⟨w.heap.size + 1, 2, none⟩ = some (.int .u32 x.link.left) := m1.cell rfl
        have v3 : w1.cell? ⟨w.heap.size + 1, 3, none⟩ = some (.int .u32 x.link.right) := m1.cell rfl
        have v4 : w1.cell? ⟨w.heap.size + 1, 4, none⟩ = some (.int .i64 x.tail) := m1.cell rfl
        have v5 : w1.cell? ⟨w.heap.size + 1, 5, none⟩ = some (.int .i64 x.head) := m1.cell rfl
        have HB := Lib.hid hB
        clear m0 m1 hb1 hB
        go_wp2_with fail
        go_region
        go_wp2
        have hbw := HB.out
        go_returns
        refine ⟨?_, ?_⟩
        · rw [HZ.out]
          rfl
        · go_grown
    have r1 : decide (x.link.left < h.up.length) = false := by simpa using q1
    by_cases q2 : all.length ≤ x.link.left
    · have r2 : decide (all.length ≤ x.link.left) = true := by simpa using q2
      have hz : shapeB h.node.length h.up.length all i = false := HS4.out.trans (if_pos (.inr (.inl q2)))
      have HZ := Lib.hid hz
      clear hz HS4
      rcases hdis with g1 | ⟨g0, g1, g2⟩ | ⟨g0, g1, g2, g3⟩ | ⟨g0, g1, g2, g3, g4⟩
      all_goals
        go_enter Tryz.func38, Tryz.ntmps38
        go_wp2_with fail
        go_quiet (fail)
        go_wp2_with fail
        refine (plain_any x.link _).mono ?_
        rintro e w1 ⟨rfl, hb1⟩
        rw [HP.out]
        have hB := (below_drewN (((Below.refl w.heap.size w).alloc (Nat.le_refl _) (.cells #[.slice A.a0 h.node.length A.c0, .slice A.a1 h.upF.length A.c1, .slice A.a2 h.up.length A.c2, .slice A.a3 h.dnF.length A.c3, .slice A.a4 h.dn.length A.c4] 25)).alloc (by simp) (.cells (endCells x).toArray 65)) nq).trans (hb1.mono (by simp [World.drewN]; omega))
        have hsz1 : w.heap.size + 1 < w1.heap.size := by have := hb1.size; simp [World.drewN] at this; omega
        have m0 := (((Cells.new w 25 [.slice A.a0 h.node.length A.c0, .slice A.a1 h.upF.length A.c1, .slice A.a2 h.up.length A.c2, .slice A.a3 h.dnF.length A.c3, .slice A.a4 h.dn.length A.c4]).alloc (.cells (endCells x).toArray 65)).drewN nq).below hb1 (by simp [World.drewN]; omega)
        have m1 := ((Cells.new (w.alloc (.cells #[.slice A.a0 h.node.length A.c0, .slice A.a1 h.upF.length A.c1, .slice A.a2 h.up.length A.c2, .slice A.a3 h.dnF.length A.c3, .slice A.a4 h.dn.length A.c4] 25)) 65 (endCells x)).drewN nq).below hb1 (by simp [World.drewN])
        rw [World.size_alloc] at m1
        have u2 : w1.cell? ⟨w.heap.size, 2, none⟩ = some (.slice A.a2 h.up.length A.c2) := m0.cell rfl
        have v2 : w1.cell? ⟨w.heap.size + 1, 2, none⟩ = some (.int .u32 x.link.left) := m1.cell rfl
        have v3 : w1.cell? ⟨w.heap.size + 1, 3, none⟩ = some (.int .u32 x.link.right) := m1.cell rfl
        have v4 : w1.cell? ⟨w.heap.size + 1, 4, none⟩ = some (.int .i64 x.tail) := m1.cell rfl
        have v5 : w1.cell? ⟨w.heap.size + 1, 5, none⟩ = some (.int .i64 x.head) := m1.cell rfl
        have HB := Lib.hid hB
        clear m0 m1 hb1 hB
        go_wp2_with fail
        go_region
        go_wp2
        have hbw := HB.out
        go_returns
        refine ⟨?_, ?_⟩
        · rw [HZ.out]
          rfl
        · go_grown
    have r2 : decide (all.length ≤ x.link.left) = false := by simpa using q2
    by_cases q3 : h.up.length ≤ x.link.right
    · have r3 : decide (h.up.length ≤ x.link.right) = true := by simpa using q3
      have hz : shapeB h.node.length h.up.length all i = false := HS4.out.trans (if_pos (.inr (.inr q3)))
      have HZ := Lib.hid hz
      clear hz HS4
      rcases hdis with g1 | ⟨g0, g1, g2⟩ | ⟨g0, g1, g2, g3⟩ | ⟨g0, g1, g2, g3, g4⟩
      all_goals
        go_enter Tryz.func38, Tryz.ntmps38
        go_wp2_with fail
        go_quiet (fail)
        go_wp2_with fail
        refine (plain_any x.link _).mono ?_
        rintro e w1 ⟨rfl, hb1⟩
        rw [HP.out]
        have hB := (below_drewN (((Below.refl w.heap.size w).alloc (Nat.le_refl _) (.cells #[.slice A.a0 h.node.length A.c0, .slice A.a1 h.upF.length A.c1, .slice A.a2 h.up.length A.c2, .slice A.a3 h.dnF.length A.c3, .slice A.a4 h.dn.length A.c4] 25)).alloc (by simp) (.cells (endCells x).toArray 65)) nq).trans (hb1.mono (by simp [World.drewN]; omega))
        have hsz1 : w.heap.size + 1 < w1.heap.size := by have := hb1.size; simp [World.drewN] at this; omega
        have m0 := (((Cells.new w 25 [.slice A.a0 h.node.length A.c0, .slice A.a1 h.upF.length A.c1, .slice A.a2 h.up.length A.c2, .slice A.a3 h.dnF.length A.c3, .slice A.a4 h.dn.length A.c4]).alloc (.cells (endCells x).toArray 65)).drewN nq).below hb1 (by simp [World.drewN]; omega)
        have m1 := ((Cells.new (w.alloc (.cells #[.slice A.a0 h.node.length A.c0, .slice A.a1 h.upF.length A.c1, .slice A.a2 h.up.length A.c2, .slice A.a3 h.dnF.length A.c3, .slice A.a4 h.dn.length A.c4] 25)) 65 (endCells x)).drewN nq).below hb1 (by simp [World.drewN])
        rw [World.size_alloc] at m1
        have u2 : w1.cell? ⟨w.heap.size, 2, none⟩ = some (.slice A.a2 h.up.length A.c2) := m0.cell rfl
        have v2 : w1.cell? ⟨w.heap.size + 1, 2, none⟩ = some (.int .u32 x.link.left) := m1.cell rfl
        have v3 : w1.cell? ⟨w.heap.size + 1, 3, none⟩ = some (.int .u32 x.link.right) := m1.cell rfl
        have v4 : w1.cell? ⟨w.heap.size + 1, 4, none⟩ = some (.int .i64 x.tail) := m1.cell rfl
        have v5 : w1.cell? ⟨w.heap.size + 1, 5, none⟩ = some (.int .i64 x.head) := m1.cell rfl
        have HB := Lib.hid hB
        clear m0 m1 hb1 hB
        go_wp2_with fail
        go_region
        go_wp2
        have hbw := HB.out
        go_returns
        refine ⟨?_, ?_⟩
        · rw [HZ.out]
          rfl
        · go_grown
    exact absurd ⟨HP.out, q1, q2, q3⟩ HCASE.out
end Go.Proofs.YtblkkjfpggcgfaaGreatDoor
