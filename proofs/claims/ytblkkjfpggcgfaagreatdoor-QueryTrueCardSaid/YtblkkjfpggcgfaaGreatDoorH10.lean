/- The contract of hier's shape. -/
import Derived.Test.YtblkkjfpggcgfaaGreatDoorH8
namespace Go.Proofs.YtblkkjfpggcgfaaGreatDoor
open Go.ChangeShapes Go.WideShapes Go.ChangeAt Go.RowKit Go.Joins Go.Deep
set_option maxRecDepth 100000 in
set_option maxHeartbeats 8000000 in
theorem shape_b (h : HierD) (A : HA) (all : List EndD) (ao : Option Addr) (cap i : Nat) (w : World) (see : See w ao cap endCells 7 all) (ok : ∀ x ∈ all, x.ok) (h1 : all.length ≤ 1048576) (hi : i < all.length) (hu : h.up.length ≤ all.length) (hcase : (all.getD i default).link.plain = false ∧ ¬ (all.getD i default).link.left < h.up.length ∧ ¬ all.length ≤ (all.getD i default).link.left ∧ ¬ h.up.length ≤ (all.getD i default).link.right) (hd1 : ¬ h.node.length ≤ (all.getD i default).link.to) (hd2 : ¬ (all.getD i default).link.to ≤ (all.getD i default).rank) (hd3 : ¬ (0 < i ∧ i ≠ h.up.length ∧ (all.getD (i - 1) default).rank = (all.getD i default).rank ∧ (all.getD i default).link.to ≤ (all.getD (i - 1) default).link.to)) :
    Calls Tryz.prog 38 #[hierVal A h, .slice ao all.length cap, .int .i64 i] w (BoolPost (shapeB h.node.length h.up.length all i) w) := by
  obtain ⟨b, o, rfl, lb, hcell⟩ := see_base see (by omega) endCells_len (by omega)
  obtain ⟨x, hx⟩ : ∃ x, all[i]? = some x := ⟨_, List.getElem?_eq_getElem hi⟩
  obtain ⟨y, hy⟩ : ∃ y, all[i - 1]? = some y := ⟨_, List.getElem?_eq_getElem (by omega)⟩
  have hgx : all.getD i default = x := by rw [List.getD_eq_getElem?_getD, hx]; rfl
  have hgy : all.getD (i - 1) default = y := by rw [List.getD_eq_getElem?_getD, hy]; rfl
  rw [hgx] at hcase hd1 hd2 hd3
  rw [hgy] at hd3
  have hS := shapeB_eq h.node.length h.up.length all i x y hgx hgy
  have c0 := hcell i x hx 0 _ rfl
  have c1 := hcell i x hx 1 _ rfl
  have c2 := hcell i x hx 2 _ rfl
  have c3 := hcell i x hx 3 _ rfl
  have c4 := hcell i x hx 4 _ rfl
  have c5 := hcell i x hx 5 _ rfl
  have c6 := hcell i x hx 6 _ rfl
  have y0 := hcell (i - 1) y hy 0 _ rfl
  have y6 := hcell (i - 1) y hy 6 _ rfl
  rw [Nat.add_zero] at c0 y0
  have HC := Lib.hid hcell
  have OK := Lib.hid ok
  have hxo := ok x (List.mem_of_getElem? hx)
  have hyo := ok y (List.mem_of_getElem? hy)
  have bt0 := hxo.1.1
  have bl := hxo.1.2.2.1
  have br := hxo.1.2.2.2
  have br6 := hxo.2.2.2
  have by6 := hyo.2.2.2
  have HS := Lib.hid hS
  clear see ok hcell hx hy hgx hgy hxo hyo hS
  unfold hierVal
  have d1 := hd1
  have d2 := hd2
  have d3 := hd3
  obtain ⟨hp, q1, q2, q3⟩ := hcase
  have e1 : decide (h.node.length ≤ x.link.to) = false := by simpa using d1
  have e2 : decide (x.link.to ≤ x.rank) = false := by simpa using d2
  have hS3 : shapeB h.node.length h.up.length all i = _ := (HS.out.trans (if_neg (by simp [d1, d2]))).trans (if_neg d3)
  have hdis : (decide (0 < i) = false) ∨ (0 < i ∧ decide (0 < i) = true ∧ ((i : Int) != (h.up.length : Int)) = false) ∨ (0 < i ∧ decide (0 < i) = true ∧ ((i : Int) != (h.up.length : Int)) = true ∧ ((y.rank : Int) == (x.rank : Int)) = false) ∨
      (0 < i ∧ decide (0 < i) = true ∧ ((i : Int) != (h.up.length : Int)) = true ∧ ((y.rank : Int) == (x.rank : Int)) = true ∧ decide (x.link.to ≤ y.link.to) = false) := by
    simp only [decide_eq_false_iff_not, decide_eq_true_eq, bne_eq_false_iff_eq, bne_iff_ne, beq_eq_false_iff_ne, beq_iff_eq, ne_eq, Int.natCast_inj]
    omega
  have hS4 : shapeB h.node.length h.up.length all i = _ := hS3.trans (if_neg (by simp [hp]))
  have HP := Lib.hid hp
  have HS4 := Lib.hid hS4
  have r1 : decide (x.link.left < h.up.length) = false := by simpa using q1
  have r2 : decide (all.length ≤ x.link.left) = false := by simpa using q2
  clear HS hS3 hS4 hp d3 hd1 hd2 hd3
  have r3 : decide (h.up.length ≤ x.link.right) = false := by simpa using q3
  have hS5 : shapeB h.node.length h.up.length all i = _ := HS4.out.trans (if_neg (by simp [q1, q2, q3]))
  have hl : x.link.left < all.length := by omega
  have hr : x.link.right < all.length := by omega
  obtain ⟨p, hp⟩ : ∃ p, all[x.link.left]? = some p := ⟨_, List.getElem?_eq_getElem hl⟩
  obtain ⟨q, hq⟩ : ∃ q, all[x.link.right]? = some q := ⟨_, List.getElem?_eq_getElem hr⟩
  have hgp : all.getD x.link.left default = p := by rw [List.getD_eq_getElem?_getD, hp]; rfl
  have hgq : all.getD x.link.right default = q := by rw [List.getD_eq_getElem?_getD, hq]; rfl
  rw [hgp, hgq] at hS5
  have p0 := HC.out _ p hp 0 _ rfl
  have p1 := HC.out _ p hp 1 _ rfl
  have p2 := HC.out _ p hp 2 _ rfl
  have p3 := HC.out _ p hp 3 _ rfl
  have p4 := HC.out _ p hp 4 _ rfl
  have p5 := HC.out _ p hp 5 _ rfl
  have p6 := HC.out _ p hp 6 _ rfl
  have z0 := HC.out _ q hq 0 _ rfl
  have z1 := HC.out _ q hq 1 _ rfl
  have z2 := HC.out _ q hq 2 _ rfl
  have z3 := HC.out _ q hq 3 _ rfl
  have z4 := HC.out _ q hq 4 _ rfl
  have z5 := HC.out _ q hq 5 _ rfl
  have z6 := HC.out _ q hq 6 _ rfl
  rw [Nat.add_zero] at p0 z0
  have hpz : ∀ W, Below w.heap.size w W → (W.cell? ⟨b, o + x.link.left * 7, none⟩ = some (.int .u32 p.link.to) ∧ W.cell? ⟨b, o + x.link.left * 7 + 1, none⟩ = some (.int .u64 p.link.wt) ∧ W.cell? ⟨b, o + x.link.left * 7 + 2, none⟩ = some (.int .u32 p.link.left) ∧ W.cell? ⟨b, o + x.link.left * 7 + 3, none⟩ = some (.int .u32 p.link.right) ∧ W.cell? ⟨b, o + x.link.left * 7 + 4, none⟩ = some (.int .i64 p.tail) ∧ W.cell? ⟨b, o + x.link.left * 7 + 5, none⟩ = some (.int .i64 p.head) ∧ W.cell? ⟨b, o + x.link.left * 7 + 6, none⟩ = some (.int .i64 p.rank)) ∧
      (W.cell? ⟨b, o + x.link.right * 7, none⟩ = some (.int .u32 q.link.to) ∧ W.cell? ⟨b, o + x.link.right * 7 + 1, none⟩ = some (.int .u64 q.link.wt) ∧ W.cell? ⟨b, o + x.link.right * 7 + 2, none⟩ = some (.int .u32 q.link.left) ∧ W.cell? ⟨b, o + x.link.right * 7 + 3, none⟩ = some (.int .u32 q.link.right) ∧ W.cell? ⟨b, o + x.link.right * 7 + 4, none⟩ = some (.int .i64 q.tail) ∧ W.cell? ⟨b, o + x.link.right * 7 + 5, none⟩ = some (.int .i64 q.head) ∧ W.cell? ⟨b, o + x.link.right * 7 + 6, none⟩ = some (.int .i64 q.rank)) :=
    fun W hW => ⟨⟨ck hW p0, ck hW p1, ck hW p2, ck hW p3, ck hW p4, ck hW p5, ck hW p6⟩, ⟨ck hW z0, ck hW z1, ck hW z2, ck hW z3, ck hW z4, ck hW z5, ck hW z6⟩⟩
  have HPZ := Lib.hid hpz
  have HS5 := Lib.hid hS5
  clear HS4 hS5 hp hq hgp hgq p0 p1 p2 p3 p4 p5 p6 z0 z1 z2 z3 z4 z5 z6 hpz
  by_cases t1 : p.tail = x.tail
  · have s1 : ((p.tail : Int) == (x.tail : Int)) = true := by simp; omega
    by_cases t2 : q.head = x.head
    · have s2 : ((q.head : Int) == (x.head : Int)) = true := by simp; omega
      have hz : shapeB h.node.length h.up.length all i = ((p.rank : Int) == (q.rank : Int)) := by
        rw [HS5.out, Bool.eq_iff_iff]
        simp [t1, t2]
        omega
      have HZ := Lib.hid hz
      clear hz HS5 t1 t2
      rcases hdis with g1 | ⟨g0, g1, g2⟩ | ⟨g0, g1, g2, g3⟩ | ⟨g0, g1, g2, g3, g4⟩
      all_goals
        go_enter Tryz.func38, Tryz.ntmps38
        go_wp2_with fail
        go_quiet (fail)
        go_wp2_with fail
        refine (plain_any x.link _).mono ?_
        rintro e w1 ⟨rfl, hb1⟩
        rw [HP.out]
        have hB := (below_drewN (((Below.refl w.heap.size w).alloc (Nat.le_refl _) (.cells #[.slice A.a0 h.node.length A.c0, .slice A.a1 h.upF.length A.c1, .slice A.a2 h.up.length A.c2, .slice A.a3 h.dnF.length A.c3, .slice A.a4 h.dn.length A.c4] 25)).alloc (by simp) (.cells (endCells x).toArray 65)) nq).trans (hb1.mono (by simp [World.drewN]; omega))
        have hsz1 : w.heap.size + 1 < w1.heap.size := by have := hb1.size; simp [World.drewN] at this; omega
        have m0 := (((Cells.new w 25 [.slice A.a0 h.node.length A.c0, .slice A.a1 h.upF.length A.c1, .slice A.a2 h.up.length A.c2, .slice A.a3 h.dnF.length A.c3, .slice A.a4 h.dn.length A.c4]).alloc (.cells (endCells x).toArray 65)).drewN nq).below hb1 (by simp [World.drewN]; omega)
        have m1 := ((Cells.new (w.alloc (.cells #[.slice A.a0 h.node.length A.c0, .slice A.a1 h.upF.length A.c1, .slice A.a2 h.up.length A.c2, .slice A.a3 h.dnF.length A.c3, .slice A.a4 h.dn.length A.c4] 25)) 65 (endCells x)).drewN nq).below hb1 (by simp [World.drewN])
        rw [World.size_alloc] at m1
        have u2 : w1.cell? ⟨w.heap.size, 2, none⟩ = some (.slice A.a2 h.up.length A.c2) := m0.cell rfl
        have v2 : w1.cell? ⟨w.heap.size + 1, 2, none⟩ = some (.int .u32 x.link.left) := m1.cell rfl
        have v3 : w1.cell? ⟨w.heap.size + 1, 3, none⟩ = some (.int .u32 x.link.right) := m1.cell rfl
        have v4 : w1.cell? ⟨w.heap.size + 1, 4, none⟩ = some (.int .i64 x.tail) := m1.cell rfl
        have v5 : w1.cell? ⟨w.heap.size + 1, 5, none⟩ = some (.int .i64 x.head) := m1.cell rfl
        have HB := Lib.hid hB
        clear m0 m1 hb1 hB
        go_wp2_with fail
        obtain ⟨⟨a0, a1, a2, a3, a4, a5, a6⟩, ⟨k0, k1, k2, k3, k4, k5, k6⟩⟩ := HPZ.out w1 HB.out
        have lb1 : b < w1.heap.size := by omega
        have hsz0 : w.heap.size < w1.heap.size := by omega
        clear c0 c1 c2 c3 c4 c5 c6 y0 y6
        go_region
        go_wp2_with fail
        go_region
        all_goals
          dsimp only [Exit.then]
          go_wp2
          have hbw := HB.out
          go_returns
          refine ⟨?_, ?_⟩
          · rw [HZ.out]
            rfl
          · go_grown
    · have s2 : ((q.head : Int) == (x.head : Int)) = false := by simp; omega
      have hz : shapeB h.node.length h.up.length all i = false := by
        rw [HS5.out]
        simp [t2]
      have HZ := Lib.hid hz
      clear hz HS5 t1 t2
      rcases hdis with g1 | ⟨g0, g1, g2⟩ | ⟨g0, g1, g2, g3⟩ | ⟨g0, g1, g2, g3, g4⟩
      all_goals
        go_enter Tryz.func38, Tryz.ntmps38
        go_wp2_with fail
        go_quiet (fail)
        go_wp2_with fail
        refine (plain_any x.link _).mono ?_
        rintro e w1 ⟨rfl, hb1⟩
        rw [HP.out]
        have hB := (below_drewN (((Below.refl w.heap.size w).alloc (Nat.le_refl _) (.cells #[.slice A.a0 h.node.length A.c0, .slice A.a1 h.upF.length A.c1, .slice A.a2 h.up.length A.c2, .slice A.a3 h.dnF.length A.c3, .slice A.a4 h.dn.length A.c4] 25)).alloc (by simp) (.cells (endCells x).toArray 65)) nq).trans (hb1.mono (by simp [World.drewN]; omega))
        have hsz1 : w.heap.size + 1 < w1.heap.size := by have := hb1.size; simp [World.drewN] at this; omega
        have m0 := (((Cells.new w 25 [.slice A.a0 h.node.length A.c0, .slice A.a1 h.upF.length A.c1, .slice A.a2 h.up.length A.c2, .slice A.a3 h.dnF.length A.c3, .slice A.a4 h.dn.length A.c4]).alloc (.cells (endCells x).toArray 65)).drewN nq).below hb1 (by simp [World.drewN]; omega)
        have m1 := ((Cells.new (w.alloc (.cells #[.slice A.a0 h.node.length A.c0, .slice A.a1 h.upF.length A.c1, .slice A.a2 h.up.length A.c2, .slice A.a3 h.dnF.length A.c3, .slice A.a4 h.dn.length A.c4] 25)) 65 (endCells x)).drewN nq).below hb1 (by simp [World.drewN])
        rw [World.size_alloc] at m1
        have u2 : w1.cell? ⟨w.heap.size, 2, none⟩ = some (.slice A.a2 h.up.length A.c2) := m0.cell rfl
        have v2 : w1.cell? ⟨w.heap.size + 1, 2, none⟩ = some (.int .u32 x.link.left) := m1.cell rfl
        have v3 : w1.cell? ⟨w.heap.size + 1, 3, none⟩ = some (.int .u32 x.link.right) := m1.cell rfl
        have v4 : w1.cell? ⟨w.heap.size + 1, 4, none⟩ = some (.int .i64 x.tail) := m1.cell rfl
        have v5 : w1.cell? ⟨w.heap.size + 1, 5, none⟩ = some (.int .i64 x.head) := m1.cell rfl
        have HB := Lib.hid hB
        clear m0 m1 hb1 hB
        go_wp2_with fail
        obtain ⟨⟨a0, a1, a2, a3, a4, a5, a6⟩, ⟨k0, k1, k2, k3, k4, k5, k6⟩⟩ := HPZ.out w1 HB.out
        have lb1 : b < w1.heap.size := by omega
        have hsz0 : w.heap.size < w1.heap.size := by omega
        clear c0 c1 c2 c3 c4 c5 c6 y0 y6
        go_region
        go_wp2_with fail
        go_region
        all_goals
          dsimp only [Exit.then]
          go_wp2
          have hbw := HB.out
          go_returns
          refine ⟨?_, ?_⟩
          · rw [HZ.out]
            rfl
          · go_grown
  · have s1 : ((p.tail : Int) == (x.tail : Int)) = false := by simp; omega
    have hz : shapeB h.node.length h.up.length all i = false := by
      rw [HS5.out]
      simp [t1]
    have HZ := Lib.hid hz
    clear hz HS5 t1
    rcases hdis with g1 | ⟨g0, g1, g2⟩ | ⟨g0, g1, g2, g3⟩ | ⟨g0, g1, g2, g3, g4⟩
    all_goals
      go_enter Tryz.func38, Tryz.ntmps38
      go_wp2_with fail
      go_quiet (fail)
      go_wp2_with fail
      refine (plain_any x.link _).mono ?_
      rintro e w1 ⟨rfl, hb1⟩
      rw [HP.out]
      have hB := (below_drewN (((Below.refl w.heap.size w).alloc (Nat.le_refl _) (.cells #[.slice A.a0 h.node.length A.c0, .slice A.a1 h.upF.length A.c1, .slice A.a2 h.up.length A.c2, .slice A.a3 h.dnF.length A.c3, .slice A.a4 h.dn.length A.c4] 25)).alloc (by simp) (.cells (endCells x).toArray 65)) nq).trans (hb1.mono (by simp [World.drewN]; omega))
      have hsz1 : w.heap.size + 1 < w1.heap.size := by have := hb1.size; simp [World.drewN] at this; omega
      have m0 := (((Cells.new w 25 [.slice A.a0 h.node.length A.c0, .slice A.a1 h.upF.length A.c1, .slice A.a2 h.up.length A.c2, .slice A.a3 h.dnF.length A.c3, .slice A.a4 h.dn.length A.c4]).alloc (.cells (endCells x).toArray 65)).drewN nq).below hb1 (by simp [World.drewN]; omega)
      have m1 := ((Cells.new (w.alloc (.cells #[.slice A.a0 h.node.length A.c0, .slice A.a1 h.upF.length A.c1, .slice A.a2 h.up.length A.c2, .slice A.a3 h.dnF.length A.c3, .slice A.a4 h.dn.length A.c4] 25)) 65 (endCells x)).drewN nq).below hb1 (by simp [World.drewN])
      rw [World.size_alloc] at m1
      have u2 : w1.cell? ⟨w.heap.size, 2, none⟩ = some (.slice A.a2 h.up.length A.c2) := m0.cell rfl
      have v2 : w1.cell? ⟨w.heap.size + 1, 2, none⟩ = some (.int .u32 x.link.left) := m1.cell rfl
      have v3 : w1.cell? ⟨w.heap.size + 1, 3, none⟩ = some (.int .u32 x.link.right) := m1.cell rfl
      have v4 : w1.cell? ⟨w.heap.size + 1, 4, none⟩ = some (.int .i64 x.tail) := m1.cell rfl
      have v5 : w1.cell? ⟨w.heap.size + 1, 5, none⟩ = some (.int .i64 x.head) := m1.cell rfl
      have HB := Lib.hid hB
      clear m0 m1 hb1 hB
      go_wp2_with fail
      obtain ⟨⟨a0, a1, a2, a3, a4, a5, a6⟩, ⟨k0, k1, k2, k3, k4, k5, k6⟩⟩ := HPZ.out w1 HB.out
      have lb1 : b < w1.heap.size := by omega
      have hsz0 : w.heap.size < w1.heap.size := by omega
      clear c0 c1 c2 c3 c4 c5 c6 y0 y6
      go_region
      go_wp2_with fail
      go_region
      all_goals
        dsimp only [Exit.then]
        go_wp2
        have hbw := HB.out
        go_returns
        refine ⟨?_, ?_⟩
        · rw [HZ.out]
          rfl
        · go_grown
end Go.Proofs.YtblkkjfpggcgfaaGreatDoor
