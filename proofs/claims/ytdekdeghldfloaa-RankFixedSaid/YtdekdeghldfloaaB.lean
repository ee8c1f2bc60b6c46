/- Contracts of Priority, of its reference and of the law's example. -/
import Derived.Test.YtdekdeghldfloaaA
namespace Go.Proofs.Ytdekdeghldfloaa
open Go.ChangeShapes Go.WideShapes Go.ChangeAt Go.RowKit

def pri (a b c d e f : Int) : Int := wrap64 (wrap64 (wrap64 (clamp a (-1000) 1000 * d) + wrap64 (clamp b (-1000) 1000 * e)) + wrap64 (clamp c (-1000) 1000 * f))

theorem priority_any (a b c d f x y z : Int) (w : World) :
    Calls Try.prog 10 #[.agg #[.int .i64 a, .int .i64 b, .int .i64 c, .int .i64 d, .int .i64 f], .int .i64 x, .int .i64 y, .int .i64 z] w fun e w' =>
      e = .returned (.int .i64 (pri c d f x y z)) ∧ Below w.heap.size w w' := by
  go_enter Try.func10, Try.ntmps10
  go_wp2_with (go_at_call 8; refine (plain_any _ _ _ _ _ _).mono ?_; rintro e w' ⟨rfl, hg⟩; (try obtain ⟨hc, hf⟩ := bcell hg))
  go_returns
  exact ⟨rfl, (bt (by go_grown) hg).alloc (by have := hg.size; simp at this; omega) _⟩

theorem rpriority_any (a b c d f x y z : Int) (w : World) :
    Calls Try.prog 11 #[.agg #[.int .i64 a, .int .i64 b, .int .i64 c, .int .i64 d, .int .i64 f], .int .i64 x, .int .i64 y, .int .i64 z] w fun e w' =>
      e = .returned (.int .i64 (pri c d f x y z)) ∧ Below w.heap.size w w' := by
  go_enter Try.func11, Try.ntmps11
  go_wp2_with (go_at_call 9; refine (rplain_any _ _ _ _ _ _).mono ?_; rintro e w' ⟨rfl, hg⟩; (try obtain ⟨hc, hf⟩ := bcell hg))
  go_returns
  exact ⟨rfl, (bt (by go_grown) hg).alloc (by have := hg.size; simp at this; omega) _⟩

theorem awake_any (w : World) :
    Calls Try.prog 7 #[] w fun e w' => e = .returned (.bool true) ∧ Below w.heap.size w w' := by
  have e1 : (pri 2 1 3 (-1) 4 1 == 5) = true := by decide +kernel
  have e2 : (half == 9223372036854775808) = true := by decide
  have e3 : (9223372036854775807 - half == -1) = true := by decide
  go_enter Try.func7, Try.ntmps7
  go_wp2_with (first | (go_at_call 10; refine (priority_any _ _ _ _ _ _ _ _ _).mono ?_; rintro e w' ⟨rfl, hg⟩; (try obtain ⟨hc, hf⟩ := bcell hg)) | (go_at_call 12; refine (key_any _ (by unfold half; omega) (by unfold half; omega) _).mono ?_; rintro e w' ⟨rfl, rfl⟩) | (go_at_call 14; refine (unkey_any _ (by omega) (by unfold half; omega) _).mono ?_; rintro e w' ⟨rfl, rfl⟩))
  go_returns
  exact ⟨rfl, by go_grown⟩

theorem clamp_clamp (n lo hi : Int) : clamp (clamp n lo hi) lo hi = clamp n lo hi := by unfold clamp; omega

/-- The walk of RankPlains. -/
theorem rankPlains_any (a b c d f : Int) (w : World) :
    Calls Try.prog 3 #[.agg #[.int .i64 a, .int .i64 b, .int .i64 c, .int .i64 d, .int .i64 f]] w fun e w' => e = .returned (.bool true) ∧ Below w.heap.size w w' := by
  have c1 := clamp_clamp a 0 1048576
  have c2 := clamp_clamp b 0 1048576
  have c3 := clamp_clamp c (-1000) 1000
  have c4 := clamp_clamp d (-1000) 1000
  have c5 := clamp_clamp f (-1000) 1000
  go_enter Try.func3, Try.ntmps3
  go_wp2_with fail
  refine (awake_any _).mono ?_
  rintro e w1 ⟨rfl, hg1⟩
  obtain ⟨hc1, hf1⟩ := bcell hg1
  have hz1 : w.heap.size < w1.heap.size := by have := hg1.size; simp only [World.size_alloc] at this; omega
  simp only [World.size_alloc] at hc1 hf1
  go_wp2_with fail
  refine (plain_any _ _ _ _ _ _).mono ?_
  rintro e w2 ⟨rfl, hg2⟩
  obtain ⟨hc2, hf2⟩ := bcell hg2
  have hz2 : w.heap.size < w2.heap.size := by have := hg2.size; omega
  go_wp2_with fail
  go_region_held3 (fun W => w.heap.size < W.heap.size ∧ w2.heap.size < W.heap.size ∧ W.cell? ⟨w.heap.size, 0, none⟩ = some (.int .i64 a) ∧ W.cell? ⟨w.heap.size, 1, none⟩ = some (.int .i64 b) ∧ W.cell? ⟨w.heap.size, 2, none⟩ = some (.int .i64 c) ∧ W.cell? ⟨w.heap.size, 3, none⟩ = some (.int .i64 d) ∧ W.cell? ⟨w.heap.size, 4, none⟩ = some (.int .i64 f) ∧
      W.cell? ⟨w2.heap.size, 0, none⟩ = some (.int .i64 (clamp a 0 1048576)) ∧ W.cell? ⟨w2.heap.size, 1, none⟩ = some (.int .i64 (clamp b 0 1048576)) ∧ W.cell? ⟨w2.heap.size, 2, none⟩ = some (.int .i64 (clamp c (-1000) 1000)) ∧ W.cell? ⟨w2.heap.size, 3, none⟩ = some (.int .i64 (clamp d (-1000) 1000)) ∧ W.cell? ⟨w2.heap.size, 4, none⟩ = some (.int .i64 (clamp f (-1000) 1000)))
    (first | (simp [*, go_sem]; done) | (simp [*, go_sem]; omega) | (trace_state; fail))
    (first | (go_at_call 8; refine (plain_any _ _ _ _ _ _).mono ?_; rintro e w3 ⟨rfl, hg3⟩; obtain ⟨hc3, hf3⟩ := bcell hg3; have hz3 := hg3.size) | (go_at_call 9; refine (rplain_any _ _ _ _ _ _).mono ?_; rintro e w4 ⟨rfl, hg4⟩; obtain ⟨hc4, hf4⟩ := bcell hg4; have hz4 := hg4.size))
  go_wp2
  go_returns
  have B1 := bt ((Below.refl _ _).alloc (Nat.le_refl _) _) hg1
  have B2 := bt B1 hg2
  exact ⟨rfl, bt (bt (B2.alloc B2.size _).drew hg4) hg3⟩

/-- The walk of RankPriorities. -/
theorem rankPriorities_any (a b c d f x y z : Int) (w : World) :
    Calls Try.prog 4 #[.agg #[.int .i64 a, .int .i64 b, .int .i64 c, .int .i64 d, .int .i64 f], .int .i64 x, .int .i64 y, .int .i64 z] w fun e w' => e = .returned (.bool true) ∧ Below w.heap.size w w' := by
  have c1 : pri (clamp c (-1000) 1000) (clamp d (-1000) 1000) (clamp f (-1000) 1000) x y z = pri c d f x y z := by unfold pri; simp only [clamp_clamp]
  go_enter Try.func4, Try.ntmps4
  go_wp2_with fail
  refine (awake_any _).mono ?_; rintro e w1 ⟨rfl, hg1⟩; obtain ⟨hc1, hf1⟩ := bcell hg1; have hz1 : w.heap.size < w1.heap.size := by (have := hg1.size; (try simp only [World.size_alloc] at this); omega)
  go_wp2_with fail
  refine (priority_any _ _ _ _ _ _ _ _ _).mono ?_; rintro e w2 ⟨rfl, hg2⟩; obtain ⟨hc2, hf2⟩ := bcell hg2; have hz2 : w.heap.size < w2.heap.size := by (have := hg2.size; omega)
  go_wp2_with fail
  refine (rpriority_any _ _ _ _ _ _ _ _ _).mono ?_; rintro e w3 ⟨rfl, hg3⟩; obtain ⟨hc3, hf3⟩ := bcell hg3; have hz3 : w.heap.size < w3.heap.size := by (have := hg3.size; omega)
  go_wp2_with fail
  refine (plain_any _ _ _ _ _ _).mono ?_; rintro e w4 ⟨rfl, hg4⟩; obtain ⟨hc4, hf4⟩ := bcell hg4; have hz4 : w.heap.size < w4.heap.size := by (have := hg4.size; omega)
  go_wp2_with fail
  refine (priority_any _ _ _ _ _ _ _ _ _).mono ?_; rintro e w5 ⟨rfl, hg5⟩; obtain ⟨hc5, hf5⟩ := bcell hg5; have hz5 : w.heap.size < w5.heap.size := by (have := hg5.size; omega)
  go_wp2
  go_returns
  exact ⟨rfl, bt (bt (bt (bt (bt ((Below.refl _ _).alloc (Nat.le_refl _) _) hg1) hg2) hg3) hg4) hg5⟩

theorem sub_half (a b : Int) : IntKind.u64.wrap (a + half - (b + half)) = IntKind.u64.wrap (IntKind.u64.wrap a - IntKind.u64.wrap b) := by
  unfold half; rw [IntKind.wrap_u64, IntKind.wrap_u64, IntKind.wrap_u64, IntKind.wrap_u64]; omega

/-- The walk of RankKeys. -/
theorem rankKeys_any (a b k : Int) (a0 : -half ≤ a) (a1 : a < half) (b0 : -half ≤ b) (b1 : b < half) (k0 : 0 ≤ k) (k1 : k < half + half) (w : World) :
    Calls Try.prog 5 #[.int .i64 a, .int .i64 b, .int .u64 k] w fun e w' => e = .returned (.bool true) ∧ Below w.heap.size w w' := by
  have f2 : (a + half == b + half) = (a == b) := by rw [Bool.eq_iff_iff, beq_iff_eq, beq_iff_eq]; omega
  have f3 : (IntKind.u64.wrap (a + half - (b + half)) == IntKind.u64.wrap (IntKind.u64.wrap a - IntKind.u64.wrap b)) = true := by rw [sub_half]; simp
  go_enter Try.func5, Try.ntmps5
  go_wp2_with fail
  refine (awake_any _).mono ?_; rintro e w1 ⟨rfl, hg1⟩
  go_wp2_with fail
  refine (key_any _ a0 a1 _).mono ?_; rintro e w2 ⟨rfl, rfl⟩
  go_wp2_with fail
  refine (key_any _ b0 b1 _).mono ?_; rintro e w2 ⟨rfl, rfl⟩
  go_wp2_with fail
  refine (rkey_any _ a0 a1 _).mono ?_; rintro e w2 ⟨rfl, rfl⟩
  go_wp2_with fail
  refine (unkey_any _ k0 k1 _).mono ?_; rintro e w2 ⟨rfl, rfl⟩
  go_wp2_with fail
  refine (runkey_any _ k0 k1 _).mono ?_; rintro e w2 ⟨rfl, rfl⟩
  go_wp2_with fail
  refine (unkey_any _ (by omega) (by omega) _).mono ?_; rintro e w2 ⟨rfl, rfl⟩
  go_wp2_with fail
  refine (unkey_any _ k0 k1 _).mono ?_; rintro e w2 ⟨rfl, rfl⟩
  go_wp2_with fail
  refine (key_any _ (by omega) (by omega) _).mono ?_; rintro e w2 ⟨rfl, rfl⟩
  go_wp2
  go_returns
  exact ⟨rfl, hg1⟩

/-- The walk of RankFixed. -/
theorem rankFixed_any (w : World) :
    Calls Try.prog 6 #[] w fun e w' => e = .returned (.bool true) ∧ Below w.heap.size w w' := by
  have e1 : (pri 1000 0 0 4611686018427387904 0 0 == 0) = true := by decide +kernel
  have e2 : (half == 9223372036854775808) = true := by decide
  go_enter Try.func6, Try.ntmps6
  go_wp2_with fail
  refine (awake_any _).mono ?_; rintro e w1 ⟨rfl, hg1⟩; have hz1 : w.heap.size ≤ w1.heap.size := hg1.size
  go_wp2_with fail
  refine (plain_any _ _ _ _ _ _).mono ?_; rintro e w2 ⟨rfl, hg2⟩; obtain ⟨hc2, hf2⟩ := bcell hg2; have hz2 : w1.heap.size ≤ w2.heap.size := hg2.size
  go_wp2_with fail
  refine (plain_any _ _ _ _ _ _).mono ?_; rintro e w3 ⟨rfl, hg3⟩; obtain ⟨hc3, hf3⟩ := bcell hg3; have hz3 : w2.heap.size < w3.heap.size := by (have := hg3.size; (try simp only [World.size_alloc] at this); omega)
  go_wp2_with fail
  refine (key_any _ (by unfold half; omega) (by unfold half; omega) _).mono ?_; rintro e w4 ⟨rfl, rfl⟩
  go_wp2_with fail
  refine (key_any _ (by unfold half; omega) (by unfold half; omega) _).mono ?_; rintro e w4 ⟨rfl, rfl⟩
  go_wp2_with fail
  refine (unkey_any _ (by omega) (by unfold half; omega) _).mono ?_; rintro e w4 ⟨rfl, rfl⟩
  go_wp2_with fail
  refine (priority_any _ _ _ _ _ _ _ _ _).mono ?_; rintro e w5 ⟨rfl, hg5⟩
  go_wp2
  go_returns
  have B2 := bt hg1 hg2
  have B3 := bt (B2.alloc B2.size _) hg3
  exact ⟨rfl, bt (B3.alloc B3.size _) hg5⟩
end Go.Proofs.Ytdekdeghldfloaa
