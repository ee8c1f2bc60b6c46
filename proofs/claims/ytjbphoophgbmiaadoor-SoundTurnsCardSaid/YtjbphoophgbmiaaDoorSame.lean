/- How the laws look at the program's errors: viaductseen.Same says yes where the document wants what the program answers. -/
import Derived.Test.YtjbphoophgbmiaaDoorErrV
import Derived.Test.YtjbphoophgbmiaaDoorErrIs
import Derived.Test.YtjbphoophgbmiaaDoorErrAt
import Derived.Deep.RegionHeld3
namespace Go.Proofs.YtjbphoophgbmiaaDoor
open Go.ChangeShapes Go.WideShapes Go.ChangeAt Go.RowKit Go.Joins Go.Deep

set_option maxRecDepth 100000 in
theorem same_nil (w : World) : Calls Tryd.prog 16 #[.nilIface, .agg #[.int .i64 0, .slice none 0 0]] w (BoolIs true w) := by
  go_enter Tryd.func16, Tryd.ntmps16
  go_wp2_with fail
  refine (bad_any _ .nil _ rfl trivial).mono ?_
  rintro e w1 ⟨he, hb⟩
  have he' : e = .returned (.bool false) := he
  subst he'
  have HB := Lib.hid (((Below.refl w.heap.size w).alloc (Nat.le_refl _) _).trans (hb.mono (by simp)))
  clear hb he
  go_wp2
  go_returns
  exact ⟨rfl, HB.out⟩

set_option maxRecDepth 100000 in
set_option maxHeartbeats 2000000 in
theorem same_code (n : Int) (w : World) (h1 : 1 ≤ n) (h2 : n ≤ 20) (hg : EVar w) : Calls Tryd.prog 16 #[errV n, .agg #[.int .i64 n, .slice none 0 0]] w (BoolIs true w) := by
  have HG := Lib.hid hg
  clear hg
  unfold errV
  go_enter Tryd.func16, Tryd.ntmps16
  go_wp2_with fail
  refine (bad_any _ (.code n) _ rfl ⟨h1, h2⟩).mono ?_
  rintro e w1 ⟨he, hb⟩
  have he' : e = .returned (.bool true) := he
  subst he'
  have hbx := (Cells.new w 30 [.int .i64 n, .slice none 0 0]).below hb (by simp)
  have HB1 := Lib.hid (((Below.refl w.heap.size w).alloc (Nat.le_refl _) _).trans (hb.mono (by simp)))
  have c0 : w1.cell? ⟨w.heap.size, 0, none⟩ = some (.int .i64 n) := hbx.cell rfl
  have c1 : w1.cell? ⟨w.heap.size, 1, none⟩ = some (.slice none 0 0) := hbx.cell rfl
  have lb := hbx.lt
  have HX1 := Lib.hid hbx
  clear hb he hbx
  go_wp2_with fail
  refine wp_loop_rounds 1 ?_
  rw [rounds_succ]
  go_wp2_with fail
  refine (as_num_fault n ⟨w1.heap.size, 0, none⟩ _ ((HG.out.below HB1.out).below ((Below.refl _ _).alloc (Nat.le_refl _) _))).mono ?_
  rintro e w2 ⟨rfl, hb⟩
  have HB2 := Lib.hid ((HB1.out.alloc HB1.out.size (.cells #[.pointer none] 83)).trans (hb.mono (by have := HB1.out.size; simp; omega)))
  have hx2 := (HX1.out.alloc (.cells #[.pointer none] 83)).below hb (by simp; omega)
  have HX2 := Lib.hid hx2
  have lb2 := hx2.lt
  clear hb hx2 c0 c1 HX1 HB1
  go_wp2_with fail
  refine (as_errno_errno n w2.heap.size (.int .i64 0) _ ((HG.out.below HB2.out).below ((Below.refl _ _).alloc (Nat.le_refl _) _)) (Cells.new w2 45 [.int .i64 0])).mono ?_
  rintro e w3 ⟨rfl, hc, ho⟩
  have hB3 : Below w.heap.size w w3 := (HB2.out.alloc HB2.out.size (.cells #[.int .i64 0] 45)).trans (ho.below (by have := HB2.out.size; simp; omega) (fun x hx => by simp at hx; have := HB2.out.size; omega))
  have hx3 := (HX2.out.alloc (.cells #[.int .i64 0] 45)).kept ho (by simp; omega)
  have c0 : w3.cell? ⟨w.heap.size, 0, none⟩ = some (.int .i64 n) := hx3.cell rfl
  have c2 : w3.cell? ⟨w2.heap.size, 0, none⟩ = some (.int .i64 n) := hc.cell rfl
  have HX3 := Lib.hid hx3
  have HB3 := Lib.hid hB3
  have lb3 := hx3.lt
  clear hc ho hx3 hB3 HX2 HB2
  go_wp2_with fail
  go_loopg [11] 20 (fun g vi wr => ∃ i : Int, vi = .int .i64 i ∧ 1 ≤ i ∧ i ≤ 21 ∧ g = (21 - i).toNat ∧ Cells wr w.heap.size 30 [.int .i64 n, .slice none 0 0] ∧ Below w.heap.size w wr)
  case atStart => exact ⟨1, rfl, by omega, by omega, rfl, HX3.out, HB3.out⟩
  case round =>
    obtain ⟨i, rfl, hi1, hi2, hgg, hcs, hbl⟩ := hrel
    have GG := Lib.hid hgg
    have HCS := Lib.hid hcs
    have HBL := Lib.hid hbl
    have c0 : wr.cell? ⟨w.heap.size, 0, none⟩ = some (.int .i64 n) := hcs.cell rfl
    clear hgg hcs hbl
    by_cases hi : i ≤ 20
    · have d0 : decide (i ≤ 20) = true := by simpa using hi
      by_cases hn : n = i
      · subst hn
        have hIs := is_errno n n
        simp only [beq_self_eq_true] at hIs
        go_wp2_with fail
        go_quiet ((go_at_call 47; exact Calls.quiet_of_same (hIs _)))
        go_wp2_with fail
        go_roundg (21 - (n + 1)).toNat
        case measure => rw [GG.out]; omega
        case rel => exact ⟨n + 1, rfl, by omega, by omega, rfl, HCS.out, below_drewN HBL.out _⟩
      · have d1 : (n == i) = false := by simpa using hn
        have d2 : (i == n) = false := by rw [beq_eq_false_iff_ne]; exact fun e => hn e.symm
        have hIs := is_errno n i
        rw [d1] at hIs
        clear hn
        go_wp2_with fail
        go_quiet ((go_at_call 47; exact Calls.quiet_of_same (hIs _)))
        go_wp2_with fail
        go_roundg (21 - (i + 1)).toNat
        case measure => rw [GG.out]; omega
        case rel => exact ⟨i + 1, rfl, by omega, by omega, rfl, HCS.out, below_drewN HBL.out _⟩
    · have d0 : decide (i ≤ 20) = false := by simpa using hi
      go_wp2
      go_returns
      exact ⟨rfl, HBL.out⟩

set_option maxRecDepth 100000 in
set_option maxHeartbeats 4000000 in
theorem same_at (k i n : Int) (g pb : Nat) (w : World) (h1 : 1 ≤ n) (h2 : n ≤ 20) (hg : EVar w) (hf : Cells w g 87 [.int .i64 k, .int .i64 i, errV n]) (hp : Cells w pb 82 [.int .i64 k, .int .i64 i]) :
    Calls Tryd.prog 16 #[.iface 83 (.pointer (some ⟨g, 0, none⟩)), .agg #[.int .i64 n, .slice (some ⟨pb, 0, none⟩) 1 1]] w (BoolIs true w) := by
  have HG := Lib.hid hg
  have HF := Lib.hid hf
  have HP := Lib.hid hp
  have lg := hf.lt
  have lp := hp.lt
  clear hg hf hp
  go_enter Tryd.func16, Tryd.ntmps16
  go_wp2_with fail
  refine (bad_any _ (.at k i n) _ ⟨pb, rfl, HP.out.alloc _⟩ ⟨h1, h2⟩).mono ?_
  rintro e w1 ⟨he, hb⟩
  have he' : e = .returned (.bool true) := he
  subst he'
  have hbx := (Cells.new w 30 [.int .i64 n, .slice (some ⟨pb, 0, none⟩) 1 1]).below hb (by simp)
  have hB1 := ((Below.refl w.heap.size w).alloc (Nat.le_refl _) (.cells #[.int .i64 n, .slice (some ⟨pb, 0, none⟩) 1 1] 30)).trans (hb.mono (by simp))
  have hz1 := hbx.lt
  have c0 : w1.cell? ⟨w.heap.size, 0, none⟩ = some (.int .i64 n) := hbx.cell rfl
  have c1 : w1.cell? ⟨w.heap.size, 1, none⟩ = some (.slice (some ⟨pb, 0, none⟩) 1 1) := hbx.cell rfl
  have p0 : w1.cell? ⟨pb, 0, none⟩ = some (.int .i64 k) := (HP.out.below hB1 lp).cell rfl
  have p1 : w1.cell? ⟨pb, 1, none⟩ = some (.int .i64 i) := (HP.out.below hB1 lp).cell rfl
  have lp1 : pb < w1.heap.size := by omega
  have HX1 := Lib.hid hbx
  have HB1 := Lib.hid hB1
  clear hb he hbx hB1
  go_wp2_with fail
  refine wp_loop_rounds 2 ?_
  rw [rounds_succ]
  go_wp2_with fail
  obtain ⟨wq, hwq⟩ : ∃ wq, (w1.alloc (.cells #[.int .i64 k, .int .i64 i] 82)).alloc (.cells #[.pointer none] 83) = wq := ⟨_, rfl⟩
  have zP : Cells wq w1.heap.size 82 [.int .i64 k, .int .i64 i] := by
    rw [← hwq]
    exact (Cells.new w1 _ _).alloc _
  have zF : Cells wq (w1.heap.size + 1) 83 [.pointer none] := by
    rw [← hwq]
    exact cells_at (by simp) _ _
  have zb : Below w1.heap.size w1 wq := by
    rw [← hwq]
    exact ((Below.refl _ _).alloc (Nat.le_refl _) _).alloc (by simp) _
  rw [hwq]
  clear hwq
  have hzF := zF.lt
  have HBq := Lib.hid (HB1.out.trans (zb.mono HB1.out.size))
  have HFq := Lib.hid (HF.out.below HBq.out lg)
  have HXq := Lib.hid (HX1.out.below zb hz1)
  have HGq := Lib.hid (HG.out.below HBq.out)
  have HPl := Lib.hid zP
  have HFl := Lib.hid zF
  clear zP zF zb c0 c1 p0 p1 HX1 HB1
  go_region_with (first | (go_at_call 46; refine (as_fault_fault ⟨g, 0, none⟩ (w1.heap.size + 1) (.pointer none) _ ?_ ?_).mono ?_; exact HGq.out; exact HFl.out; rintro ev w2 ⟨rfl, hc, ho⟩; (have q0 := hc.cell (i := 0) rfl); (have q1 := (HPl.out.drew.kept ho (by simp)).cell (i := 0) rfl); (have q2 := (HPl.out.drew.kept ho (by simp)).cell (i := 1) rfl); (have q3 := (HFq.out.drew.kept ho (by simp; omega)).cell (i := 0) rfl); (have q4 := (HFq.out.drew.kept ho (by simp; omega)).cell (i := 1) rfl)))
  all_goals
    have hB2 : Below w.heap.size w w2 := HBq.out.drew.trans (ho.below (by have := HBq.out.size; simpa using this) (fun x hx => by simp at hx; have := HBq.out.size; omega))
    have hx2 := HXq.out.drew.kept ho (by simp; omega)
    have hf2 := HFq.out.drew.kept ho (by simp; omega)
    have q5 : w2.cell? ⟨g, 2, none⟩ = some (.iface 45 (.int .i64 n)) := hf2.cell (i := 2) rfl
    have HB2 := Lib.hid hB2
    have HX2 := Lib.hid hx2
    have HF2 := Lib.hid hf2
    have lx2 := hx2.lt
    have lf2 := hf2.lt
    clear hB2 hx2 hf2 hc ho HXq HFq HGq HBq HPl HFl
    go_wp2_with fail
    rw [rounds_succ]
    go_wp2_with fail
    refine (as_num_fault n ⟨w2.heap.size, 0, none⟩ _ ((HG.out.below HB2.out).below ((Below.refl _ _).alloc (Nat.le_refl _) _))).mono ?_
    rintro e w3 ⟨rfl, hb⟩
    have HB3 := Lib.hid ((HB2.out.alloc HB2.out.size (.cells #[.pointer none] 83)).trans (hb.mono (by have := HB2.out.size; simp; omega)))
    have HX3 := Lib.hid ((HX2.out.alloc (.cells #[.pointer none] 83)).below hb (by simp; omega))
    have HF3 := Lib.hid ((HF2.out.alloc (.cells #[.pointer none] 83)).below hb (by simp; omega))
    clear hb HX2 HF2 HB2 q0 q1 q2 q3 q4 q5
    have lx3 := HX3.out.lt
    have lf3 := HF3.out.lt
    go_wp2_with fail
    refine (as_fault_errno g n w3.heap.size (.int .i64 0) _ ((HG.out.below HB3.out).below ((Below.refl _ _).alloc (Nat.le_refl _) _)) (Cells.new w3 45 [.int .i64 0]) ((HF3.out.alloc _).cell (i := 2) rfl)).mono ?_
    rintro e w4 ⟨rfl, hc, ho⟩
    have HB4 := Lib.hid ((HB3.out.alloc HB3.out.size (.cells #[.int .i64 0] 45)).trans (ho.below (by have := HB3.out.size; simp; omega) (fun x hx => by simp at hx; have := HB3.out.size; omega)))
    have HX4 := Lib.hid ((HX3.out.alloc (.cells #[.int .i64 0] 45)).kept ho (by simp; omega))
    have HF4 := Lib.hid ((HF3.out.alloc (.cells #[.int .i64 0] 45)).kept ho (by simp; omega))
    have c0 := HX4.out.cell (i := 0) rfl
    have c2 : w4.cell? ⟨w3.heap.size, 0, none⟩ = some (.int .i64 n) := hc.cell rfl
    clear hc ho HX3 HF3 HB3
    go_wp2_with fail
    go_loopg [11] 20 (fun g' vi wr => ∃ j : Int, vi = .int .i64 j ∧ 1 ≤ j ∧ j ≤ 21 ∧ g' = (21 - j).toNat ∧ Cells wr w.heap.size 30 [.int .i64 n, .slice (some ⟨pb, 0, none⟩) 1 1] ∧ Cells wr g 87 [.int .i64 k, .int .i64 i, errV n] ∧ Below w.heap.size w wr)
    case atStart => exact ⟨1, rfl, by omega, by omega, rfl, HX4.out, HF4.out, HB4.out⟩
    case round =>
      obtain ⟨j, rfl, hi1, hi2, hgg, hcs, hfs, hbl⟩ := hrel
      have GG := Lib.hid hgg
      have HCS := Lib.hid hcs
      have HFS := Lib.hid hfs
      have HBL := Lib.hid hbl
      have c0 : wr.cell? ⟨w.heap.size, 0, none⟩ = some (.int .i64 n) := hcs.cell rfl
      clear hgg hcs hfs hbl
      by_cases hi : j ≤ 20
      · have d0 : decide (j ≤ 20) = true := by simpa using hi
        by_cases hn : n = j
        · subst hn
          have hIs := fun W h => is_fault g n n W h
          simp only [beq_self_eq_true] at hIs
          go_wp2_with fail
          go_quiet ((go_at_call 47; exact Calls.quiet_of_same (hIs _ (HFS.out.cell (i := 2) rfl))))
          go_wp2_with fail
          go_roundg (21 - (n + 1)).toNat
          case measure => rw [GG.out]; omega
          case rel => exact ⟨n + 1, rfl, by omega, by omega, rfl, HCS.out, HFS.out, below_drewN HBL.out _⟩
        · have d1 : (n == j) = false := by simpa using hn
          have d2 : (j == n) = false := by rw [beq_eq_false_iff_ne]; exact fun e => hn e.symm
          have hIs := fun W h => is_fault g n j W h
          rw [d1] at hIs
          clear hn
          go_wp2_with fail
          go_quiet ((go_at_call 47; exact Calls.quiet_of_same (hIs _ (HFS.out.cell (i := 2) rfl))))
          go_wp2_with fail
          go_roundg (21 - (j + 1)).toNat
          case measure => rw [GG.out]; omega
          case rel => exact ⟨j + 1, rfl, by omega, by omega, rfl, HCS.out, HFS.out, below_drewN HBL.out _⟩
      · have d0 : decide (j ≤ 20) = false := by simpa using hi
        go_wp2
        go_returns
        exact ⟨rfl, HBL.out⟩

/-- **viaductseen.Same**, where the document wants what the program answers. -/
theorem same_any (x : EV) (v u : Value) (w : World) (hp : x.pos) (hg : EVar w) (hv : ErrIs w v x) (hu : ErrV w u x) : Calls Tryd.prog 16 #[v, u] w (BoolIs true w) := by
  cases x with
  | nil =>
    obtain rfl : v = .nilIface := hv
    obtain rfl : u = _ := hu
    exact same_nil w
  | code n =>
    obtain rfl : v = errV n := hv
    obtain rfl : u = _ := hu
    exact same_code n w hp.1 hp.2 hg
  | «at» k i n =>
    obtain ⟨g, rfl, hf⟩ := hv
    obtain ⟨b, rfl, hpl⟩ := hu
    exact same_at k i n g b w hp.1 hp.2 hg hf hpl
end Go.Proofs.YtjbphoophgbmiaaDoor
