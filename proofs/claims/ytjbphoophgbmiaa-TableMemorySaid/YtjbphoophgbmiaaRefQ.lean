/- The reference's SameWords, SameLinks and Same, of two hierarchies that are alike. -/
import Derived.Test.YtjbphoophgbmiaaRefF
import Derived.Laws.StructEq
namespace Go.Proofs.Ytjbphoophgbmiaa
open Go.ChangeShapes Go.WideShapes Go.ChangeAt Go.RowKit Go.Joins Go.Deep

set_option linter.unusedSimpArgs false in
set_option maxRecDepth 100000 in
set_option maxHeartbeats 4000000 in
theorem samewords_any (l : List Nat) (ao bo : Option Addr) (ca cb : Nat) (w : World) (sa : See w ao ca u32Cells 1 l) (sb : See w bo cb u32Cells 1 l) :
    Calls Try.prog 36 #[.slice ao l.length ca, .slice bo l.length cb] w (BoolIs true w) := by
  have hl := Nat.le_trans sa.hcap sa.hmax
  have SA := Lib.hid sa
  have SB := Lib.hid sb
  clear sa sb
  simp only [maxLen] at hl
  go_enter Try.func36, Try.ntmps36
  go_wp2_with fail
  go_loopg [13] l.length (fun g vi wr => ∃ k : Nat, vi = .int .i64 k ∧ k ≤ l.length ∧ g = l.length - k ∧ Below w.heap.size w wr)
  case atStart => exact ⟨0, rfl, Nat.zero_le _, rfl, Below.refl _ _⟩
  case round =>
    obtain ⟨k, rfl, hk, hg, hb⟩ := hrel
    obtain ⟨wo, rfl⟩ : ∃ wo : World, wo = wr := ⟨_, rfl⟩
    have HG := Lib.hid hg
    have HB := Lib.hid hb
    clear hg hb
    by_cases hlt : k < l.length
    · obtain ⟨x, hx⟩ : ∃ x, l[k]? = some x := ⟨_, List.getElem?_eq_getElem hlt⟩
      obtain ⟨b1, o1, e1, cc1⟩ := SA.out.cell k x hx
      obtain ⟨b2, o2, e2, cc2⟩ := SB.out.cell k x hx
      have c1 := ck HB.out (cc1 0 _ rfl)
      have c2 := ck HB.out (cc2 0 _ rfl)
      rw [Nat.mul_one, Nat.add_zero] at c1 c2
      have E1 := Lib.hid e1
      have E2 := Lib.hid e2
      clear hx cc1 cc2 e1 e2
      rw [E1.out, E2.out]
      go_wp2_with fail
      go_quiet (fail)
      go_wp2_with fail
      rw [← E1.out, ← E2.out]
      go_roundg (l.length - (k + 1))
      case measure => rw [HG.out]; omega
      case rel => exact ⟨k + 1, by go_num, by omega, rfl, below_drewN HB.out _⟩
    · obtain rfl : k = l.length := by omega
      go_wp2
      go_returns
      exact ⟨rfl, HB.out⟩

theorem Try.linkNeqSame (a b c d : Int) (w : World) : (binOp .neq 60 (.agg #[.int .u32 a, .int .u64 b, .int .u32 c, .int .u32 d]) (.agg #[.int .u32 a, .int .u64 b, .int .u32 c, .int .u32 d])).run Try.prog w = .ok (.bool false) w := by
  have hp : Try.prog.stoodInHeld 60 = false := by kernel_rfl
  rw [run_neq_struct, run_equalIn_agg w 9999 60 _ _ (by kernel_rfl) hp]
  simp only [Program.fieldsOf, Try.underlying60]
  simp [go_sem, Op.eqFields, Try.underlying38, Try.underlying33]
theorem Try.linkGuard : Try.prog.eqGuardType Try.prog.depth 60 = false := by kernel_rfl

set_option linter.unusedSimpArgs false in
set_option maxRecDepth 100000 in
set_option maxHeartbeats 4000000 in
theorem samelinks_any (l : List LinkD) (ao bo : Option Addr) (ca cb : Nat) (w : World) (sa : See w ao ca linkCells 4 l) (sb : See w bo cb linkCells 4 l) :
    Calls Try.prog 37 #[.slice ao l.length ca, .slice bo l.length cb] w (BoolIs true w) := by
  have hl := Nat.le_trans sa.hcap sa.hmax
  have SA := Lib.hid sa
  have SB := Lib.hid sb
  clear sa sb
  simp only [maxLen] at hl
  go_enter Try.func37, Try.ntmps37
  go_wp2_with fail
  go_loopg [13] l.length (fun g vi wr => ∃ k : Nat, vi = .int .i64 k ∧ k ≤ l.length ∧ g = l.length - k ∧ Below w.heap.size w wr)
  case atStart => exact ⟨0, rfl, Nat.zero_le _, rfl, Below.refl _ _⟩
  case round =>
    obtain ⟨k, rfl, hk, hg, hb⟩ := hrel
    obtain ⟨wo, rfl⟩ : ∃ wo : World, wo = wr := ⟨_, rfl⟩
    have HG := Lib.hid hg
    have HB := Lib.hid hb
    clear hg hb
    by_cases hlt : k < l.length
    · obtain ⟨x, hx⟩ : ∃ x, l[k]? = some x := ⟨_, List.getElem?_eq_getElem hlt⟩
      obtain ⟨b1, o1, e1, cc1⟩ := SA.out.cell k x hx
      obtain ⟨b2, o2, e2, cc2⟩ := SB.out.cell k x hx
      have c0 := ck HB.out (cc1 0 _ rfl)
      have d0 := ck HB.out (cc2 0 _ rfl)
      have c1 := ck HB.out (cc1 1 _ rfl)
      have d1 := ck HB.out (cc2 1 _ rfl)
      have c2 := ck HB.out (cc1 2 _ rfl)
      have d2 := ck HB.out (cc2 2 _ rfl)
      have c3 := ck HB.out (cc1 3 _ rfl)
      have d3 := ck HB.out (cc2 3 _ rfl)
      simp only [Nat.add_zero] at c0 d0
      have hne := Try.linkNeqSame x.to x.wt x.left x.right
      have hem := Try.linkGuard
      have E1 := Lib.hid e1
      have E2 := Lib.hid e2
      clear hx cc1 cc2 e1 e2
      rw [E1.out, E2.out]
      go_wp2_with fail
      go_quiet (fail)
      go_wp2_with fail
      rw [← E1.out, ← E2.out]
      go_roundg (l.length - (k + 1))
      case measure => rw [HG.out]; omega
      case rel => exact ⟨k + 1, by go_num, by omega, rfl, below_drewN HB.out _⟩
    · obtain rfl : k = l.length := by omega
      go_wp2
      go_returns
      exact ⟨rfl, HB.out⟩

set_option linter.unusedSimpArgs false in
set_option maxRecDepth 100000 in
set_option maxHeartbeats 4000000 in
/-- **The reference's Same**, of two hierarchies that are alike. -/
theorem rsame_any (A B : HA) (h : HierD) (w : World) (sa : HSee w A h) (sb : HSee w B h) : Calls Try.prog 16 #[hierVal A h, hierVal B h] w (BoolIs true w) := by
  have SA := Lib.hid sa
  have SB := Lib.hid sb
  have hx := (Cells.new w 25 (hierCells A h)).alloc (.cells (hierCells B h).toArray 25)
  have hy : Cells ((w.alloc (.cells (hierCells A h).toArray 25)).alloc (.cells (hierCells B h).toArray 25)) (w.heap.size + 1) 25 (hierCells B h) := cells_at (by simp) _ _
  have hb := ((Below.refl w.heap.size w).alloc (Nat.le_refl _) (.cells (hierCells A h).toArray 25)).alloc (by simp) (.cells (hierCells B h).toArray 25)
  obtain ⟨wz, hwz⟩ : ∃ wz, (w.alloc (.cells (hierCells A h).toArray 25)).alloc (.cells (hierCells B h).toArray 25) = wz := ⟨_, rfl⟩
  rw [hwz] at hx hy hb
  have HX := Lib.hid hx
  have HY := Lib.hid hy
  have HB := Lib.hid hb
  clear sa sb hx hy hb
  unfold hierVal
  go_enter Try.func16, Try.ntmps16
  apply wp_seq_k
  intro K1 hK
  have HK1 := Lib.hid hK
  clear hK
  go_wp2_with fail
  try rw [show (w.alloc (.cells #[.slice A.a0 h.node.length A.c0, .slice A.a1 h.upF.length A.c1, .slice A.a2 h.up.length A.c2, .slice A.a3 h.dnF.length A.c3, .slice A.a4 h.dn.length A.c4] 25)).alloc (.cells #[.slice B.a0 h.node.length B.c0, .slice B.a1 h.upF.length B.c1, .slice B.a2 h.up.length B.c2, .slice B.a3 h.dnF.length B.c3, .slice B.a4 h.dn.length B.c4] 25) = wz from hwz]
  clear hwz
  refine HK1.out _ _ ?_
  clear HK1
  obtain ⟨k0, k1, k2, k3, k4⟩ := hier_five HX.out
  obtain ⟨j0, j1, j2, j3, j4⟩ := hier_five HY.out
  go_wp2_with fail
  refine (samewords_any h.node _ _ _ _ _ (SA.out.below HB.out).node (SB.out.below HB.out).node).mono ?_
  rintro e w1 ⟨rfl, hb⟩
  have HX1 := Lib.hid (HX.out.below hb HX.out.lt)
  have HY1 := Lib.hid (HY.out.below hb HY.out.lt)
  have HB1 := Lib.hid (HB.out.trans (hb.mono HB.out.size))
  clear hb HX HY HB k0 k1 k2 k3 k4 j0 j1 j2 j3 j4
  have HX := HX1
  have HY := HY1
  have HB := HB1
  clear HX1 HY1 HB1
  obtain ⟨k0, k1, k2, k3, k4⟩ := hier_five HX.out
  obtain ⟨j0, j1, j2, j3, j4⟩ := hier_five HY.out
  go_wp2_with fail
  refine (samewords_any h.upF _ _ _ _ _ (SA.out.below HB.out).upF (SB.out.below HB.out).upF).mono ?_
  rintro e w2 ⟨rfl, hb⟩
  have HX2 := Lib.hid (HX.out.below hb HX.out.lt)
  have HY2 := Lib.hid (HY.out.below hb HY.out.lt)
  have HB2 := Lib.hid (HB.out.trans (hb.mono HB.out.size))
  clear hb HX HY HB k0 k1 k2 k3 k4 j0 j1 j2 j3 j4
  have HX := HX2
  have HY := HY2
  have HB := HB2
  clear HX2 HY2 HB2
  obtain ⟨k0, k1, k2, k3, k4⟩ := hier_five HX.out
  obtain ⟨j0, j1, j2, j3, j4⟩ := hier_five HY.out
  go_wp2_with fail
  refine (samewords_any h.dnF _ _ _ _ _ (SA.out.below HB.out).dnF (SB.out.below HB.out).dnF).mono ?_
  rintro e w3 ⟨rfl, hb⟩
  have HX3 := Lib.hid (HX.out.below hb HX.out.lt)
  have HY3 := Lib.hid (HY.out.below hb HY.out.lt)
  have HB3 := Lib.hid (HB.out.trans (hb.mono HB.out.size))
  clear hb HX HY HB k0 k1 k2 k3 k4 j0 j1 j2 j3 j4
  have HX := HX3
  have HY := HY3
  have HB := HB3
  clear HX3 HY3 HB3
  obtain ⟨k0, k1, k2, k3, k4⟩ := hier_five HX.out
  obtain ⟨j0, j1, j2, j3, j4⟩ := hier_five HY.out
  go_wp2_with fail
  refine (samelinks_any h.up _ _ _ _ _ (SA.out.below HB.out).up (SB.out.below HB.out).up).mono ?_
  rintro e w4 ⟨rfl, hb⟩
  have HX4 := Lib.hid (HX.out.below hb HX.out.lt)
  have HY4 := Lib.hid (HY.out.below hb HY.out.lt)
  have HB4 := Lib.hid (HB.out.trans (hb.mono HB.out.size))
  clear hb HX HY HB k0 k1 k2 k3 k4 j0 j1 j2 j3 j4
  have HX := HX4
  have HY := HY4
  have HB := HB4
  clear HX4 HY4 HB4
  obtain ⟨k0, k1, k2, k3, k4⟩ := hier_five HX.out
  obtain ⟨j0, j1, j2, j3, j4⟩ := hier_five HY.out
  go_wp2_with fail
  refine (samelinks_any h.dn _ _ _ _ _ (SA.out.below HB.out).dn (SB.out.below HB.out).dn).mono ?_
  rintro e w5 ⟨rfl, hb⟩
  have HX5 := Lib.hid (HX.out.below hb HX.out.lt)
  have HY5 := Lib.hid (HY.out.below hb HY.out.lt)
  have HB5 := Lib.hid (HB.out.trans (hb.mono HB.out.size))
  clear hb HX HY HB k0 k1 k2 k3 k4 j0 j1 j2 j3 j4
  have HX := HX5
  have HY := HY5
  have HB := HB5
  clear HX5 HY5 HB5
  go_wp2
  go_returns
  exact ⟨rfl, HB.out⟩
end Go.Proofs.Ytjbphoophgbmiaa
