/- The law TableNearests: its walk. -/
import Derived.Test.YtjbphoophgbmiaaGreatDoorT4
import Derived.Test.YtjbphoophgbmiaaGreatDoorM8
import Derived.Test.YtjbphoophgbmiaaGreatDoorM7
import Derived.Test.YtjbphoophgbmiaaGreatDoorT7
namespace Go.Proofs.YtjbphoophgbmiaaGreatDoor
open Go.ChangeShapes Go.WideShapes Go.ChangeAt Go.RowKit Go.Joins Go.Deep

noncomputable def tnearBody : Code := Tryz.f4.body.getD .skip

theorem twin_litN (A : HA) (h : HierD) (w : World) (see : HSee w A h) (hr : Reach5 h) : Calls Tryz.prog 8 #[.agg #[.slice A.a0 h.node.length A.c0, .slice A.a1 h.upF.length A.c1, .slice A.a2 h.up.length A.c2, .slice A.a3 h.dnF.length A.c3, .slice A.a4 h.dn.length A.c4]] w (HierNew h w) := twin_any A h w see hr
theorem few23_litN (A : HA) (h : HierD) (ra ca : Option Addr) (nr nc rc cc : Nat) (w : World) : Calls Tryz.prog 6 #[.agg #[.slice A.a0 h.node.length A.c0, .slice A.a1 h.upF.length A.c1, .slice A.a2 h.up.length A.c2, .slice A.a3 h.dnF.length A.c3, .slice A.a4 h.dn.length A.c4], .slice ra nr rc, .slice ca nc cc] w (FewTab h nr nc w) := few23_any A h ra ca nr nc rc cc w
theorem nearR_pos (h : HierD) (s : Int) (cols : List Int) : (nearR h s cols).2.2.pos := by
  unfold nearR
  split
  · exact checkErr_pos h
  · split
    · exact firstOf_pos (listErr_posE _ _ _) (listErr_posE _ _ _)
    · split <;> simp [EV.pos]
theorem rdocnear_litT (A : HA) (h : HierD) (s : Int) (cols : List Int) (ca : Option Addr) (cc : Nat) (w : World) (see : HSee w A h) (sc : See w ca cc memInt 1 cols) (hlc : cols.length ≤ 1048576) (hw : s ≤ 9223372036854775807 ∧ WfList cols) (hk1 : h.up.length ≤ 140737488355328) (hk2 : h.dn.length ≤ 140737488355328) (hn64 : h.node.length ≤ 140737488355328) :
    Calls Tryz.prog 14 #[.agg #[.slice A.a0 h.node.length A.c0, .slice A.a1 h.upF.length A.c1, .slice A.a2 h.up.length A.c2, .slice A.a3 h.dnF.length A.c3, .slice A.a4 h.dn.length A.c4], .int .i64 s, .slice ca cols.length cc] w (RNearNew h s cols w) := rdocnear_any A h s cols ca cc w see sc hlc hw hk1 hk2 hn64

set_option linter.unusedSimpArgs false in
set_option maxRecDepth 100000 in
set_option maxHeartbeats 8000000 in
theorem tn_end {s0 s1 s2 s3 s4 s5 s6 s13 s14 s15 s16 s17 s18 s19 s20 s21 s22 s23 s24 s25 s26 s27 s28 s29 s30 s31 s32 s33 s34 s35 s36 s37 s38 s39 s40 s41 s42 s43 s44 s45 s46 s47 s48 s49 : Value} {v : Value} {i : Nat} {d : Int} {x : EV} {be : Nat} {uc : Int} {ua : Option Addr} {un ucap : Nat} {w wx : World} (hg : EVar w) (hb : Below w.heap.size w wx) (hp : x.pos) (he : Cells wx be 38 [.int .i64 uc, .slice ua un ucap]) (hv : ErrIs wx v x) (hu : ErrV wx (.agg #[.int .i64 uc, .slice ua un ucap]) x) : Code.wp Tryz.prog (tailAt 5 tnearBody) (bodyPost Tryz.prog Tryz.f4 (BoolIs true w)) ⟨#[s0, s1, s2, s3, s4, s5, s6, .int .i64 (i : Nat), .int .u64 d, v, .int .i64 (i : Nat), .int .u64 d, .pointer (some ⟨be, 0, none⟩), s13, s14, s15, s16, s17, s18, s19, s20, s21, s22, s23, s24, s25, s26, s27, s28, s29, s30, s31, s32, s33, s34, s35, s36, s37, s38, s39, s40, s41, s42, s43, s44, s45, s46, s47, s48, s49], []⟩ wx := by
  have HG := Lib.hid hg
  have HB := Lib.hid hb
  have HP := Lib.hid hp
  have HV := Lib.hid hv
  have HU := Lib.hid hu
  have y0 : wx.cell? ⟨be, 0, none⟩ = some (.int .i64 uc) := he.cell rfl
  have y1 : wx.cell? ⟨be, 1, none⟩ = some (.slice ua un ucap) := he.cell rfl
  have t1 : ((i : Int) == (i : Int)) = true := by simp
  have t2 : (d == d) = true := by simp
  clear hg hb he hv hu hp
  conv => arg 2; whnf
  go_wp2_with fail
  refine (same_any x _ _ _ HP.out (HG.out.below HB.out) HV.out HU.out).mono ?_
  rintro e w2 ⟨rfl, hb2⟩
  have HB2 := Lib.hid (HB.out.trans (hb2.mono HB.out.size))
  clear hb2
  go_wp2
  go_returns
  exact ⟨rfl, HB2.out⟩

set_option linter.unusedSimpArgs false in
set_option maxRecDepth 100000 in
set_option maxHeartbeats 8000000 in
theorem tn_doc {s0 s4 s5 s6 s10 s11 s12 s13 s14 s15 s16 s17 s18 s19 s20 s21 s22 s23 s24 s25 s26 s27 s28 s29 s30 s31 s32 s33 s34 s35 s36 s37 s38 s39 s40 s41 s42 s43 s44 s45 s46 s47 s48 s49 : Value} {A : HA} {h : HierD} {s : Int} {cols : List Int} {ca : Option Addr} {cc : Nat} {w wx : World} {v : Value} (see : HSee w A h) (sc : See w ca cc memInt 1 cols) (hw : s ≤ 9223372036854775807 ∧ WfList cols) (hr : Reach5 h) (hg : EVar w) (hlc : cols.length ≤ 300) (hx : Cells wx w.heap.size 25 (hierCells A h)) (hb : Below w.heap.size w wx) (hv : ErrIs wx v ((nearR h s cols).2.2)) : Code.wp Tryz.prog (tailAt 4 tnearBody) (bodyPost Tryz.prog Tryz.f4 (BoolIs true w)) ⟨#[s0, .int .i64 s, .slice ca cols.length cc, .pointer (some ⟨w.heap.size, 0, none⟩), s4, s5, s6, .int .i64 ((nearR h s cols).1 : Nat), .int .u64 (nearR h s cols).2.1, v, s10, s11, s12, s13, s14, s15, s16, s17, s18, s19, s20, s21, s22, s23, s24, s25, s26, s27, s28, s29, s30, s31, s32, s33, s34, s35, s36, s37, s38, s39, s40, s41, s42, s43, s44, s45, s46, s47, s48, s49], []⟩ wx := by
  have SEE := Lib.hid see
  have SC := Lib.hid sc
  have HW := Lib.hid hw
  have HRE := Lib.hid hr
  have HG := Lib.hid hg
  have HX := Lib.hid hx
  have HB := Lib.hid hb
  clear see sc hw hr hg hx hb
  have l1 : h.up.length ≤ 140737488355328 := by have := HRE.out.up; omega
  have l2 : h.dn.length ≤ 140737488355328 := by have := HRE.out.dn; omega
  have l3 : h.node.length ≤ 140737488355328 := by have := HRE.out.n; omega
  have L1 := Lib.hid l1
  have L2 := Lib.hid l2
  have L3 := Lib.hid l3
  have l5 : cols.length * 8 ≤ 140737488355328 := by omega
  have l7 : cols.length ≤ 1048576 := by omega
  have L5 := Lib.hid l5
  have L7 := Lib.hid l7
  clear l1 l2 l3 l5 l7
  have HV := Lib.hid hv

  clear hv hlc
  obtain ⟨k0, k1, k2, k3, k4⟩ := hier_five HX.out
  conv => arg 2; whnf
  apply wp_seq_k
  intro KK hK
  have HKK := Lib.hid hK
  clear hK
  go_wp2_with fail
  refine (rdocnear_litT A h s cols ca cc _ (SEE.out.below HB.out) (SC.out.below HB.out) L7.out HW.out L1.out L2.out L3.out).mono ?_
  rintro e w1 ⟨u, rfl, hu, hb1⟩
  obtain ⟨uc, ua, un, ucap, rfl⟩ := hu.form
  have ho := (Below.refl w1.heap.size w1).alloc (Nat.le_refl _) (.cells #[.int .i64 uc, .slice ua un ucap] 38)
  have hb1' := hb1.trans (ho.mono hb1.size)
  have HB1 := Lib.hid (HB.out.trans (hb1'.mono HB.out.size))
  have HV1 := Lib.hid (HV.out.below hb1')
  have HU1 := Lib.hid (hu.below ho)
  have HE1 := Lib.hid (Cells.new w1 38 [.int .i64 uc, .slice ua un ucap])
  clear hu hb1 ho hb1' HX HB HV k0 k1 k2 k3 k4
  go_wp2_with fail
  refine HKK.out _ _ ?_
  change Code.wp _ (tailAt 5 tnearBody) _ _ _
  exact tn_end HG.out HB1.out (nearR_pos _ _ _) HE1.out HV1.out HU1.out

set_option linter.unusedSimpArgs false in
set_option maxRecDepth 100000 in
set_option maxHeartbeats 8000000 in
theorem tn_call {s0 s4 s5 s6 s7 s8 s9 s10 s11 s12 s13 s14 s15 s16 s17 s18 s19 s20 s21 s22 s23 s24 s25 s26 s27 s28 s29 s30 s31 s32 s33 s34 s35 s36 s37 s38 s39 s40 s41 s42 s43 s44 s45 s46 s47 s48 s49 : Value} {A : HA} {h : HierD} {s : Int} {cols : List Int} {ca : Option Addr} {cc : Nat} {w wx : World} (see : HSee w A h) (sc : See w ca cc memInt 1 cols) (hw : s ≤ 9223372036854775807 ∧ WfList cols) (hr : Reach5 h) (hg : EVar w) (hlc : cols.length ≤ 300) (hx : Cells wx w.heap.size 25 (hierCells A h)) (hb : Below w.heap.size w wx) : Code.wp Tryz.prog (tailAt 3 tnearBody) (bodyPost Tryz.prog Tryz.f4 (BoolIs true w)) ⟨#[s0, .int .i64 s, .slice ca cols.length cc, .pointer (some ⟨w.heap.size, 0, none⟩), s4, s5, s6, s7, s8, s9, s10, s11, s12, s13, s14, s15, s16, s17, s18, s19, s20, s21, s22, s23, s24, s25, s26, s27, s28, s29, s30, s31, s32, s33, s34, s35, s36, s37, s38, s39, s40, s41, s42, s43, s44, s45, s46, s47, s48, s49], []⟩ wx := by
  have SEE := Lib.hid see
  have SC := Lib.hid sc
  have HW := Lib.hid hw
  have HRE := Lib.hid hr
  have HG := Lib.hid hg
  have HX := Lib.hid hx
  have HB := Lib.hid hb
  clear see sc hw hr hg hx hb
  have l1 : h.up.length ≤ 140737488355328 := by have := HRE.out.up; omega
  have l2 : h.dn.length ≤ 140737488355328 := by have := HRE.out.dn; omega
  have l3 : h.node.length ≤ 140737488355328 := by have := HRE.out.n; omega
  have L1 := Lib.hid l1
  have L2 := Lib.hid l2
  have L3 := Lib.hid l3
  have l5 : cols.length * 8 ≤ 140737488355328 := by omega
  have l7 : cols.length ≤ 1048576 := by omega
  have L5 := Lib.hid l5
  have L7 := Lib.hid l7
  clear l1 l2 l3 l5 l7
  obtain ⟨k0, k1, k2, k3, k4⟩ := hier_five HX.out
  have HLC := Lib.hid hlc

  clear hlc
  conv => arg 2; whnf
  apply wp_seq_k
  intro KK hK
  have HKK := Lib.hid hK
  clear hK
  go_wp2_with fail
  refine (twin_litN A h _ (SEE.out.below HB.out) HRE.out).mono ?_
  rintro e w1 ⟨B, rfl, sb, -, hb⟩
  have HX1 := Lib.hid (HX.out.below hb HX.out.lt)
  have HB1 := Lib.hid (HB.out.trans (hb.mono HB.out.size))
  have SB1 := Lib.hid sb
  clear sb hb HX HB k0 k1 k2 k3 k4
  go_wp2_with fail
  refine (twinints_any cols ca cc _ (SC.out.below HB1.out) L5.out).mono ?_
  rintro e w2 ⟨o2, c2, rfl, s2, -, hb⟩
  have HX2 := Lib.hid (HX1.out.below hb HX1.out.lt)
  have HB2 := Lib.hid (HB1.out.trans (hb.mono HB1.out.size))
  have SB2 := Lib.hid (SB1.out.below hb)
  have RC2 := Lib.hid s2
  clear s2 hb HX1 HB1 SB1
  go_wp2_with fail
  refine (nearest_any B h s cols _ _ _ SB2.out RC2.out L7.out HW.out).mono ?_
  rintro e w3 ⟨v, rfl, hv, hb⟩
  have HX3 := Lib.hid (HX2.out.below hb HX2.out.lt)
  have HB3 := Lib.hid (HB2.out.trans (hb.mono HB2.out.size))
  have HV := Lib.hid hv
  clear hv hb HX2 HB2 SB2 RC2
  go_wp2_with fail
  refine HKK.out _ _ ?_
  change Code.wp _ (tailAt 4 tnearBody) _ _ _
  exact tn_doc SEE.out SC.out HW.out HRE.out HG.out HLC.out HX3.out HB3.out HV.out

set_option linter.unusedSimpArgs false in
set_option maxRecDepth 100000 in
set_option maxHeartbeats 8000000 in
theorem tn_few {s0 s4 s5 s6 s7 s8 s9 s10 s11 s12 s13 s14 s15 s16 s17 s18 s19 s20 s21 s22 s23 s24 s25 s26 s27 s28 s29 s30 s31 s32 s33 s34 s35 s36 s37 s38 s39 s40 s41 s42 s43 s44 s45 s46 s47 s48 s49 : Value} {A : HA} {h : HierD} {s : Int} {cols : List Int} {ca : Option Addr} {cc : Nat} {w wx : World} (see : HSee w A h) (sc : See w ca cc memInt 1 cols) (hw : s ≤ 9223372036854775807 ∧ WfList cols) (hr : Reach5 h) (hg : EVar w) (hx : Cells wx w.heap.size 25 (hierCells A h)) (hb : Below w.heap.size w wx) : Code.wp Tryz.prog (tailAt 2 tnearBody) (bodyPost Tryz.prog Tryz.f4 (BoolIs true w)) ⟨#[s0, .int .i64 s, .slice ca cols.length cc, .pointer (some ⟨w.heap.size, 0, none⟩), s4, s5, s6, s7, s8, s9, s10, s11, s12, s13, s14, s15, s16, s17, s18, s19, s20, s21, s22, s23, s24, s25, s26, s27, s28, s29, s30, s31, s32, s33, s34, s35, s36, s37, s38, s39, s40, s41, s42, s43, s44, s45, s46, s47, s48, s49], []⟩ wx := by
  have SEE := Lib.hid see
  have SC := Lib.hid sc
  have HW := Lib.hid hw
  have HRE := Lib.hid hr
  have HG := Lib.hid hg
  have HX := Lib.hid hx
  have HB := Lib.hid hb
  clear see sc hw hr hg hx hb
  obtain ⟨k0, k1, k2, k3, k4⟩ := hier_five HX.out
  conv => arg 2; whnf
  apply wp_seq_k
  intro KK hK
  have HKK := Lib.hid hK
  clear hK
  go_wp2_with fail
  refine (few23_litN A h none ca 0 cols.length 0 cc _).mono ?_
  rintro e w1 ⟨b, rfl, hf, hb1⟩
  have HX1 := Lib.hid (HX.out.below hb1 HX.out.lt)
  have HB1 := Lib.hid (HB.out.trans (hb1.mono HB.out.size))
  have HF := Lib.hid hf
  clear hf hb1 HX HB k0 k1 k2 k3 k4
  cases b
  · go_wp2
    go_returns
    exact ⟨rfl, HB1.out⟩
  · go_wp2_with fail
    refine HKK.out _ _ ?_
    change Code.wp _ (tailAt 3 tnearBody) _ _ _
    exact tn_call SEE.out SC.out HW.out HRE.out HG.out (HF.out trivial).2.2 HX1.out HB1.out
set_option linter.unusedSimpArgs false in
set_option maxRecDepth 100000 in
set_option maxHeartbeats 8000000 in
theorem tn_awake {s0 s4 s5 s6 s7 s8 s9 s10 s11 s12 s13 s14 s15 s16 s17 s18 s19 s20 s21 s22 s23 s24 s25 s26 s27 s28 s29 s30 s31 s32 s33 s34 s35 s36 s37 s38 s39 s40 s41 s42 s43 s44 s45 s46 s47 s48 s49 : Value} {A : HA} {h : HierD} {s : Int} {cols : List Int} {ca : Option Addr} {cc : Nat} {w wx : World} (see : HSee w A h) (sc : See w ca cc memInt 1 cols) (hw : s ≤ 9223372036854775807 ∧ WfList cols) (hr : Reach5 h) (hg : EVar w) (hx : Cells wx w.heap.size 25 (hierCells A h)) (hb : Below w.heap.size w wx) : Code.wp Tryz.prog (tailAt 1 tnearBody) (bodyPost Tryz.prog Tryz.f4 (BoolIs true w)) ⟨#[s0, .int .i64 s, .slice ca cols.length cc, .pointer (some ⟨w.heap.size, 0, none⟩), s4, s5, s6, s7, s8, s9, s10, s11, s12, s13, s14, s15, s16, s17, s18, s19, s20, s21, s22, s23, s24, s25, s26, s27, s28, s29, s30, s31, s32, s33, s34, s35, s36, s37, s38, s39, s40, s41, s42, s43, s44, s45, s46, s47, s48, s49], []⟩ wx := by
  have SEE := Lib.hid see
  have SC := Lib.hid sc
  have HW := Lib.hid hw
  have HRE := Lib.hid hr
  have HG := Lib.hid hg
  have HX := Lib.hid hx
  have HB := Lib.hid hb
  clear see sc hw hr hg hx hb
  conv => arg 2; whnf
  apply wp_seq_k
  intro KK hK
  have HKK := Lib.hid hK
  clear hK
  go_wp2_with fail
  refine (awake23_any _).mono ?_
  rintro e w1 ⟨rfl, hb1⟩
  have HX1 := Lib.hid (HX.out.below hb1 HX.out.lt)
  have HB1 := Lib.hid (HB.out.trans (hb1.mono HB.out.size))
  clear hb1 HX HB
  go_wp2_with fail
  refine HKK.out _ _ ?_
  change Code.wp _ (tailAt 2 tnearBody) _ _ _
  exact tn_few SEE.out SC.out HW.out HRE.out HG.out HX1.out HB1.out
set_option linter.unusedSimpArgs false in
set_option maxRecDepth 100000 in
set_option maxHeartbeats 8000000 in
/-- **viaductlaw23.TableNearests.** -/
theorem tableNearests_any (A : HA) (h : HierD) (s : Int) (cols : List Int) (ca : Option Addr) (cc : Nat) (w : World) (hg : EVar w) (see : HSee w A h) (sc : See w ca cc memInt 1 cols) (hw : s ≤ 9223372036854775807 ∧ WfList cols) (hr : Reach5 h) : Calls Tryz.prog 4 #[hierVal A h, .int .i64 s, .slice ca cols.length cc] w (BoolIs true w) := by
  have SEE := Lib.hid see

  have SC := Lib.hid sc
  have HW := Lib.hid hw
  have HRE := Lib.hid hr
  have HG := Lib.hid hg
  clear see sc hw hr hg
  unfold hierVal
  go_enter Tryz.func4, Tryz.ntmps4
  apply wp_seq_k
  intro K1 hK
  have HK1 := Lib.hid hK
  clear hK
  go_wp2_with fail
  refine HK1.out _ _ ?_
  change Code.wp _ (tailAt 1 tnearBody) _ _ _
  exact tn_awake SEE.out SC.out HW.out HRE.out HG.out (Cells.new w 25 (hierCells A h)) ((Below.refl w.heap.size w).alloc (Nat.le_refl _) _)
end Go.Proofs.YtjbphoophgbmiaaGreatDoor
