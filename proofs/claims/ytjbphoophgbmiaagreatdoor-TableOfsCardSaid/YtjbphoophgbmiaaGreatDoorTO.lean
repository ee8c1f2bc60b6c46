/- The law TableOfs: its walk. -/
import Derived.Test.YtjbphoophgbmiaaGreatDoorT4
import Derived.Test.YtjbphoophgbmiaaGreatDoorM8
import Derived.Test.YtjbphoophgbmiaaGreatDoorM7
import Derived.Test.YtjbphoophgbmiaaGreatDoorT6
namespace Go.Proofs.YtjbphoophgbmiaaGreatDoor
open Go.ChangeShapes Go.WideShapes Go.ChangeAt Go.RowKit Go.Joins Go.Deep

noncomputable def tofsBody : Code := Tryz.f3.body.getD .skip

theorem twin_litT (A : HA) (h : HierD) (w : World) (see : HSee w A h) (hr : Reach5 h) : Calls Tryz.prog 8 #[.agg #[.slice A.a0 h.node.length A.c0, .slice A.a1 h.upF.length A.c1, .slice A.a2 h.up.length A.c2, .slice A.a3 h.dnF.length A.c3, .slice A.a4 h.dn.length A.c4]] w (HierNew h w) := twin_any A h w see hr
theorem few23_lit (A : HA) (h : HierD) (ra ca : Option Addr) (nr nc rc cc : Nat) (w : World) : Calls Tryz.prog 6 #[.agg #[.slice A.a0 h.node.length A.c0, .slice A.a1 h.upF.length A.c1, .slice A.a2 h.up.length A.c2, .slice A.a3 h.dnF.length A.c3, .slice A.a4 h.dn.length A.c4], .slice ra nr rc, .slice ca nc cc] w (FewTab h nr nc w) := few23_any A h ra ca nr nc rc cc w
theorem ofErr_pos' {h : HierD} {rows cols : List Int} : (ofErr h rows cols).pos := ofErr_pos h rows cols
theorem of_litT (A : HA) (h : HierD) (rows cols : List Int) (ra ca : Option Addr) (rc cc : Nat) (w : World) (see : HSee w A h) (sr : See w ra rc memInt 1 rows) (sc : See w ca cc memInt 1 cols) (hlr : rows.length ≤ 1048576) (hlc : cols.length ≤ 1048576) (hw : WfList rows ∧ WfList cols) :
    Calls Tryz.prog 7 #[hierVal A h, .slice ra rows.length rc, .slice ca cols.length cc] w (OfNew h rows cols w) := of_any A h rows cols ra ca rc cc w see sr sc hlr hlc hw
theorem rdocof_litT (A : HA) (h : HierD) (rows cols : List Int) (ra ca : Option Addr) (rc cc : Nat) (w : World) (see : HSee w A h) (sr : See w ra rc memInt 1 rows) (sc : See w ca cc memInt 1 cols) (hlr : rows.length ≤ 1048576) (hlc : cols.length ≤ 1048576) (hw : WfList rows ∧ WfList cols) (hk1 : h.up.length ≤ 140737488355328) (hk2 : h.dn.length ≤ 140737488355328) (hn64 : h.node.length ≤ 140737488355328) :
    Calls Tryz.prog 10 #[.agg #[.slice A.a0 h.node.length A.c0, .slice A.a1 h.upF.length A.c1, .slice A.a2 h.up.length A.c2, .slice A.a3 h.dnF.length A.c3, .slice A.a4 h.dn.length A.c4], .slice ra rows.length rc, .slice ca cols.length cc] w (RDocOfNew h rows cols w) := rdocof_any A h rows cols ra ca rc cc w see sr sc hlr hlc hw hk1 hk2 hn64
theorem samemat_nilT (w : World) : Calls Tryz.prog 11 #[.slice none 0 0, .slice none 0 0] w (BoolIs true w) :=
  samematrix_see 0 0 (fun _ _ => 0) (fun _ _ => 0) _ _ w (by omega) (by omega) ⟨none, 0, fun _ => none, fun _ => 0, rfl, See.nil w _ _, fun i hi => by omega⟩ ⟨none, 0, fun _ => none, fun _ => 0, rfl, See.nil w _ _, fun i hi => by omega⟩ (fun _ _ hv _ => by omega)
def TabIs (h : HierD) (rows cols : List Int) (m : Value) (w : World) : Prop := (ofErr h rows cols ≠ .nil → m = .slice none 0 0) ∧ (ofErr h rows cols = .nil → MSee rows.length cols.length (fun i j => tabD h (rows.getD i 0) (cols.getD j 0)) m w)
theorem TabIs.below {h : HierD} {rows cols : List Int} {m : Value} {w w' : World} (t : TabIs h rows cols m w) (o : Below w.heap.size w w') : TabIs h rows cols m w' := ⟨t.1, fun e => (t.2 e).below o⟩
theorem TabIs.calls {h : HierD} {rows cols : List Int} {m p : Value} {w : World} (a : TabIs h rows cols m w) (b : TabIs h rows cols p w) (hr : rows.length ≤ 1048576) (hc : cols.length ≤ 1048576) : Calls Tryz.prog 11 #[m, p] w (BoolIs true w) := by
  by_cases e : ofErr h rows cols = .nil
  · exact samematrix_see _ _ _ _ _ _ w (by omega) (by omega) (a.2 e) (b.2 e) (fun _ _ _ _ => rfl)
  · rw [a.1 e, b.1 e]
    exact samemat_nilT w

set_option linter.unusedSimpArgs false in
set_option maxRecDepth 100000 in
set_option maxHeartbeats 8000000 in
theorem to_end {s0 s1 s2 s3 s4 s5 s6 s11 s12 s13 s14 s15 s16 s17 s18 s19 s20 s21 s22 s23 s24 s25 s26 s27 s28 s29 s30 s31 s32 s33 s34 s35 s36 s37 s38 s39 s40 s41 s42 : Value} {m1 m2 v : Value} {h : HierD} {rows cols : List Int} {be : Nat} {uc : Int} {ua : Option Addr} {un ucap : Nat} {w wx : World} (hg : EVar w) (hb : Below w.heap.size w wx) (he : Cells wx be 38 [.int .i64 uc, .slice ua un ucap]) (hv : ErrIs wx v (ofErr h rows cols)) (hu : ErrV wx (.agg #[.int .i64 uc, .slice ua un ucap]) (ofErr h rows cols)) (hc : Calls Tryz.prog 11 #[m1, m2] wx (BoolIs true wx)) : Code.wp Tryz.prog (tailAt 5 tofsBody) (bodyPost Tryz.prog Tryz.f3 (BoolIs true w)) ⟨#[s0, s1, s2, s3, s4, s5, s6, m1, v, m2, .pointer (some ⟨be, 0, none⟩), s11, s12, s13, s14, s15, s16, s17, s18, s19, s20, s21, s22, s23, s24, s25, s26, s27, s28, s29, s30, s31, s32, s33, s34, s35, s36, s37, s38, s39, s40, s41, s42], []⟩ wx := by
  have HG := Lib.hid hg
  have HB := Lib.hid hb
  have HE := Lib.hid he
  have HV := Lib.hid hv
  have HU := Lib.hid hu
  have HC := Lib.hid hc
  clear hg hb he hv hu hc
  conv => arg 2; whnf
  go_wp2_with fail
  refine HC.out.mono ?_
  rintro e w1 ⟨rfl, hb1⟩
  have HB1 := Lib.hid (HB.out.trans (hb1.mono HB.out.size))
  have HV1 := Lib.hid (HV.out.below hb1)
  have HU1 := Lib.hid (HU.out.below hb1)
  have he1 := HE.out.below hb1 HE.out.lt
  have y0 : w1.cell? ⟨be, 0, none⟩ = some (.int .i64 uc) := he1.cell rfl
  have y1 : w1.cell? ⟨be, 1, none⟩ = some (.slice ua un ucap) := he1.cell rfl
  clear hb1 he1 HV HU HE HC
  go_wp2_with fail
  refine (same_any (ofErr h rows cols) _ _ _ ofErr_pos' (HG.out.below HB1.out) HV1.out HU1.out).mono ?_
  rintro e w2 ⟨rfl, hb2⟩
  have HB2 := Lib.hid (HB1.out.trans (hb2.mono HB1.out.size))
  clear hb2
  go_wp2
  go_returns
  exact ⟨rfl, HB2.out⟩

set_option linter.unusedSimpArgs false in
set_option maxRecDepth 100000 in
set_option maxHeartbeats 8000000 in
theorem to_doc {s0 s4 s5 s6 s9 s10 s11 s12 s13 s14 s15 s16 s17 s18 s19 s20 s21 s22 s23 s24 s25 s26 s27 s28 s29 s30 s31 s32 s33 s34 s35 s36 s37 s38 s39 s40 s41 s42 : Value} {A : HA} {h : HierD} {rows cols : List Int} {ra ca : Option Addr} {rc cc : Nat} {w wx : World} {m1 v : Value} (see : HSee w A h) (sr : See w ra rc memInt 1 rows) (sc : See w ca cc memInt 1 cols) (hw : WfList rows ∧ WfList cols) (hr : Reach5 h) (hg : EVar w) (hlr : rows.length ≤ 300) (hlc : cols.length ≤ 300) (hx : Cells wx w.heap.size 25 (hierCells A h)) (hb : Below w.heap.size w wx) (hv : ErrIs wx v (ofErr h rows cols)) (hm : TabIs h rows cols m1 wx) : Code.wp Tryz.prog (tailAt 4 tofsBody) (bodyPost Tryz.prog Tryz.f3 (BoolIs true w)) ⟨#[s0, .slice ra rows.length rc, .slice ca cols.length cc, .pointer (some ⟨w.heap.size, 0, none⟩), s4, s5, s6, m1, v, s9, s10, s11, s12, s13, s14, s15, s16, s17, s18, s19, s20, s21, s22, s23, s24, s25, s26, s27, s28, s29, s30, s31, s32, s33, s34, s35, s36, s37, s38, s39, s40, s41, s42], []⟩ wx := by
  have SEE := Lib.hid see
  have SR := Lib.hid sr
  have SC := Lib.hid sc
  have HW := Lib.hid hw
  have HRE := Lib.hid hr
  have HG := Lib.hid hg
  have HX := Lib.hid hx
  have HB := Lib.hid hb
  clear see sr sc hw hr hg hx hb
  have l1 : h.up.length ≤ 140737488355328 := by have := HRE.out.up; omega
  have l2 : h.dn.length ≤ 140737488355328 := by have := HRE.out.dn; omega
  have l3 : h.node.length ≤ 140737488355328 := by have := HRE.out.n; omega
  have L1 := Lib.hid l1
  have L2 := Lib.hid l2
  have L3 := Lib.hid l3
  have l4 : rows.length * 8 ≤ 140737488355328 := by omega
  have l6 : rows.length ≤ 1048576 := by omega
  have L4 := Lib.hid l4
  have L6 := Lib.hid l6
  have l5 : cols.length * 8 ≤ 140737488355328 := by omega
  have l7 : cols.length ≤ 1048576 := by omega
  have L5 := Lib.hid l5
  have L7 := Lib.hid l7
  clear l1 l2 l3 l4 l6 l5 l7
  have HV := Lib.hid hv
  have HM := Lib.hid hm
  clear hv hm hlc hlr
  obtain ⟨k0, k1, k2, k3, k4⟩ := hier_five HX.out
  conv => arg 2; whnf
  apply wp_seq_k
  intro KK hK
  have HKK := Lib.hid hK
  clear hK
  go_wp2_with fail
  refine (rdocof_litT A h rows cols ra ca rc cc _ (SEE.out.below HB.out) (SR.out.below HB.out) (SC.out.below HB.out) L6.out L7.out HW.out L1.out L2.out L3.out).mono ?_
  rintro e w1 ⟨mv, u, rfl, hu, hb1, hm1, hm2⟩
  obtain ⟨uc, ua, un, ucap, rfl⟩ := hu.form
  have ho := (Below.refl w1.heap.size w1).alloc (Nat.le_refl _) (.cells #[.int .i64 uc, .slice ua un ucap] 38)
  have hb1' := hb1.trans (ho.mono hb1.size)
  have HB1 := Lib.hid (HB.out.trans (hb1'.mono HB.out.size))
  have HV1 := Lib.hid (HV.out.below hb1')
  have HU1 := Lib.hid (hu.below ho)
  have HE1 := Lib.hid (Cells.new w1 38 [.int .i64 uc, .slice ua un ucap])
  have HM1 := Lib.hid (HM.out.below hb1')
  have HD1 := Lib.hid (show TabIs h rows cols mv w1 from ⟨hm1, hm2⟩)
  have HD2 := Lib.hid (HD1.out.below ho)
  clear hu hb1 hm1 hm2 ho hb1' HX HB HV HM HD1 k0 k1 k2 k3 k4
  go_wp2_with fail
  refine HKK.out _ _ ?_
  change Code.wp _ (tailAt 5 tofsBody) _ _ _
  exact to_end HG.out HB1.out HE1.out HV1.out HU1.out (HM1.out.calls HD2.out L6.out L7.out)

set_option linter.unusedSimpArgs false in
set_option maxRecDepth 100000 in
set_option maxHeartbeats 8000000 in
theorem to_call {s0 s4 s5 s6 s7 s8 s9 s10 s11 s12 s13 s14 s15 s16 s17 s18 s19 s20 s21 s22 s23 s24 s25 s26 s27 s28 s29 s30 s31 s32 s33 s34 s35 s36 s37 s38 s39 s40 s41 s42 : Value} {A : HA} {h : HierD} {rows cols : List Int} {ra ca : Option Addr} {rc cc : Nat} {w wx : World} (see : HSee w A h) (sr : See w ra rc memInt 1 rows) (sc : See w ca cc memInt 1 cols) (hw : WfList rows ∧ WfList cols) (hr : Reach5 h) (hg : EVar w) (hlr : rows.length ≤ 300) (hlc : cols.length ≤ 300) (hx : Cells wx w.heap.size 25 (hierCells A h)) (hb : Below w.heap.size w wx) : Code.wp Tryz.prog (tailAt 3 tofsBody) (bodyPost Tryz.prog Tryz.f3 (BoolIs true w)) ⟨#[s0, .slice ra rows.length rc, .slice ca cols.length cc, .pointer (some ⟨w.heap.size, 0, none⟩), s4, s5, s6, s7, s8, s9, s10, s11, s12, s13, s14, s15, s16, s17, s18, s19, s20, s21, s22, s23, s24, s25, s26, s27, s28, s29, s30, s31, s32, s33, s34, s35, s36, s37, s38, s39, s40, s41, s42], []⟩ wx := by
  have SEE := Lib.hid see
  have SR := Lib.hid sr
  have SC := Lib.hid sc
  have HW := Lib.hid hw
  have HRE := Lib.hid hr
  have HG := Lib.hid hg
  have HX := Lib.hid hx
  have HB := Lib.hid hb
  clear see sr sc hw hr hg hx hb
  have l1 : h.up.length ≤ 140737488355328 := by have := HRE.out.up; omega
  have l2 : h.dn.length ≤ 140737488355328 := by have := HRE.out.dn; omega
  have l3 : h.node.length ≤ 140737488355328 := by have := HRE.out.n; omega
  have L1 := Lib.hid l1
  have L2 := Lib.hid l2
  have L3 := Lib.hid l3
  have l4 : rows.length * 8 ≤ 140737488355328 := by omega
  have l6 : rows.length ≤ 1048576 := by omega
  have L4 := Lib.hid l4
  have L6 := Lib.hid l6
  have l5 : cols.length * 8 ≤ 140737488355328 := by omega
  have l7 : cols.length ≤ 1048576 := by omega
  have L5 := Lib.hid l5
  have L7 := Lib.hid l7
  clear l1 l2 l3 l4 l6 l5 l7
  obtain ⟨k0, k1, k2, k3, k4⟩ := hier_five HX.out
  have HLC := Lib.hid hlc
  have HLR := Lib.hid hlr
  clear hlc hlr
  conv => arg 2; whnf
  apply wp_seq_k
  intro KK hK
  have HKK := Lib.hid hK
  clear hK
  go_wp2_with fail
  refine (twin_litT A h _ (SEE.out.below HB.out) HRE.out).mono ?_
  rintro e w1 ⟨B, rfl, sb, -, hb⟩
  have HX1 := Lib.hid (HX.out.below hb HX.out.lt)
  have HB1 := Lib.hid (HB.out.trans (hb.mono HB.out.size))
  have SB1 := Lib.hid sb
  clear sb hb HX HB k0 k1 k2 k3 k4
  go_wp2_with fail
  refine (twinints_any rows ra rc _ (SR.out.below HB1.out) L4.out).mono ?_
  rintro e w2 ⟨o2, c2, rfl, s2, -, hb⟩
  have HX2 := Lib.hid (HX1.out.below hb HX1.out.lt)
  have HB2 := Lib.hid (HB1.out.trans (hb.mono HB1.out.size))
  have SB2 := Lib.hid (SB1.out.below hb)
  have RR2 := Lib.hid s2
  clear s2 hb HX1 HB1 SB1
  go_wp2_with fail
  refine (twinints_any cols ca cc _ (SC.out.below HB2.out) L5.out).mono ?_
  rintro e w3 ⟨o3, c3, rfl, s3, -, hb⟩
  have HX3 := Lib.hid (HX2.out.below hb HX2.out.lt)
  have HB3 := Lib.hid (HB2.out.trans (hb.mono HB2.out.size))
  have SB3 := Lib.hid (SB2.out.below hb)
  have RR3 := Lib.hid (RR2.out.below hb)
  have RC3 := Lib.hid s3
  clear s3 hb HX2 HB2 SB2 RR2
  go_wp2_with fail
  refine (of_any B h rows cols _ _ _ _ _ SB3.out RR3.out RC3.out L6.out L7.out HW.out).mono ?_
  rintro e w4 ⟨m, v, rfl, hv, hb, hm1, hm2⟩
  have HX4 := Lib.hid (HX3.out.below hb HX3.out.lt)
  have HB4 := Lib.hid (HB3.out.trans (hb.mono HB3.out.size))
  have HV := Lib.hid hv
  have HM := Lib.hid (show TabIs h rows cols m w4 from ⟨hm1, fun e => by
    obtain ⟨rb, ht⟩ := hm2 e
    exact ht.see (by have := L7.out; unfold maxLen; omega)⟩)
  clear hv hb hm1 hm2 HX3 HB3 SB3 RR3 RC3
  go_wp2_with fail
  refine HKK.out _ _ ?_
  change Code.wp _ (tailAt 4 tofsBody) _ _ _
  exact to_doc SEE.out SR.out SC.out HW.out HRE.out HG.out HLR.out HLC.out HX4.out HB4.out HV.out HM.out

set_option linter.unusedSimpArgs false in
set_option maxRecDepth 100000 in
set_option maxHeartbeats 8000000 in
theorem to_few {s0 s4 s5 s6 s7 s8 s9 s10 s11 s12 s13 s14 s15 s16 s17 s18 s19 s20 s21 s22 s23 s24 s25 s26 s27 s28 s29 s30 s31 s32 s33 s34 s35 s36 s37 s38 s39 s40 s41 s42 : Value} {A : HA} {h : HierD} {rows cols : List Int} {ra ca : Option Addr} {rc cc : Nat} {w wx : World} (see : HSee w A h) (sr : See w ra rc memInt 1 rows) (sc : See w ca cc memInt 1 cols) (hw : WfList rows ∧ WfList cols) (hr : Reach5 h) (hg : EVar w) (hx : Cells wx w.heap.size 25 (hierCells A h)) (hb : Below w.heap.size w wx) : Code.wp Tryz.prog (tailAt 2 tofsBody) (bodyPost Tryz.prog Tryz.f3 (BoolIs true w)) ⟨#[s0, .slice ra rows.length rc, .slice ca cols.length cc, .pointer (some ⟨w.heap.size, 0, none⟩), s4, s5, s6, s7, s8, s9, s10, s11, s12, s13, s14, s15, s16, s17, s18, s19, s20, s21, s22, s23, s24, s25, s26, s27, s28, s29, s30, s31, s32, s33, s34, s35, s36, s37, s38, s39, s40, s41, s42], []⟩ wx := by
  have SEE := Lib.hid see
  have SR := Lib.hid sr
  have SC := Lib.hid sc
  have HW := Lib.hid hw
  have HRE := Lib.hid hr
  have HG := Lib.hid hg
  have HX := Lib.hid hx
  have HB := Lib.hid hb
  clear see sr sc hw hr hg hx hb
  obtain ⟨k0, k1, k2, k3, k4⟩ := hier_five HX.out
  conv => arg 2; whnf
  apply wp_seq_k
  intro KK hK
  have HKK := Lib.hid hK
  clear hK
  go_wp2_with fail
  refine (few23_lit A h ra ca rows.length cols.length rc cc _).mono ?_
  rintro e w1 ⟨b, rfl, hf, hb1⟩
  have HX1 := Lib.hid (HX.out.below hb1 HX.out.lt)
  have HB1 := Lib.hid (HB.out.trans (hb1.mono HB.out.size))
  have HF := Lib.hid hf
  clear hf hb1 HX HB k0 k1 k2 k3 k4
  cases b
  · go_wp2
    go_returns
    exact ⟨rfl, HB1.out⟩
  · go_wp2_with fail
    refine HKK.out _ _ ?_
    change Code.wp _ (tailAt 3 tofsBody) _ _ _
    exact to_call SEE.out SR.out SC.out HW.out HRE.out HG.out (HF.out trivial).2.1 (HF.out trivial).2.2 HX1.out HB1.out
set_option linter.unusedSimpArgs false in
set_option maxRecDepth 100000 in
set_option maxHeartbeats 8000000 in
theorem to_awake {s0 s4 s5 s6 s7 s8 s9 s10 s11 s12 s13 s14 s15 s16 s17 s18 s19 s20 s21 s22 s23 s24 s25 s26 s27 s28 s29 s30 s31 s32 s33 s34 s35 s36 s37 s38 s39 s40 s41 s42 : Value} {A : HA} {h : HierD} {rows cols : List Int} {ra ca : Option Addr} {rc cc : Nat} {w wx : World} (see : HSee w A h) (sr : See w ra rc memInt 1 rows) (sc : See w ca cc memInt 1 cols) (hw : WfList rows ∧ WfList cols) (hr : Reach5 h) (hg : EVar w) (hx : Cells wx w.heap.size 25 (hierCells A h)) (hb : Below w.heap.size w wx) : Code.wp Tryz.prog (tailAt 1 tofsBody) (bodyPost Tryz.prog Tryz.f3 (BoolIs true w)) ⟨#[s0, .slice ra rows.length rc, .slice ca cols.length cc, .pointer (some ⟨w.heap.size, 0, none⟩), s4, s5, s6, s7, s8, s9, s10, s11, s12, s13, s14, s15, s16, s17, s18, s19, s20, s21, s22, s23, s24, s25, s26, s27, s28, s29, s30, s31, s32, s33, s34, s35, s36, s37, s38, s39, s40, s41, s42], []⟩ wx := by
  have SEE := Lib.hid see
  have SR := Lib.hid sr
  have SC := Lib.hid sc
  have HW := Lib.hid hw
  have HRE := Lib.hid hr
  have HG := Lib.hid hg
  have HX := Lib.hid hx
  have HB := Lib.hid hb
  clear see sr sc hw hr hg hx hb
  conv => arg 2; whnf
  apply wp_seq_k
  intro KK hK
  have HKK := Lib.hid hK
  clear hK
  go_wp2_with fail
  refine (awake23_any _).mono ?_
  rintro e w1 ⟨rfl, hb1⟩
  have HX1 := Lib.hid (HX.out.below hb1 HX.out.lt)
  have HB1 := Lib.hid (HB.out.trans (hb1.mono HB.out.size))
  clear hb1 HX HB
  go_wp2_with fail
  refine HKK.out _ _ ?_
  change Code.wp _ (tailAt 2 tofsBody) _ _ _
  exact to_few SEE.out SR.out SC.out HW.out HRE.out HG.out HX1.out HB1.out
set_option linter.unusedSimpArgs false in
set_option maxRecDepth 100000 in
set_option maxHeartbeats 8000000 in
/-- **viaductlaw23.TableOfs.** -/
theorem tableOfs_any (A : HA) (h : HierD) (rows cols : List Int) (ra ca : Option Addr) (rc cc : Nat) (w : World) (hg : EVar w) (see : HSee w A h) (sr : See w ra rc memInt 1 rows) (sc : See w ca cc memInt 1 cols) (hw : WfList rows ∧ WfList cols) (hr : Reach5 h) : Calls Tryz.prog 3 #[hierVal A h, .slice ra rows.length rc, .slice ca cols.length cc] w (BoolIs true w) := by
  have SEE := Lib.hid see
  have SR := Lib.hid sr
  have SC := Lib.hid sc
  have HW := Lib.hid hw
  have HRE := Lib.hid hr
  have HG := Lib.hid hg
  clear see sr sc hw hr hg
  unfold hierVal
  go_enter Tryz.func3, Tryz.ntmps3
  apply wp_seq_k
  intro K1 hK
  have HK1 := Lib.hid hK
  clear hK
  go_wp2_with fail
  refine HK1.out _ _ ?_
  change Code.wp _ (tailAt 1 tofsBody) _ _ _
  exact to_awake SEE.out SR.out SC.out HW.out HRE.out HG.out (Cells.new w 25 (hierCells A h)) ((Below.refl w.heap.size w).alloc (Nat.le_refl _) _)
end Go.Proofs.YtjbphoophgbmiaaGreatDoor
