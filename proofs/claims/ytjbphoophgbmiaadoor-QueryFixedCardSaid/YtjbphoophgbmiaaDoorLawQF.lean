/- The law of the fixed examples of layer 21: its walk. -/
import Derived.Test.YtjbphoophgbmiaaDoorLawQ1
import Derived.Test.YtjbphoophgbmiaaDoorSame
namespace Go.Proofs.YtjbphoophgbmiaaDoor
open Go.ChangeShapes Go.WideShapes Go.ChangeAt Go.RowKit Go.Joins Go.Deep

def emptyD : HierD := ⟨[], [], [], [], []⟩
def emptyA : HA := ⟨none, none, none, none, none, 0, 0, 0, 0, 0⟩
theorem empty_see (w : World) : HSee w emptyA emptyD := ⟨See.nil _ _ _, See.nil _ _ _, See.nil _ _ _, See.nil _ _ _, See.nil _ _ _, by simp [emptyD], by simp [emptyD], by simp [emptyD], by simp [emptyD], by simp [emptyD]⟩
theorem empty_form : checkErr emptyD = .code 14 := by decide +kernel
theorem empty_is {s t : Int} {r : Nat} {d : Int} {x : EV} (a : MeetIs emptyD s t r d x) : r = 0 ∧ d = 0 ∧ x = .code 14 := by
  have h : checkErr emptyD ≠ .nil := by rw [empty_form]; simp
  obtain ⟨h1, h2, h3⟩ := a.same (MeetIs.form h)
  exact ⟨h1, h2, h3.trans empty_form⟩
theorem three_bad {s t : Int} {r : Nat} {d : Int} {x : EV} (k : nodesErr threeD.node.length s t ≠ .nil) (a : MeetIs threeD s t r d x) : r = 0 ∧ d = 0 ∧ x = nodesErr threeD.node.length s t := a.same (MeetIs.nodes three_form k)
theorem three_11 {r : Nat} {d : Int} {x : EV} (a : MeetIs threeD 1 1 r d x) : r = 0 ∧ d = 0 ∧ x = .nil := by
  have h := MeetIs.is three_form (by decide +kernel) a
  rw [show (if _ = _ then _ else _ : Nat × Int × EV) = (0, 0, .nil) from by decide +kernel] at h
  simp only [Prod.mk.injEq] at h
  exact ⟨h.1.symm, h.2.1.symm, h.2.2.symm⟩
theorem three_20 {r : Nat} {d : Int} {x : EV} (a : MeetIs threeD 2 0 r d x) : r = 0 ∧ d = 0 ∧ x = .code 16 := by
  have h := MeetIs.is three_form (by decide +kernel) a
  rw [show (if _ = _ then _ else _ : Nat × Int × EV) = (0, 0, .code 16) from by decide +kernel] at h
  simp only [Prod.mk.injEq] at h
  exact ⟨h.1.symm, h.2.1.symm, h.2.2.symm⟩
theorem three_39 {r : Nat} {d : Int} {x : EV} (a : MeetIs threeD 3 9 r d x) : r = 0 ∧ d = 0 ∧ x = .at 3 0 7 := three_bad (s := 3) (t := 9) (by decide +kernel) a
theorem three_0m {r : Nat} {d : Int} {x : EV} (a : MeetIs threeD 0 (-1) r d x) : r = 0 ∧ d = 0 ∧ x = .at 3 1 7 := three_bad (s := 0) (t := (-1)) (by decide +kernel) a
theorem three_m0 {r : Nat} {d : Int} {x : EV} (a : MeetIs threeD (-1) 0 r d x) : r = 0 ∧ d = 0 ∧ x = .at 3 0 7 := three_bad (s := (-1)) (t := 0) (by decide +kernel) a

set_option maxRecDepth 100000 in
set_option maxHeartbeats 8000000 in
theorem queryFixed_any (w : World) (hg : EVar w) : Calls Tryd.prog 8 #[] w (BoolIs true w) := by
  have HG := Lib.hid hg
  clear hg
  go_enter Tryd.func8, Tryd.ntmps8
  have HB := Lib.hid (Below.refl w.heap.size w)
  go_wp2_with fail
  refine (awake_any _).mono ?_
  rintro e w1 ⟨rfl, hb⟩
  have HB_1 := Lib.hid (HB.out.trans (hb.mono HB.out.size))
  clear hb HB
  go_wp2_with fail
  refine (three_any _).mono ?_
  rintro e w2 ⟨A, rfl, s1, -, hb⟩
  have HB_2 := Lib.hid (HB_1.out.trans (hb.mono HB_1.out.size))
  clear hb HB_1
  have HS := Lib.hid s1
  clear s1
  obtain ⟨wz, hwz⟩ : ∃ wz, w2.alloc (.cells (hierCells A threeD).toArray 25) = wz := ⟨_, rfl⟩
  have HB := Lib.hid (HB_2.out.alloc HB_2.out.size (.cells (hierCells A threeD).toArray 25))
  have HSz := Lib.hid (HS.out.below ((Below.refl _ _).alloc (Nat.le_refl _) (.cells (hierCells A threeD).toArray 25)))
  have HXz := Lib.hid (Cells.new w2 25 (hierCells A threeD))
  rw [hwz] at HB HSz HXz
  clear HS HB_2
  unfold hierVal
  go_wp2_with fail
  rw [show w2.alloc (.cells #[.slice A.a0 threeD.node.length A.c0, .slice A.a1 threeD.upF.length A.c1, .slice A.a2 threeD.up.length A.c2, .slice A.a3 threeD.dnF.length A.c3, .slice A.a4 threeD.dn.length A.c4] 25) = wz from hwz]
  clear hwz
  obtain ⟨k3a, k3b, k3c, k3d, k3e⟩ := hier_five HXz.out
  refine (distance_any A threeD 0 1 _ HSz.out (by omega) (by omega)).mono ?_
  rintro e w3 ⟨r, d, x, v1, rfl, hv, hm, hb⟩
  obtain ⟨rfl, rfl, rfl⟩ := three_01 hm
  obtain rfl := hv.nilv rfl
  clear hv hm
  have HB_4 := Lib.hid (HB.out.trans (hb.mono HB.out.size))
  have HSz_5 := Lib.hid (HSz.out.below hb)
  have HXz_6 := Lib.hid (HXz.out.below hb HXz.out.lt)
  clear k3a k3b k3c k3d k3e
  clear hb HB HSz HXz
  obtain ⟨k7a, k7b, k7c, k7d, k7e⟩ := hier_five HXz_6.out
  go_wp2_with fail
  refine (distance_any A threeD 1 1 _ HSz_5.out (by omega) (by omega)).mono ?_
  rintro e w4 ⟨r, d, x, v2, rfl, hv, hm, hb⟩
  obtain ⟨rfl, rfl, rfl⟩ := three_11 hm
  obtain rfl := hv.nilv rfl
  clear hv hm
  have HB_8 := Lib.hid (HB_4.out.trans (hb.mono HB_4.out.size))
  have HSz_9 := Lib.hid (HSz_5.out.below hb)
  have HXz_10 := Lib.hid (HXz_6.out.below hb HXz_6.out.lt)
  clear k7a k7b k7c k7d k7e
  clear hb HB_4 HSz_5 HXz_6
  obtain ⟨k11a, k11b, k11c, k11d, k11e⟩ := hier_five HXz_10.out
  go_wp2_with fail
  refine (qmeet_any A threeD 0 2 _ HSz_9.out (by omega) (by omega)).mono ?_
  rintro e w5 ⟨r, d, x, v3, rfl, hv, hm, hb⟩
  obtain ⟨rfl, rfl, rfl⟩ := three_02 hm
  obtain rfl := hv.nilv rfl
  clear hv hm
  have HB_12 := Lib.hid (HB_8.out.trans (hb.mono HB_8.out.size))
  have HSz_13 := Lib.hid (HSz_9.out.below hb)
  have HXz_14 := Lib.hid (HXz_10.out.below hb HXz_10.out.lt)
  clear k11a k11b k11c k11d k11e
  clear hb HB_8 HSz_9 HXz_10
  obtain ⟨k15a, k15b, k15c, k15d, k15e⟩ := hier_five HXz_14.out
  go_wp2_with fail
  refine (qmeet_any A threeD 1 1 _ HSz_13.out (by omega) (by omega)).mono ?_
  rintro e w6 ⟨r, d, x, v4, rfl, hv, hm, hb⟩
  obtain ⟨rfl, rfl, rfl⟩ := three_11 hm
  obtain rfl := hv.nilv rfl
  clear hv hm
  have HB_16 := Lib.hid (HB_12.out.trans (hb.mono HB_12.out.size))
  have HSz_17 := Lib.hid (HSz_13.out.below hb)
  have HXz_18 := Lib.hid (HXz_14.out.below hb HXz_14.out.lt)
  clear k15a k15b k15c k15d k15e
  clear hb HB_12 HSz_13 HXz_14
  obtain ⟨k19a, k19b, k19c, k19d, k19e⟩ := hier_five HXz_18.out
  go_wp2_with fail
  refine (distance_any A threeD 2 0 _ HSz_17.out (by omega) (by omega)).mono ?_
  rintro e w7 ⟨r, d, x, va, rfl, hv, hm, hb⟩
  obtain ⟨rfl, rfl, rfl⟩ := three_20 hm
  have HVa := Lib.hid hv
  clear hv hm
  have HB_20 := Lib.hid (HB_16.out.trans (hb.mono HB_16.out.size))
  have HSz_21 := Lib.hid (HSz_17.out.below hb)
  have HXz_22 := Lib.hid (HXz_18.out.below hb HXz_18.out.lt)
  clear k19a k19b k19c k19d k19e
  clear hb HB_16 HSz_17 HXz_18
  obtain ⟨k23a, k23b, k23c, k23d, k23e⟩ := hier_five HXz_22.out
  go_wp2_with fail
  refine (distance_any A threeD 3 9 _ HSz_21.out (by omega) (by omega)).mono ?_
  rintro e w8 ⟨r, d, x, vb, rfl, hv, hm, hb⟩
  obtain ⟨rfl, rfl, rfl⟩ := three_39 hm
  have HVb := Lib.hid hv
  clear hv hm
  have HB_24 := Lib.hid (HB_20.out.trans (hb.mono HB_20.out.size))
  have HSz_25 := Lib.hid (HSz_21.out.below hb)
  have HXz_26 := Lib.hid (HXz_22.out.below hb HXz_22.out.lt)
  have HVa_27 := Lib.hid (HVa.out.below hb)
  clear k23a k23b k23c k23d k23e
  clear hb HB_20 HSz_21 HXz_22 HVa
  obtain ⟨k28a, k28b, k28c, k28d, k28e⟩ := hier_five HXz_26.out
  go_wp2_with fail
  refine (distance_any A threeD 0 (-1) _ HSz_25.out (by omega) (by omega)).mono ?_
  rintro e w9 ⟨r, d, x, vc, rfl, hv, hm, hb⟩
  obtain ⟨rfl, rfl, rfl⟩ := three_0m hm
  have HVc := Lib.hid hv
  clear hv hm
  have HB_29 := Lib.hid (HB_24.out.trans (hb.mono HB_24.out.size))
  have HSz_30 := Lib.hid (HSz_25.out.below hb)
  have HXz_31 := Lib.hid (HXz_26.out.below hb HXz_26.out.lt)
  have HVa_32 := Lib.hid (HVa_27.out.below hb)
  have HVb_33 := Lib.hid (HVb.out.below hb)
  clear k28a k28b k28c k28d k28e
  clear hb HB_24 HSz_25 HXz_26 HVa_27 HVb
  obtain ⟨k34a, k34b, k34c, k34d, k34e⟩ := hier_five HXz_31.out
  go_wp2_with fail
  refine (qmeet_any A threeD 2 0 _ HSz_30.out (by omega) (by omega)).mono ?_
  rintro e w10 ⟨r, d, x, vd, rfl, hv, hm, hb⟩
  obtain ⟨rfl, rfl, rfl⟩ := three_20 hm
  have HVd := Lib.hid hv
  clear hv hm
  have HB_35 := Lib.hid (HB_29.out.trans (hb.mono HB_29.out.size))
  have HSz_36 := Lib.hid (HSz_30.out.below hb)
  have HXz_37 := Lib.hid (HXz_31.out.below hb HXz_31.out.lt)
  have HVa_38 := Lib.hid (HVa_32.out.below hb)
  have HVb_39 := Lib.hid (HVb_33.out.below hb)
  have HVc_40 := Lib.hid (HVc.out.below hb)
  clear k34a k34b k34c k34d k34e
  clear hb HB_29 HSz_30 HXz_31 HVa_32 HVb_33 HVc
  obtain ⟨k41a, k41b, k41c, k41d, k41e⟩ := hier_five HXz_37.out
  go_wp2_with fail
  refine (qmeet_any A threeD (-1) 0 _ HSz_36.out (by omega) (by omega)).mono ?_
  rintro e w11 ⟨r, d, x, ve, rfl, hv, hm, hb⟩
  obtain ⟨rfl, rfl, rfl⟩ := three_m0 hm
  have HVe := Lib.hid hv
  clear hv hm
  have HB_42 := Lib.hid (HB_35.out.trans (hb.mono HB_35.out.size))
  have HSz_43 := Lib.hid (HSz_36.out.below hb)
  have HXz_44 := Lib.hid (HXz_37.out.below hb HXz_37.out.lt)
  have HVa_45 := Lib.hid (HVa_38.out.below hb)
  have HVb_46 := Lib.hid (HVb_39.out.below hb)
  have HVc_47 := Lib.hid (HVc_40.out.below hb)
  have HVd_48 := Lib.hid (HVd.out.below hb)
  clear k41a k41b k41c k41d k41e
  clear hb HB_35 HSz_36 HXz_37 HVa_38 HVb_39 HVc_40 HVd
  obtain ⟨k49a, k49b, k49c, k49d, k49e⟩ := hier_five HXz_44.out
  go_wp2_with fail
  try unfold hierVal
  refine (distance_any emptyA emptyD (-1) 0 _ (empty_see _) (by omega) (by omega)).mono ?_
  rintro e w12 ⟨r, d, x, vf, rfl, hv, hm, hb⟩
  obtain ⟨rfl, rfl, rfl⟩ := empty_is hm
  have HVf := Lib.hid hv
  clear hv hm
  have HB_50 := Lib.hid (HB_42.out.trans (hb.mono HB_42.out.size))
  have HSz_51 := Lib.hid (HSz_43.out.below hb)
  have HXz_52 := Lib.hid (HXz_44.out.below hb HXz_44.out.lt)
  have HVa_53 := Lib.hid (HVa_45.out.below hb)
  have HVb_54 := Lib.hid (HVb_46.out.below hb)
  have HVc_55 := Lib.hid (HVc_47.out.below hb)
  have HVd_56 := Lib.hid (HVd_48.out.below hb)
  have HVe_57 := Lib.hid (HVe.out.below hb)
  clear k49a k49b k49c k49d k49e
  clear hb HB_42 HSz_43 HXz_44 HVa_45 HVb_46 HVc_47 HVd_48 HVe
  obtain ⟨k58a, k58b, k58c, k58d, k58e⟩ := hier_five HXz_52.out
  clear k58a k58b k58c k58d k58e
  clear HXz_52 HSz_51
  go_wp2_with fail
  refine (e_any 16 _).mono ?_
  rintro e w13 ⟨u, rfl, hu, hb⟩
  have HB_59 := Lib.hid (HB_50.out.trans (hb.mono HB_50.out.size))
  have HVa_60 := Lib.hid (HVa_53.out.below hb)
  have HVb_61 := Lib.hid (HVb_54.out.below hb)
  have HVc_62 := Lib.hid (HVc_55.out.below hb)
  have HVd_63 := Lib.hid (HVd_56.out.below hb)
  have HVe_64 := Lib.hid (HVe_57.out.below hb)
  have HVf_65 := Lib.hid (HVf.out.below hb)
  clear hb HB_50 HVa_53 HVb_54 HVc_55 HVd_56 HVe_57 HVf
  go_wp2_with fail
  refine (same_any (.code 16) va u _ ⟨by omega, by omega⟩ (HG.out.below HB_59.out) HVa_60.out hu).mono ?_
  rintro e w14 ⟨rfl, hb⟩
  clear hu
  have HB_66 := Lib.hid (HB_59.out.trans (hb.mono HB_59.out.size))
  have HVa_67 := Lib.hid (HVa_60.out.below hb)
  have HVb_68 := Lib.hid (HVb_61.out.below hb)
  have HVc_69 := Lib.hid (HVc_62.out.below hb)
  have HVd_70 := Lib.hid (HVd_63.out.below hb)
  have HVe_71 := Lib.hid (HVe_64.out.below hb)
  have HVf_72 := Lib.hid (HVf_65.out.below hb)
  clear hb HB_59 HVa_60 HVb_61 HVc_62 HVd_63 HVe_64 HVf_65
  clear HVa_67
  go_wp2_with fail
  refine (e_any 7 _).mono ?_
  rintro e w15 ⟨u, rfl, hu, hb⟩
  have HB_73 := Lib.hid (HB_66.out.trans (hb.mono HB_66.out.size))
  have HVb_74 := Lib.hid (HVb_68.out.below hb)
  have HVc_75 := Lib.hid (HVc_69.out.below hb)
  have HVd_76 := Lib.hid (HVd_70.out.below hb)
  have HVe_77 := Lib.hid (HVe_71.out.below hb)
  have HVf_78 := Lib.hid (HVf_72.out.below hb)
  clear hb HB_66 HVb_68 HVc_69 HVd_70 HVe_71 HVf_72
  obtain rfl : u = _ := hu
  go_wp2_with fail
  refine (rat_any 3 0 7 _).mono ?_
  rintro e w16 ⟨u, rfl, hu, hb⟩
  have HB_79 := Lib.hid (HB_73.out.trans (hb.mono HB_73.out.size))
  have HVb_80 := Lib.hid (HVb_74.out.below hb)
  have HVc_81 := Lib.hid (HVc_75.out.below hb)
  have HVd_82 := Lib.hid (HVd_76.out.below hb)
  have HVe_83 := Lib.hid (HVe_77.out.below hb)
  have HVf_84 := Lib.hid (HVf_78.out.below hb)
  clear hb HB_73 HVb_74 HVc_75 HVd_76 HVe_77 HVf_78
  go_wp2_with fail
  refine (same_any (.at 3 0 7) vb u _ ⟨by omega, by omega⟩ (HG.out.below HB_79.out) HVb_80.out hu).mono ?_
  rintro e w17 ⟨rfl, hb⟩
  clear hu
  have HB_85 := Lib.hid (HB_79.out.trans (hb.mono HB_79.out.size))
  have HVb_86 := Lib.hid (HVb_80.out.below hb)
  have HVc_87 := Lib.hid (HVc_81.out.below hb)
  have HVd_88 := Lib.hid (HVd_82.out.below hb)
  have HVe_89 := Lib.hid (HVe_83.out.below hb)
  have HVf_90 := Lib.hid (HVf_84.out.below hb)
  clear hb HB_79 HVb_80 HVc_81 HVd_82 HVe_83 HVf_84
  clear HVb_86
  go_wp2_with fail
  refine (e_any 7 _).mono ?_
  rintro e w18 ⟨u, rfl, hu, hb⟩
  have HB_91 := Lib.hid (HB_85.out.trans (hb.mono HB_85.out.size))
  have HVc_92 := Lib.hid (HVc_87.out.below hb)
  have HVd_93 := Lib.hid (HVd_88.out.below hb)
  have HVe_94 := Lib.hid (HVe_89.out.below hb)
  have HVf_95 := Lib.hid (HVf_90.out.below hb)
  clear hb HB_85 HVc_87 HVd_88 HVe_89 HVf_90
  obtain rfl : u = _ := hu
  go_wp2_with fail
  refine (rat_any 3 1 7 _).mono ?_
  rintro e w19 ⟨u, rfl, hu, hb⟩
  have HB_96 := Lib.hid (HB_91.out.trans (hb.mono HB_91.out.size))
  have HVc_97 := Lib.hid (HVc_92.out.below hb)
  have HVd_98 := Lib.hid (HVd_93.out.below hb)
  have HVe_99 := Lib.hid (HVe_94.out.below hb)
  have HVf_100 := Lib.hid (HVf_95.out.below hb)
  clear hb HB_91 HVc_92 HVd_93 HVe_94 HVf_95
  go_wp2_with fail
  refine (same_any (.at 3 1 7) vc u _ ⟨by omega, by omega⟩ (HG.out.below HB_96.out) HVc_97.out hu).mono ?_
  rintro e w20 ⟨rfl, hb⟩
  clear hu
  have HB_101 := Lib.hid (HB_96.out.trans (hb.mono HB_96.out.size))
  have HVc_102 := Lib.hid (HVc_97.out.below hb)
  have HVd_103 := Lib.hid (HVd_98.out.below hb)
  have HVe_104 := Lib.hid (HVe_99.out.below hb)
  have HVf_105 := Lib.hid (HVf_100.out.below hb)
  clear hb HB_96 HVc_97 HVd_98 HVe_99 HVf_100
  clear HVc_102
  go_wp2_with fail
  refine (e_any 16 _).mono ?_
  rintro e w21 ⟨u, rfl, hu, hb⟩
  have HB_106 := Lib.hid (HB_101.out.trans (hb.mono HB_101.out.size))
  have HVd_107 := Lib.hid (HVd_103.out.below hb)
  have HVe_108 := Lib.hid (HVe_104.out.below hb)
  have HVf_109 := Lib.hid (HVf_105.out.below hb)
  clear hb HB_101 HVd_103 HVe_104 HVf_105
  go_wp2_with fail
  refine (same_any (.code 16) vd u _ ⟨by omega, by omega⟩ (HG.out.below HB_106.out) HVd_107.out hu).mono ?_
  rintro e w22 ⟨rfl, hb⟩
  clear hu
  have HB_110 := Lib.hid (HB_106.out.trans (hb.mono HB_106.out.size))
  have HVd_111 := Lib.hid (HVd_107.out.below hb)
  have HVe_112 := Lib.hid (HVe_108.out.below hb)
  have HVf_113 := Lib.hid (HVf_109.out.below hb)
  clear hb HB_106 HVd_107 HVe_108 HVf_109
  clear HVd_111
  go_wp2_with fail
  refine (e_any 7 _).mono ?_
  rintro e w23 ⟨u, rfl, hu, hb⟩
  have HB_114 := Lib.hid (HB_110.out.trans (hb.mono HB_110.out.size))
  have HVe_115 := Lib.hid (HVe_112.out.below hb)
  have HVf_116 := Lib.hid (HVf_113.out.below hb)
  clear hb HB_110 HVe_112 HVf_113
  obtain rfl : u = _ := hu
  go_wp2_with fail
  refine (rat_any 3 0 7 _).mono ?_
  rintro e w24 ⟨u, rfl, hu, hb⟩
  have HB_117 := Lib.hid (HB_114.out.trans (hb.mono HB_114.out.size))
  have HVe_118 := Lib.hid (HVe_115.out.below hb)
  have HVf_119 := Lib.hid (HVf_116.out.below hb)
  clear hb HB_114 HVe_115 HVf_116
  go_wp2_with fail
  refine (same_any (.at 3 0 7) ve u _ ⟨by omega, by omega⟩ (HG.out.below HB_117.out) HVe_118.out hu).mono ?_
  rintro e w25 ⟨rfl, hb⟩
  clear hu
  have HB_120 := Lib.hid (HB_117.out.trans (hb.mono HB_117.out.size))
  have HVe_121 := Lib.hid (HVe_118.out.below hb)
  have HVf_122 := Lib.hid (HVf_119.out.below hb)
  clear hb HB_117 HVe_118 HVf_119
  clear HVe_121
  go_wp2_with fail
  refine (e_any 14 _).mono ?_
  rintro e w26 ⟨u, rfl, hu, hb⟩
  have HB_123 := Lib.hid (HB_120.out.trans (hb.mono HB_120.out.size))
  have HVf_124 := Lib.hid (HVf_122.out.below hb)
  clear hb HB_120 HVf_122
  go_wp2_with fail
  refine (same_any (.code 14) vf u _ ⟨by omega, by omega⟩ (HG.out.below HB_123.out) HVf_124.out hu).mono ?_
  rintro e w27 ⟨rfl, hb⟩
  clear hu
  have HB_125 := Lib.hid (HB_123.out.trans (hb.mono HB_123.out.size))
  have HVf_126 := Lib.hid (HVf_124.out.below hb)
  clear hb HB_123 HVf_124
  clear HVf_126
  go_wp2
  go_returns
  exact ⟨rfl, HB_125.out⟩
end Go.Proofs.YtjbphoophgbmiaaDoor
