/- The reference's DocNearest. -/
import Derived.Test.YtjbphoophgbmiaaGreatDoorT6
namespace Go.Proofs.YtjbphoophgbmiaaGreatDoor
open Go.ChangeShapes Go.WideShapes Go.ChangeAt Go.RowKit Go.Joins Go.Deep

def RNearNew (h : HierD) (s : Int) (cols : List Int) (w : World) (e : Ending) (w' : World) : Prop := ∃ v, e = .returned (.tuple #[.int .i64 ((nearR h s cols).1 : Nat), .int .u64 (nearR h s cols).2.1, v]) ∧ ErrV w' v (nearR h s cols).2.2 ∧ Below w.heap.size w w'
theorem firstsOk_u {h : HierD} (hc : checkErr h = .nil) : FirstsOk h.node.length h.upF h.up.length := firsts_nil (checkErr_parts hc).1.u (checkErr_parts hc).2.1
theorem firstsOk_d {h : HierD} (hc : checkErr h = .nil) : FirstsOk h.node.length h.dnF h.dn.length := firsts_nil (checkErr_parts hc).1.d (checkErr_parts hc).2.2.1
theorem firstOf_pos {x y : EV} (hx : x.pos) (hy : y.pos) : (firstOf x y).pos := by
  unfold firstOf
  split
  · exact hy
  · exact hx

set_option linter.unusedSimpArgs false in
set_option maxRecDepth 100000 in
set_option maxHeartbeats 8000000 in
theorem dnear_end {s0 s4 s5 s6 s7 s9 s10 s13 s14 s15 s16 s17 s18 s19 s20 s21 s22 s23 s24 s25 s26 s27 s28 s29 s30 s31 s32 s33 s34 s35 s36 s37 s38 s39 s40 s41 s42 s43 s44 s45 s46 s47 s48 s49 s50 s51 s52 s53 s54 s55 s56 s57 s58 s59 s60 s61 s62 s63 s64 s65 s66 : Value} {A : HA} {h : HierD} {s : Int} {cols : List Int} {ca : Option Addr} {cc r1 : Nat} {r2 : Int} {w wx : World} (k : DK A h w wx) (h1 : r2 = 18446744073709551615 → nearR h s cols = (0, 0, .code 16)) (h2 : r2 ≠ 18446744073709551615 → nearR h s cols = (r1, r2, .nil)) : Code.wp Tryz.prog (tailAt 5 docNearBody) (bodyPost Tryz.prog Tryz.f14 (RNearNew h s cols w)) ⟨#[s0, .int .i64 s, .slice ca cols.length cc, .pointer (some ⟨w.heap.size, 0, none⟩), s4, s5, s6, s7, .pointer (some ⟨(w.heap.size + 1), 0, none⟩), s9, s10, .int .u64 r2, .int .i64 (r1 : Nat), s13, s14, s15, s16, s17, s18, s19, s20, s21, s22, s23, s24, s25, s26, s27, s28, s29, s30, s31, s32, s33, s34, s35, s36, s37, s38, s39, s40, s41, s42, s43, s44, s45, s46, s47, s48, s49, s50, s51, s52, s53, s54, s55, s56, s57, s58, s59, s60, s61, s62, s63, s64, s65, s66], []⟩ wx := by
  have K := Lib.hid k
  have H1 := Lib.hid h1
  have H2 := Lib.hid h2
  by_cases c : r2 = 18446744073709551615
  · have e1 : (r2 == 18446744073709551615) = true := by simp [c]
    have HR := Lib.hid (H1.out c)
    clear c k h1 h2
    conv => arg 2; whnf
    go_wp2_with fail
    refine (e_any 16 _).mono ?_
    rintro e w1 ⟨u, rfl, hu, hb⟩
    obtain rfl : u = _ := hu
    have K1 := Lib.hid (K.out.below hb)
    clear hb K
    have z0 : w1.cell? ⟨(w.heap.size + 1), 0, none⟩ = some (.int .i64 0) := K1.out.r.cell rfl
    have z1 : w1.cell? ⟨(w.heap.size + 1), 1, none⟩ = some (.slice none 0 0) := K1.out.r.cell rfl
    have g0 := K1.out.r.frozen 0
    have g1 := K1.out.r.frozen 1
    have lr := K1.out.r.lt
    go_wp2
    refine bodyPost_ret (results_tte rfl _ _ ((w.heap.size + 1)) 38 [.int .i64 16, .slice none 0 0] _ rfl ((K1.out.r.set 0 _).set 1 _) Tryz.underlying38 rfl (by rw [Tryz.sizeErr]; rfl)) rfl ?_
    exact ⟨_, by rw [HR.out]; rfl, by rw [HR.out]; rfl, (K1.out.b.setCell (p := ⟨(w.heap.size + 1), 0, none⟩) (by simp) _).setCell (p := ⟨(w.heap.size + 1), 1, none⟩) (by simp) _⟩
  · have e1 : (r2 == 18446744073709551615) = false := by simp [c]
    have HR := Lib.hid (H2.out c)
    have z0 : wx.cell? ⟨(w.heap.size + 1), 0, none⟩ = some (.int .i64 0) := K.out.r.cell rfl
    have z1 : wx.cell? ⟨(w.heap.size + 1), 1, none⟩ = some (.slice none 0 0) := K.out.r.cell rfl
    have g0 := K.out.r.frozen 0
    have g1 := K.out.r.frozen 1
    have lr := K.out.r.lt
    clear c k h1 h2
    conv => arg 2; whnf
    go_wp2
    refine bodyPost_ret (results_tte rfl _ _ ((w.heap.size + 1)) 38 [.int .i64 0, .slice none 0 0] _ rfl ((K.out.r.set 0 _).set 1 _) Tryz.underlying38 rfl (by rw [Tryz.sizeErr]; rfl)) rfl ?_
    exact ⟨_, by rw [HR.out]; rfl, by rw [HR.out]; rfl, (K.out.b.setCell (p := ⟨(w.heap.size + 1), 0, none⟩) (by simp) _).setCell (p := ⟨(w.heap.size + 1), 1, none⟩) (by simp) _⟩

set_option linter.unusedSimpArgs false in
set_option maxRecDepth 100000 in
set_option maxHeartbeats 8000000 in
theorem dnear_loop {s0 s4 s5 s6 s7 s9 s10 s13 s14 s15 s16 s17 s18 s19 s20 s21 s22 s23 s24 s25 s26 s27 s28 s29 s30 s31 s32 s33 s34 s35 s36 s37 s38 s39 s40 s41 s42 s43 s44 s45 s46 s47 s48 s49 s50 s51 s52 s53 s54 s55 s56 s57 s58 s59 s60 s61 s62 s63 s64 s65 s66 : Value} {A : HA} {h : HierD} {s : Int} {cols : List Int} {ca : Option Addr} {cc : Nat} {w wx : World} (see : HSee w A h) (sc : See w ca cc memInt 1 cols) (hlc : cols.length ≤ 1048576) (hw : s ≤ 9223372036854775807 ∧ WfList cols) (k : DK A h w wx) (hc : checkErr h = .nil) (hok : firstOf (listErr h.node.length [s] 0) (listErr h.node.length cols 1) = .nil) : Code.wp Tryz.prog (tailAt 4 docNearBody) (bodyPost Tryz.prog Tryz.f14 (RNearNew h s cols w)) ⟨#[s0, .int .i64 s, .slice ca cols.length cc, .pointer (some ⟨w.heap.size, 0, none⟩), s4, s5, s6, s7, .pointer (some ⟨(w.heap.size + 1), 0, none⟩), s9, s10, .int .u64 18446744073709551615, .int .i64 0, s13, s14, s15, s16, s17, s18, s19, s20, s21, s22, s23, s24, s25, s26, s27, s28, s29, s30, s31, s32, s33, s34, s35, s36, s37, s38, s39, s40, s41, s42, s43, s44, s45, s46, s47, s48, s49, s50, s51, s52, s53, s54, s55, s56, s57, s58, s59, s60, s61, s62, s63, s64, s65, s66], []⟩ wx := by
  obtain ⟨hf1, hf2⟩ := firstOf_nil hok
  have hs := listErr_nil hf1 s (by simp)
  have hcv := listErr_nil hf2
  have hp := checkErr_parts hc
  have htot := hp.1.total see (firstsOk_u hc) (firstsOk_d hc)
  have HC := Lib.hid hc
  have HS := Lib.hid hs
  have HCV := Lib.hid hcv
  have HNR := Lib.hid (show nearR h s cols = if (nearTo (nearF h s cols) cols.length).2 = 18446744073709551615 then (0, 0, .code 16) else ((nearTo (nearF h s cols) cols.length).1, (nearTo (nearF h s cols) cols.length).2, .nil) by unfold nearR; rw [if_neg (fun e => e hc), if_neg (fun e => e hok)])
  obtain ⟨sn, rfl⟩ : ∃ sn : Nat, s = sn := ⟨s.toNat, by omega⟩
  have SEE := Lib.hid see
  have SC := Lib.hid sc
  have HW := Lib.hid hw
  have K := Lib.hid k
  clear see sc hw k
  clear hc hok hf1 hf2 hs hcv hp
  conv => arg 2; whnf
  apply wp_seq_k
  intro KK hK
  have HKK := Lib.hid hK
  clear hK
  go_wp2_with fail
  go_loopg [37, 12, 11] cols.length (fun gg vi va vb wr => ∃ (j : Nat), vi = .int .i64 (j : Int) ∧ j ≤ cols.length ∧ gg = cols.length - j ∧ va = .int .i64 ((nearTo (nearF h sn cols) j).1 : Nat) ∧ vb = .int .u64 (nearTo (nearF h sn cols) j).2 ∧ (0 ≤ (nearTo (nearF h sn cols) j).2 ∧ (nearTo (nearF h sn cols) j).2 ≤ 18446744073709551615) ∧ DK A h w wr)
  case atStart => exact ⟨0, rfl, Nat.zero_le _, rfl, rfl, rfl, ⟨by show (0 : Int) ≤ 18446744073709551615; omega, by show (18446744073709551615 : Int) ≤ 18446744073709551615; omega⟩, K.out⟩
  case round =>
    obtain ⟨j, rfl, hj, hgj, rfl, rfl, hbd, hk⟩ := hrel
    obtain ⟨wo, rfl⟩ : ∃ wo : World, wo = wr := ⟨_, rfl⟩
    have HGJ := Lib.hid hgj
    have K2 := Lib.hid hk
    have HBD := Lib.hid hbd
    clear hgj hk hbd K
    by_cases hjl : j < cols.length
    · obtain ⟨t, ht⟩ : ∃ t, cols[j]? = some t := ⟨_, List.getElem?_eq_getElem hjl⟩
      have htv := HCV.out t (List.mem_of_getElem? ht)
      obtain ⟨tn, rfl⟩ : ∃ tn : Nat, t = tn := ⟨t.toNat, by omega⟩
      have hfj : nearF h sn cols j = tabD h sn tn := by unfold nearF; rw [List.getD_eq_getElem?_getD, ht]; rfl
      have hnx : nearTo (nearF h sn cols) (j + 1) = if tabD h sn tn < (nearTo (nearF h sn cols) j).2 then (j, tabD h sn tn) else nearTo (nearF h sn cols) j := by rw [← hfj]; rfl
      have HNX := Lib.hid hnx
      have HTB := Lib.hid (tabD_bd HC.out HS.out htv)
      have HK := Lib.hid (show nodesErr h.node.length (sn : Int) (tn : Int) = .nil from nodesErr_nil.2 ⟨HS.out, htv⟩)
      obtain ⟨b1, o1, ea1, cc1⟩ := (SC.out.below K2.out.b).cell j _ ht
      have e0 := cc1 0 _ rfl
      rw [Nat.add_zero, Nat.mul_one] at e0
      have EA := Lib.hid ea1
      obtain ⟨r1, hr1⟩ : ∃ r1, (nearTo (nearF h sn cols) j).1 = r1 := ⟨_, rfl⟩
      obtain ⟨r2, hr2⟩ : ∃ r2, (nearTo (nearF h sn cols) j).2 = r2 := ⟨_, rfl⟩
      have HST := Lib.hid (show nearTo (nearF h sn cols) j = (r1, r2) from Prod.ext hr1 hr2)
      rw [hr2] at HNX HBD
      rw [hr1, hr2]
      obtain ⟨k0, k1, k2, k3, k4⟩ := hier_five K2.out.x
      have hsn : sn < h.node.length := by have := HS.out; omega
      have htn : tn < h.node.length := by omega
      clear cc1 ea1 ht hfj hnx hr1 hr2 htv
      rw [EA.out]
      go_wp2_with fail
      refine (rmeet_lit A h sn tn _ (SEE.out.below K2.out.b) HC.out htot hsn htn).mono ?_
      rintro e w1 ⟨r, d, x, v, rfl, hv, hm, hb1⟩
      obtain ⟨uc, ua, un, ucap, rfl⟩ := hv.form
      have ho := (Below.refl w1.heap.size w1).alloc (Nat.le_refl _) (.cells #[.int .i64 uc, .slice ua un ucap] 38)
      have hb1' := hb1.trans (ho.mono hb1.size)
      have HP := Lib.hid (meetIs_pos HC.out HK.out hm)
      have HM := Lib.hid (meet_tab HC.out HK.out hm)
      obtain ⟨wz, hwz⟩ : ∃ wz, w1.alloc (.cells #[.int .i64 uc, .slice ua un ucap] 38) = wz := ⟨_, rfl⟩
      have hce := Cells.new w1 38 [.int .i64 uc, .slice ua un ucap]
      have hv2 := hv.below ho
      have hk2 := K2.out.below hb1'
      change Cells (w1.alloc (.cells #[.int .i64 uc, .slice ua un ucap] 38)) _ _ _ at hce
      rw [hwz] at hce hv2 hk2
      have HWZ := Lib.hid hwz
      have HCE := Lib.hid hce
      have HV2 := Lib.hid hv2
      have K3 := Lib.hid hk2
      clear hm hv hb1 ho hb1' hwz hce hv2 hk2 K2 e0 k0 k1 k2 k3 k4
      go_upto_region 12 with fail
      rw [HWZ.out]
      have y0 : wz.cell? ⟨w1.heap.size, 0, none⟩ = some (.int .i64 uc) := HCE.out.cell rfl
      have y1 : wz.cell? ⟨w1.heap.size, 1, none⟩ = some (.slice ua un ucap) := HCE.out.cell rfl
      go_wp2_with fail
      refine (bad_any _ x _ HV2.out HP.out).mono ?_
      rintro e w2 ⟨rfl, hb2⟩
      have K4 := Lib.hid (K3.out.below hb2)
      clear hb2 y0 y1 HCE HV2 K3
      rcases HM.out with ⟨h1, h2, h3⟩ | ⟨h1, h2⟩
      all_goals
        subst h1
        have e1 : (!EV.isNil EV.nil) = false := rfl
        have e2 : (!EV.isNil (EV.code 16)) = true := rfl
      · obtain rfl : d = tabD h sn tn := h2
        obtain ⟨dd, hdd⟩ : ∃ dd, tabD h sn tn = dd := ⟨_, rfl⟩
        rw [hdd] at HNX HTB ⊢
        clear hdd h3 HM
        by_cases hlt : dd < r2
        · have t1 : decide (dd < r2) = true := by simpa using hlt
          have HNY := Lib.hid (show nearTo (nearF h sn cols) (j + 1) = (j, dd) by rw [HNX.out, if_pos hlt])
          clear hlt
          go_wp2_with fail
          rw [← EA.out]
          go_roundg (cols.length - (j + 1))
          case measure => rw [HGJ.out]; omega
          case rel => exact ⟨j + 1, by go_num, by omega, rfl, by rw [HNY.out], by rw [HNY.out], by rw [HNY.out]; exact HTB.out, K4.out⟩
        · have t1 : decide (dd < r2) = false := by simpa using hlt
          have HNY := Lib.hid (show nearTo (nearF h sn cols) (j + 1) = (r1, r2) by rw [HNX.out, if_neg hlt]; exact HST.out)
          clear hlt
          go_wp2_with fail
          rw [← EA.out]
          go_roundg (cols.length - (j + 1))
          case measure => rw [HGJ.out]; omega
          case rel => exact ⟨j + 1, by go_num, by omega, rfl, by rw [HNY.out], by rw [HNY.out], by rw [HNY.out]; exact HBD.out, K4.out⟩
      · have HNY := Lib.hid (show nearTo (nearF h sn cols) (j + 1) = (r1, r2) by rw [HNX.out, h2, if_neg (by have := HBD.out.2; omega)]; exact HST.out)
        clear h2 HM
        go_wp2_with fail
        rw [← EA.out]
        go_roundg (cols.length - (j + 1))
        case measure => rw [HGJ.out]; omega
        case rel => exact ⟨j + 1, by go_num, by omega, rfl, by rw [HNY.out], by rw [HNY.out], by rw [HNY.out]; exact HBD.out, K4.out⟩
    · obtain rfl : j = cols.length := by omega
      go_wp2_with fail
      refine HKK.out _ _ ?_
      change Code.wp _ (tailAt 5 docNearBody) _ _ _
      exact dnear_end (ca := ca) (cc := cc) K2.out (fun e => by rw [HNR.out, if_pos e]) (fun e => by rw [HNR.out, if_neg e])

set_option linter.unusedSimpArgs false in
set_option maxRecDepth 100000 in
set_option maxHeartbeats 8000000 in
theorem dnear_lists {s0 s4 s5 s6 s7 s9 s10 s11 s12 s13 s14 s15 s16 s17 s18 s19 s20 s21 s22 s23 s24 s25 s26 s27 s28 s29 s30 s31 s32 s33 s34 s35 s36 s37 s38 s39 s40 s41 s42 s43 s44 s45 s46 s47 s48 s49 s50 s51 s52 s53 s54 s55 s56 s57 s58 s59 s60 s61 s62 s63 s64 s65 s66 : Value} {A : HA} {h : HierD} {s : Int} {cols : List Int} {ca : Option Addr} {cc : Nat} {w wx : World} (see : HSee w A h) (sc : See w ca cc memInt 1 cols) (hlc : cols.length ≤ 1048576) (hw : s ≤ 9223372036854775807 ∧ WfList cols) (k : DK A h w wx) (hc : checkErr h = .nil) : Code.wp Tryz.prog (tailAt 2 docNearBody) (bodyPost Tryz.prog Tryz.f14 (RNearNew h s cols w)) ⟨#[s0, .int .i64 s, .slice ca cols.length cc, .pointer (some ⟨w.heap.size, 0, none⟩), s4, s5, s6, s7, .pointer (some ⟨(w.heap.size + 1), 0, none⟩), s9, s10, s11, s12, s13, s14, s15, s16, s17, s18, s19, s20, s21, s22, s23, s24, s25, s26, s27, s28, s29, s30, s31, s32, s33, s34, s35, s36, s37, s38, s39, s40, s41, s42, s43, s44, s45, s46, s47, s48, s49, s50, s51, s52, s53, s54, s55, s56, s57, s58, s59, s60, s61, s62, s63, s64, s65, s66], []⟩ wx := by
  have HC := Lib.hid hc
  have SEE := Lib.hid see
  have SC := Lib.hid sc
  have HW := Lib.hid hw
  have K := Lib.hid k
  clear see sc hw k
  clear hc
  conv => arg 2; whnf
  apply wp_seq_k
  intro KK hK
  have HKK := Lib.hid hK
  clear hK
  go_upto_region 4 with fail
  change Code.wp _ ((regionAt 4 docNearBody).getD .skip) _ _ _
  refine reg4_n SC.out hlc HW.out _ (fun _ _ t _ _ hq => by cases t <;> exact hq) K.out SEE.out ?_
  intro be uc ua un ucap t23 t24 t25 t26 t27 t28 t29 t30 t31 w1 he hv hk1
  have K1 := Lib.hid hk1
  have HE := Lib.hid he
  have HV := Lib.hid hv
  have y0 : w1.cell? ⟨be, 0, none⟩ = some (.int .i64 uc) := he.cell rfl
  have y1 : w1.cell? ⟨be, 1, none⟩ = some (.slice ua un ucap) := he.cell rfl
  clear he hv hk1 K
  go_wp2_with fail
  refine (bad_any _ (firstOf (listErr h.node.length [s] 0) (listErr h.node.length cols 1)) _ HV.out (firstOf_pos (listErr_posE _ _ _) (listErr_posE _ _ _))).mono ?_
  rintro e w2 ⟨rfl, hb⟩
  have K2 := Lib.hid (K1.out.below hb)
  have HV2 := Lib.hid (HV.out.below hb)
  have HE2 := Lib.hid (HE.out.below hb HE.out.lt)
  clear hb K1 HV HE y0 y1
  cases hnil : (firstOf (listErr h.node.length [s] 0) (listErr h.node.length cols 1)).isNil
  · have HNE := Lib.hid (show firstOf (listErr h.node.length [s] 0) (listErr h.node.length cols 1) ≠ .nil from fun e => by rw [e] at hnil; simp [EV.isNil] at hnil)
    have HNR := Lib.hid (show nearR h s cols = (0, 0, firstOf (listErr h.node.length [s] 0) (listErr h.node.length cols 1)) by unfold nearR; rw [if_neg (fun e => e HC.out), if_pos HNE.out])
    have y0 : w2.cell? ⟨be, 0, none⟩ = some (.int .i64 uc) := HE2.out.cell rfl
    have y1 : w2.cell? ⟨be, 1, none⟩ = some (.slice ua un ucap) := HE2.out.cell rfl
    have z0 : w2.cell? ⟨(w.heap.size + 1), 0, none⟩ = some (.int .i64 0) := K2.out.r.cell rfl
    have z1 : w2.cell? ⟨(w.heap.size + 1), 1, none⟩ = some (.slice none 0 0) := K2.out.r.cell rfl
    have g0 := K2.out.r.frozen 0
    have g1 := K2.out.r.frozen 1
    have lr := K2.out.r.lt
    clear hnil
    go_wp2_with fail
    go_region
    all_goals (try dsimp only [Exit.then])
    all_goals go_wp2_with fail
    all_goals refine bodyPost_ret (results_tte rfl _ _ ((w.heap.size + 1)) 38 [.int .i64 uc, .slice ua un ucap] _ rfl ((K2.out.r.drew.set 0 _).set 1 _) Tryz.underlying38 rfl (by rw [Tryz.sizeErr]; rfl)) rfl ?_
    all_goals exact ⟨_, by rw [HNR.out]; rfl, by rw [HNR.out]; exact (HV2.out.below (Below.refl _ _).drew).put K2.out.r.drew _ _, ((K2.out.b.drew).setCell (p := ⟨(w.heap.size + 1), 0, none⟩) (by simp) _).setCell (p := ⟨(w.heap.size + 1), 1, none⟩) (by simp) _⟩
  · have HOK := Lib.hid (EV.isNil_iff.1 hnil)
    clear hnil HV2
    go_wp2_with fail
    refine HKK.out _ _ ?_
    clear HKK KK
    conv => arg 2; whnf
    apply wp_seq_k
    intro K5 hK
    have HK5 := Lib.hid hK
    clear hK
    go_wp2_with fail
    refine HK5.out _ _ ?_
    change Code.wp _ (tailAt 4 docNearBody) _ _ _
    exact dnear_loop SEE.out SC.out hlc HW.out K2.out HC.out HOK.out
set_option linter.unusedSimpArgs false in
set_option maxRecDepth 100000 in
set_option maxHeartbeats 8000000 in
theorem dnear_head {s0 s4 s5 s6 s7 s9 s10 s11 s12 s13 s14 s15 s16 s17 s18 s19 s20 s21 s22 s23 s24 s25 s26 s27 s28 s29 s30 s31 s32 s33 s34 s35 s36 s37 s38 s39 s40 s41 s42 s43 s44 s45 s46 s47 s48 s49 s50 s51 s52 s53 s54 s55 s56 s57 s58 s59 s60 s61 s62 s63 s64 s65 s66 : Value} {A : HA} {h : HierD} {s : Int} {cols : List Int} {ca : Option Addr} {cc : Nat} {w wx : World} (see : HSee w A h) (sc : See w ca cc memInt 1 cols) (hlc : cols.length ≤ 1048576) (hw : s ≤ 9223372036854775807 ∧ WfList cols) (k : DK A h w wx) (hk1 : h.up.length ≤ 140737488355328) (hk2 : h.dn.length ≤ 140737488355328) (hn64 : h.node.length ≤ 140737488355328) : Code.wp Tryz.prog (tailAt 1 docNearBody) (bodyPost Tryz.prog Tryz.f14 (RNearNew h s cols w)) ⟨#[s0, .int .i64 s, .slice ca cols.length cc, .pointer (some ⟨w.heap.size, 0, none⟩), s4, s5, s6, s7, .pointer (some ⟨(w.heap.size + 1), 0, none⟩), s9, s10, s11, s12, s13, s14, s15, s16, s17, s18, s19, s20, s21, s22, s23, s24, s25, s26, s27, s28, s29, s30, s31, s32, s33, s34, s35, s36, s37, s38, s39, s40, s41, s42, s43, s44, s45, s46, s47, s48, s49, s50, s51, s52, s53, s54, s55, s56, s57, s58, s59, s60, s61, s62, s63, s64, s65, s66], []⟩ wx := by
  have SEE := Lib.hid see
  have SC := Lib.hid sc
  have HW := Lib.hid hw
  have K := Lib.hid k
  clear see sc hw k
  obtain ⟨k0, k1, k2, k3, k4⟩ := hier_five K.out.x
  conv => arg 2; whnf
  apply wp_seq_k
  intro KK hK
  have HKK := Lib.hid hK
  clear hK
  go_wp2_with fail
  refine (rdoccheck_litT A h _ (SEE.out.below K.out.b) hk1 hk2 hn64).mono ?_
  rintro e w1 ⟨v, rfl, hv, hb⟩
  obtain ⟨uc, ua, un, ucap, rfl⟩ := hv.form
  have ho := (Below.refl w1.heap.size w1).alloc (Nat.le_refl _) (.cells #[.int .i64 uc, .slice ua un ucap] 38)
  have K1 := Lib.hid ((K.out.below hb).below ho)
  have HV1 := Lib.hid (hv.below ho)
  have HC1 := Lib.hid (Cells.new w1 38 [.int .i64 uc, .slice ua un ucap])
  clear K hb hv k0 k1 k2 k3 k4 ho
  go_wp2_with fail
  refine (bad_any _ (checkErr h) _ HV1.out (checkErr_pos h)).mono ?_
  rintro e w2 ⟨rfl, hb⟩
  have K2 := Lib.hid (K1.out.below hb)
  have HV2 := Lib.hid (HV1.out.below hb)
  have HE2 := Lib.hid (HC1.out.below hb HC1.out.lt)
  obtain ⟨b9, hb9⟩ : ∃ b9, w1.heap.size = b9 := ⟨_, rfl⟩
  rw [hb9] at HE2 ⊢
  clear K1 HV1 HC1 hb hb9
  cases hnil : (checkErr h).isNil
  · have HNE := Lib.hid (show checkErr h ≠ .nil from fun e => by rw [e] at hnil; simp [EV.isNil] at hnil)
    have HNR := Lib.hid (show nearR h s cols = (0, 0, checkErr h) by unfold nearR; rw [if_pos HNE.out])
    have y0 : w2.cell? ⟨b9, 0, none⟩ = some (.int .i64 uc) := HE2.out.cell rfl
    have y1 : w2.cell? ⟨b9, 1, none⟩ = some (.slice ua un ucap) := HE2.out.cell rfl
    have z0 : w2.cell? ⟨(w.heap.size + 1), 0, none⟩ = some (.int .i64 0) := K2.out.r.cell rfl
    have z1 : w2.cell? ⟨(w.heap.size + 1), 1, none⟩ = some (.slice none 0 0) := K2.out.r.cell rfl
    have g0 := K2.out.r.frozen 0
    have g1 := K2.out.r.frozen 1
    have lr := K2.out.r.lt
    clear hnil
    go_wp2_with fail
    go_region
    all_goals (try dsimp only [Exit.then])
    all_goals go_wp2_with fail
    all_goals refine bodyPost_ret (results_tte rfl _ _ ((w.heap.size + 1)) 38 [.int .i64 uc, .slice ua un ucap] _ rfl ((K2.out.r.drew.set 0 _).set 1 _) Tryz.underlying38 rfl (by rw [Tryz.sizeErr]; rfl)) rfl ?_
    all_goals exact ⟨_, by rw [HNR.out]; rfl, by rw [HNR.out]; exact (HV2.out.below (Below.refl _ _).drew).put K2.out.r.drew _ _, ((K2.out.b.drew).setCell (p := ⟨(w.heap.size + 1), 0, none⟩) (by simp) _).setCell (p := ⟨(w.heap.size + 1), 1, none⟩) (by simp) _⟩
  · have HN := Lib.hid (EV.isNil_iff.1 hnil)
    clear hnil
    go_wp2_with fail
    refine HKK.out _ _ ?_
    change Code.wp _ (tailAt 2 docNearBody) _ _ _
    exact dnear_lists SEE.out SC.out hlc HW.out K2.out HN.out
set_option linter.unusedSimpArgs false in
set_option maxRecDepth 100000 in
set_option maxHeartbeats 8000000 in
/-- **The reference's DocNearest.** -/
theorem rdocnear_any (A : HA) (h : HierD) (s : Int) (cols : List Int) (ca : Option Addr) (cc : Nat) (w : World) (see : HSee w A h) (sc : See w ca cc memInt 1 cols) (hlc : cols.length ≤ 1048576) (hw : s ≤ 9223372036854775807 ∧ WfList cols) (hk1 : h.up.length ≤ 140737488355328) (hk2 : h.dn.length ≤ 140737488355328) (hn64 : h.node.length ≤ 140737488355328) :
    Calls Tryz.prog 14 #[hierVal A h, .int .i64 s, .slice ca cols.length cc] w (RNearNew h s cols w) := by
  have SEE := Lib.hid see
  have SC := Lib.hid sc
  have HW := Lib.hid hw
  have hb0 := ((Below.refl w.heap.size w).alloc (Nat.le_refl _) (.cells (hierCells A h).toArray 25)).alloc (by simp) (.cells errZero.toArray 38)
  have K := Lib.hid (DK.mk (A := A) (h := h) ((Cells.new w 25 (hierCells A h)).alloc (.cells errZero.toArray 38)) (cells_at (by simp) 38 errZero) hb0)
  clear see sc hw hb0
  unfold hierVal
  go_enter Tryz.func14, Tryz.ntmps14
  apply wp_seq_k
  intro K1 hK
  have HK1 := Lib.hid hK
  clear hK
  go_wp2_with fail
  refine HK1.out _ _ ?_
  change Code.wp _ (tailAt 1 docNearBody) _ _ _
  exact dnear_head SEE.out SC.out hlc HW.out K.out hk1 hk2 hn64
end Go.Proofs.YtjbphoophgbmiaaGreatDoor
