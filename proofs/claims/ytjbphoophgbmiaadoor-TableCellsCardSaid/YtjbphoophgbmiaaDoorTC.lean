/- The law TableCells: its walk. -/
import Derived.Test.YtjbphoophgbmiaaDoorT4
import Derived.Test.YtjbphoophgbmiaaDoorM8
import Derived.Test.YtjbphoophgbmiaaDoorM7
import Derived.Deep.RegionHeld3
namespace Go.Proofs.YtjbphoophgbmiaaDoor
open Go.ChangeShapes Go.WideShapes Go.ChangeAt Go.RowKit Go.Joins Go.Deep

noncomputable def tcBody : Code := Tryd.f10.body.getD .skip
theorem of_lenC (A : HA) (h : HierD) (rows cols : List Int) (ra ca : Option Addr) (rc cc : Nat) (w : World) (see : HSee w A h) (sr : See w ra rc memInt 1 rows) (sc : See w ca cc memInt 1 cols) (hlr : rows.length ≤ 12) (hlc : cols.length ≤ 12) (hw : WfList rows ∧ WfList cols) :
    Calls Tryd.prog 37 #[.agg #[.slice A.a0 h.node.length A.c0, .slice A.a1 h.upF.length A.c1, .slice A.a2 h.up.length A.c2, .slice A.a3 h.dnF.length A.c3, .slice A.a4 h.dn.length A.c4], .slice ra rows.length rc, .slice ca cols.length cc] w (OfNew h rows cols w) :=
  of_any A h rows cols ra ca rc cc w see sr sc (by omega) (by omega) hw
theorem near_lenC (A : HA) (h : HierD) (s : Int) (cols : List Int) (ca : Option Addr) (cc : Nat) (w : World) (see : HSee w A h) (sc : See w ca cc memInt 1 cols) (hlc : cols.length ≤ 12) (hw : s ≤ 9223372036854775807 ∧ WfList cols) :
    Calls Tryd.prog 39 #[.agg #[.slice A.a0 h.node.length A.c0, .slice A.a1 h.upF.length A.c1, .slice A.a2 h.up.length A.c2, .slice A.a3 h.dnF.length A.c3, .slice A.a4 h.dn.length A.c4], .int .i64 s, .slice ca cols.length cc] w (NearNew h s cols w) :=
  nearest_any A h s cols ca cc w see sc (by omega) hw
theorem few23_litC (A : HA) (h : HierD) (ra ca : Option Addr) (nr nc rc cc : Nat) (w : World) : Calls Tryd.prog 36 #[.agg #[.slice A.a0 h.node.length A.c0, .slice A.a1 h.upF.length A.c1, .slice A.a2 h.up.length A.c2, .slice A.a3 h.dnF.length A.c3, .slice A.a4 h.dn.length A.c4], .slice ra nr rc, .slice ca nc cc] w (FewTab h nr nc w) := few23_any A h ra ca nr nc rc cc w
theorem qdist_litC (A : HA) (h : HierD) (s t : Int) (w : World) (see : HSee w A h) (hc : checkErr h = .nil) (hs : 0 ≤ s ∧ s < h.node.length) (ht : 0 ≤ t ∧ t < h.node.length) (hs64 : s ≤ 9223372036854775807) (ht64 : t ≤ 9223372036854775807) : Calls Tryd.prog 32 #[.agg #[.slice A.a0 h.node.length A.c0, .slice A.a1 h.upF.length A.c1, .slice A.a2 h.up.length A.c2, .slice A.a3 h.dnF.length A.c3, .slice A.a4 h.dn.length A.c4], .int .i64 s, .int .i64 t] w fun e w' =>
    (∃ v, e = .returned (.tuple #[.int .u64 (tabD h s t), v]) ∧ v = .nilIface ∧ tabD h s t ≠ 18446744073709551615 ∧ Below w.heap.size w w') ∨ (∃ d v, e = .returned (.tuple #[.int .u64 d, v]) ∧ ErrIs w' v (.code 16) ∧ tabD h s t = 18446744073709551615 ∧ Below w.heap.size w w') := by
  refine (distance_any A h s t w see hs64 ht64).mono ?_
  rintro e w1 ⟨r, d, x, v, rfl, hv, hm, hb⟩
  have hk : nodesErr h.node.length s t = .nil := by
    unfold nodesErr
    rw [if_neg (by omega), if_neg (by omega)]
  rcases meet_tab hc hk hm with ⟨rfl, rfl, h3⟩ | ⟨rfl, h3⟩
  · exact .inl ⟨v, rfl, hv.nilv rfl, h3, hb⟩
  · exact .inr ⟨d, v, rfl, hv, h3, hb⟩
theorem nearTo_in {f : Nat → Int} {n : Nat} (hf : ∀ j, j < n → 0 ≤ f j ∧ f j ≤ 18446744073709551615) : ∀ j, j ≤ n → 0 ≤ (nearTo f j).2 ∧ (nearTo f j).2 ≤ 18446744073709551615 := by
  intro j
  induction j with
  | zero => intro _; simp [nearTo]
  | succ j ih =>
    intro hj
    have h1 := ih (by omega)
    have h2 := hf j (by omega)
    unfold nearTo
    split
    · exact h2
    · exact h1
theorem listErr_ok {n : Nat} : ∀ {l : List Int} {k : Nat}, (∀ v ∈ l, 0 ≤ v ∧ v < n) → listErr n l k = .nil := by
  intro l
  induction l with
  | nil => intro k _; rfl
  | cons x l ih =>
    intro k hv
    have := hv x (by simp)
    rw [listErr_cons_ok (by omega)]
    exact ih fun v hm => hv v (by simp [hm])
theorem ErrIs.shape16 {w : World} {v : Value} (h : ErrIs w v (.code 16)) : v = .iface 45 (.int .i64 16) := h
theorem nearR_in {h : HierD} {s : Int} {cols : List Int} (hc : checkErr h = .nil) (hs : 0 ≤ s ∧ s < h.node.length) (hcv : ∀ v ∈ cols, 0 ≤ v ∧ v < h.node.length) : nearR h s cols = if (nearTo (nearF h s cols) cols.length).2 = 18446744073709551615 then (0, 0, .code 16) else ((nearTo (nearF h s cols) cols.length).1, (nearTo (nearF h s cols) cols.length).2, .nil) := by
  have e1 : listErr h.node.length [s] 0 = .nil := listErr_ok (by intro v hv; simp at hv; subst hv; exact hs)
  have e2 : listErr h.node.length cols 1 = .nil := listErr_ok hcv
  unfold nearR
  rw [if_neg (fun e => e hc), e1, e2, if_neg (fun e => e rfl)]

set_option linter.unusedSimpArgs false in
set_option maxRecDepth 100000 in
set_option maxHeartbeats 8000000 in
theorem tc_loop {s0 s4 s5 s6 s8 s9 s10 s11 s12 s13 s14 s15 s16 s17 s18 s19 s20 s21 s22 s23 s24 s25 s26 s27 s28 s29 s30 s31 s32 s33 s34 s35 s36 s37 s38 s39 s40 s41 s42 s43 s44 s45 s46 s47 s48 s49 s50 s51 s52 s53 s54 s55 s56 s57 s58 s59 s60 s61 s62 s63 s64 s65 s66 s67 s68 s69 s70 s71 s72 s73 s74 s75 s76 s77 s78 s79 s80 s81 s82 s83 s84 s85 s86 s87 s88 s89 s90 s91 s92 s93 s94 s95 s96 s97 s98 s99 s100 s101 s102 s103 s104 s105 s106 s107 s108 s109 s110 s111 s112 s113 s114 s115 s116 s117 s118 s119 s120 s121 s122 s123 s124 s125 s126 s127 s128 s129 s130 s131 s132 s133 s134 s135 s136 s137 s138 s139 s140 s141 s142 s143 s144 s145 s146 s147 s148 s149 s150 s151 s152 s153 s154 s155 s156 s157 s158 s159 s160 s161 s162 s163 s164 s165 s166 s167 s168 s169 s170 s171 s172 s173 s174 s175 : Value} {A : HA} {h : HierD} {rows cols : List Int} {ra ca : Option Addr} {rc cc : Nat} {w wx : World} {mo : Option Addr} {mc : Nat} {ro : Nat → Option Addr} {rn : Nat → Nat} (see : HSee w A h) (sr : See w ra rc memInt 1 rows) (sc : See w ca cc memInt 1 cols) (hw : WfList rows ∧ WfList cols) (hr : Reach5 h) (hg : EVar w) (hlr : rows.length ≤ 12) (hlc : cols.length ≤ 12) (hx : Cells wx w.heap.size 25 (hierCells A h)) (hb : Below w.heap.size w wx) (hok : ofErr h rows cols = .nil) (hm : See wx mo mc valC 1 ((List.range rows.length).map fun i => .slice (ro i) cols.length (rn i))) (hm2 : ∀ i, i < rows.length → See wx (ro i) (rn i) u64C 1 ((List.range cols.length).map fun j => tabD h (rows.getD i 0) (cols.getD j 0))) : Code.wp Tryd.prog (tailAt 6 tcBody) (bodyPost Tryd.prog Tryd.f10 (BoolIs true w)) ⟨#[s0, .slice ra rows.length rc, .slice ca cols.length cc, .pointer (some ⟨w.heap.size, 0, none⟩), s4, s5, s6, .slice mo rows.length mc, s8, s9, s10, s11, s12, s13, s14, s15, s16, s17, s18, s19, s20, s21, s22, s23, s24, s25, s26, s27, s28, s29, s30, s31, s32, s33, s34, s35, s36, s37, s38, s39, s40, s41, s42, s43, s44, s45, s46, s47, s48, s49, s50, s51, s52, s53, s54, s55, s56, s57, s58, s59, s60, s61, s62, s63, s64, s65, s66, s67, s68, s69, s70, s71, s72, s73, s74, s75, s76, s77, s78, s79, s80, s81, s82, s83, s84, s85, s86, s87, s88, s89, s90, s91, s92, s93, s94, s95, s96, s97, s98, s99, s100, s101, s102, s103, s104, s105, s106, s107, s108, s109, s110, s111, s112, s113, s114, s115, s116, s117, s118, s119, s120, s121, s122, s123, s124, s125, s126, s127, s128, s129, s130, s131, s132, s133, s134, s135, s136, s137, s138, s139, s140, s141, s142, s143, s144, s145, s146, s147, s148, s149, s150, s151, s152, s153, s154, s155, s156, s157, s158, s159, s160, s161, s162, s163, s164, s165, s166, s167, s168, s169, s170, s171, s172, s173, s174, s175], []⟩ wx := by
  have HC := Lib.hid (of_parts hok).1
  have HRV := Lib.hid (of_parts hok).2.1
  have HCV := Lib.hid (of_parts hok).2.2
  have SEE := Lib.hid see
  have SR := Lib.hid sr
  have SC := Lib.hid sc
  have HW := Lib.hid hw
  have HRE := Lib.hid hr
  have HG := Lib.hid hg
  have HX := Lib.hid hx
  have HB := Lib.hid hb
  clear see sr sc hw hr hg hx hb
  have HM := Lib.hid hm
  have HM2 := Lib.hid hm2
  have HLR := Lib.hid hlr
  have HLC := Lib.hid hlc
  have l1 : rows.length ≤ 9223372036854775807 := by omega
  have l2 : cols.length ≤ 9223372036854775807 := by omega
  clear hok hm hm2 hlr hlc
  conv => arg 2; whnf
  apply wp_seq_k
  intro KK hK
  have HKK := Lib.hid hK
  clear hK
  go_wp2_with fail
  go_loopg [58] rows.length (fun gg vi wr => ∃ (i : Nat), vi = .int .i64 (i : Int) ∧ i ≤ rows.length ∧ gg = rows.length - i ∧ Below wx.heap.size wx wr)
  case atStart => exact ⟨0, rfl, Nat.zero_le _, rfl, Below.refl _ _⟩
  case round =>
    obtain ⟨i, rfl, hi, hgi, hb⟩ := hrel
    obtain ⟨wo, rfl⟩ : ∃ wo : World, wo = wr := ⟨_, rfl⟩
    have HGI := Lib.hid hgi
    have HBO := Lib.hid hb
    clear hgi hb
    by_cases hil : i < rows.length
    · obtain ⟨v, hv⟩ : ∃ v, rows[i]? = some v := ⟨_, List.getElem?_eq_getElem hil⟩
      obtain ⟨hv0, hvn⟩ := HRV.out v (List.mem_of_getElem? hv)
      have hv64 := HW.out.1 v (List.mem_of_getElem? hv)
      have HGD := Lib.hid (show rows.getD i 0 = v by rw [List.getD_eq_getElem?_getD, hv]; rfl)
      have HV := Lib.hid (show (0 ≤ v ∧ v < h.node.length) ∧ v ≤ 9223372036854775807 from ⟨⟨hv0, hvn⟩, hv64⟩)
      obtain ⟨b1, o1, ea1, cc1⟩ := (SR.out.below (HB.out.trans (HBO.out.mono HB.out.size))).cell i _ hv
      have e0 := cc1 0 _ rfl
      rw [Nat.add_zero, Nat.mul_one] at e0
      have EA := Lib.hid ea1
      obtain ⟨b3, o3, ea3, cc3⟩ := (HM.out.below HBO.out).cell i (.slice (ro i) cols.length (rn i)) (by simp [hil])
      have c3 := cc3 0 _ rfl
      rw [Nat.add_zero, Nat.mul_one] at c3
      have EC := Lib.hid ea3
      have t0 : ((cols.length : Int) != (cols.length : Int)) = false := by simp
      have HMI := Lib.hid (HM2.out i hil)
      rw [show (fun j => tabD h (rows.getD i 0) (cols.getD j 0)) = nearF h v cols from by rw [HGD.out]; rfl] at HMI
      clear cc1 ea1 cc3 ea3 hv hv0 hvn hv64
      rw [EA.out, EC.out]
      go_wp2_with fail
      clear e0 c3 t0
      rw [← EA.out]
      obtain ⟨G, hG⟩ : ∃ G : Nat → Int, nearF h v cols = G := ⟨_, rfl⟩
      have hG0 : ∀ j, j < cols.length → 0 ≤ G j ∧ G j ≤ 18446744073709551615 := by
        intro j hj
        rw [← hG]
        obtain ⟨u, hu⟩ : ∃ u, cols[j]? = some u := ⟨_, List.getElem?_eq_getElem hj⟩
        have := HCV.out u (List.mem_of_getElem? hu)
        unfold nearF
        rw [List.getD_eq_getElem?_getD, hu]
        exact tabD_bd HC.out HV.out.1 this
      have HG0 := Lib.hid hG0
      have HGG := Lib.hid hG
      rw [hG] at HMI
      clear hG hG0
      go_loopg [73, 11, 12] cols.length (fun gg vj vb va wr => ∃ (j : Nat), vj = .int .i64 (j : Int) ∧ j ≤ cols.length ∧ gg = cols.length - j ∧ vb = .int .u64 (nearTo G j).2 ∧ va = .int .i64 ((nearTo G j).1 : Nat) ∧ Below wo.heap.size wo wr)
      case atStart => exact ⟨0, rfl, Nat.zero_le _, rfl, rfl, rfl, Below.refl _ _⟩
      case round =>
        obtain ⟨j, rfl, hj, hgj, rfl, rfl, hb⟩ := hrel
        obtain ⟨wp, rfl⟩ : ∃ wp : World, wp = wr := ⟨_, rfl⟩
        have HGJ := Lib.hid hgj
        have HBP := Lib.hid hb
        have HBX := Lib.hid (HBO.out.trans (hb.mono HBO.out.size))
        have HBT := Lib.hid (HB.out.trans (HBX.out.mono HB.out.size))
        have HXP := Lib.hid (HX.out.below HBX.out HX.out.lt)
        clear hgj hb
        by_cases hjl : j < cols.length
        · obtain ⟨u, hu⟩ : ∃ u, cols[j]? = some u := ⟨_, List.getElem?_eq_getElem hjl⟩
          have HU := Lib.hid (show (0 ≤ u ∧ u < h.node.length) ∧ u ≤ 9223372036854775807 from ⟨HCV.out u (List.mem_of_getElem? hu), HW.out.2 u (List.mem_of_getElem? hu)⟩)
          have HGU := Lib.hid (show tabD h v u = G j by rw [← HGG.out]; unfold nearF; rw [List.getD_eq_getElem?_getD, hu]; rfl)
          have HBD := Lib.hid (show 0 ≤ (nearTo G j).2 ∧ (nearTo G j).2 ≤ 18446744073709551615 from nearTo_in HG0.out j hj)
          obtain ⟨b2, o2, ea2, cc2⟩ := (SC.out.below HBT.out).cell j _ hu
          have e0 := cc2 0 _ rfl
          rw [Nat.add_zero, Nat.mul_one] at e0
          have EB := Lib.hid ea2
          obtain ⟨k0, k1, k2, k3, k4⟩ := hier_five HXP.out
          clear cc2 ea2 hu
          obtain ⟨ND, hND⟩ : ∃ ND, nearTo G j = ND := ⟨_, rfl⟩
          have HND := Lib.hid hND
          rw [hND] at HBD ⊢
          clear hND
          rw [EB.out]
          go_wp2_with fail
          refine (qdist_litC A h v u _ (SEE.out.below HBT.out) HC.out HV.out.1 HU.out.1 HV.out.2 HU.out.2).mono ?_
          rw [HGU.out]
          have hGb := HG0.out j hjl
          rintro e w1 (⟨x, rfl, rfl, hne, hb⟩ | ⟨d, x, rfl, hx, hfar, hb⟩)
          · have HB1 := Lib.hid (HBP.out.trans (hb.mono HBP.out.size))
            obtain ⟨b4, o4, ea4, cc4⟩ := (HM.out.below (HBO.out.trans (HB1.out.mono HBO.out.size))).cell i (.slice (ro i) cols.length (rn i)) (by simp [hil])
            have c4 := cc4 0 _ rfl
            rw [Nat.add_zero, Nat.mul_one] at c4
            obtain rfl : b4 = b3 := by have := ea4.symm.trans EC.out; simp at this; exact this.1
            obtain rfl : o4 = o3 := by have := ea4.symm.trans EC.out; simp at this; exact this
            obtain ⟨b5, o5, ea5, cc5⟩ := (HMI.out.below (HBO.out.trans (HB1.out.mono HBO.out.size))).cell j (G j) (by simp [hjl])
            have c5 := cc5 0 _ rfl
            rw [Nat.add_zero, Nat.mul_one] at c5
            rw [ea5] at c4
            have HNE := Lib.hid hne
            obtain ⟨dd, hdd⟩ : ∃ dd, G j = dd := ⟨_, rfl⟩
            have HDD := Lib.hid hdd
            rw [hdd] at c5 hGb ⊢
            have t1 : (dd == dd) = true := by simp
            have t2 : (dd != dd) = false := by simp
            clear hb cc4 ea4 cc5 ea5 hdd hne e0 k0 k1 k2 k3 k4
            by_cases hlt : dd < ND.2
            · have t3 : decide (dd < ND.2) = true := by simpa using hlt
              have HLT := Lib.hid hlt
              clear hlt
              go_wp2_with fail
              clear c4 c5 t1 t2 t3 hGb
              rw [← EB.out]
              go_roundg (cols.length - (j + 1))
              case measure => rw [HGJ.out]; omega
              case rel =>
                have hn : nearTo G (j + 1) = (j, dd) := by
                  show (if G j < (nearTo G j).2 then (j, G j) else nearTo G j) = (j, dd)
                  rw [HND.out, HDD.out, if_pos HLT.out]
                exact ⟨j + 1, by go_num, by omega, rfl, by rw [hn], by rw [hn], HB1.out⟩
            · have t3 : decide (dd < ND.2) = false := by simpa using hlt
              have HLT := Lib.hid hlt
              clear hlt
              go_wp2_with fail
              clear c4 c5 t1 t2 t3 hGb
              rw [← EB.out]
              go_roundg (cols.length - (j + 1))
              case measure => rw [HGJ.out]; omega
              case rel =>
                have hn : nearTo G (j + 1) = ND := by
                  show (if G j < (nearTo G j).2 then (j, G j) else nearTo G j) = ND
                  rw [HND.out, HDD.out, if_neg (by have := HLT.out; omega)]
                exact ⟨j + 1, by go_num, by omega, rfl, by rw [hn], by rw [hn], HB1.out⟩
          · have HB1 := Lib.hid (HBP.out.trans (hb.mono HBP.out.size))
            have HXE := Lib.hid hx
            obtain ⟨b4, o4, ea4, cc4⟩ := (HM.out.below (HBO.out.trans (HB1.out.mono HBO.out.size))).cell i (.slice (ro i) cols.length (rn i)) (by simp [hil])
            have c4' := cc4 0 _ rfl
            rw [Nat.add_zero, Nat.mul_one] at c4'
            obtain rfl : b4 = b3 := by have := ea4.symm.trans EC.out; simp at this; exact this.1
            obtain rfl : o4 = o3 := by have := ea4.symm.trans EC.out; simp at this; exact this
            obtain ⟨b5, o5, ea5, cc5⟩ := (HMI.out.below (HBO.out.trans (HB1.out.mono HBO.out.size))).cell j (G j) (by simp [hjl])
            have c5' := cc5 0 _ rfl
            rw [Nat.add_zero, Nat.mul_one] at c5'
            rw [ea5] at c4'
            rw [hfar] at c5'
            have HDD := Lib.hid hfar
            have C4 := Lib.hid c4'
            have C5 := Lib.hid c5'
            clear hb hx cc4 ea4 cc5 ea5 e0 k0 k1 k2 k3 k4 c4' c5' hGb
            obtain rfl := HXE.out.shape16
            go_wp2_with fail
            refine (e_any 16 _).mono ?_
            rintro e w2 ⟨q, rfl, hq, hb⟩
            have HQ := Lib.hid hq
            have HXE2 := Lib.hid (HXE.out.below hb)
            have c42 := ck hb C4.out
            have c52 := ck hb C5.out
            have C42 := Lib.hid c42
            have C52 := Lib.hid c52
            have HB2 := Lib.hid (HB1.out.trans (hb.mono HB1.out.size))
            clear hb hq c42 c52 HXE C4 C5 HB1
            go_wp2_with fail
            refine (same_any (.code 16) _ _ _ (by simp [EV.pos]) (HG.out.below (HB.out.trans ((HBO.out.trans (HB2.out.mono HBO.out.size)).mono HB.out.size))) HXE2.out HQ.out).mono ?_
            rintro e w3 ⟨rfl, hb⟩
            have c4 := ck hb C42.out
            have c5 := ck hb C52.out
            have HB1 := Lib.hid (HB2.out.trans (hb.mono HB2.out.size))
            clear hb HXE2 HQ C42 C52 HB2
            have hlt : decide ((18446744073709551615 : Int) < ND.2) = false := by have := HBD.out; simp; omega
            go_wp2_with fail
            clear c4 c5 hlt
            rw [← EB.out]
            go_roundg (cols.length - (j + 1))
            case measure => rw [HGJ.out]; omega
            case rel =>
              have hn : nearTo G (j + 1) = ND := by
                show (if G j < (nearTo G j).2 then (j, G j) else nearTo G j) = ND
                rw [HND.out, HDD.out, if_neg (by have := HBD.out; omega)]
              exact ⟨j + 1, by go_num, by omega, rfl, by rw [hn], by rw [hn], HB1.out⟩
        · obtain rfl : j = cols.length := by omega
          obtain ⟨k0, k1, k2, k3, k4⟩ := hier_five HXP.out
          have HNR0 := nearR_in HC.out HV.out.1 HCV.out
          rw [HGG.out] at HNR0
          obtain ⟨ND, hND⟩ : ∃ ND, nearTo G cols.length = ND := ⟨_, rfl⟩
          rw [hND] at HNR0 ⊢
          have HNR := Lib.hid HNR0
          have L5 := Lib.hid (show cols.length * 8 ≤ 140737488355328 from by have := HLC.out; omega)
          clear HNR0 hND
          go_wp2_with fail
          go_region_held3 (fun W => W.cell? ⟨w.heap.size, 0, none⟩ = some (.slice A.a0 h.node.length A.c0) ∧ W.cell? ⟨w.heap.size, 1, none⟩ = some (.slice A.a1 h.upF.length A.c1) ∧ W.cell? ⟨w.heap.size, 2, none⟩ = some (.slice A.a2 h.up.length A.c2) ∧ W.cell? ⟨w.heap.size, 3, none⟩ = some (.slice A.a3 h.dnF.length A.c3) ∧ W.cell? ⟨w.heap.size, 4, none⟩ = some (.slice A.a4 h.dn.length A.c4)) (go_keep)
            (first
            | (go_at_call 38; (with_reducible refine (twinints_any cols ca cc _ ?_ L5.out).mono ?_); exact (SC.out.below (HBT.out.drew)); rintro e w1 ⟨o7, c7, rfl, s1, -, hb⟩; (have hb1 := (HBT.out.drew).trans (hb.mono (HBT.out.drew).size)); (have hx1 : Below wp.heap.size wp w1 := ((Below.refl wp.heap.size wp).drew).trans (hb.mono (Nat.le_refl _))); (have m0 := ck hx1 k0); (have m1 := ck hx1 k1); (have m2 := ck hx1 k2); (have m3 := ck hx1 k3); (have m4 := ck hx1 k4); (have HB1 := Lib.hid hb1); (have HX1 := Lib.hid hx1); (have RS1 := Lib.hid s1); (clear hb hb1 hx1 s1))
            | (go_at_call 39; (with_reducible refine (near_lenC A h v cols _ _ _ ?_ RS1.out HLC.out ⟨HV.out.2, HW.out.2⟩).mono ?_); exact (SEE.out.below HB1.out); rintro e w2 ⟨x, rfl, hx, hb⟩; (have n0 := ck hb m0); (have n1 := ck hb m1); (have n2 := ck hb m2); (have n3 := ck hb m3); (have n4 := ck hb m4); (have HB2 := Lib.hid (HX1.out.trans (hb.mono HX1.out.size))); (have HXE := Lib.hid hx); (clear hb hx)))
          clear k0 k1 k2 k3 k4 m0 m1 m2 m3 m4 n0 n1 n2 n3 n4
          have HBE := Lib.hid (HBX.out.trans (HB2.out.mono HBX.out.size))
          have hxe := HXE.out
          clear HXE
          by_cases hfar : ND.2 = 18446744073709551615
          · rw [HNR.out, if_pos hfar] at hxe ⊢
            rw [hfar]
            have HXE := Lib.hid (show ErrIs w2 x (.code 16) from hxe)
            clear hxe hfar
            go_wp2_with fail
            refine (e_any 16 _).mono ?_
            rintro e w3 ⟨q, rfl, hq, hb⟩
            have HQ := Lib.hid hq
            have HXE2 := Lib.hid (HXE.out.below hb)
            have HB3 := Lib.hid (HBE.out.trans (hb.mono HBE.out.size))
            clear hb hq HXE
            go_wp2_with fail
            refine (same_any (.code 16) _ _ _ (by simp [EV.pos]) (HG.out.below (HB.out.trans (HB3.out.mono HB.out.size))) HXE2.out HQ.out).mono ?_
            rintro e w4 ⟨rfl, hb⟩
            have HB4 := Lib.hid (HB3.out.trans (hb.mono HB3.out.size))
            clear hb HXE2 HQ
            go_wp2_with fail
            rw [← EC.out]
            go_roundg (rows.length - (i + 1))
            case measure => rw [HGI.out]; omega
            case rel => exact ⟨i + 1, by go_num, by omega, rfl, HB4.out⟩
          · rw [HNR.out, if_neg hfar] at hxe ⊢
            have hn : x = .nilIface := hxe
            obtain rfl := hn
            have t1 : (ND.2 == 18446744073709551615) = false := by simpa using hfar
            have t2 : ((ND.1 : Int) != (ND.1 : Int)) = false := by simp
            have t3 : (ND.2 != ND.2) = false := by simp
            clear hxe hfar
            go_wp2_with fail
            rw [← EC.out]
            clear t1 t2 t3
            go_roundg (rows.length - (i + 1))
            case measure => rw [HGI.out]; omega
            case rel => exact ⟨i + 1, by go_num, by omega, rfl, HBE.out⟩
    · obtain rfl : i = rows.length := by omega
      go_wp2_with fail
      refine HKK.out _ _ ?_
      clear HKK
      conv => arg 2; whnf
      go_wp2
      go_returns
      exact ⟨rfl, HB.out.trans (HBO.out.mono HB.out.size)⟩

set_option linter.unusedSimpArgs false in
set_option maxRecDepth 100000 in
set_option maxHeartbeats 8000000 in
theorem tc_ok {s0 s4 s5 s6 s9 s10 s11 s12 s13 s14 s15 s16 s17 s18 s19 s20 s21 s22 s23 s24 s25 s26 s27 s28 s29 s30 s31 s32 s33 s34 s35 s36 s37 s38 s39 s40 s41 s42 s43 s44 s45 s46 s47 s48 s49 s50 s51 s52 s53 s54 s55 s56 s57 s58 s59 s60 s61 s62 s63 s64 s65 s66 s67 s68 s69 s70 s71 s72 s73 s74 s75 s76 s77 s78 s79 s80 s81 s82 s83 s84 s85 s86 s87 s88 s89 s90 s91 s92 s93 s94 s95 s96 s97 s98 s99 s100 s101 s102 s103 s104 s105 s106 s107 s108 s109 s110 s111 s112 s113 s114 s115 s116 s117 s118 s119 s120 s121 s122 s123 s124 s125 s126 s127 s128 s129 s130 s131 s132 s133 s134 s135 s136 s137 s138 s139 s140 s141 s142 s143 s144 s145 s146 s147 s148 s149 s150 s151 s152 s153 s154 s155 s156 s157 s158 s159 s160 s161 s162 s163 s164 s165 s166 s167 s168 s169 s170 s171 s172 s173 s174 s175 : Value} {A : HA} {h : HierD} {rows cols : List Int} {ra ca : Option Addr} {rc cc : Nat} {w wx : World} {m v : Value} (see : HSee w A h) (sr : See w ra rc memInt 1 rows) (sc : See w ca cc memInt 1 cols) (hw : WfList rows ∧ WfList cols) (hr : Reach5 h) (hg : EVar w) (hlr : rows.length ≤ 12) (hlc : cols.length ≤ 12) (hx : Cells wx w.heap.size 25 (hierCells A h)) (hb : Below w.heap.size w wx) (hv : ErrIs wx v (ofErr h rows cols)) (hm0 : ofErr h rows cols ≠ .nil → m = .slice none 0 0) (hm1 : ofErr h rows cols = .nil → MSee rows.length cols.length (fun i j => tabD h (rows.getD i 0) (cols.getD j 0)) m wx) : Code.wp Tryd.prog (tailAt 4 tcBody) (bodyPost Tryd.prog Tryd.f10 (BoolIs true w)) ⟨#[s0, .slice ra rows.length rc, .slice ca cols.length cc, .pointer (some ⟨w.heap.size, 0, none⟩), s4, s5, s6, m, v, s9, s10, s11, s12, s13, s14, s15, s16, s17, s18, s19, s20, s21, s22, s23, s24, s25, s26, s27, s28, s29, s30, s31, s32, s33, s34, s35, s36, s37, s38, s39, s40, s41, s42, s43, s44, s45, s46, s47, s48, s49, s50, s51, s52, s53, s54, s55, s56, s57, s58, s59, s60, s61, s62, s63, s64, s65, s66, s67, s68, s69, s70, s71, s72, s73, s74, s75, s76, s77, s78, s79, s80, s81, s82, s83, s84, s85, s86, s87, s88, s89, s90, s91, s92, s93, s94, s95, s96, s97, s98, s99, s100, s101, s102, s103, s104, s105, s106, s107, s108, s109, s110, s111, s112, s113, s114, s115, s116, s117, s118, s119, s120, s121, s122, s123, s124, s125, s126, s127, s128, s129, s130, s131, s132, s133, s134, s135, s136, s137, s138, s139, s140, s141, s142, s143, s144, s145, s146, s147, s148, s149, s150, s151, s152, s153, s154, s155, s156, s157, s158, s159, s160, s161, s162, s163, s164, s165, s166, s167, s168, s169, s170, s171, s172, s173, s174, s175], []⟩ wx := by
  have SEE := Lib.hid see
  have SR := Lib.hid sr
  have SC := Lib.hid sc
  have HW := Lib.hid hw
  have HRE := Lib.hid hr
  have HG := Lib.hid hg
  have HX := Lib.hid hx
  have HB := Lib.hid hb
  clear see sr sc hw hr hg hx hb
  have HLR := Lib.hid hlr
  have HLC := Lib.hid hlc
  clear hlr hlc
  by_cases hok : ofErr h rows cols = .nil
  · obtain ⟨mo, mc, ro, rn, rfl, h3, h4⟩ := (hm1 hok).ex
    rw [hok] at hv
    have hn : v = .nilIface := hv
    obtain rfl := hn
    have HOK := Lib.hid hok
    have H3 := Lib.hid h3
    have H4 := Lib.hid h4
    have t0 : ((rows.length : Int) != (rows.length : Int)) = false := by simp
    clear hok hv hm0 hm1 h3 h4
    conv => arg 2; whnf
    apply wp_seq_k
    intro KK hK
    have HKK := Lib.hid hK
    clear hK
    go_wp2_with fail
    refine HKK.out _ _ ?_
    clear HKK KK
    conv => arg 2; whnf
    apply wp_seq_k
    intro KK hK
    have HKK := Lib.hid hK
    clear hK
    go_wp2_with fail
    refine HKK.out _ _ ?_
    change Code.wp _ (tailAt 6 tcBody) _ _ _
    exact tc_loop SEE.out SR.out SC.out HW.out HRE.out HG.out HLR.out HLC.out HX.out HB.out HOK.out H3.out H4.out
  · obtain rfl := hm0 hok
    have hne : v ≠ .nilIface := fun e => hok (by
      subst e
      revert hv
      cases ofErr h rows cols with
      | nil => intro _; rfl
      | code n => intro h; cases h
      | «at» k i n => rintro ⟨b, h, -⟩; cases h)
    obtain ⟨t, u, rfl⟩ := hv.shape.resolve_left hne
    clear hok hv hm0 hm1 hne
    conv => arg 2; whnf
    go_wp2
    go_returns
    exact ⟨rfl, HB.out⟩

set_option linter.unusedSimpArgs false in
set_option maxRecDepth 100000 in
set_option maxHeartbeats 8000000 in
theorem tc_call {s0 s4 s5 s6 s7 s8 s9 s10 s11 s12 s13 s14 s15 s16 s17 s18 s19 s20 s21 s22 s23 s24 s25 s26 s27 s28 s29 s30 s31 s32 s33 s34 s35 s36 s37 s38 s39 s40 s41 s42 s43 s44 s45 s46 s47 s48 s49 s50 s51 s52 s53 s54 s55 s56 s57 s58 s59 s60 s61 s62 s63 s64 s65 s66 s67 s68 s69 s70 s71 s72 s73 s74 s75 s76 s77 s78 s79 s80 s81 s82 s83 s84 s85 s86 s87 s88 s89 s90 s91 s92 s93 s94 s95 s96 s97 s98 s99 s100 s101 s102 s103 s104 s105 s106 s107 s108 s109 s110 s111 s112 s113 s114 s115 s116 s117 s118 s119 s120 s121 s122 s123 s124 s125 s126 s127 s128 s129 s130 s131 s132 s133 s134 s135 s136 s137 s138 s139 s140 s141 s142 s143 s144 s145 s146 s147 s148 s149 s150 s151 s152 s153 s154 s155 s156 s157 s158 s159 s160 s161 s162 s163 s164 s165 s166 s167 s168 s169 s170 s171 s172 s173 s174 s175 : Value} {A : HA} {h : HierD} {rows cols : List Int} {ra ca : Option Addr} {rc cc : Nat} {w wx : World} (see : HSee w A h) (sr : See w ra rc memInt 1 rows) (sc : See w ca cc memInt 1 cols) (hw : WfList rows ∧ WfList cols) (hr : Reach5 h) (hg : EVar w) (hlr : rows.length ≤ 12) (hlc : cols.length ≤ 12) (hx : Cells wx w.heap.size 25 (hierCells A h)) (hb : Below w.heap.size w wx) : Code.wp Tryd.prog (tailAt 3 tcBody) (bodyPost Tryd.prog Tryd.f10 (BoolIs true w)) ⟨#[s0, .slice ra rows.length rc, .slice ca cols.length cc, .pointer (some ⟨w.heap.size, 0, none⟩), s4, s5, s6, s7, s8, s9, s10, s11, s12, s13, s14, s15, s16, s17, s18, s19, s20, s21, s22, s23, s24, s25, s26, s27, s28, s29, s30, s31, s32, s33, s34, s35, s36, s37, s38, s39, s40, s41, s42, s43, s44, s45, s46, s47, s48, s49, s50, s51, s52, s53, s54, s55, s56, s57, s58, s59, s60, s61, s62, s63, s64, s65, s66, s67, s68, s69, s70, s71, s72, s73, s74, s75, s76, s77, s78, s79, s80, s81, s82, s83, s84, s85, s86, s87, s88, s89, s90, s91, s92, s93, s94, s95, s96, s97, s98, s99, s100, s101, s102, s103, s104, s105, s106, s107, s108, s109, s110, s111, s112, s113, s114, s115, s116, s117, s118, s119, s120, s121, s122, s123, s124, s125, s126, s127, s128, s129, s130, s131, s132, s133, s134, s135, s136, s137, s138, s139, s140, s141, s142, s143, s144, s145, s146, s147, s148, s149, s150, s151, s152, s153, s154, s155, s156, s157, s158, s159, s160, s161, s162, s163, s164, s165, s166, s167, s168, s169, s170, s171, s172, s173, s174, s175], []⟩ wx := by
  have SEE := Lib.hid see
  have SR := Lib.hid sr
  have SC := Lib.hid sc
  have HW := Lib.hid hw
  have HRE := Lib.hid hr
  have HG := Lib.hid hg
  have HX := Lib.hid hx
  have HB := Lib.hid hb
  clear see sr sc hw hr hg hx hb
  have L4 := Lib.hid (show rows.length * 8 ≤ 140737488355328 by omega)
  have L5 := Lib.hid (show cols.length * 8 ≤ 140737488355328 by omega)
  have HLR := Lib.hid hlr
  have HLC := Lib.hid hlc
  clear hlr hlc
  obtain ⟨k0, k1, k2, k3, k4⟩ := hier_five HX.out
  conv => arg 2; whnf
  apply wp_seq_k
  intro KK hK
  have HKK := Lib.hid hK
  clear hK
  go_wp2_with fail
  go_region_held3 (fun W => W.cell? ⟨w.heap.size, 0, none⟩ = some (.slice A.a0 h.node.length A.c0) ∧ W.cell? ⟨w.heap.size, 1, none⟩ = some (.slice A.a1 h.upF.length A.c1) ∧ W.cell? ⟨w.heap.size, 2, none⟩ = some (.slice A.a2 h.up.length A.c2) ∧ W.cell? ⟨w.heap.size, 3, none⟩ = some (.slice A.a3 h.dnF.length A.c3) ∧ W.cell? ⟨w.heap.size, 4, none⟩ = some (.slice A.a4 h.dn.length A.c4)) (go_keep)
    (first
    | (go_at_call 38; (with_reducible refine (twinints_any rows ra rc _ ?_ L4.out).mono ?_); exact (SR.out.below (HB.out.drew)); rintro e w1 ⟨o7, c7, rfl, s1, -, hb⟩; (have hb1 := (HB.out.drew).trans (hb.mono (HB.out.drew).size)); (have hx1 : Below wx.heap.size wx w1 := ((Below.refl wx.heap.size wx).drew).trans (hb.mono (Nat.le_refl _))); (have m0 := ck hx1 k0); (have m1 := ck hx1 k1); (have m2 := ck hx1 k2); (have m3 := ck hx1 k3); (have m4 := ck hx1 k4); (have HB1 := Lib.hid hb1); (have HX1 := Lib.hid hx1); (have RS1 := Lib.hid s1); (clear hb hb1 hx1 s1))
    | (go_at_call 38; (with_reducible refine (twinints_any cols ca cc _ ?_ L5.out).mono ?_); exact (SC.out.below HB1.out); rintro e w2 ⟨o8, c8, rfl, s2, -, hb⟩; (have n0 := ck hb m0); (have n1 := ck hb m1); (have n2 := ck hb m2); (have n3 := ck hb m3); (have n4 := ck hb m4); (have HB2 := Lib.hid (HB1.out.trans (hb.mono HB1.out.size))); (have HX2 := Lib.hid (HX1.out.trans (hb.mono HX1.out.size))); (have RS2 := Lib.hid (RS1.out.below hb)); (have CS2 := Lib.hid s2); (clear hb s2))
    | (go_at_call 37; (with_reducible refine (of_lenC A h rows cols _ _ _ _ _ ?_ RS2.out CS2.out HLR.out HLC.out HW.out).mono ?_); exact (SEE.out.below HB2.out); rintro e w3 ⟨mv, ev, rfl, hv, hb, hm0, hm1⟩; (have p0 := ck hb n0); (have p1 := ck hb n1); (have p2 := ck hb n2); (have p3 := ck hb n3); (have p4 := ck hb n4); (have HB3 := Lib.hid (HB2.out.trans (hb.mono HB2.out.size))); (have HX3 := Lib.hid (HX2.out.trans (hb.mono HX2.out.size))); (have HV := Lib.hid hv); (have HM0 := Lib.hid hm0); (have HM1 := Lib.hid hm1); (clear hb hv hm0 hm1)))
  refine HKK.out _ _ ?_
  change Code.wp _ (tailAt 4 tcBody) _ _ _
  exact tc_ok SEE.out SR.out SC.out HW.out HRE.out HG.out HLR.out HLC.out (HX.out.below HX3.out HX.out.lt) HB3.out HV.out HM0.out (fun e => by
    obtain ⟨rb, ht⟩ := HM1.out e
    exact ht.see (by have := HLC.out; unfold maxLen; omega))
set_option linter.unusedSimpArgs false in
set_option maxRecDepth 100000 in
set_option maxHeartbeats 8000000 in
theorem tc_few {s0 s4 s5 s6 s7 s8 s9 s10 s11 s12 s13 s14 s15 s16 s17 s18 s19 s20 s21 s22 s23 s24 s25 s26 s27 s28 s29 s30 s31 s32 s33 s34 s35 s36 s37 s38 s39 s40 s41 s42 s43 s44 s45 s46 s47 s48 s49 s50 s51 s52 s53 s54 s55 s56 s57 s58 s59 s60 s61 s62 s63 s64 s65 s66 s67 s68 s69 s70 s71 s72 s73 s74 s75 s76 s77 s78 s79 s80 s81 s82 s83 s84 s85 s86 s87 s88 s89 s90 s91 s92 s93 s94 s95 s96 s97 s98 s99 s100 s101 s102 s103 s104 s105 s106 s107 s108 s109 s110 s111 s112 s113 s114 s115 s116 s117 s118 s119 s120 s121 s122 s123 s124 s125 s126 s127 s128 s129 s130 s131 s132 s133 s134 s135 s136 s137 s138 s139 s140 s141 s142 s143 s144 s145 s146 s147 s148 s149 s150 s151 s152 s153 s154 s155 s156 s157 s158 s159 s160 s161 s162 s163 s164 s165 s166 s167 s168 s169 s170 s171 s172 s173 s174 s175 : Value} {A : HA} {h : HierD} {rows cols : List Int} {ra ca : Option Addr} {rc cc : Nat} {w wx : World} (see : HSee w A h) (sr : See w ra rc memInt 1 rows) (sc : See w ca cc memInt 1 cols) (hw : WfList rows ∧ WfList cols) (hr : Reach5 h) (hg : EVar w) (hx : Cells wx w.heap.size 25 (hierCells A h)) (hb : Below w.heap.size w wx) : Code.wp Tryd.prog (tailAt 2 tcBody) (bodyPost Tryd.prog Tryd.f10 (BoolIs true w)) ⟨#[s0, .slice ra rows.length rc, .slice ca cols.length cc, .pointer (some ⟨w.heap.size, 0, none⟩), s4, s5, s6, s7, s8, s9, s10, s11, s12, s13, s14, s15, s16, s17, s18, s19, s20, s21, s22, s23, s24, s25, s26, s27, s28, s29, s30, s31, s32, s33, s34, s35, s36, s37, s38, s39, s40, s41, s42, s43, s44, s45, s46, s47, s48, s49, s50, s51, s52, s53, s54, s55, s56, s57, s58, s59, s60, s61, s62, s63, s64, s65, s66, s67, s68, s69, s70, s71, s72, s73, s74, s75, s76, s77, s78, s79, s80, s81, s82, s83, s84, s85, s86, s87, s88, s89, s90, s91, s92, s93, s94, s95, s96, s97, s98, s99, s100, s101, s102, s103, s104, s105, s106, s107, s108, s109, s110, s111, s112, s113, s114, s115, s116, s117, s118, s119, s120, s121, s122, s123, s124, s125, s126, s127, s128, s129, s130, s131, s132, s133, s134, s135, s136, s137, s138, s139, s140, s141, s142, s143, s144, s145, s146, s147, s148, s149, s150, s151, s152, s153, s154, s155, s156, s157, s158, s159, s160, s161, s162, s163, s164, s165, s166, s167, s168, s169, s170, s171, s172, s173, s174, s175], []⟩ wx := by
  have SEE := Lib.hid see
  have SR := Lib.hid sr
  have SC := Lib.hid sc
  have HW := Lib.hid hw
  have HRE := Lib.hid hr
  have HG := Lib.hid hg
  have HX := Lib.hid hx
  have HB := Lib.hid hb
  clear see sr sc hw hr hg hx hb
  obtain ⟨k0, k1, k2, k3, k4⟩ := hier_five HX.out
  conv => arg 2; whnf
  apply wp_seq_k
  intro KK hK
  have HKK := Lib.hid hK
  clear hK
  go_wp2_with fail
  refine (few23_litC A h ra ca rows.length cols.length rc cc _).mono ?_
  rintro e w1 ⟨b, rfl, -, hb1⟩
  have HX1 := Lib.hid (HX.out.below hb1 HX.out.lt)
  have HB1 := Lib.hid (HB.out.trans (hb1.mono HB.out.size))
  clear hb1 HX HB k0 k1 k2 k3 k4
  cases b
  · go_wp2
    go_returns
    exact ⟨rfl, HB1.out⟩
  · by_cases hlr : rows.length ≤ 12
    · have t1 : decide ((12 : Int) < (rows.length : Int)) = false := by simp; omega
      have HLR := Lib.hid hlr
      clear hlr
      by_cases hlc : cols.length ≤ 12
      · have t2 : decide ((12 : Int) < (cols.length : Int)) = false := by simp; omega
        have HLC := Lib.hid hlc
        clear hlc
        go_wp2_with fail
        refine HKK.out _ _ ?_
        change Code.wp _ (tailAt 3 tcBody) _ _ _
        exact tc_call SEE.out SR.out SC.out HW.out HRE.out HG.out HLR.out HLC.out HX1.out HB1.out
      · have t2 : decide ((12 : Int) < (cols.length : Int)) = true := by simp; omega
        clear hlc
        go_wp2
        go_returns
        exact ⟨rfl, HB1.out⟩
    · have t1 : decide ((12 : Int) < (rows.length : Int)) = true := by simp; omega
      clear hlr
      go_wp2
      go_returns
      exact ⟨rfl, HB1.out⟩
set_option linter.unusedSimpArgs false in
set_option maxRecDepth 100000 in
set_option maxHeartbeats 8000000 in
theorem tc_awake {s0 s4 s5 s6 s7 s8 s9 s10 s11 s12 s13 s14 s15 s16 s17 s18 s19 s20 s21 s22 s23 s24 s25 s26 s27 s28 s29 s30 s31 s32 s33 s34 s35 s36 s37 s38 s39 s40 s41 s42 s43 s44 s45 s46 s47 s48 s49 s50 s51 s52 s53 s54 s55 s56 s57 s58 s59 s60 s61 s62 s63 s64 s65 s66 s67 s68 s69 s70 s71 s72 s73 s74 s75 s76 s77 s78 s79 s80 s81 s82 s83 s84 s85 s86 s87 s88 s89 s90 s91 s92 s93 s94 s95 s96 s97 s98 s99 s100 s101 s102 s103 s104 s105 s106 s107 s108 s109 s110 s111 s112 s113 s114 s115 s116 s117 s118 s119 s120 s121 s122 s123 s124 s125 s126 s127 s128 s129 s130 s131 s132 s133 s134 s135 s136 s137 s138 s139 s140 s141 s142 s143 s144 s145 s146 s147 s148 s149 s150 s151 s152 s153 s154 s155 s156 s157 s158 s159 s160 s161 s162 s163 s164 s165 s166 s167 s168 s169 s170 s171 s172 s173 s174 s175 : Value} {A : HA} {h : HierD} {rows cols : List Int} {ra ca : Option Addr} {rc cc : Nat} {w wx : World} (see : HSee w A h) (sr : See w ra rc memInt 1 rows) (sc : See w ca cc memInt 1 cols) (hw : WfList rows ∧ WfList cols) (hr : Reach5 h) (hg : EVar w) (hx : Cells wx w.heap.size 25 (hierCells A h)) (hb : Below w.heap.size w wx) : Code.wp Tryd.prog (tailAt 1 tcBody) (bodyPost Tryd.prog Tryd.f10 (BoolIs true w)) ⟨#[s0, .slice ra rows.length rc, .slice ca cols.length cc, .pointer (some ⟨w.heap.size, 0, none⟩), s4, s5, s6, s7, s8, s9, s10, s11, s12, s13, s14, s15, s16, s17, s18, s19, s20, s21, s22, s23, s24, s25, s26, s27, s28, s29, s30, s31, s32, s33, s34, s35, s36, s37, s38, s39, s40, s41, s42, s43, s44, s45, s46, s47, s48, s49, s50, s51, s52, s53, s54, s55, s56, s57, s58, s59, s60, s61, s62, s63, s64, s65, s66, s67, s68, s69, s70, s71, s72, s73, s74, s75, s76, s77, s78, s79, s80, s81, s82, s83, s84, s85, s86, s87, s88, s89, s90, s91, s92, s93, s94, s95, s96, s97, s98, s99, s100, s101, s102, s103, s104, s105, s106, s107, s108, s109, s110, s111, s112, s113, s114, s115, s116, s117, s118, s119, s120, s121, s122, s123, s124, s125, s126, s127, s128, s129, s130, s131, s132, s133, s134, s135, s136, s137, s138, s139, s140, s141, s142, s143, s144, s145, s146, s147, s148, s149, s150, s151, s152, s153, s154, s155, s156, s157, s158, s159, s160, s161, s162, s163, s164, s165, s166, s167, s168, s169, s170, s171, s172, s173, s174, s175], []⟩ wx := by
  have SEE := Lib.hid see
  have SR := Lib.hid sr
  have SC := Lib.hid sc
  have HW := Lib.hid hw
  have HRE := Lib.hid hr
  have HG := Lib.hid hg
  have HX := Lib.hid hx
  have HB := Lib.hid hb
  clear see sr sc hw hr hg hx hb
  conv => arg 2; whnf
  apply wp_seq_k
  intro KK hK
  have HKK := Lib.hid hK
  clear hK
  go_wp2_with fail
  refine (awake23_any _).mono ?_
  rintro e w1 ⟨rfl, hb1⟩
  have HX1 := Lib.hid (HX.out.below hb1 HX.out.lt)
  have HB1 := Lib.hid (HB.out.trans (hb1.mono HB.out.size))
  clear hb1 HX HB
  go_wp2_with fail
  refine HKK.out _ _ ?_
  change Code.wp _ (tailAt 2 tcBody) _ _ _
  exact tc_few SEE.out SR.out SC.out HW.out HRE.out HG.out HX1.out HB1.out
set_option linter.unusedSimpArgs false in
set_option maxRecDepth 100000 in
set_option maxHeartbeats 8000000 in
/-- **TableCells.** -/
theorem tableCells_any (A : HA) (h : HierD) (rows cols : List Int) (ra ca : Option Addr) (rc cc : Nat) (w : World) (hg : EVar w) (see : HSee w A h) (sr : See w ra rc memInt 1 rows) (sc : See w ca cc memInt 1 cols) (hw : WfList rows ∧ WfList cols) (hr : Reach5 h) : Calls Tryd.prog 10 #[hierVal A h, .slice ra rows.length rc, .slice ca cols.length cc] w (BoolIs true w) := by
  have SEE := Lib.hid see
  have SR := Lib.hid sr
  have SC := Lib.hid sc
  have HW := Lib.hid hw
  have HRE := Lib.hid hr
  have HG := Lib.hid hg
  clear see sr sc hw hr hg
  unfold hierVal
  go_enter Tryd.func10, Tryd.ntmps10
  apply wp_seq_k
  intro K1 hK
  have HK1 := Lib.hid hK
  clear hK
  go_wp2_with fail
  refine HK1.out _ _ ?_
  change Code.wp _ (tailAt 1 tcBody) _ _ _
  exact tc_awake SEE.out SR.out SC.out HW.out HRE.out HG.out (Cells.new w 25 (hierCells A h)) ((Below.refl w.heap.size w).alloc (Nat.le_refl _) _)
end Go.Proofs.YtjbphoophgbmiaaDoor
