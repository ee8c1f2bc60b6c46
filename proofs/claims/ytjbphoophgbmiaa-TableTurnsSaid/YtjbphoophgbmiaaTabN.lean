/- table.Nearest. -/
import Derived.Test.YtjbphoophgbmiaaTabO
import Derived.Test.YtjbphoophgbmiaaErrIs
namespace Go.Proofs.Ytjbphoophgbmiaa
open Go.ChangeShapes Go.WideShapes Go.ChangeAt Go.RowKit Go.Joins Go.Deep

noncomputable def nearBody : Code := Try.f28.body.getD .skip
set_option maxRecDepth 100000 in
theorem is_nilE (m : Int) (w : World) : Calls Try.prog 53 #[.nilIface, .iface 74 (.int .i64 m)] w fun e w' => e = .returned (.bool false) ∧ w' = w := by
  have hq : ∀ W : World, (binOp .eql 29 .nilIface (.iface 74 (.int .i64 m))).run Try.prog W = .ok (.bool false) W := fun W => by kernel_rfl
  go_enter Try.func53, Try.ntmps53
  go_wp2
  go_returns
  exact ⟨rfl, rfl⟩
/-- Of the first j columns the first that is nearest, and how far it is. -/
def nearTo (f : Nat → Int) : Nat → Nat × Int
  | 0 => (0, 18446744073709551615)
  | j + 1 => if f j < (nearTo f j).2 then (j, f j) else nearTo f j
theorem nearTo_bd (f : Nat → Int) (hf : ∀ j, 0 ≤ f j) : ∀ j, 0 ≤ (nearTo f j).2 ∧ (nearTo f j).2 ≤ 18446744073709551615 ∧ (nearTo f j).1 ≤ j := by
  intro j
  induction j with
  | zero => unfold nearTo; exact ⟨by decide, by decide, by decide⟩
  | succ j ih =>
    unfold nearTo
    split
    · exact ⟨hf j, by simp only; omega, by simp only; omega⟩
    · exact ⟨ih.1, ih.2.1, by omega⟩
def nearF (h : HierD) (s : Int) (cols : List Int) : Nat → Int := fun j => tabD h s (cols.getD j 0)
def nearR (h : HierD) (s : Int) (cols : List Int) : Nat × Int × EV :=
  if checkErr h ≠ .nil then (0, 0, checkErr h) else if firstOf (listErr h.node.length [s] 0) (listErr h.node.length cols 1) ≠ .nil then (0, 0, firstOf (listErr h.node.length [s] 0) (listErr h.node.length cols 1))
  else if (nearTo (nearF h s cols) cols.length).2 = 18446744073709551615 then (0, 0, .code 16) else ((nearTo (nearF h s cols) cols.length).1, (nearTo (nearF h s cols) cols.length).2, .nil)
def NearNew (h : HierD) (s : Int) (cols : List Int) (w : World) (e : Ending) (w' : World) : Prop := ∃ v, e = .returned (.tuple #[.int .i64 ((nearR h s cols).1 : Nat), .int .u64 (nearR h s cols).2.1, v]) ∧ ErrIs w' v (nearR h s cols).2.2 ∧ Below w.heap.size w w'
theorem meet_tab {h : HierD} {s t : Int} {r : Nat} {d : Int} {x : EV} (hc : checkErr h = .nil) (hk : nodesErr h.node.length s t = .nil) (a : MeetIs h s t r d x) : (x = .nil ∧ d = tabD h s t ∧ tabD h s t ≠ 18446744073709551615) ∨ (x = .code 16 ∧ tabD h s t = 18446744073709551615) := by
  have e := a.is hc hk
  unfold tabD
  split at e
  · rename_i c
    simp only [Prod.mk.injEq] at e
    exact .inr ⟨e.2.2.symm, c⟩
  · rename_i c
    simp only [Prod.mk.injEq] at e
    exact .inl ⟨e.2.2.symm, e.2.1.symm, c⟩
theorem tabD_bd {h : HierD} (hc : checkErr h = .nil) {s t : Int} (hs : 0 ≤ s ∧ s < h.node.length) (ht : 0 ≤ t ∧ t < h.node.length) : 0 ≤ tabD h s t ∧ tabD h s t ≤ 18446744073709551615 := by
  obtain ⟨f, -, -, ho, -⟩ := checkErr_parts hc
  have ok := order_nil ho
  have i1 : h.node.idxOf s.toNat < h.node.length := List.idxOf_lt_length_iff.2 (ok.mem _ (by omega))
  have i2 : h.node.idxOf t.toNat < h.node.length := List.idxOf_lt_length_iff.2 (ok.mem _ (by omega))
  have D := dists_isD (half_up hc) i1
  have E := dists_isD (half_dn hc) i2
  have := meetTo_bnd (fun r d hd => (D.bnd (half_up hc) r d hd).1) (fun r d hd => (E.bnd (half_dn hc) r d hd).1) h.node.length
  exact this.2
theorem qdist_lit (A : HA) (h : HierD) (s t : Int) (w : World) (see : HSee w A h) (hs64 : s ≤ 9223372036854775807) (ht64 : t ≤ 9223372036854775807) : Calls Try.prog 10 #[.agg #[.slice A.a0 h.node.length A.c0, .slice A.a1 h.upF.length A.c1, .slice A.a2 h.up.length A.c2, .slice A.a3 h.dnF.length A.c3, .slice A.a4 h.dn.length A.c4], .int .i64 s, .int .i64 t] w (DistPost h s t w) := distance_any A h s t w see hs64 ht64
theorem hcheck_lit2 (A : HA) (h : HierD) (w : World) (see : HSee w A h) : Calls Try.prog 9 #[.agg #[.slice A.a0 h.node.length A.c0, .slice A.a1 h.upF.length A.c1, .slice A.a2 h.up.length A.c2, .slice A.a3 h.dnF.length A.c3, .slice A.a4 h.dn.length A.c4]] w (ErrPost (checkErr h) w) := hcheck_any A h w see

set_option linter.unusedSimpArgs false in
set_option maxRecDepth 100000 in
set_option maxHeartbeats 8000000 in
theorem near_end {s0 s4 s5 s6 s7 s8 s9 s10 s11 s14 s15 s16 s17 s18 s19 s20 s21 s22 s23 s24 s25 s26 s27 s28 s29 s30 s31 s32 s33 s34 s35 s36 s37 s38 s39 s40 s41 s42 s43 s44 s45 s46 s47 s48 s49 s50 s51 s52 s53 s54 s55 s56 s57 s58 s59 s60 s61 s62 s63 s64 s65 s66 s67 s68 s69 s70 : Value} {h : HierD} {s : Int} {cols : List Int} {ca : Option Addr} {cc r1 : Nat} {r2 : Int} {w wx : World} (hb : Below w.heap.size w wx) (h1 : r2 = 18446744073709551615 → nearR h s cols = (0, 0, .code 16)) (h2 : r2 ≠ 18446744073709551615 → nearR h s cols = (r1, r2, .nil)) : Code.wp Try.prog (tailAt 6 nearBody) (bodyPost Try.prog Try.f28 (NearNew h s cols w)) ⟨#[s0, .int .i64 s, .slice ca cols.length cc, .pointer (some ⟨w.heap.size, 0, none⟩), s4, s5, s6, s7, s8, s9, s10, s11, .int .i64 (r1 : Nat), .int .u64 r2, s14, s15, s16, s17, s18, s19, s20, s21, s22, s23, s24, s25, s26, s27, s28, s29, s30, s31, s32, s33, s34, s35, s36, s37, s38, s39, s40, s41, s42, s43, s44, s45, s46, s47, s48, s49, s50, s51, s52, s53, s54, s55, s56, s57, s58, s59, s60, s61, s62, s63, s64, s65, s66, s67, s68, s69, s70], []⟩ wx := by
  have HB := Lib.hid hb
  have H1 := Lib.hid h1
  have H2 := Lib.hid h2
  clear hb h1 h2
  conv => arg 2; whnf
  by_cases c : r2 = 18446744073709551615
  · have e1 : (r2 == 18446744073709551615) = true := by simp [c]
    have HR := Lib.hid (H1.out c)
    clear c
    go_wp2
    go_returns
    exact ⟨_, by rw [HR.out]; rfl, by rw [HR.out]; rfl, HB.out⟩
  · have e1 : (r2 == 18446744073709551615) = false := by simp [c]
    have HR := Lib.hid (H2.out c)
    clear c
    go_wp2
    go_returns
    exact ⟨_, by rw [HR.out]; rfl, by rw [HR.out]; rfl, HB.out⟩

set_option linter.unusedSimpArgs false in
set_option maxRecDepth 100000 in
set_option maxHeartbeats 8000000 in
theorem near_loop {s0 s4 s5 s6 s7 s8 s9 s10 s11 s14 s15 s16 s17 s18 s19 s20 s21 s22 s23 s24 s25 s26 s27 s28 s29 s30 s31 s32 s33 s34 s35 s36 s37 s38 s39 s40 s41 s42 s43 s44 s45 s46 s47 s48 s49 s50 s51 s52 s53 s54 s55 s56 s57 s58 s59 s60 s61 s62 s63 s64 s65 s66 s67 s68 s69 s70 : Value} {A : HA} {h : HierD} {s : Int} {cols : List Int} {ca : Option Addr} {cc : Nat} {w wx : World} (see : HSee w A h) (sc : See w ca cc memInt 1 cols) (hlc : cols.length ≤ 1048576) (hw : s ≤ 9223372036854775807 ∧ WfList cols) (hx : Cells wx w.heap.size 25 (hierCells A h)) (hb : Below w.heap.size w wx) (hc : checkErr h = .nil) (hok : firstOf (listErr h.node.length [s] 0) (listErr h.node.length cols 1) = .nil) : Code.wp Try.prog (tailAt 5 nearBody) (bodyPost Try.prog Try.f28 (NearNew h s cols w)) ⟨#[s0, .int .i64 s, .slice ca cols.length cc, .pointer (some ⟨w.heap.size, 0, none⟩), s4, s5, s6, s7, s8, s9, s10, s11, .int .i64 0, .int .u64 18446744073709551615, s14, s15, s16, s17, s18, s19, s20, s21, s22, s23, s24, s25, s26, s27, s28, s29, s30, s31, s32, s33, s34, s35, s36, s37, s38, s39, s40, s41, s42, s43, s44, s45, s46, s47, s48, s49, s50, s51, s52, s53, s54, s55, s56, s57, s58, s59, s60, s61, s62, s63, s64, s65, s66, s67, s68, s69, s70], []⟩ wx := by
  obtain ⟨hf1, hf2⟩ := firstOf_nil hok
  have hs := listErr_nil hf1 s (by simp)
  have hcv := listErr_nil hf2
  have HC := Lib.hid hc
  have HS := Lib.hid hs
  have HCV := Lib.hid hcv
  have HNR := Lib.hid (show nearR h s cols = if (nearTo (nearF h s cols) cols.length).2 = 18446744073709551615 then (0, 0, .code 16) else ((nearTo (nearF h s cols) cols.length).1, (nearTo (nearF h s cols) cols.length).2, .nil) by unfold nearR; rw [if_neg (fun e => e hc), if_neg (fun e => e hok)])
  have SEE := Lib.hid see
  have SC := Lib.hid sc
  have HW := Lib.hid hw
  have HX := Lib.hid hx
  have HB := Lib.hid hb
  clear see sc hw hx hb
  clear hc hok hf1 hf2 hs hcv
  conv => arg 2; whnf
  apply wp_seq_k
  intro KK hK
  have HKK := Lib.hid hK
  clear hK
  go_wp2_with fail
  go_loopg [40, 12, 13] cols.length (fun gg vi va vb wr => ∃ (j : Nat), vi = .int .i64 (j : Int) ∧ j ≤ cols.length ∧ gg = cols.length - j ∧ va = .int .i64 ((nearTo (nearF h s cols) j).1 : Nat) ∧ vb = .int .u64 (nearTo (nearF h s cols) j).2 ∧ (0 ≤ (nearTo (nearF h s cols) j).2 ∧ (nearTo (nearF h s cols) j).2 ≤ 18446744073709551615) ∧ Cells wr w.heap.size 25 (hierCells A h) ∧ Below w.heap.size w wr)
  case atStart => exact ⟨0, rfl, Nat.zero_le _, rfl, rfl, rfl, ⟨by show (0 : Int) ≤ 18446744073709551615; omega, by show (18446744073709551615 : Int) ≤ 18446744073709551615; omega⟩, HX.out, HB.out⟩
  case round =>
    obtain ⟨j, rfl, hj, hgj, rfl, rfl, hbd, hx, hb⟩ := hrel
    obtain ⟨wo, rfl⟩ : ∃ wo : World, wo = wr := ⟨_, rfl⟩
    have HGJ := Lib.hid hgj
    have HX2 := Lib.hid hx
    have HB2 := Lib.hid hb
    have HBD := Lib.hid hbd
    clear hgj hx hb hbd HX HB
    by_cases hjl : j < cols.length
    · obtain ⟨t, ht⟩ : ∃ t, cols[j]? = some t := ⟨_, List.getElem?_eq_getElem hjl⟩
      have htv := HCV.out t (List.mem_of_getElem? ht)
      have ht64 := HW.out.2 t (List.mem_of_getElem? ht)
      have hs64 := HW.out.1
      have hfj : nearF h s cols j = tabD h s t := by unfold nearF; rw [List.getD_eq_getElem?_getD, ht]; rfl
      have HFJ := Lib.hid hfj
      have hnx : nearTo (nearF h s cols) (j + 1) = if tabD h s t < (nearTo (nearF h s cols) j).2 then (j, tabD h s t) else nearTo (nearF h s cols) j := by rw [← hfj]; rfl
      have HNX := Lib.hid hnx
      have htb := tabD_bd HC.out HS.out htv
      have HTB := Lib.hid htb
      have hk : nodesErr h.node.length s t = .nil := nodesErr_nil.2 ⟨HS.out, htv⟩
      have HK := Lib.hid hk
      obtain ⟨b1, o1, ea1, cc1⟩ := (SC.out.below HB2.out).cell j _ ht
      have e0 := cc1 0 _ rfl
      rw [Nat.add_zero, Nat.mul_one] at e0
      have EA := Lib.hid ea1
      obtain ⟨r1, hr1⟩ : ∃ r1, (nearTo (nearF h s cols) j).1 = r1 := ⟨_, rfl⟩
      obtain ⟨r2, hr2⟩ : ∃ r2, (nearTo (nearF h s cols) j).2 = r2 := ⟨_, rfl⟩
      have hst : nearTo (nearF h s cols) j = (r1, r2) := Prod.ext hr1 hr2
      have HST := Lib.hid hst
      rw [hr2] at HNX HBD
      rw [hr1, hr2]
      obtain ⟨k0, k1, k2, k3, k4⟩ := hier_five HX2.out
      clear cc1 ea1 ht hfj hnx htb hk hr1 hr2 hst htv
      rw [EA.out]
      go_wp2_with fail
      refine (qdist_lit A h s t _ (SEE.out.below HB2.out) hs64 ht64).mono ?_
      rintro e w1 ⟨r, d, x, v, rfl, hv, hm, hb1⟩
      have HX3 := Lib.hid (HX2.out.below hb1 HX2.out.lt)
      have HB3 := Lib.hid (HB2.out.trans (hb1.mono HB2.out.size))
      have HMT := Lib.hid (meet_tab HC.out HK.out hm)
      have HV := Lib.hid hv
      clear hm hv hb1 HX2 HB2 e0 k0 k1 k2 k3 k4
      rcases HMT.out with ⟨h1, h2, h3⟩ | ⟨h1, h2⟩
      · obtain rfl := HV.out.nilv h1
        obtain rfl : d = tabD h s t := h2
        clear h1 h3 HMT
        go_wp2_with fail
        refine (is_nilE 16 _).mono ?_
        rintro e w2 ⟨rfl, rfl⟩
        obtain ⟨dd, hdd⟩ : ∃ dd, tabD h s t = dd := ⟨_, rfl⟩
        rw [hdd] at HNX HTB ⊢
        clear hdd
        by_cases hlt : dd < r2
        · have t1 : decide (dd < r2) = true := by simpa using hlt
          have HNY := Lib.hid (show nearTo (nearF h s cols) (j + 1) = (j, dd) by rw [HNX.out, if_pos hlt])
          clear hlt
          go_wp2_with fail
          rw [← EA.out]
          go_roundg (cols.length - (j + 1))
          case measure => rw [HGJ.out]; omega
          case rel => exact ⟨j + 1, by go_num, by omega, rfl, by rw [HNY.out], by rw [HNY.out], by rw [HNY.out]; exact HTB.out, HX3.out, HB3.out⟩
        · have t1 : decide (dd < r2) = false := by simpa using hlt
          have HNY := Lib.hid (show nearTo (nearF h s cols) (j + 1) = (r1, r2) by rw [HNX.out, if_neg hlt]; exact HST.out)
          clear hlt
          go_wp2_with fail
          rw [← EA.out]
          go_roundg (cols.length - (j + 1))
          case measure => rw [HGJ.out]; omega
          case rel => exact ⟨j + 1, by go_num, by omega, rfl, by rw [HNY.out], by rw [HNY.out], by rw [HNY.out]; exact HBD.out, HX3.out, HB3.out⟩
      · have hv16 := HV.out
        rw [h1] at hv16
        obtain rfl : v = errV 16 := hv16
        have HNY := Lib.hid (show nearTo (nearF h s cols) (j + 1) = (r1, r2) by rw [HNX.out, h2, if_neg (by have := HBD.out.2; omega)]; exact HST.out)
        clear h1 h2 HMT
        unfold errV
        go_wp2_with fail
        refine (is_errno 16 16 _).mono ?_
        rintro e w2 ⟨rfl, rfl⟩
        go_wp2_with fail
        rw [← EA.out]
        go_roundg (cols.length - (j + 1))
        case measure => rw [HGJ.out]; omega
        case rel => exact ⟨j + 1, by go_num, by omega, rfl, by rw [HNY.out], by rw [HNY.out], by rw [HNY.out]; exact HBD.out, HX3.out, HB3.out⟩
    · obtain rfl : j = cols.length := by omega
      go_wp2_with fail
      refine HKK.out _ _ ?_
      change Code.wp _ (tailAt 6 nearBody) _ _ _
      exact near_end (ca := ca) (cc := cc) HB2.out (fun e => by rw [HNR.out, if_pos e]) (fun e => by rw [HNR.out, if_neg e])

set_option linter.unusedSimpArgs false in
set_option maxRecDepth 100000 in
set_option maxHeartbeats 8000000 in
theorem near_first {s0 s4 s5 s6 s7 s8 s9 s11 s12 s13 s14 s15 s16 s17 s18 s19 s20 s21 s22 s23 s24 s25 s26 s27 s28 s29 s30 s31 s32 s33 s34 s35 s36 s37 s38 s39 s40 s41 s42 s43 s44 s45 s46 s47 s48 s49 s50 s51 s52 s53 s54 s55 s56 s57 s58 s59 s60 s61 s62 s63 s64 s65 s66 s67 s68 s69 s70 : Value} {A : HA} {h : HierD} {s : Int} {cols : List Int} {ca : Option Addr} {cc : Nat} {w wx : World} (see : HSee w A h) (sc : See w ca cc memInt 1 cols) (hlc : cols.length ≤ 1048576) (hw : s ≤ 9223372036854775807 ∧ WfList cols) (hx : Cells wx w.heap.size 25 (hierCells A h)) (hb : Below w.heap.size w wx) (hc : checkErr h = .nil) : Code.wp Try.prog (tailAt 3 nearBody) (bodyPost Try.prog Try.f28 (NearNew h s cols w)) ⟨#[s0, .int .i64 s, .slice ca cols.length cc, .pointer (some ⟨w.heap.size, 0, none⟩), s4, s5, s6, s7, s8, s9, .int .i64 (h.node.length : Nat), s11, s12, s13, s14, s15, s16, s17, s18, s19, s20, s21, s22, s23, s24, s25, s26, s27, s28, s29, s30, s31, s32, s33, s34, s35, s36, s37, s38, s39, s40, s41, s42, s43, s44, s45, s46, s47, s48, s49, s50, s51, s52, s53, s54, s55, s56, s57, s58, s59, s60, s61, s62, s63, s64, s65, s66, s67, s68, s69, s70], []⟩ wx := by
  have hn := (checkErr_parts hc).1.n
  have HC := Lib.hid hc
  have SEE := Lib.hid see
  have SC := Lib.hid sc
  have HW := Lib.hid hw
  have HX := Lib.hid hx
  have HB := Lib.hid hb
  clear see sc hw hx hb
  clear hc
  have hs64 := HW.out.1
  conv => arg 2; whnf
  apply wp_seq_k
  intro KK hK
  have HKK := Lib.hid hK
  clear hK
  go_upto_region 5 with fail
  have hla := Cells.new wx 3 [.int .i64 s]
  have ho1 := (Below.refl wx.heap.size wx).alloc (Nat.le_refl _) (.cells #[.int .i64 s] 3)
  have HL1 := Lib.hid (show See (wx.alloc (.cells #[.int .i64 s] 3)) (some ⟨wx.heap.size, 0, none⟩) 1 memInt 1 [s] from See.of_cells (l := [s]) memInt_len (show Cells _ _ 3 ([s].flatMap memInt) from hla) (by simp only [List.length_singleton]; unfold maxLen; omega))
  have HX1 := Lib.hid (HX.out.below ho1 HX.out.lt)
  have HB1 := Lib.hid (HB.out.trans (ho1.mono HB.out.size))
  clear hla ho1 HX HB
  go_wp2_with fail
  refine (tcheck_any [s] (some ⟨wx.heap.size, 0, none⟩) 1 h.node.length 0 _ HL1.out (by omega) (by simp) (fun x hx => by simp only [List.mem_singleton] at hx; subst hx; exact HW.out.1)).mono ?_
  rintro e w1 ⟨v, rfl, hv, hb1⟩
  have HX2 := Lib.hid (HX1.out.below hb1 HX1.out.lt)
  have HB2 := Lib.hid (HB1.out.trans (hb1.mono HB1.out.size))
  have HV := Lib.hid hv
  clear hv hb1 HX1 HB1 HL1
  go_wp2_with fail
  refine (tcheck_any cols ca cc h.node.length 1 _ (SC.out.below HB2.out) (by omega) (by omega) HW.out.2).mono ?_
  rintro e w2 ⟨u, rfl, hu, hb2⟩
  have ho := (Below.refl w2.heap.size w2).alloc (Nat.le_refl _) (.cells #[v, u] 29)
  have hb2' := hb2.trans (ho.mono hb2.size)
  have HX3 := Lib.hid (HX2.out.below hb2' HX2.out.lt)
  have HB3 := Lib.hid (HB2.out.trans (hb2'.mono HB2.out.size))
  have HV2 := Lib.hid (HV.out.below hb2')
  have HU2 := Lib.hid (hu.below ho)
  have HC0 := Lib.hid ((Cells.new w2 29 [v, u]).cell (i := 0) rfl)
  have HC1 := Lib.hid ((Cells.new w2 29 [v, u]).cell (i := 1) rfl)
  have HSV := Lib.hid HV.out.shape
  have HSU := Lib.hid hu.shape
  clear hu hb2 ho hb2' HX2 HB2 HV
  rcases HSV.out with hsv | ⟨t3, v3, hsv⟩ <;> rcases HSU.out with hsu | ⟨t4, v4, hsu⟩
  all_goals
    subst hsv
    subst hsu
    clear HSV HSU
    go_wp2_with fail
    refine (first_any _ _ (listErr h.node.length [s] 0) (listErr h.node.length cols 1) w2.heap.size 2 _ HV2.out HU2.out HC0.out HC1.out).mono ?_
    rintro e w3 ⟨z, rfl, hz, rfl⟩
    have HZ := Lib.hid hz
    clear hz HV2 HU2 HC0 HC1
    by_cases hf : firstOf (listErr h.node.length [s] 0) (listErr h.node.length cols 1) = .nil
    · obtain rfl := HZ.out.nilv hf
      have HOK := Lib.hid hf
      clear hf
      go_wp2_with fail
      refine HKK.out _ _ ?_
      clear HKK KK
      conv => arg 2; whnf
      apply wp_seq_k
      intro K4 hK
      have HK4 := Lib.hid hK
      clear hK
      go_wp2_with fail
      refine HK4.out _ _ ?_
      change Code.wp _ (tailAt 5 nearBody) _ _ _
      exact near_loop SEE.out SC.out hlc HW.out HX3.out HB3.out HC.out HOK.out
    · obtain ⟨t1, v1, rfl⟩ := HZ.out.iface hf
      have HNR := Lib.hid (show nearR h s cols = (0, 0, firstOf (listErr h.node.length [s] 0) (listErr h.node.length cols 1)) by unfold nearR; rw [if_neg (fun e => e HC.out), if_pos hf])
      clear hf
      go_wp2
      go_returns
      exact ⟨_, by rw [HNR.out]; rfl, by rw [HNR.out]; exact HZ.out, HB3.out⟩

set_option linter.unusedSimpArgs false in
set_option maxRecDepth 100000 in
set_option maxHeartbeats 8000000 in
theorem near_check {s0 s4 s5 s6 s7 s8 s9 s10 s11 s12 s13 s14 s15 s16 s17 s18 s19 s20 s21 s22 s23 s24 s25 s26 s27 s28 s29 s30 s31 s32 s33 s34 s35 s36 s37 s38 s39 s40 s41 s42 s43 s44 s45 s46 s47 s48 s49 s50 s51 s52 s53 s54 s55 s56 s57 s58 s59 s60 s61 s62 s63 s64 s65 s66 s67 s68 s69 s70 : Value} {A : HA} {h : HierD} {s : Int} {cols : List Int} {ca : Option Addr} {cc : Nat} {w wx : World} (see : HSee w A h) (sc : See w ca cc memInt 1 cols) (hlc : cols.length ≤ 1048576) (hw : s ≤ 9223372036854775807 ∧ WfList cols) (hx : Cells wx w.heap.size 25 (hierCells A h)) (hb : Below w.heap.size w wx) : Code.wp Try.prog (tailAt 1 nearBody) (bodyPost Try.prog Try.f28 (NearNew h s cols w)) ⟨#[s0, .int .i64 s, .slice ca cols.length cc, .pointer (some ⟨w.heap.size, 0, none⟩), s4, s5, s6, s7, s8, s9, s10, s11, s12, s13, s14, s15, s16, s17, s18, s19, s20, s21, s22, s23, s24, s25, s26, s27, s28, s29, s30, s31, s32, s33, s34, s35, s36, s37, s38, s39, s40, s41, s42, s43, s44, s45, s46, s47, s48, s49, s50, s51, s52, s53, s54, s55, s56, s57, s58, s59, s60, s61, s62, s63, s64, s65, s66, s67, s68, s69, s70], []⟩ wx := by
  have SEE := Lib.hid see
  have SC := Lib.hid sc
  have HW := Lib.hid hw
  have HX := Lib.hid hx
  have HB := Lib.hid hb
  clear see sc hw hx hb
  obtain ⟨k0, k1, k2, k3, k4⟩ := hier_five HX.out
  conv => arg 2; whnf
  apply wp_seq_k
  intro KK hK
  have HKK := Lib.hid hK
  clear hK
  go_wp2_with fail
  refine (hcheck_lit2 A h _ (SEE.out.below HB.out)).mono ?_
  rintro e w1 ⟨v, rfl, hv, hb1⟩
  have HV := Lib.hid hv
  have HX1 := Lib.hid (HX.out.below hb1 HX.out.lt)
  have HB1 := Lib.hid (HB.out.trans (hb1.mono HB.out.size))
  clear hv hb1 HX HB k0 k1 k2 k3 k4
  by_cases hc : checkErr h = .nil
  · obtain rfl := HV.out.nilv hc
    have HC := Lib.hid hc
    clear hc
    go_wp2_with fail
    refine HKK.out _ _ ?_
    clear HKK KK
    obtain ⟨k0, k1, k2, k3, k4⟩ := hier_five HX1.out
    conv => arg 2; whnf
    apply wp_seq_k
    intro K2 hK
    have HK2 := Lib.hid hK
    clear hK
    go_wp2_with fail
    refine HK2.out _ _ ?_
    change Code.wp _ (tailAt 3 nearBody) _ _ _
    exact near_first SEE.out SC.out hlc HW.out HX1.out HB1.out HC.out
  · obtain ⟨t1, v1, rfl⟩ := HV.out.iface hc
    have HNR := Lib.hid (show nearR h s cols = (0, 0, checkErr h) by unfold nearR; rw [if_pos hc])
    clear hc
    go_wp2
    go_returns
    exact ⟨_, by rw [HNR.out]; rfl, by rw [HNR.out]; exact HV.out, HB1.out⟩
set_option linter.unusedSimpArgs false in
set_option maxRecDepth 100000 in
set_option maxHeartbeats 8000000 in
/-- **table.Nearest.** -/
theorem nearest_any (A : HA) (h : HierD) (s : Int) (cols : List Int) (ca : Option Addr) (cc : Nat) (w : World) (see : HSee w A h) (sc : See w ca cc memInt 1 cols) (hlc : cols.length ≤ 1048576) (hw : s ≤ 9223372036854775807 ∧ WfList cols) :
    Calls Try.prog 28 #[hierVal A h, .int .i64 s, .slice ca cols.length cc] w (NearNew h s cols w) := by
  have SEE := Lib.hid see
  have SC := Lib.hid sc
  have HW := Lib.hid hw
  clear see sc hw
  unfold hierVal
  go_enter Try.func28, Try.ntmps28
  apply wp_seq_k
  intro K1 hK
  have HK1 := Lib.hid hK
  clear hK
  go_wp2_with fail
  refine HK1.out _ _ ?_
  change Code.wp _ (tailAt 1 nearBody) _ _ _
  exact near_check SEE.out SC.out hlc HW.out (Cells.new w 25 (hierCells A h)) ((Below.refl w.heap.size w).alloc (Nat.le_refl _) _)
end Go.Proofs.Ytjbphoophgbmiaa
