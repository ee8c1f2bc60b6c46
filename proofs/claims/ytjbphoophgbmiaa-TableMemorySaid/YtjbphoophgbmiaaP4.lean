/- table.Nearest. -/
import Derived.Test.YtjbphoophgbmiaaTabO
import Derived.Test.YtjbphoophgbmiaaErrIs
import Derived.Test.YtjbphoophgbmiaaMatG
import Derived.Test.YtjbphoophgbmiaaErrV
import Derived.Deep.RegionHeld3
import Derived.Deep.Cut
import Derived.Test.YtjbphoophgbmiaaRefF
import Derived.Laws.CopyRow
import Derived.Laws.IdiomCopy
import Derived.Laws.CopyOwn
import Derived.BigQuiet
import Derived.Deep.Upon
namespace Go.Proofs.Ytjbphoophgbmiaa
open Go.ChangeShapes Go.WideShapes Go.ChangeAt Go.RowKit Go.Joins Go.Deep

noncomputable def nearBody : Code := Try.f28.body.getD .skip
set_option maxRecDepth 100000 in
theorem is_nilE (m : Int) (w : World) : Calls Try.prog 53 #[.nilIface, .iface 74 (.int .i64 m)] w fun e w' => e = .returned (.bool false) ∧ w' = w := by
  have hq : ∀ W : World, (binOp .eql 29 .nilIface (.iface 74 (.int .i64 m))).run Try.prog W = .ok (.bool false) W := fun W => by kernel_rfl
  go_enter Try.func53, Try.ntmps53
  go_wp2
  go_returns
  exact ⟨rfl, rfl⟩
/-- Of the first j columns the first that is nearest, and how far it is. -/
def nearTo (f : Nat → Int) : Nat → Nat × Int
  | 0 => (0, 18446744073709551615)
  | j + 1 => if f j < (nearTo f j).2 then (j, f j) else nearTo f j
theorem nearTo_bd (f : Nat → Int) (hf : ∀ j, 0 ≤ f j) : ∀ j, 0 ≤ (nearTo f j).2 ∧ (nearTo f j).2 ≤ 18446744073709551615 ∧ (nearTo f j).1 ≤ j := by
  intro j
  induction j with
  | zero => unfold nearTo; exact ⟨by decide, by decide, by decide⟩
  | succ j ih =>
    unfold nearTo
    split
    · exact ⟨hf j, by simp only; omega, by simp only; omega⟩
    · exact ⟨ih.1, ih.2.1, by omega⟩
def nearF (h : HierD) (s : Int) (cols : List Int) : Nat → Int := fun j => tabD h s (cols.getD j 0)
def nearR (h : HierD) (s : Int) (cols : List Int) : Nat × Int × EV :=
  if checkErr h ≠ .nil then (0, 0, checkErr h) else if firstOf (listErr h.node.length [s] 0) (listErr h.node.length cols 1) ≠ .nil then (0, 0, firstOf (listErr h.node.length [s] 0) (listErr h.node.length cols 1))
  else if (nearTo (nearF h s cols) cols.length).2 = 18446744073709551615 then (0, 0, .code 16) else ((nearTo (nearF h s cols) cols.length).1, (nearTo (nearF h s cols) cols.length).2, .nil)
def NearNew (h : HierD) (s : Int) (cols : List Int) (w : World) (e : Ending) (w' : World) : Prop := ∃ v, e = .returned (.tuple #[.int .i64 ((nearR h s cols).1 : Nat), .int .u64 (nearR h s cols).2.1, v]) ∧ ErrIs w' v (nearR h s cols).2.2 ∧ Below w.heap.size w w'
theorem meet_tab {h : HierD} {s t : Int} {r : Nat} {d : Int} {x : EV} (hc : checkErr h = .nil) (hk : nodesErr h.node.length s t = .nil) (a : MeetIs h s t r d x) : (x = .nil ∧ d = tabD h s t ∧ tabD h s t ≠ 18446744073709551615) ∨ (x = .code 16 ∧ tabD h s t = 18446744073709551615) := by
  have e := a.is hc hk
  unfold tabD
  split at e
  · rename_i c
    simp only [Prod.mk.injEq] at e
    exact .inr ⟨e.2.2.symm, c⟩
  · rename_i c
    simp only [Prod.mk.injEq] at e
    exact .inl ⟨e.2.2.symm, e.2.1.symm, c⟩
theorem tabD_bd {h : HierD} (hc : checkErr h = .nil) {s t : Int} (hs : 0 ≤ s ∧ s < h.node.length) (ht : 0 ≤ t ∧ t < h.node.length) : 0 ≤ tabD h s t ∧ tabD h s t ≤ 18446744073709551615 := by
  obtain ⟨f, -, -, ho, -⟩ := checkErr_parts hc
  have ok := order_nil ho
  have i1 : h.node.idxOf s.toNat < h.node.length := List.idxOf_lt_length_iff.2 (ok.mem _ (by omega))
  have i2 : h.node.idxOf t.toNat < h.node.length := List.idxOf_lt_length_iff.2 (ok.mem _ (by omega))
  have D := dists_isD (half_up hc) i1
  have E := dists_isD (half_dn hc) i2
  have := meetTo_bnd (fun r d hd => (D.bnd (half_up hc) r d hd).1) (fun r d hd => (E.bnd (half_dn hc) r d hd).1) h.node.length
  exact this.2
theorem qdist_lit (A : HA) (h : HierD) (s t : Int) (w : World) (see : HSee w A h) (hs64 : s ≤ 9223372036854775807) (ht64 : t ≤ 9223372036854775807) : Calls Try.prog 10 #[.agg #[.slice A.a0 h.node.length A.c0, .slice A.a1 h.upF.length A.c1, .slice A.a2 h.up.length A.c2, .slice A.a3 h.dnF.length A.c3, .slice A.a4 h.dn.length A.c4], .int .i64 s, .int .i64 t] w (DistPost h s t w) := distance_any A h s t w see hs64 ht64
theorem hcheck_lit2 (A : HA) (h : HierD) (w : World) (see : HSee w A h) : Calls Try.prog 9 #[.agg #[.slice A.a0 h.node.length A.c0, .slice A.a1 h.upF.length A.c1, .slice A.a2 h.up.length A.c2, .slice A.a3 h.dnF.length A.c3, .slice A.a4 h.dn.length A.c4]] w (ErrPost (checkErr h) w) := hcheck_any A h w see

set_option linter.unusedSimpArgs false in
set_option maxRecDepth 100000 in
set_option maxHeartbeats 8000000 in
theorem near_end {s0 s4 s5 s6 s7 s8 s9 s10 s11 s14 s15 s16 s17 s18 s19 s20 s21 s22 s23 s24 s25 s26 s27 s28 s29 s30 s31 s32 s33 s34 s35 s36 s37 s38 s39 s40 s41 s42 s43 s44 s45 s46 s47 s48 s49 s50 s51 s52 s53 s54 s55 s56 s57 s58 s59 s60 s61 s62 s63 s64 s65 s66 s67 s68 s69 s70 : Value} {h : HierD} {s : Int} {cols : List Int} {ca : Option Addr} {cc r1 : Nat} {r2 : Int} {w wx : World} (hb : Below w.heap.size w wx) (h1 : r2 = 18446744073709551615 → nearR h s cols = (0, 0, .code 16)) (h2 : r2 ≠ 18446744073709551615 → nearR h s cols = (r1, r2, .nil)) : Code.wp Try.prog (tailAt 6 nearBody) (bodyPost Try.prog Try.f28 (NearNew h s cols w)) ⟨#[s0, .int .i64 s, .slice ca cols.length cc, .pointer (some ⟨w.heap.size, 0, none⟩), s4, s5, s6, s7, s8, s9, s10, s11, .int .i64 (r1 : Nat), .int .u64 r2, s14, s15, s16, s17, s18, s19, s20, s21, s22, s23, s24, s25, s26, s27, s28, s29, s30, s31, s32, s33, s34, s35, s36, s37, s38, s39, s40, s41, s42, s43, s44, s45, s46, s47, s48, s49, s50, s51, s52, s53, s54, s55, s56, s57, s58, s59, s60, s61, s62, s63, s64, s65, s66, s67, s68, s69, s70], []⟩ wx := by
  have HB := Lib.hid hb
  have H1 := Lib.hid h1
  have H2 := Lib.hid h2
  clear hb h1 h2
  conv => arg 2; whnf
  by_cases c : r2 = 18446744073709551615
  · have e1 : (r2 == 18446744073709551615) = true := by simp [c]
    have HR := Lib.hid (H1.out c)
    clear c
    go_wp2
    go_returns
    exact ⟨_, by rw [HR.out]; rfl, by rw [HR.out]; rfl, HB.out⟩
  · have e1 : (r2 == 18446744073709551615) = false := by simp [c]
    have HR := Lib.hid (H2.out c)
    clear c
    go_wp2
    go_returns
    exact ⟨_, by rw [HR.out]; rfl, by rw [HR.out]; rfl, HB.out⟩

set_option linter.unusedSimpArgs false in
set_option maxRecDepth 100000 in
set_option maxHeartbeats 8000000 in
theorem near_loop {s0 s4 s5 s6 s7 s8 s9 s10 s11 s14 s15 s16 s17 s18 s19 s20 s21 s22 s23 s24 s25 s26 s27 s28 s29 s30 s31 s32 s33 s34 s35 s36 s37 s38 s39 s40 s41 s42 s43 s44 s45 s46 s47 s48 s49 s50 s51 s52 s53 s54 s55 s56 s57 s58 s59 s60 s61 s62 s63 s64 s65 s66 s67 s68 s69 s70 : Value} {A : HA} {h : HierD} {s : Int} {cols : List Int} {ca : Option Addr} {cc : Nat} {w wx : World} (see : HSee w A h) (sc : See w ca cc memInt 1 cols) (hlc : cols.length ≤ 1048576) (hw : s ≤ 9223372036854775807 ∧ WfList cols) (hx : Cells wx w.heap.size 25 (hierCells A h)) (hb : Below w.heap.size w wx) (hc : checkErr h = .nil) (hok : firstOf (listErr h.node.length [s] 0) (listErr h.node.length cols 1) = .nil) : Code.wp Try.prog (tailAt 5 nearBody) (bodyPost Try.prog Try.f28 (NearNew h s cols w)) ⟨#[s0, .int .i64 s, .slice ca cols.length cc, .pointer (some ⟨w.heap.size, 0, none⟩), s4, s5, s6, s7, s8, s9, s10, s11, .int .i64 0, .int .u64 18446744073709551615, s14, s15, s16, s17, s18, s19, s20, s21, s22, s23, s24, s25, s26, s27, s28, s29, s30, s31, s32, s33, s34, s35, s36, s37, s38, s39, s40, s41, s42, s43, s44, s45, s46, s47, s48, s49, s50, s51, s52, s53, s54, s55, s56, s57, s58, s59, s60, s61, s62, s63, s64, s65, s66, s67, s68, s69, s70], []⟩ wx := by
  obtain ⟨hf1, hf2⟩ := firstOf_nil hok
  have hs := listErr_nil hf1 s (by simp)
  have hcv := listErr_nil hf2
  have HC := Lib.hid hc
  have HS := Lib.hid hs
  have HCV := Lib.hid hcv
  have HNR := Lib.hid (show nearR h s cols = if (nearTo (nearF h s cols) cols.length).2 = 18446744073709551615 then (0, 0, .code 16) else ((nearTo (nearF h s cols) cols.length).1, (nearTo (nearF h s cols) cols.length).2, .nil) by unfold nearR; rw [if_neg (fun e => e hc), if_neg (fun e => e hok)])
  have SEE := Lib.hid see
  have SC := Lib.hid sc
  have HW := Lib.hid hw
  have HX := Lib.hid hx
  have HB := Lib.hid hb
  clear see sc hw hx hb
  clear hc hok hf1 hf2 hs hcv
  conv => arg 2; whnf
  apply wp_seq_k
  intro KK hK
  have HKK := Lib.hid hK
  clear hK
  go_wp2_with fail
  go_loopg [40, 12, 13] cols.length (fun gg vi va vb wr => ∃ (j : Nat), vi = .int .i64 (j : Int) ∧ j ≤ cols.length ∧ gg = cols.length - j ∧ va = .int .i64 ((nearTo (nearF h s cols) j).1 : Nat) ∧ vb = .int .u64 (nearTo (nearF h s cols) j).2 ∧ (0 ≤ (nearTo (nearF h s cols) j).2 ∧ (nearTo (nearF h s cols) j).2 ≤ 18446744073709551615) ∧ Cells wr w.heap.size 25 (hierCells A h) ∧ Below w.heap.size w wr)
  case atStart => exact ⟨0, rfl, Nat.zero_le _, rfl, rfl, rfl, ⟨by show (0 : Int) ≤ 18446744073709551615; omega, by show (18446744073709551615 : Int) ≤ 18446744073709551615; omega⟩, HX.out, HB.out⟩
  case round =>
    obtain ⟨j, rfl, hj, hgj, rfl, rfl, hbd, hx, hb⟩ := hrel
    obtain ⟨wo, rfl⟩ : ∃ wo : World, wo = wr := ⟨_, rfl⟩
    have HGJ := Lib.hid hgj
    have HX2 := Lib.hid hx
    have HB2 := Lib.hid hb
    have HBD := Lib.hid hbd
    clear hgj hx hb hbd HX HB
    by_cases hjl : j < cols.length
    · obtain ⟨t, ht⟩ : ∃ t, cols[j]? = some t := ⟨_, List.getElem?_eq_getElem hjl⟩
      have htv := HCV.out t (List.mem_of_getElem? ht)
      have ht64 := HW.out.2 t (List.mem_of_getElem? ht)
      have hs64 := HW.out.1
      have hfj : nearF h s cols j = tabD h s t := by unfold nearF; rw [List.getD_eq_getElem?_getD, ht]; rfl
      have HFJ := Lib.hid hfj
      have hnx : nearTo (nearF h s cols) (j + 1) = if tabD h s t < (nearTo (nearF h s cols) j).2 then (j, tabD h s t) else nearTo (nearF h s cols) j := by rw [← hfj]; rfl
      have HNX := Lib.hid hnx
      have htb := tabD_bd HC.out HS.out htv
      have HTB := Lib.hid htb
      have hk : nodesErr h.node.length s t = .nil := nodesErr_nil.2 ⟨HS.out, htv⟩
      have HK := Lib.hid hk
      obtain ⟨b1, o1, ea1, cc1⟩ := (SC.out.below HB2.out).cell j _ ht
      have e0 := cc1 0 _ rfl
      rw [Nat.add_zero, Nat.mul_one] at e0
      have EA := Lib.hid ea1
      obtain ⟨r1, hr1⟩ : ∃ r1, (nearTo (nearF h s cols) j).1 = r1 := ⟨_, rfl⟩
      obtain ⟨r2, hr2⟩ : ∃ r2, (nearTo (nearF h s cols) j).2 = r2 := ⟨_, rfl⟩
      have hst : nearTo (nearF h s cols) j = (r1, r2) := Prod.ext hr1 hr2
      have HST := Lib.hid hst
      rw [hr2] at HNX HBD
      rw [hr1, hr2]
      obtain ⟨k0, k1, k2, k3, k4⟩ := hier_five HX2.out
      clear cc1 ea1 ht hfj hnx htb hk hr1 hr2 hst htv
      rw [EA.out]
      go_wp2_with fail
      refine (qdist_lit A h s t _ (SEE.out.below HB2.out) hs64 ht64).mono ?_
      rintro e w1 ⟨r, d, x, v, rfl, hv, hm, hb1⟩
      have HX3 := Lib.hid (HX2.out.below hb1 HX2.out.lt)
      have HB3 := Lib.hid (HB2.out.trans (hb1.mono HB2.out.size))
      have HMT := Lib.hid (meet_tab HC.out HK.out hm)
      have HV := Lib.hid hv
      clear hm hv hb1 HX2 HB2 e0 k0 k1 k2 k3 k4
      rcases HMT.out with ⟨h1, h2, h3⟩ | ⟨h1, h2⟩
      · obtain rfl := HV.out.nilv h1
        obtain rfl : d = tabD h s t := h2
        clear h1 h3 HMT
        go_wp2_with fail
        refine (is_nilE 16 _).mono ?_
        rintro e w2 ⟨rfl, rfl⟩
        obtain ⟨dd, hdd⟩ : ∃ dd, tabD h s t = dd := ⟨_, rfl⟩
        rw [hdd] at HNX HTB ⊢
        clear hdd
        by_cases hlt : dd < r2
        · have t1 : decide (dd < r2) = true := by simpa using hlt
          have HNY := Lib.hid (show nearTo (nearF h s cols) (j + 1) = (j, dd) by rw [HNX.out, if_pos hlt])
          clear hlt
          go_wp2_with fail
          rw [← EA.out]
          go_roundg (cols.length - (j + 1))
          case measure => rw [HGJ.out]; omega
          case rel => exact ⟨j + 1, by go_num, by omega, rfl, by rw [HNY.out], by rw [HNY.out], by rw [HNY.out]; exact HTB.out, HX3.out, HB3.out⟩
        · have t1 : decide (dd < r2) = false := by simpa using hlt
          have HNY := Lib.hid (show nearTo (nearF h s cols) (j + 1) = (r1, r2) by rw [HNX.out, if_neg hlt]; exact HST.out)
          clear hlt
          go_wp2_with fail
          rw [← EA.out]
          go_roundg (cols.length - (j + 1))
          case measure => rw [HGJ.out]; omega
          case rel => exact ⟨j + 1, by go_num, by omega, rfl, by rw [HNY.out], by rw [HNY.out], by rw [HNY.out]; exact HBD.out, HX3.out, HB3.out⟩
      · have hv16 := HV.out
        rw [h1] at hv16
        obtain rfl : v = errV 16 := hv16
        have HNY := Lib.hid (show nearTo (nearF h s cols) (j + 1) = (r1, r2) by rw [HNX.out, h2, if_neg (by have := HBD.out.2; omega)]; exact HST.out)
        clear h1 h2 HMT
        unfold errV
        go_wp2_with fail
        refine (is_errno 16 16 _).mono ?_
        rintro e w2 ⟨rfl, rfl⟩
        go_wp2_with fail
        rw [← EA.out]
        go_roundg (cols.length - (j + 1))
        case measure => rw [HGJ.out]; omega
        case rel => exact ⟨j + 1, by go_num, by omega, rfl, by rw [HNY.out], by rw [HNY.out], by rw [HNY.out]; exact HBD.out, HX3.out, HB3.out⟩
    · obtain rfl : j = cols.length := by omega
      go_wp2_with fail
      refine HKK.out _ _ ?_
      change Code.wp _ (tailAt 6 nearBody) _ _ _
      exact near_end (ca := ca) (cc := cc) HB2.out (fun e => by rw [HNR.out, if_pos e]) (fun e => by rw [HNR.out, if_neg e])

set_option linter.unusedSimpArgs false in
set_option maxRecDepth 100000 in
set_option maxHeartbeats 8000000 in
theorem near_first {s0 s4 s5 s6 s7 s8 s9 s11 s12 s13 s14 s15 s16 s17 s18 s19 s20 s21 s22 s23 s24 s25 s26 s27 s28 s29 s30 s31 s32 s33 s34 s35 s36 s37 s38 s39 s40 s41 s42 s43 s44 s45 s46 s47 s48 s49 s50 s51 s52 s53 s54 s55 s56 s57 s58 s59 s60 s61 s62 s63 s64 s65 s66 s67 s68 s69 s70 : Value} {A : HA} {h : HierD} {s : Int} {cols : List Int} {ca : Option Addr} {cc : Nat} {w wx : World} (see : HSee w A h) (sc : See w ca cc memInt 1 cols) (hlc : cols.length ≤ 1048576) (hw : s ≤ 9223372036854775807 ∧ WfList cols) (hx : Cells wx w.heap.size 25 (hierCells A h)) (hb : Below w.heap.size w wx) (hc : checkErr h = .nil) : Code.wp Try.prog (tailAt 3 nearBody) (bodyPost Try.prog Try.f28 (NearNew h s cols w)) ⟨#[s0, .int .i64 s, .slice ca cols.length cc, .pointer (some ⟨w.heap.size, 0, none⟩), s4, s5, s6, s7, s8, s9, .int .i64 (h.node.length : Nat), s11, s12, s13, s14, s15, s16, s17, s18, s19, s20, s21, s22, s23, s24, s25, s26, s27, s28, s29, s30, s31, s32, s33, s34, s35, s36, s37, s38, s39, s40, s41, s42, s43, s44, s45, s46, s47, s48, s49, s50, s51, s52, s53, s54, s55, s56, s57, s58, s59, s60, s61, s62, s63, s64, s65, s66, s67, s68, s69, s70], []⟩ wx := by
  have hn := (checkErr_parts hc).1.n
  have HC := Lib.hid hc
  have SEE := Lib.hid see
  have SC := Lib.hid sc
  have HW := Lib.hid hw
  have HX := Lib.hid hx
  have HB := Lib.hid hb
  clear see sc hw hx hb
  clear hc
  have hs64 := HW.out.1
  conv => arg 2; whnf
  apply wp_seq_k
  intro KK hK
  have HKK := Lib.hid hK
  clear hK
  go_upto_region 5 with fail
  have hla := Cells.new wx 3 [.int .i64 s]
  have ho1 := (Below.refl wx.heap.size wx).alloc (Nat.le_refl _) (.cells #[.int .i64 s] 3)
  have HL1 := Lib.hid (show See (wx.alloc (.cells #[.int .i64 s] 3)) (some ⟨wx.heap.size, 0, none⟩) 1 memInt 1 [s] from See.of_cells (l := [s]) memInt_len (show Cells _ _ 3 ([s].flatMap memInt) from hla) (by simp only [List.length_singleton]; unfold maxLen; omega))
  have HX1 := Lib.hid (HX.out.below ho1 HX.out.lt)
  have HB1 := Lib.hid (HB.out.trans (ho1.mono HB.out.size))
  clear hla ho1 HX HB
  go_wp2_with fail
  refine (tcheck_any [s] (some ⟨wx.heap.size, 0, none⟩) 1 h.node.length 0 _ HL1.out (by omega) (by simp) (fun x hx => by simp only [List.mem_singleton] at hx; subst hx; exact HW.out.1)).mono ?_
  rintro e w1 ⟨v, rfl, hv, hb1⟩
  have HX2 := Lib.hid (HX1.out.below hb1 HX1.out.lt)
  have HB2 := Lib.hid (HB1.out.trans (hb1.mono HB1.out.size))
  have HV := Lib.hid hv
  clear hv hb1 HX1 HB1 HL1
  go_wp2_with fail
  refine (tcheck_any cols ca cc h.node.length 1 _ (SC.out.below HB2.out) (by omega) (by omega) HW.out.2).mono ?_
  rintro e w2 ⟨u, rfl, hu, hb2⟩
  have ho := (Below.refl w2.heap.size w2).alloc (Nat.le_refl _) (.cells #[v, u] 29)
  have hb2' := hb2.trans (ho.mono hb2.size)
  have HX3 := Lib.hid (HX2.out.below hb2' HX2.out.lt)
  have HB3 := Lib.hid (HB2.out.trans (hb2'.mono HB2.out.size))
  have HV2 := Lib.hid (HV.out.below hb2')
  have HU2 := Lib.hid (hu.below ho)
  have HC0 := Lib.hid ((Cells.new w2 29 [v, u]).cell (i := 0) rfl)
  have HC1 := Lib.hid ((Cells.new w2 29 [v, u]).cell (i := 1) rfl)
  have HSV := Lib.hid HV.out.shape
  have HSU := Lib.hid hu.shape
  clear hu hb2 ho hb2' HX2 HB2 HV
  rcases HSV.out with hsv | ⟨t3, v3, hsv⟩ <;> rcases HSU.out with hsu | ⟨t4, v4, hsu⟩
  all_goals
    subst hsv
    subst hsu
    clear HSV HSU
    go_wp2_with fail
    refine (first_any _ _ (listErr h.node.length [s] 0) (listErr h.node.length cols 1) w2.heap.size 2 _ HV2.out HU2.out HC0.out HC1.out).mono ?_
    rintro e w3 ⟨z, rfl, hz, rfl⟩
    have HZ := Lib.hid hz
    clear hz HV2 HU2 HC0 HC1
    by_cases hf : firstOf (listErr h.node.length [s] 0) (listErr h.node.length cols 1) = .nil
    · obtain rfl := HZ.out.nilv hf
      have HOK := Lib.hid hf
      clear hf
      go_wp2_with fail
      refine HKK.out _ _ ?_
      clear HKK KK
      conv => arg 2; whnf
      apply wp_seq_k
      intro K4 hK
      have HK4 := Lib.hid hK
      clear hK
      go_wp2_with fail
      refine HK4.out _ _ ?_
      change Code.wp _ (tailAt 5 nearBody) _ _ _
      exact near_loop SEE.out SC.out hlc HW.out HX3.out HB3.out HC.out HOK.out
    · obtain ⟨t1, v1, rfl⟩ := HZ.out.iface hf
      have HNR := Lib.hid (show nearR h s cols = (0, 0, firstOf (listErr h.node.length [s] 0) (listErr h.node.length cols 1)) by unfold nearR; rw [if_neg (fun e => e HC.out), if_pos hf])
      clear hf
      go_wp2
      go_returns
      exact ⟨_, by rw [HNR.out]; rfl, by rw [HNR.out]; exact HZ.out, HB3.out⟩

set_option linter.unusedSimpArgs false in
set_option maxRecDepth 100000 in
set_option maxHeartbeats 8000000 in
theorem near_check {s0 s4 s5 s6 s7 s8 s9 s10 s11 s12 s13 s14 s15 s16 s17 s18 s19 s20 s21 s22 s23 s24 s25 s26 s27 s28 s29 s30 s31 s32 s33 s34 s35 s36 s37 s38 s39 s40 s41 s42 s43 s44 s45 s46 s47 s48 s49 s50 s51 s52 s53 s54 s55 s56 s57 s58 s59 s60 s61 s62 s63 s64 s65 s66 s67 s68 s69 s70 : Value} {A : HA} {h : HierD} {s : Int} {cols : List Int} {ca : Option Addr} {cc : Nat} {w wx : World} (see : HSee w A h) (sc : See w ca cc memInt 1 cols) (hlc : cols.length ≤ 1048576) (hw : s ≤ 9223372036854775807 ∧ WfList cols) (hx : Cells wx w.heap.size 25 (hierCells A h)) (hb : Below w.heap.size w wx) : Code.wp Try.prog (tailAt 1 nearBody) (bodyPost Try.prog Try.f28 (NearNew h s cols w)) ⟨#[s0, .int .i64 s, .slice ca cols.length cc, .pointer (some ⟨w.heap.size, 0, none⟩), s4, s5, s6, s7, s8, s9, s10, s11, s12, s13, s14, s15, s16, s17, s18, s19, s20, s21, s22, s23, s24, s25, s26, s27, s28, s29, s30, s31, s32, s33, s34, s35, s36, s37, s38, s39, s40, s41, s42, s43, s44, s45, s46, s47, s48, s49, s50, s51, s52, s53, s54, s55, s56, s57, s58, s59, s60, s61, s62, s63, s64, s65, s66, s67, s68, s69, s70], []⟩ wx := by
  have SEE := Lib.hid see
  have SC := Lib.hid sc
  have HW := Lib.hid hw
  have HX := Lib.hid hx
  have HB := Lib.hid hb
  clear see sc hw hx hb
  obtain ⟨k0, k1, k2, k3, k4⟩ := hier_five HX.out
  conv => arg 2; whnf
  apply wp_seq_k
  intro KK hK
  have HKK := Lib.hid hK
  clear hK
  go_wp2_with fail
  refine (hcheck_lit2 A h _ (SEE.out.below HB.out)).mono ?_
  rintro e w1 ⟨v, rfl, hv, hb1⟩
  have HV := Lib.hid hv
  have HX1 := Lib.hid (HX.out.below hb1 HX.out.lt)
  have HB1 := Lib.hid (HB.out.trans (hb1.mono HB.out.size))
  clear hv hb1 HX HB k0 k1 k2 k3 k4
  by_cases hc : checkErr h = .nil
  · obtain rfl := HV.out.nilv hc
    have HC := Lib.hid hc
    clear hc
    go_wp2_with fail
    refine HKK.out _ _ ?_
    clear HKK KK
    obtain ⟨k0, k1, k2, k3, k4⟩ := hier_five HX1.out
    conv => arg 2; whnf
    apply wp_seq_k
    intro K2 hK
    have HK2 := Lib.hid hK
    clear hK
    go_wp2_with fail
    refine HK2.out _ _ ?_
    change Code.wp _ (tailAt 3 nearBody) _ _ _
    exact near_first SEE.out SC.out hlc HW.out HX1.out HB1.out HC.out
  · obtain ⟨t1, v1, rfl⟩ := HV.out.iface hc
    have HNR := Lib.hid (show nearR h s cols = (0, 0, checkErr h) by unfold nearR; rw [if_pos hc])
    clear hc
    go_wp2
    go_returns
    exact ⟨_, by rw [HNR.out]; rfl, by rw [HNR.out]; exact HV.out, HB1.out⟩
set_option linter.unusedSimpArgs false in
set_option maxRecDepth 100000 in
set_option maxHeartbeats 8000000 in
/-- **table.Nearest.** -/
theorem nearest_any (A : HA) (h : HierD) (s : Int) (cols : List Int) (ca : Option Addr) (cc : Nat) (w : World) (see : HSee w A h) (sc : See w ca cc memInt 1 cols) (hlc : cols.length ≤ 1048576) (hw : s ≤ 9223372036854775807 ∧ WfList cols) :
    Calls Try.prog 28 #[hierVal A h, .int .i64 s, .slice ca cols.length cc] w (NearNew h s cols w) := by
  have SEE := Lib.hid see
  have SC := Lib.hid sc
  have HW := Lib.hid hw
  clear see sc hw
  unfold hierVal
  go_enter Try.func28, Try.ntmps28
  apply wp_seq_k
  intro K1 hK
  have HK1 := Lib.hid hK
  clear hK
  go_wp2_with fail
  refine HK1.out _ _ ?_
  change Code.wp _ (tailAt 1 nearBody) _ _ _
  exact near_check SEE.out SC.out hlc HW.out (Cells.new w 25 (hierCells A h)) ((Below.refl w.heap.size w).alloc (Nat.le_refl _) _)
end Go.Proofs.Ytjbphoophgbmiaa

/- Are two squares of numbers the same? -/

namespace Go.Proofs.Ytjbphoophgbmiaa
open Go.ChangeShapes Go.WideShapes Go.ChangeAt Go.RowKit Go.Joins Go.Deep

set_option linter.unusedSimpArgs false in
set_option maxRecDepth 100000 in
set_option maxHeartbeats 8000000 in
theorem samerow_any (n b1 b2 : Nat) (f g : Nat → Int) (w : World) (hn : n ≤ 65536) (h1 : Cells w b1 33 (rowCells n f)) (h2 : Cells w b2 33 (rowCells n g)) (he : ∀ x, x < n → f x = g x) : Calls Try.prog 44 #[.slice (some ⟨b1, 0, none⟩) n n, .slice (some ⟨b2, 0, none⟩) n n] w (BoolIs true w) := by
  have H1 := Lib.hid h1
  have H2 := Lib.hid h2
  have HE := Lib.hid he
  clear h1 h2 he
  go_enter Try.func44, Try.ntmps44
  go_wp2_with fail
  go_loopg [13] n (fun g vi wr => ∃ i : Nat, vi = .int .i64 i ∧ i ≤ n ∧ g = n - i ∧ Below w.heap.size w wr)
  case atStart => exact ⟨0, rfl, Nat.zero_le _, rfl, Below.refl _ _⟩
  case round =>
    obtain ⟨i, rfl, hi, hgi, hb⟩ := hrel
    obtain ⟨wo, rfl⟩ : ∃ wo : World, wo = wr := ⟨_, rfl⟩
    have HGI := Lib.hid hgi
    have HB := Lib.hid hb
    clear hgi hb
    by_cases hin : i < n
    · have c1 := (H1.out.below HB.out H1.out.lt).cell (rowCells_get (f := f) hin)
      have c2 := (H2.out.below HB.out H2.out.lt).cell (rowCells_get (f := g) hin)
      rw [← HE.out i hin] at c2
      go_upto_region 6 with fail
      go_quiet (fail)
      go_wp2_with fail
      go_roundg (n - (i + 1))
      case measure => rw [HGI.out]; omega
      case rel => exact ⟨i + 1, by go_num, by omega, rfl, below_drewN HB.out nq⟩
    · obtain rfl : i = n := by omega
      go_wp2
      go_returns
      exact ⟨rfl, HB.out⟩

theorem samerow_lit (n b1 b2 : Nat) (f g : Nat → Int) (w : World) (hn : n ≤ 65536) (h1 : Cells w b1 33 (rowCells n f)) (h2 : Cells w b2 33 (rowCells n g)) (he : ∀ x, x < n → f x = g x) : Calls Try.prog 44 #[.slice (some ⟨b1, 0, none⟩) n n, .slice (some ⟨b2, 0, none⟩) n n] w (BoolIs true w) := samerow_any n b1 b2 f g w hn h1 h2 he
set_option linter.unusedSimpArgs false in
set_option maxRecDepth 100000 in
set_option maxHeartbeats 8000000 in
theorem samematrix_any (n b1 b2 : Nat) (r1 r2 : Nat → Nat) (X Y : Nat → Nat → Int) (w : World) (hn : n ≤ 65536) (h1 : MRep n X b1 r1 w) (h2 : MRep n Y b2 r2 w) (he : ∀ v x, v < n → x < n → X v x = Y v x) : Calls Try.prog 19 #[.slice (some ⟨b1, 0, none⟩) n n, .slice (some ⟨b2, 0, none⟩) n n] w (BoolIs true w) := by
  have H1 := Lib.hid h1
  have H2 := Lib.hid h2
  have HE := Lib.hid he
  clear h1 h2 he
  go_enter Try.func19, Try.ntmps19
  go_wp2_with fail
  go_loopg [13] n (fun g vi wr => ∃ i : Nat, vi = .int .i64 i ∧ i ≤ n ∧ g = n - i ∧ Below w.heap.size w wr)
  case atStart => exact ⟨0, rfl, Nat.zero_le _, rfl, Below.refl _ _⟩
  case round =>
    obtain ⟨i, rfl, hi, hgi, hb⟩ := hrel
    obtain ⟨wo, rfl⟩ : ∃ wo : World, wo = wr := ⟨_, rfl⟩
    have HGI := Lib.hid hgi
    have HB := Lib.hid hb
    clear hgi hb
    by_cases hin : i < n
    · have c1 : wo.cell? ⟨b1, i, none⟩ = some (.slice (some ⟨r1 i, 0, none⟩) n n) := (H1.out.below HB.out).m.cell (ptrRow_get hin)
      have c2 : wo.cell? ⟨b2, i, none⟩ = some (.slice (some ⟨r2 i, 0, none⟩) n n) := (H2.out.below HB.out).m.cell (ptrRow_get hin)
      go_upto_region 6 with fail
      go_region_held3 (fun W => W.cell? ⟨b1, i, none⟩ = some (.slice (some ⟨r1 i, 0, none⟩) n n) ∧ W.cell? ⟨b2, i, none⟩ = some (.slice (some ⟨r2 i, 0, none⟩) n n)) (go_keep)
        (first
        | (go_at_call 44; (with_reducible refine (samerow_lit n (r1 i) (r2 i) (X i) (Y i) _ hn ((H1.out.below (HB.out.drew)).r i hin) ((H2.out.below (HB.out.drew)).r i hin) (fun x hx => HE.out i x hin hx)).mono ?_); rintro e w1 ⟨rfl, hb⟩; (have hbd := (HB.out.drew).trans (hb.mono (HB.out.drew).size)); (have d1 := ck hb c1); (have d2 := ck hb c2); (have HB1 := Lib.hid hbd); clear hbd hb))
      go_wp2_with fail
      go_roundg (n - (i + 1))
      case measure => rw [HGI.out]; omega
      case rel => exact ⟨i + 1, by go_num, by omega, rfl, HB1.out⟩
    · obtain rfl : i = n := by omega
      go_wp2
      go_returns
      exact ⟨rfl, HB.out⟩
end Go.Proofs.Ytjbphoophgbmiaa

/- Are two tables the same, by what is read of them. -/
namespace Go.Proofs.Ytjbphoophgbmiaa
open Go.ChangeShapes Go.WideShapes Go.ChangeAt Go.RowKit Go.Joins Go.Deep

def u64C (x : Int) : List Value := [.int .u64 x]
theorem u64C_len (x : Int) : (u64C x).length = 1 := rfl
def valC (v : Value) : List Value := [v]
theorem valC_len (v : Value) : (valC v).length = 1 := rfl
theorem rowCells_flat (k : Nat) (f : Nat → Int) : rowCells k f = ((List.range k).map f).flatMap u64C := by
  unfold rowCells
  rw [List.flatMap_map]
  induction List.range k with
  | nil => rfl
  | cons x l ih => rw [List.map_cons, List.flatMap_cons, ih]; rfl
theorem list_flat (l : List Value) : l = l.flatMap valC := by
  induction l with
  | nil => rfl
  | cons x l ih => rw [List.flatMap_cons, ← ih]; rfl
/-- A table of n rows of k numbers, by what is read of it. -/
structure MSee (n k : Nat) (X : Nat → Nat → Int) (m : Value) (w : World) : Prop where
  ex : ∃ (ao : Option Addr) (cap : Nat) (ro : Nat → Option Addr) (rc : Nat → Nat), m = .slice ao n cap ∧ See w ao cap valC 1 ((List.range n).map fun i => .slice (ro i) k (rc i)) ∧ ∀ i, i < n → See w (ro i) (rc i) u64C 1 ((List.range k).map (X i))
theorem MSee.below {n k : Nat} {X : Nat → Nat → Int} {m : Value} {w w' : World} (h : MSee n k X m w) (o : Below w.heap.size w w') : MSee n k X m w' := by
  obtain ⟨ao, cap, ro, rc, e, h1, h2⟩ := h.ex
  exact ⟨ao, cap, ro, rc, e, h1.below o, fun i hi => (h2 i hi).below o⟩
theorem MSee.nil (k : Nat) (X : Nat → Nat → Int) (w : World) : MSee 0 k X (.slice none 0 0) w := ⟨none, 0, fun _ => none, fun _ => 0, rfl, See.nil _ _ _, fun i hi => absurd hi (by omega)⟩
theorem TabRep.see {n k : Nat} {X : Nat → Nat → Int} {base : Nat} {m : Value} {rb : Nat → Nat} {w : World} (t : TabRep n k X base m rb w) (hk : k ≤ maxLen) : MSee n k X m w := by
  obtain ⟨ao, cap, rfl⟩ := own_form' t.own
  have ho := t.own
  rw [list_flat ((List.range n).map fun i => Value.slice (some ⟨rb i, 0, none⟩) k k)] at ho
  refine ⟨ao, cap, fun i => some ⟨rb i, 0, none⟩, fun _ => k, rfl, (See.of_own valC_len ho (by omega)).1, fun i hi => ?_⟩
  have hc := t.r i hi
  rw [rowCells_flat] at hc
  have := See.of_cells u64C_len hc (by simpa using hk)
  simpa using this
set_option linter.unusedSimpArgs false in
set_option maxRecDepth 100000 in
set_option maxHeartbeats 8000000 in
theorem samerow_see (k : Nat) (f g : Nat → Int) (ao bo : Option Addr) (ac bc : Nat) (w : World) (hk : k ≤ 140737488355328) (h1 : See w ao ac u64C 1 ((List.range k).map f)) (h2 : See w bo bc u64C 1 ((List.range k).map g)) (he : ∀ x, x < k → f x = g x) : Calls Try.prog 44 #[.slice ao k ac, .slice bo k bc] w (BoolIs true w) := by
  have H1 := Lib.hid h1
  have H2 := Lib.hid h2
  have HE := Lib.hid he
  clear h1 h2 he
  go_enter Try.func44, Try.ntmps44
  go_wp2_with fail
  go_loopg [13] k (fun g vi wr => ∃ i : Nat, vi = .int .i64 (i : Int) ∧ i ≤ k ∧ g = k - i ∧ Below w.heap.size w wr)
  case atStart => exact ⟨0, rfl, Nat.zero_le _, rfl, Below.refl _ _⟩
  case round =>
    obtain ⟨i, rfl, hi, hgi, hb⟩ := hrel
    obtain ⟨wo, rfl⟩ : ∃ wo : World, wo = wr := ⟨_, rfl⟩
    have HGI := Lib.hid hgi
    have HB := Lib.hid hb
    clear hgi hb
    by_cases hin : i < k
    · obtain ⟨b1, o1, ea1, cc1⟩ := (H1.out.below HB.out).cell i (f i) (by simp [hin])
      obtain ⟨b2, o2, ea2, cc2⟩ := (H2.out.below HB.out).cell i (g i) (by simp [hin])
      have c1 := cc1 0 _ rfl
      have c2 := cc2 0 _ rfl
      rw [← HE.out i hin] at c2
      rw [Nat.add_zero, Nat.mul_one] at c1 c2
      have EA := Lib.hid ea1
      have EB := Lib.hid ea2
      clear cc1 cc2 ea1 ea2
      rw [EA.out, EB.out]
      go_upto_region 6 with fail
      go_quiet (fail)
      go_wp2_with fail
      rw [← EA.out, ← EB.out]
      go_roundg (k - (i + 1))
      case measure => rw [HGI.out]; omega
      case rel => exact ⟨i + 1, by go_num, by omega, rfl, below_drewN HB.out nq⟩
    · obtain rfl : i = k := by omega
      go_wp2
      go_returns
      exact ⟨rfl, HB.out⟩
set_option linter.unusedSimpArgs false in
set_option maxRecDepth 100000 in
set_option maxHeartbeats 8000000 in
/-- **SameMatrix** of two tables that read alike. -/
theorem samematrix_see (n k : Nat) (X Y : Nat → Nat → Int) (m p : Value) (w : World) (hn : n ≤ 140737488355328) (hk : k ≤ 140737488355328) (h1 : MSee n k X m w) (h2 : MSee n k Y p w) (he : ∀ v x, v < n → x < k → X v x = Y v x) : Calls Try.prog 19 #[m, p] w (BoolIs true w) := by
  obtain ⟨ao, ac, ro, rc, rfl, h3, h4⟩ := h1.ex
  obtain ⟨bo, bc, so, sc, rfl, h5, h6⟩ := h2.ex
  have H1 := Lib.hid h3
  have H2 := Lib.hid h5
  have R1 := Lib.hid h4
  have R2 := Lib.hid h6
  have HE := Lib.hid he
  clear h1 h2 h3 h4 h5 h6 he
  go_enter Try.func19, Try.ntmps19
  go_wp2_with fail
  go_loopg [13] n (fun g vi wr => ∃ i : Nat, vi = .int .i64 (i : Int) ∧ i ≤ n ∧ g = n - i ∧ Below w.heap.size w wr)
  case atStart => exact ⟨0, rfl, Nat.zero_le _, rfl, Below.refl _ _⟩
  case round =>
    obtain ⟨i, rfl, hi, hgi, hb⟩ := hrel
    obtain ⟨wo, rfl⟩ : ∃ wo : World, wo = wr := ⟨_, rfl⟩
    have HGI := Lib.hid hgi
    have HB := Lib.hid hb
    clear hgi hb
    by_cases hin : i < n
    · obtain ⟨b1, o1, ea1, cc1⟩ := (H1.out.below HB.out).cell i (.slice (ro i) k (rc i)) (by simp [hin])
      obtain ⟨b2, o2, ea2, cc2⟩ := (H2.out.below HB.out).cell i (.slice (so i) k (sc i)) (by simp [hin])
      have c1 := cc1 0 _ rfl
      have c2 := cc2 0 _ rfl
      rw [Nat.add_zero, Nat.mul_one] at c1 c2
      have EA := Lib.hid ea1
      have EB := Lib.hid ea2
      clear cc1 cc2 ea1 ea2
      rw [EA.out, EB.out]
      go_upto_region 6 with fail
      go_region_held3 (fun W => W.cell? ⟨b1, o1 + i, none⟩ = some (.slice (ro i) k (rc i)) ∧ W.cell? ⟨b2, o2 + i, none⟩ = some (.slice (so i) k (sc i))) (go_keep)
        (first
        | (go_at_call 44; (with_reducible refine (samerow_see k (X i) (Y i) (ro i) (so i) (rc i) (sc i) _ hk ((R1.out i hin).below (HB.out.drew)) ((R2.out i hin).below (HB.out.drew)) (fun x hx => HE.out i x hin hx)).mono ?_); rintro e w1 ⟨rfl, hb⟩; (have hbd := (HB.out.drew).trans (hb.mono (HB.out.drew).size)); (have hbe := ((Below.refl wo.heap.size wo).drew).trans (hb.mono (Nat.le_refl _))); (have a1 := ck hbe c1); (have a2 := ck hbe c2); (have HB1 := Lib.hid hbd); (clear hbd hbe hb)))
      go_wp2_with fail
      rw [← EA.out, ← EB.out]
      go_roundg (n - (i + 1))
      case measure => rw [HGI.out]; omega
      case rel => exact ⟨i + 1, by go_num, by omega, rfl, HB1.out⟩
    · obtain rfl : i = n := by omega
      go_wp2
      go_returns
      exact ⟨rfl, HB.out⟩
end Go.Proofs.Ytjbphoophgbmiaa

/- TwinInts; layer 23's few and awake. -/
namespace Go.Proofs.Ytjbphoophgbmiaa
open Go.ChangeShapes Go.WideShapes Go.ChangeAt Go.RowKit Go.Joins Go.Deep

def IntsTw (l : List Int) (w : World) (e : Ending) (w' : World) : Prop := ∃ ao cap, e = .returned (.slice ao l.length cap) ∧ See w' ao cap memInt 1 l ∧ (∀ b o, ao = some ⟨b, o, none⟩ → w.heap.size ≤ b) ∧ Below w.heap.size w w'
set_option maxRecDepth 100000 in
theorem twinints_any (l : List Int) (ao : Option Addr) (cap : Nat) (w : World) (see : See w ao cap memInt 1 l) (hl : l.length * 8 ≤ 140737488355328) :
    Calls Try.prog 20 #[.slice ao l.length cap] w (IntsTw l w) := by
  have SEE := Lib.hid see
  clear see
  go_enter Try.func20, Try.ntmps20
  go_wp2_with fail
  go_loopg [3, 8] l.length (fun g vm vi wr => ∃ (k : Nat) (ao2 : Option Addr) (cap2 : Nat), vi = .int .i64 k ∧ k ≤ l.length ∧ g = l.length - k ∧ vm = .slice ao2 k cap2 ∧
    wr.ownsRow 0 3 1 (.slice ao2 k cap2) k ((l.take k).flatMap memInt) ∧ (∀ b, (Value.slice ao2 k cap2).ownBlock = some b → w.heap.size ≤ b) ∧ Below w.heap.size w wr)
  case atStart => exact ⟨0, none, 0, rfl, Nat.zero_le _, rfl, rfl, World.ownsRow_nil _ _ _ _, by simp [Value.ownBlock], Below.refl _ _⟩
  case round =>
    obtain ⟨k, ao2, cap2, rfl, hk, hg, rfl, hown, hnew, hbl⟩ := hrel
    have HG := Lib.hid hg
    have HOWN := Lib.hid hown
    have HNEW := Lib.hid hnew
    have HBL := Lib.hid hbl
    have hz := hbl.size
    clear hg hown hnew hbl
    by_cases hkl : k < l.length
    · obtain ⟨x, hx⟩ : ∃ x, l[k]? = some x := ⟨_, List.getElem?_eq_getElem hkl⟩
      obtain ⟨b, o, ea, cc⟩ := (SEE.out.below HBL.out).cell k x hx
      have e0 := cc 0 _ rfl
      rw [Nat.mul_one, Nat.add_zero] at e0
      have lb := block_lt e0
      have EA := Lib.hid ea
      have HX := Lib.hid hx
      clear ea cc hx
      rw [EA.out]
      go_wp2_with (at_builtin; refine wpList_app _ rfl _ _ 40 rfl 3 (.int .i64 0) 1 8 Try.underlying40 Try.infoInt rfl (by decide) (.slice ao2 k cap2) k ((l.take k).flatMap memInt) rfl ?own ⟨wr.heap.size, 0, none⟩ 1 1 (memInt x) rfl rfl ?c1 ?c2 ?c3 ?c4 ?_)
      case own => exact own_kept (bs := []) HOWN.out ((Only.refl _ wr).alloc _) (fun q _ => by simp)
      case c1 => exact cells_new wr 3 (memInt x)
      case c2 => intro u hu; simp [memInt] at hu; subst hu; rfl
      case c3 => unfold maxLen; omega
      case c4 => omega
      intro ao5 cap5 w5 hown5 ho5 hk5
      have hbw := HBL.out.alloc hz (.cells #[.int .i64 x] 3)
      have hnew5 : ∀ x, (Value.slice ao5 (k + 1) cap5).ownBlock = some x → w.heap.size ≤ x := by
        intro x hx
        rcases hk5 x hx with h1 | h1
        · exact HNEW.out x h1
        · have := hbw.size; omega
      have hbl5 : Below w.heap.size w w5 := hbw.trans (ho5.below hbw.size (fun q hq => HNEW.out q (by simpa using hq)))
      have hf5 : (l.take k).flatMap memInt ++ memInt x = (l.take (k + 1)).flatMap memInt := by
        rw [List.take_add_one, HX.out, List.flatMap_append]
        simp
      rw [hf5] at hown5
      have O5 := Lib.hid hown5
      have N5 := Lib.hid hnew5
      have B5 := Lib.hid hbl5
      clear hown5 ho5 hk5 hnew5 hbl5 hf5 hbw
      go_wp2_with fail
      rw [← EA.out]
      go_roundg (l.length - (k + 1))
      case measure => rw [HG.out]; omega
      case rel => exact ⟨k + 1, ao5, cap5, by go_num, by omega, rfl, rfl, O5.out, N5.out, B5.out⟩
    · obtain rfl : k = l.length := by omega
      go_wp2
      go_returns
      have hO := HOWN.out
      rw [List.take_length] at hO
      refine ⟨ao2, cap2, rfl, (See.of_own memInt_len hO (by omega)).1, fun b o e => ?_, HBL.out⟩
      subst e
      rcases hO.2 with ⟨h1, -⟩ | ⟨g, c, cur, h1, -⟩
      · cases h1
      · simp only [Value.slice.injEq, Option.some.injEq, Addr.mk.injEq] at h1
        obtain ⟨⟨rfl, rfl, -⟩, -, -⟩ := h1
        exact HNEW.out _ rfl
def FewTab (h : HierD) (nr nc : Nat) (w : World) (e : Ending) (w' : World) : Prop := ∃ b : Bool, e = .returned (.bool b) ∧ (b = true → h.node.length ≤ 14 ∧ nr ≤ 300 ∧ nc ≤ 300) ∧ Below w.heap.size w w'
set_option linter.unusedSimpArgs false in
set_option maxRecDepth 100000 in
set_option maxHeartbeats 8000000 in
theorem few23_any (A : HA) (h : HierD) (ra ca : Option Addr) (nr nc rc cc : Nat) (w : World) : Calls Try.prog 13 #[hierVal A h, .slice ra nr rc, .slice ca nc cc] w (FewTab h nr nc w) := by
  have HX := Lib.hid (Cells.new w 25 (hierCells A h))
  have HB := Lib.hid ((Below.refl w.heap.size w).alloc (Nat.le_refl _) (.cells (hierCells A h).toArray 25))
  obtain ⟨k0, k1, k2, k3, k4⟩ := hier_five HX.out
  unfold hierVal
  by_cases hf : h.node.length ≤ 14
  · have d2 : decide ((h.node.length : Int) ≤ 14) = true := by simp; omega
    have HFL := Lib.hid hf
    clear hf
    by_cases hr : nr ≤ 300
    · have d3 : decide ((nr : Int) ≤ 300) = true := by simp; omega
      have HFR := Lib.hid hr
      clear hr
      by_cases hc : nc ≤ 300
      · have d4 : decide ((nc : Int) ≤ 300) = true := by simp; omega
        have HFC := Lib.hid hc
        clear hc
        go_enter Try.func13, Try.ntmps13
        go_wp2_with fail
        refine (count_any A h _).mono ?_
        rintro e w1 ⟨c, rfl, -, hb⟩
        have HB1 := Lib.hid (HB.out.trans (hb.mono HB.out.size))
        clear hb k0 k1 k2 k3 k4
        cases hcc : decide (c ≤ 400)
        all_goals (go_wp2; go_returns; exact ⟨_, rfl, fun _ => ⟨HFL.out, HFR.out, HFC.out⟩, HB1.out⟩)
      · have d4 : decide ((nc : Int) ≤ 300) = false := by simp; omega
        clear hc
        go_enter Try.func13, Try.ntmps13
        go_wp2_with fail
        refine (count_any A h _).mono ?_
        rintro e w1 ⟨c, rfl, -, hb⟩
        have HB1 := Lib.hid (HB.out.trans (hb.mono HB.out.size))
        clear hb k0 k1 k2 k3 k4
        cases hcc : decide (c ≤ 400)
        all_goals (go_wp2; go_returns; exact ⟨_, rfl, fun e => (by cases e), HB1.out⟩)
    · have d3 : decide ((nr : Int) ≤ 300) = false := by simp; omega
      clear hr
      go_enter Try.func13, Try.ntmps13
      go_wp2_with fail
      refine (count_any A h _).mono ?_
      rintro e w1 ⟨c, rfl, -, hb⟩
      have HB1 := Lib.hid (HB.out.trans (hb.mono HB.out.size))
      clear hb k0 k1 k2 k3 k4
      cases hcc : decide (c ≤ 400)
      all_goals (go_wp2; go_returns; exact ⟨_, rfl, fun e => (by cases e), HB1.out⟩)
  · have d2 : decide ((h.node.length : Int) ≤ 14) = false := by simp; omega
    clear hf
    go_enter Try.func13, Try.ntmps13
    go_wp2
    go_returns
    exact ⟨_, rfl, fun e => (by cases e), HB.out⟩

theorem three_good : ofErr threeD [0, 2] [2, 0, 1] = .nil := by decide +kernel
theorem three_near : nearR threeD 0 [2, 1] = (1, 4, .nil) := by decide +kernel
def awX (i j : Nat) : Int := if i = 0 then [5, 0, 4].getD j 0 else [0, 18446744073709551615, 18446744073709551615].getD j 0
theorem three_tab : ∀ i < 2, ∀ j < 3, tabD threeD ([0, 2].getD i 0) ([2, 0, 1].getD j 0) = awX i j := by decide +kernel
set_option linter.unusedSimpArgs false in
set_option maxRecDepth 100000 in
set_option maxHeartbeats 8000000 in
theorem awake23_any (w : World) : Calls Try.prog 12 #[] w (TrueNew w) := by
  go_enter Try.func12, Try.ntmps12
  apply wp_seq_k
  intro K0 hK
  have HK0 := Lib.hid hK
  clear hK
  go_wp2_with fail
  refine HK0.out _ _ ?_
  clear HK0
  apply wp_seq_k
  intro K1 hK
  have HK1 := Lib.hid hK
  clear hK
  go_wp2_with fail
  refine (three_any _).mono ?_
  rintro e w1 ⟨A1, rfl, s1, -, b1⟩
  have B1 := Lib.hid b1
  have S1 := Lib.hid s1
  clear b1 s1
  go_wp2_with fail
  have hwf : WfList [0, 2] ∧ WfList [2, 0, 1] := ⟨by intro x hx; simp at hx; omega, by intro x hx; simp at hx; omega⟩
  have ho1 := ((Below.refl w1.heap.size w1).alloc (Nat.le_refl _) (.cells #[.int .i64 0, .int .i64 2] 3)).alloc (by simp) (.cells #[.int .i64 2, .int .i64 0, .int .i64 1] 3)
  have cr := (Cells.new w1 3 ([0, 2].flatMap memInt)).alloc (.cells #[.int .i64 2, .int .i64 0, .int .i64 1] 3)
  have cc := Cells.new' (w := w1.alloc (.cells #[.int .i64 0, .int .i64 2] 3)) (b := w1.heap.size + 1) (by simp) 3 ([2, 0, 1].flatMap memInt)
  refine (of_any A1 threeD [0, 2] [2, 0, 1] _ _ 2 3 _ (S1.out.below ho1) (See.of_cells memInt_len cr (by simp [maxLen])) (See.of_cells memInt_len cc (by simp [maxLen])) (by simp) (by simp) hwf).mono ?_
  rintro e w2 ⟨m, v, rfl, hv, hb, -, hm⟩
  rw [three_good] at hv
  obtain rfl := hv.nilv rfl
  obtain ⟨rb, hm⟩ := hm three_good
  have M2 := Lib.hid (hm.see (by simp [maxLen]))
  have B2 := Lib.hid (B1.out.trans ((ho1.trans (hb.mono ho1.size)).mono B1.out.size))
  clear hv hb hm hwf ho1 cr cc B1 S1
  go_wp2_with fail
  refine HK1.out _ _ ?_
  clear HK1
  apply wp_seq_k
  intro K2 hK
  have HK2 := Lib.hid hK
  clear hK
  go_wp2_with fail
  refine (three_any _).mono ?_
  rintro e w3 ⟨A3, rfl, s3, -, b3⟩
  have B3 := Lib.hid (B2.out.trans (b3.mono B2.out.size))
  have M3 := Lib.hid (M2.out.below b3)
  have S3 := Lib.hid s3
  clear b3 s3 B2 M2
  go_wp2_with fail
  have hwf : WfList [2, 1] := by intro x hx; simp at hx; omega
  have ho3 := (Below.refl w3.heap.size w3).alloc (Nat.le_refl _) (.cells #[.int .i64 2, .int .i64 1] 3)
  have cc := Cells.new w3 3 ([2, 1].flatMap memInt)
  refine (nearest_any A3 threeD 0 [2, 1] _ 2 _ (S3.out.below ho3) (See.of_cells memInt_len cc (by simp [maxLen])) (by simp) ⟨by omega, hwf⟩).mono ?_
  rintro e w4 ⟨v, rfl, hv, hb⟩
  rw [three_near] at hv ⊢
  obtain rfl := hv.nilv rfl
  have B4 := Lib.hid (B3.out.trans ((ho3.trans (hb.mono ho3.size)).mono B3.out.size))
  have M4 := Lib.hid (M3.out.below (ho3.trans (hb.mono ho3.size)))
  clear hv hb hwf ho3 cc B3 S3 M3
  go_wp2_with fail
  refine HK2.out _ _ ?_
  clear HK2
  obtain ⟨mo, mc, mr, mx, rfl, -, -⟩ := M4.out.ex
  go_wp2_with fail
  have hr0 := ((Cells.new w4 33 ([5, 0, 4].flatMap u64C)).alloc (.cells #[.int .u64 0, .int .u64 18446744073709551615, .int .u64 18446744073709551615] 33)).alloc (.cells #[.slice (some ⟨w4.heap.size, 0, none⟩) 3 3, .slice (some ⟨w4.heap.size + 1, 0, none⟩) 3 3] 48)
  have hr1 := (Cells.new' (w := w4.alloc (.cells #[.int .u64 5, .int .u64 0, .int .u64 4] 33)) (b := w4.heap.size + 1) (by simp) 33 ([0, 18446744073709551615, 18446744073709551615].flatMap u64C)).alloc (.cells #[.slice (some ⟨w4.heap.size, 0, none⟩) 3 3, .slice (some ⟨w4.heap.size + 1, 0, none⟩) 3 3] 48)
  have hm := Cells.new' (w := (w4.alloc (.cells #[.int .u64 5, .int .u64 0, .int .u64 4] 33)).alloc (.cells #[.int .u64 0, .int .u64 18446744073709551615, .int .u64 18446744073709551615] 33)) (b := w4.heap.size + 1 + 1) (by simp) 48 ([Value.slice (some ⟨w4.heap.size, 0, none⟩) 3 3, Value.slice (some ⟨w4.heap.size + 1, 0, none⟩) 3 3].flatMap valC)
  have ho := (((Below.refl w4.heap.size w4).alloc (Nat.le_refl _) (.cells #[.int .u64 5, .int .u64 0, .int .u64 4] 33)).alloc (by simp) (.cells #[.int .u64 0, .int .u64 18446744073709551615, .int .u64 18446744073709551615] 33)).alloc (by simp; omega) (.cells #[.slice (some ⟨w4.heap.size, 0, none⟩) 3 3, .slice (some ⟨w4.heap.size + 1, 0, none⟩) 3 3] 48)
  refine (samematrix_see 2 3 _ awX _ _ _ (by omega) (by omega) (M4.out.below ho) ⟨_, 2, fun i => if i = 0 then some ⟨w4.heap.size, 0, none⟩ else some ⟨w4.heap.size + 1, 0, none⟩, fun _ => 3, rfl, See.of_cells valC_len hm (by simp [maxLen]), fun i hi => ?_⟩ (fun v x hv hx => three_tab v hv x hx)).mono ?_
  · match i, hi with
    | 0, _ => exact See.of_cells u64C_len hr0 (by simp [maxLen])
    | 1, _ => exact See.of_cells u64C_len hr1 (by simp [maxLen])
  rintro e w5 ⟨rfl, hb⟩
  have B5 := Lib.hid (B4.out.trans ((ho.trans (hb.mono ho.size)).mono B4.out.size))
  clear hb ho hr0 hr1 hm M4 B4
  go_wp2
  go_returns
  exact ⟨rfl, B5.out⟩
end Go.Proofs.Ytjbphoophgbmiaa

/- Copy and append of whole numbers within one block; SameInts. -/
namespace Go.Proofs.Ytjbphoophgbmiaa
open Go.ChangeShapes Go.WideShapes Go.ChangeAt Go.RowKit Go.Joins Go.Deep

section
variable {P : Program} {w : World}
theorem wp_copyR {o : Oper} {a : Act} {K : Act → World → Prop} {Q : Exit → Act → World → Prop} (s x : Operand) (t : TypeId)
    (ho : o.op = .call { callee := .builtin .copy, args := #[s, x], argTypes := #[t, t] }) (v u r : Value) (w' : World) (hs : a.eval s = v) (hx : a.eval x = u)
    (hr : (Builtin.copy_ #[t, t] o.type #[v, u]).run P w = .ok r w') (h : K (a.put o.dst r) w') : o.wp P a w K Q := by
  unfold Oper.wp execOp
  simp only [ho, resolve, invoke, builtin, Sem.run_bind, Sem.run_pure, Result.andThen_ok, List.map_toArray, List.map_cons, List.map_nil, hs, hx, hr]
  exact h
theorem wpList_copyR {ops : Array Oper} {rest : List Oper} {o : Oper} {a : Act} {Q : Exit → Act → World → Prop} (hgd : o.guard = none) (s x : Operand) (t : TypeId)
    (ho : o.op = .call { callee := .builtin .copy, args := #[s, x], argTypes := #[t, t] }) (v u r : Value) (w' : World) (hs : a.eval s = v) (hx : a.eval x = u)
    (hr : (Builtin.copy_ #[t, t] o.type #[v, u]).run P w = .ok r w') (h : wpList P ops Q rest (a.put o.dst r) w') : wpList P ops Q (o :: rest) a w :=
  wpList_plain hgd fun _ hK => wp_copyR s x t ho v u r w' hs hx hr (hK _ _ h)
theorem wp_appR {o : Oper} {a : Act} {K : Act → World → Prop} {Q : Exit → Act → World → Prop} (s x : Operand) (t : TypeId)
    (ho : o.op = .call { callee := .builtin .append, args := #[s, x], argTypes := #[t, t] }) (v u r : Value) (w' : World) (hs : a.eval s = v) (hx : a.eval x = u)
    (hr : (Builtin.append_ #[t, t] o.type #[v, u]).run P w = .ok r w') (h : K (a.put o.dst r) w') : o.wp P a w K Q := by
  unfold Oper.wp execOp
  simp only [ho, resolve, invoke, builtin, Sem.run_bind, Sem.run_pure, Result.andThen_ok, List.map_toArray, List.map_cons, List.map_nil, hs, hx, hr]
  exact h
theorem wpList_appR {ops : Array Oper} {rest : List Oper} {o : Oper} {a : Act} {Q : Exit → Act → World → Prop} (hgd : o.guard = none) (s x : Operand) (t : TypeId)
    (ho : o.op = .call { callee := .builtin .append, args := #[s, x], argTypes := #[t, t] }) (v u r : Value) (w' : World) (hs : a.eval s = v) (hx : a.eval x = u)
    (hr : (Builtin.append_ #[t, t] o.type #[v, u]).run P w = .ok r w') (h : wpList P ops Q rest (a.put o.dst r) w') : wpList P ops Q (o :: rest) a w :=
  wpList_plain hgd fun _ hK => wp_appR s x t ho v u r w' hs hx hr (hK _ _ h)
theorem run_make_nc (t e : TypeId) (z : Value) (size bytes : Nat) (ht : P.underlying t = some (.slice e)) (hinfo : (P.info? e).map (fun i => (i.zero, i.size, i.bytes)) = some (some z, size, bytes))
    (kl kc : IntKind) (n c : Nat) (hc : n ≤ c) (hbytes : bytes * c ≤ 281474976710656) (h63 : c ≤ 9223372036854775807) (W : World) :
    (Instr.makeSlice t (.int kl (n : Int)) (.int kc (c : Int))).run P W = .ok (.slice (some ⟨W.heap.size, 0, none⟩) n c) (W.alloc (.cells (madeCells z.cells (c * size)) e)) := by
  obtain ⟨i, hi, hz, hs, hb⟩ := info_parts hinfo
  subst hs
  subst hb
  have hb' : (i.bytes : Int) * (c : Int) ≤ 281474976710656 := by
    have h : ((i.bytes * c : Nat) : Int) ≤ 281474976710656 := by omega
    rwa [Int.natCast_mul] at h
  have hr := run_make (P := P) W t e i z ht hi hz kl kc n c (by omega) (by omega) hb' (by omega)
  simp only [Int.toNat_natCast] at hr
  exact hr
theorem memInt_flat (l : List Int) : l.flatMap memInt = l.map fun x => Value.int .i64 x := by
  induction l with
  | nil => rfl
  | cons a l ih => rw [List.flatMap_cons, ih]; rfl
theorem memInt_cell {l : List Int} {j : Nat} {u : Value} (h : (l.flatMap memInt)[j]? = some u) : ∃ x, l[j]? = some x ∧ u = .int .i64 x := by
  rw [memInt_flat, List.getElem?_map] at h
  cases hx : l[j]? with
  | none => rw [hx] at h; cases h
  | some x => rw [hx] at h; exact ⟨x, rfl, (Option.some.inj h).symm⟩
/-- copy(y, l): into a fresh block. -/
theorem copy_ints {t e : TypeId} (ty : TypeId) {g rc n : Nat} {ra : Option Addr} {l : List Int} (hl : l.length = n) (hu : P.underlying t = some (.slice e)) (hs : (P.info? e).map (·.size) = some 1)
    (hg : Cells w g e (List.replicate (n + 2) (.int .i64 0))) (hs' : See w ra rc memInt 1 l) :
    ∃ w', (Builtin.copy_ #[t, t] ty #[.slice (some ⟨g, 0, none⟩) n (n + 2), .slice ra n rc]).run P w = .ok (goInt n) w' ∧ Cells w' g e (l.flatMap memInt ++ List.replicate 2 (.int .i64 0)) ∧ ∀ B w0, Below B w0 w → B ≤ g → Below B w0 w' := by
  subst hl
  cases hl : l with
  | nil =>
    subst hl
    exact ⟨w, run_copy_none w t t ty e _ _ _ _ _ _ hu hs rfl, hg, fun B w0 h _ => h⟩
  | cons x0 l0 =>
    rw [← hl]
    obtain ⟨b, o, rfl, -⟩ := hs'.cell 0 x0 (by rw [hl]; rfl)
    have hlen : (l.flatMap memInt).length = l.length := by rw [memInt_flat, List.length_map]
    have hr := run_copy_row (P := P) w t t ty e g 0 l.length (l.length + 2) ⟨b, o, none⟩ l.length rc (List.replicate (l.length + 2) (Value.int .i64 0)).toArray e (l.flatMap memInt) hu hs hg (by rw [hlen]; exact (Nat.min_self _).symm)
      (fun j v hv => by
        obtain ⟨x, hx, rfl⟩ := memInt_cell hv
        obtain ⟨b', o', e', hc⟩ := hs'.cell j x hx
        simp only [Option.some.injEq, Addr.mk.injEq, and_true] at e'
        obtain ⟨rfl, rfl⟩ := e'
        have := hc 0 _ rfl
        rw [Nat.mul_one, Nat.add_zero] at this
        have e : (⟨b, o, none⟩ : Addr).add j = ⟨b, o + j, none⟩ := by unfold Addr.add; split <;> simp_all
        rw [e]
        exact this) (by rw [hlen]; simp) (fun v hv => by
        rw [memInt_flat, List.mem_map] at hv
        obtain ⟨x, -, rfl⟩ := hv
        rfl)
    have hcs : ((List.replicate (l.length + 2) (Value.int .i64 0)).toArray.toList.take 0 ++ l.flatMap memInt ++ (List.replicate (l.length + 2) (Value.int .i64 0)).toArray.toList.drop (0 + (l.flatMap memInt).length)).toArray = (l.flatMap memInt ++ List.replicate 2 (Value.int .i64 0)).toArray := by
      rw [hlen]
      simp
    rw [hcs, hlen] at hr
    exact ⟨_, hr, setRow_heap w g _ _ e (0, 0) hg, fun B w0 h hB => below_setRow h hB _⟩
/-- append(y, a, b): within the room. -/
theorem app_ints {t e : TypeId} (ty : TypeId) {g s n : Nat} {l : List Int} (a b : Int) (hl : l.length = n) (ht : P.underlying t = some (.slice e)) (hs : (P.info? e).map (·.size) = some 1)
    (hg : Cells w g e (l.flatMap memInt ++ List.replicate 2 (.int .i64 0))) (hc : Cells w s e [.int .i64 a, .int .i64 b]) :
    ∃ w', (Builtin.append_ #[t, t] ty #[.slice (some ⟨g, 0, none⟩) n (n + 2), .slice (some ⟨s, 0, none⟩) 2 2]).run P w = .ok (.slice (some ⟨g, 0, none⟩) (n + 2) (n + 2)) w' ∧ Cells w' g e (l.flatMap memInt ++ [.int .i64 a, .int .i64 b]) ∧ ∀ B w0, Below B w0 w → B ≤ g → Below B w0 w' := by
  subst hl
  obtain ⟨i, hi, hsz⟩ : ∃ i, P.info? e = some i ∧ i.size = 1 := by
    cases h : P.info? e with
    | none => rw [h] at hs; cases hs
    | some i => rw [h] at hs; exact ⟨i, rfl, Option.some.inj hs⟩
  have hlen : (l.flatMap memInt).length = l.length := by rw [memInt_flat, List.length_map]
  have hr := run_append_room (P := P) w t ty e i ht hi g l.length (l.length + 2) _ hg ⟨s, 0, none⟩ 2 2 [.int .i64 a, .int .i64 b] (by rw [hsz]; rfl)
    (fun j u hu => by
      have e : (⟨s, 0, none⟩ : Addr).add j = ⟨s, j, none⟩ := by unfold Addr.add; split <;> simp_all
      rw [e]
      exact hc.cell hu) (fun u hu => by simp at hu; rcases hu with rfl | rfl <;> rfl) (Nat.le_refl _) (by rw [hsz]; simp [hlen])
  have hcs : ((l.flatMap memInt ++ List.replicate 2 (Value.int .i64 0)).toArray.toList.take (l.length * i.size) ++ [Value.int .i64 a, .int .i64 b] ++ (l.flatMap memInt ++ List.replicate 2 (Value.int .i64 0)).toArray.toList.drop (l.length * i.size + [Value.int .i64 a, .int .i64 b].length)).toArray = (l.flatMap memInt ++ [Value.int .i64 a, .int .i64 b]).toArray := by
    rw [hsz, Nat.mul_one, ← hlen]
    simp
  rw [hcs] at hr
  exact ⟨_, hr, setRow_heap w g _ _ e (0, 0) hg, fun B w0 h hB => below_setRow h hB _⟩
/-- append beyond the room: into a new block. -/
theorem app_grown {t e : TypeId} (ty : TypeId) {z : Value} {bytes : Nat} (ht : P.underlying t = some (.slice e)) (hinfo : (P.info? e).map (fun i => (i.zero, i.size, i.bytes)) = some (some z, 1, bytes)) {g s k : Nat} {olds : List Value} {a b : Value} (hk : olds.length = k) (hg : Cells w g e olds) (hc : Cells w s e [a, b]) (h63 : k + 2 ≤ 9223372036854775807) (hbytes : (k + 2) * bytes ≤ 140737488355328) :
    ∃ cap w', (Builtin.append_ #[t, t] ty #[.slice (some ⟨g, 0, none⟩) k k, .slice (some ⟨s, 0, none⟩) 2 2]).run P w = .ok (.slice (some ⟨w.heap.size, 0, none⟩) (k + 2) cap) w' ∧ Below w.heap.size w w' := by
  obtain ⟨i, hi, hz, hsize, hby⟩ := info_parts hinfo
  subst hk
  subst hby
  have ad : ∀ b j, (⟨b, 0, none⟩ : Addr).add j = ⟨b, j, none⟩ := by intro b j; unfold Addr.add; split <;> simp_all
  exact ⟨_, _, run_append_grow (P := P) w t ty e i z ht hi hz ⟨g, 0, none⟩ olds.length olds.length olds (by rw [hsize, Nat.mul_one]) (fun j v hv => by rw [ad]; exact hg.cell hv) ⟨s, 0, none⟩ 2 2 [a, b] (by rw [hsize]; rfl) (fun j u hu => by rw [ad]; exact hc.cell hu) (by omega) (by omega) (growslice_fits (by omega) hbytes), (Below.refl _ _).drew.alloc (Nat.le_refl _) _⟩
/-- append of a slice that is only read. -/
theorem app_see {t e : TypeId} (ty : TypeId) {bytes : Nat} {z : Value} (ht : P.underlying t = some (.slice e)) (hinfo : (P.info? e).map (fun i => (i.zero, i.size, i.bytes)) = some (some z, 1, bytes)) (hz1 : z.cells.size = 1) {n tc rc : Nat} {ta ra : Option Addr} {xs : List Value} {l : List Int} (hown : w.ownsRow 0 e 1 (.slice ta n tc) n xs) (hs : See w ra rc memInt 1 l) (h63 : n + l.length ≤ maxLen) (hbytes : (n + l.length) * bytes ≤ 140737488355328) :
    ∃ ao cap w', (Builtin.append_ #[t, t] ty #[.slice ta n tc, .slice ra l.length rc]).run P w = .ok (.slice ao (n + l.length) cap) w' ∧ w'.ownsRow 0 e 1 (.slice ao (n + l.length) cap) (n + l.length) (xs ++ l.flatMap memInt) ∧ Only (Value.slice ta n tc).ownBlock.toList w w' ∧ (∀ k, (Value.slice ao (n + l.length) cap).ownBlock = some k → (Value.slice ta n tc).ownBlock = some k ∨ w.heap.size ≤ k) := by
  cases hra : ra with
  | none =>
    subst hra
    have h0 : l = [] := by
      cases hcc : l with
      | nil => rfl
      | cons x l0 =>
        obtain ⟨b, o, e, -⟩ := hs.cell 0 x (by rw [hcc]; rfl)
        cases e
    subst h0
    obtain ⟨i, hi, -, -, -⟩ := info_parts hinfo
    have hle : n ≤ tc := by
      rcases hown.2 with ⟨h1, h2⟩ | ⟨g, c, cur, h1, -, -, h2, -⟩
      · omega
      · simp only [Value.slice.injEq] at h1
        obtain ⟨-, -, rfl⟩ := h1
        exact h2
    refine ⟨ta, tc, w, run_append_nothing (P := P) w t t ty e i ht hi ta n tc hle (.slice none 0 rc) (Src.ofNil w ht rc), ?_, Only.refl _ _, fun k hk => .inl hk⟩
    simpa using hown
  | some ad =>
    subst hra
    cases hcc : l with
    | nil =>
      have hlen0 : l.length = 0 := by rw [hcc]; rfl
      obtain ⟨ao, cap, w', h1, h2, h3, h4⟩ := run_app (P := P) w t ty e z 1 bytes ht hinfo hz1 (by omega) (.slice ta n tc) n xs hown ad 0 rc [] rfl (fun j u hu => by simp at hu) (fun u hu => by simp at hu) (by omega) (by rw [hlen0] at hbytes; exact hbytes)
      exact ⟨ao, cap, w', h1, h2, h3, h4⟩
    | cons x0 l0 =>
      rw [← hcc]
      obtain ⟨b, o, e0, -⟩ := hs.cell 0 x0 (by rw [hcc]; rfl)
      obtain rfl := Option.some.inj e0
      have hlen : (l.flatMap memInt).length = l.length := by rw [memInt_flat, List.length_map]
      exact run_app (P := P) w t ty e z 1 bytes ht hinfo hz1 (by omega) (.slice ta n tc) n xs hown ⟨b, o, none⟩ l.length rc (l.flatMap memInt) (by rw [hlen, Nat.mul_one]) (fun j v hv => by
        obtain ⟨x, hx, rfl⟩ := memInt_cell hv
        obtain ⟨b', o', e', hc⟩ := hs.cell j x hx
        simp only [Option.some.injEq, Addr.mk.injEq, and_true] at e'
        obtain ⟨rfl, rfl⟩ := e'
        have := hc 0 _ rfl
        rw [Nat.mul_one, Nat.add_zero] at this
        have e : (⟨b, o, none⟩ : Addr).add j = ⟨b, o + j, none⟩ := by unfold Addr.add; split <;> simp_all
        rw [e]
        exact this) (fun v hv => by
        rw [memInt_flat, List.mem_map] at hv
        obtain ⟨x, -, rfl⟩ := hv
        rfl) h63 hbytes
theorem slBase_zero (g c : Nat) : slBase (some ⟨g, 0, none⟩) 0 c 1 = some ⟨g, 0, none⟩ := by
  unfold slBase
  split <;> rfl
theorem See.pre {α : Type} {ao : Option Addr} {cap sz : Nat} {f : α → List Value} {l r : List α} (h : See w ao cap f sz (l ++ r)) : See w ao cap f sz l :=
  ⟨Nat.le_trans (by simp) h.hcap, h.hmax, fun i x hx => h.cell i x (by
    have : i < l.length := (List.getElem?_eq_some_iff.1 hx).1
    rw [List.getElem?_append_left this]
    exact hx)⟩
theorem run_sub_toM (t e : TypeId) (sz : Nat) (ht : P.underlying t = some (.slice e)) (hs : ∀ w, (sizeOf e).run P w = .ok sz w) (ao : Option Addr) (n cap hi : Nat) (kh : IntKind) (h2 : hi ≤ cap) (W : World) :
    (Instr.slice t (.slice ao n cap) none (some (.int kh (hi : Int))) none).run P W = .ok (.slice (slBase ao 0 cap sz) hi cap) W := by
  have he : P.elem t = e := by simp [Program.elem, ht]
  have h := run_slice_h (P := P) (w := W) t ao n cap (by rw [ht, he]) kh (hi : Int) (by omega) (by omega)
  rw [h, he, hs]
  simp [Result.andThen, sliced, slBase]
end
theorem Try.sizeInt1 : (Try.prog.info? 3).map (·.size) = some 1 := by kernel_rfl
set_option maxRecDepth 100000 in
theorem sameints_any (l : List Int) (ao bo : Option Addr) (ca cb : Nat) (w : World) (sa : See w ao ca memInt 1 l) (sb : See w bo cb memInt 1 l) :
    Calls Try.prog 17 #[.slice ao l.length ca, .slice bo l.length cb] w (BoolIs true w) := by
  have hl := Nat.le_trans sa.hcap sa.hmax
  have SA := Lib.hid sa
  have SB := Lib.hid sb
  clear sa sb
  simp only [maxLen] at hl
  go_enter Try.func17, Try.ntmps17
  go_wp2_with fail
  go_loopg [13] l.length (fun g vi wr => ∃ k : Nat, vi = .int .i64 k ∧ k ≤ l.length ∧ g = l.length - k ∧ Below w.heap.size w wr)
  case atStart => exact ⟨0, rfl, Nat.zero_le _, rfl, Below.refl _ _⟩
  case round =>
    obtain ⟨k, rfl, hk, hg, hb⟩ := hrel
    obtain ⟨wo, rfl⟩ : ∃ wo : World, wo = wr := ⟨_, rfl⟩
    have HG := Lib.hid hg
    have HB := Lib.hid hb
    clear hg hb
    by_cases hlt : k < l.length
    · obtain ⟨x, hx⟩ : ∃ x, l[k]? = some x := ⟨_, List.getElem?_eq_getElem hlt⟩
      obtain ⟨b1, o1, e1, cc1⟩ := SA.out.cell k x hx
      obtain ⟨b2, o2, e2, cc2⟩ := SB.out.cell k x hx
      have c1 := ck HB.out (cc1 0 _ rfl)
      have c2 := ck HB.out (cc2 0 _ rfl)
      rw [Nat.mul_one, Nat.add_zero] at c1 c2
      have E1 := Lib.hid e1
      have E2 := Lib.hid e2
      have t0 : (x != x) = false := by simp
      clear hx cc1 cc2 e1 e2
      rw [E1.out, E2.out]
      go_wp2_with fail
      go_quiet (fail)
      go_wp2_with fail
      rw [← E1.out, ← E2.out]
      go_roundg (l.length - (k + 1))
      case measure => rw [HG.out]; omega
      case rel => exact ⟨k + 1, by go_num, by omega, rfl, below_drewN HB.out _⟩
    · obtain rfl : k = l.length := by omega
      go_wp2
      go_returns
      exact ⟨rfl, HB.out⟩
end Go.Proofs.Ytjbphoophgbmiaa
