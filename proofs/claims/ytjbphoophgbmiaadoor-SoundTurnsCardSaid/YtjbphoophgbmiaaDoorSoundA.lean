/- sound.Above. -/
import Derived.Test.YtjbphoophgbmiaaDoorSoundC
namespace Go.Proofs.YtjbphoophgbmiaaDoor
open Go.ChangeShapes Go.WideShapes Go.ChangeAt Go.RowKit Go.Joins Go.Deep

noncomputable def aboveBody : Code := Tryd.f18.body.getD .skip
/-- What sound.Above answers. -/
inductive SAbove (h : HierD) (r s t : Int) : Int → EV → Prop
  | form (e : checkErr h ≠ .nil) : SAbove h r s t 0 (checkErr h)
  | arg (e : checkErr h = .nil) (a : r < -1 ∨ (h.node.length : Int) ≤ r) : SAbove h r s t 0 (.code 1)
  | node (e : checkErr h = .nil) (a : ¬ (r < -1 ∨ (h.node.length : Int) ≤ r)) (b : (s ≤ r ∨ (h.node.length : Int) ≤ s) ∨ t ≤ r ∨ (h.node.length : Int) ≤ t) : SAbove h r s t 0 (.code 7)
  | walk (D : Nat → Option Int) (d : Int) (e : checkErr h = .nil) (a : ¬ (r < -1 ∨ (h.node.length : Int) ≤ r)) (b : ¬ ((s ≤ r ∨ (h.node.length : Int) ≤ s) ∨ t ≤ r ∨ (h.node.length : Int) ≤ t)) (i : IsS (webD h) r s.toNat D) (f : D t.toNat = some d) : SAbove h r s t d .nil
  | none (D : Nat → Option Int) (e : checkErr h = .nil) (a : ¬ (r < -1 ∨ (h.node.length : Int) ≤ r)) (b : ¬ ((s ≤ r ∨ (h.node.length : Int) ≤ s) ∨ t ≤ r ∨ (h.node.length : Int) ≤ t)) (i : IsS (webD h) r s.toNat D) (f : D t.toNat = none) : SAbove h r s t 0 (.code 16)
def AboveNew (h : HierD) (r s t : Int) (w : World) (e : Ending) (w' : World) : Prop := ∃ d v x, e = .returned (.tuple #[.int .u64 d, v]) ∧ ErrIs w' v x ∧ SAbove h r s t d x ∧ Below w.heap.size w w'
theorem IsS.big {W : Nat → List (Nat × Nat)} {r : Int} {u : Nat} {D : Nat → Option Int} (h : IsS W r u D) {v : Nat} {d : Int} (hd : D v = some d) : 0 ≤ d := (h.walk v d hd).nonneg

set_option linter.unusedSimpArgs false in
set_option maxRecDepth 100000 in
set_option maxHeartbeats 8000000 in
theorem above_walk {s0 s5 s6 s7 s8 s9 s10 s11 s12 s13 s14 s15 s16 s17 s18 s19 s20 s21 s22 s23 s24 s25 s26 s27 s28 s29 s30 s31 s32 s33 s34 s35 s36 s37 s38 s39 s40 s41 s42 s43 s44 s45 s46 s47 s48 s49 s50 s51 s52 s53 s54 s55 s56 s57 s58 s59 s60 : Value} {A : HA} {h : HierD} {r : Int} {sn tn : Nat} {w wx : World} (see : HSee w A h) (hc : checkErr h = .nil) (htot : h.up.length + h.dn.length ≤ 1048576) (hb : Below w.heap.size w wx) (hx : Cells wx w.heap.size 25 (hierCells A h)) (a : ¬ (r < -1 ∨ (h.node.length : Int) ≤ r)) (b : ¬ (((sn : Int) ≤ r ∨ (h.node.length : Int) ≤ sn) ∨ (tn : Int) ≤ r ∨ (h.node.length : Int) ≤ tn)) :
    Code.wp Tryd.prog (tailAt 5 aboveBody) (bodyPost Tryd.prog Tryd.f18 (AboveNew h r sn tn w)) ⟨#[s0, .int .i64 r, .int .i64 (sn : Nat), .int .i64 (tn : Nat), .pointer (some ⟨w.heap.size, 0, none⟩), s5, s6, s7, s8, s9, s10, s11, s12, s13, s14, s15, s16, s17, s18, s19, s20, s21, s22, s23, s24, s25, s26, s27, s28, s29, s30, s31, s32, s33, s34, s35, s36, s37, s38, s39, s40, s41, s42, s43, s44, s45, s46, s47, s48, s49, s50, s51, s52, s53, s54, s55, s56, s57, s58, s59, s60], []⟩ wx := by
  have hp := checkErr_parts hc
  have hn := hp.1.n
  have u := firsts_nil hp.1.u hp.2.1
  have d := firsts_nil hp.1.d hp.2.2.1
  have ok := half_up hc
  have okd := half_dn hc
  have UOK := Lib.hid u
  have DOK := Lib.hid d
  have OKU := Lib.hid ok
  have OKD := Lib.hid okd
  have SEE := Lib.hid see
  have HC := Lib.hid hc
  clear hp u d ok okd see hc
  have hsn : sn < h.node.length := by omega
  have htn : tn < h.node.length := by omega
  have WOK := Lib.hid (web_ok OKU.out OKD.out)
  have WLEN := Lib.hid (web_len UOK.out DOK.out htot)
  have HB := Lib.hid hb
  have HX := Lib.hid hx
  have HA1 := Lib.hid a
  have HA2 := Lib.hid b
  obtain ⟨k0, k1, k2, k3, k4⟩ := hier_five hx
  clear hb hx a b
  conv => arg 2; whnf
  apply wp_seq_k
  intro KK hK
  have HKK := Lib.hid hK
  clear hK
  go_wp2_with fail
  refine (weave_lit A h _ (SEE.out.below HB.out) UOK.out DOK.out OKU.out OKD.out hn htot).mono ?_
  rintro e w1 ⟨bo, base, vs, rfl, hw, -, -, hb1⟩
  have HB1 := Lib.hid (HB.out.trans (hb1.mono HB.out.size))
  have HW1 := Lib.hid hw
  clear hb1 hw HB HX k0 k1 k2 k3 k4
  go_wp2_with fail
  refine (from_any (r := r) HW1.out WOK.out WLEN.out hn hsn).mono ?_
  rintro e w2 ⟨bd, D, rfl, hcd, hS, hbig0, -, hb2⟩
  have HB2 := Lib.hid (HB1.out.trans (hb2.mono HB1.out.size))
  have HS := Lib.hid hS
  have y0 : w2.cell? ⟨bd, tn, none⟩ = some (.int .u64 (farOf (D tn))) := hcd.cell (distCells_get htn)
  clear hcd hS hb2 HB1 HW1
  have hbig : ∀ d0, D tn = some d0 → d0 ≠ 18446744073709551615 := fun d0 hd0 => by have := hbig0 tn d0 hd0; omega
  clear hbig0
  cases hDt : D tn with
  | none =>
    rw [hDt] at y0
    simp only [farOf] at y0
    have HDT := Lib.hid hDt
    clear hDt hbig
    go_wp2_with fail
    refine HKK.out _ _ ?_
    conv => arg 2; whnf
    go_wp2
    go_returns
    exact ⟨0, _, .code 16, rfl, rfl, .none D HC.out HA1.out HA2.out (by rw [Int.toNat_natCast]; exact HS.out) (by rw [Int.toNat_natCast]; exact HDT.out), HB2.out⟩
  | some d0 =>
    have h0 := hbig d0 hDt
    rw [hDt] at y0
    simp only [farOf] at y0
    have e1 : (d0 == 18446744073709551615) = false := by simpa using h0
    have HDT := Lib.hid hDt
    clear hDt hbig h0
    go_wp2_with fail
    refine HKK.out _ _ ?_
    conv => arg 2; whnf
    go_wp2
    go_returns
    exact ⟨d0, _, .nil, rfl, rfl, .walk D d0 HC.out HA1.out HA2.out (by rw [Int.toNat_natCast]; exact HS.out) (by rw [Int.toNat_natCast]; exact HDT.out), HB2.out⟩

set_option linter.unusedSimpArgs false in
set_option maxRecDepth 100000 in
set_option maxHeartbeats 8000000 in
theorem above_nodes {s0 s5 s6 s7 s8 s9 s10 s12 s13 s14 s15 s16 s17 s18 s19 s20 s21 s22 s23 s24 s25 s26 s27 s28 s29 s30 s31 s32 s33 s34 s35 s36 s37 s38 s39 s40 s41 s42 s43 s44 s45 s46 s47 s48 s49 s50 s51 s52 s53 s54 s55 s56 s57 s58 s59 s60 : Value} {A : HA} {h : HierD} {r s t : Int} {w wx : World} (see : HSee w A h) (hc : checkErr h = .nil) (htot : h.up.length + h.dn.length ≤ 1048576) (hb : Below w.heap.size w wx) (hx : Cells wx w.heap.size 25 (hierCells A h)) (a : ¬ (r < -1 ∨ (h.node.length : Int) ≤ r)) :
    Code.wp Tryd.prog (tailAt 4 aboveBody) (bodyPost Tryd.prog Tryd.f18 (AboveNew h r s t w)) ⟨#[s0, .int .i64 r, .int .i64 s, .int .i64 t, .pointer (some ⟨w.heap.size, 0, none⟩), s5, s6, s7, s8, s9, s10, .int .i64 (h.node.length : Nat), s12, s13, s14, s15, s16, s17, s18, s19, s20, s21, s22, s23, s24, s25, s26, s27, s28, s29, s30, s31, s32, s33, s34, s35, s36, s37, s38, s39, s40, s41, s42, s43, s44, s45, s46, s47, s48, s49, s50, s51, s52, s53, s54, s55, s56, s57, s58, s59, s60], []⟩ wx := by
  have SEE := Lib.hid see
  have HC := Lib.hid hc
  have HB := Lib.hid hb
  have HX := Lib.hid hx
  have HA1 := Lib.hid a
  have hbb := (Below.refl wx.heap.size wx).alloc (Nat.le_refl _) (.cells #[.int .i64 s, .int .i64 t] 3)
  have hlst := Cells.new wx 3 [.int .i64 s, .int .i64 t]
  have HB1 := Lib.hid (HB.out.trans (hbb.mono HB.out.size))
  have HX1 := Lib.hid (HX.out.below hbb HX.out.lt)
  have HL1 := Lib.hid hlst
  clear see hc hb hx a hbb hlst
  conv => arg 2; whnf
  apply wp_seq_k
  intro KK hK
  have HKK := Lib.hid hK
  clear hK
  go_wp2_with fail
  obtain ⟨wz, hwz⟩ : ∃ wz, wx.alloc (.cells #[.int .i64 s, .int .i64 t] 3) = wz := ⟨_, rfl⟩
  have hl := HL1.out
  have hx1 := HX1.out
  have hb1 := HB1.out
  rw [hwz] at hl hx1 hb1
  try rw [hwz]
  have l0 : wz.cell? ⟨wx.heap.size, 0, none⟩ = some (.int .i64 s) := hl.cell rfl
  have l1 : wz.cell? ⟨wx.heap.size, 1, none⟩ = some (.int .i64 t) := hl.cell rfl
  have HXZ := Lib.hid hx1
  have HBZ := Lib.hid hb1
  clear hl hx1 hb1 hwz HL1 HX1 HB1 HX HB
  by_cases cs1 : s ≤ r
  case pos =>
    have ds1 : decide (s ≤ r) = true := by simpa using cs1
    have HN := Lib.hid (show SAbove h r s t 0 (.code 7) from .node HC.out HA1.out (.inl (.inl cs1)))
    clear cs1   
    refine wp_loop_rounds 3 ?_
    rw [rounds_succ]
    go_wp2_with fail
    go_returns
    exact ⟨0, _, .code 7, rfl, rfl, HN.out, HBZ.out⟩
  have ds1 : decide (s ≤ r) = false := by simpa using cs1
  by_cases cs2 : (h.node.length : Int) ≤ s
  case pos =>
    have ds2 : decide ((h.node.length : Int) ≤ s) = true := by simpa using cs2
    have HN := Lib.hid (show SAbove h r s t 0 (.code 7) from .node HC.out HA1.out (.inl (.inr cs2)))
    clear cs2 cs1  
    refine wp_loop_rounds 3 ?_
    rw [rounds_succ]
    go_wp2_with fail
    go_returns
    exact ⟨0, _, .code 7, rfl, rfl, HN.out, HBZ.out⟩
  have ds2 : decide ((h.node.length : Int) ≤ s) = false := by simpa using cs2
  by_cases ct1 : t ≤ r
  case pos =>
    have dt1 : decide (t ≤ r) = true := by simpa using ct1
    have HN := Lib.hid (show SAbove h r s t 0 (.code 7) from .node HC.out HA1.out (.inr (.inl ct1)))
    clear ct1  cs1 cs2 
    refine wp_loop_rounds 3 ?_
    rw [rounds_succ]
    go_wp2_with fail
    rw [rounds_succ]
    go_wp2_with fail
    go_returns
    exact ⟨0, _, .code 7, rfl, rfl, HN.out, HBZ.out⟩
  have dt1 : decide (t ≤ r) = false := by simpa using ct1
  by_cases ct2 : (h.node.length : Int) ≤ t
  case pos =>
    have dt2 : decide ((h.node.length : Int) ≤ t) = true := by simpa using ct2
    have HN := Lib.hid (show SAbove h r s t 0 (.code 7) from .node HC.out HA1.out (.inr (.inr ct2)))
    clear ct2   cs1 cs2 ct1
    refine wp_loop_rounds 3 ?_
    rw [rounds_succ]
    go_wp2_with fail
    rw [rounds_succ]
    go_wp2_with fail
    go_returns
    exact ⟨0, _, .code 7, rfl, rfl, HN.out, HBZ.out⟩
  have dt2 : decide ((h.node.length : Int) ≤ t) = false := by simpa using ct2
  obtain ⟨sn, rfl⟩ : ∃ sn : Nat, s = sn := ⟨s.toNat, by have := HA1.out; omega⟩
  obtain ⟨tn, rfl⟩ : ∃ tn : Nat, t = tn := ⟨t.toNat, by have := HA1.out; omega⟩
  have HA2 := Lib.hid (show ¬ (((sn : Int) ≤ r ∨ (h.node.length : Int) ≤ sn) ∨ (tn : Int) ≤ r ∨ (h.node.length : Int) ≤ tn) by omega)
  have ds3 : decide (h.node.length ≤ sn) = false := by simp; omega
  have dt3 : decide (h.node.length ≤ tn) = false := by simp; omega
  clear cs1 cs2 ct1 ct2
  refine wp_loop_rounds 3 ?_
  rw [rounds_succ]
  go_wp2_with fail
  rw [rounds_succ]
  go_wp2_with fail
  rw [rounds_succ]
  go_wp2_with fail
  refine HKK.out _ _ ?_
  change Code.wp _ (tailAt 5 aboveBody) _ _ _
  exact above_walk SEE.out HC.out htot HBZ.out HXZ.out HA1.out HA2.out

set_option linter.unusedSimpArgs false in
set_option maxRecDepth 100000 in
set_option maxHeartbeats 8000000 in
/-- **sound.Above.** -/
theorem above_any (A : HA) (h : HierD) (r s t : Int) (w : World) (see : HSee w A h) : Calls Tryd.prog 18 #[hierVal A h, .int .i64 r, .int .i64 s, .int .i64 t] w (AboveNew h r s t w) := by
  have SEE := Lib.hid see
  have HX0 := Lib.hid (Cells.new w 25 (hierCells A h))
  have HB0 := Lib.hid ((Below.refl w.heap.size w).alloc (Nat.le_refl _) (.cells (hierCells A h).toArray 25))
  obtain ⟨k0, k1, k2, k3, k4⟩ := hier_five HX0.out
  clear see
  unfold hierVal
  go_enter Tryd.func18, Tryd.ntmps18
  apply wp_seq_k
  intro K0 hK
  have HK0 := Lib.hid hK
  clear hK
  go_wp2_with fail
  refine HK0.out _ _ ?_
  clear HK0
  apply wp_seq_k
  intro K1 hK
  have HK1 := Lib.hid hK
  clear hK
  go_wp2_with fail
  refine (hcheck_any A h _ (SEE.out.below HB0.out)).mono ?_
  rintro e w1 ⟨v, rfl, hv, hb⟩
  have HV := Lib.hid hv
  have HX := Lib.hid (HX0.out.below hb HX0.out.lt)
  have HB := Lib.hid (HB0.out.trans (hb.mono HB0.out.size))
  clear hv hb HX0 HB0 k0 k1 k2 k3 k4
  by_cases hc : checkErr h = .nil
  · obtain rfl := HV.out.nilv hc
    have hp := checkErr_parts hc
    have HT := Lib.hid (hp.1.total SEE.out (firsts_nil hp.1.u hp.2.1) (firsts_nil hp.1.d hp.2.2.1))
    have HC := Lib.hid hc
    obtain ⟨k0, k1, k2, k3, k4⟩ := hier_five HX.out
    clear hc hp
    go_wp2_with fail
    refine HK1.out _ _ ?_
    clear HK1
    apply wp_seq_k
    intro K2 hK
    have HK2 := Lib.hid hK
    clear hK
    go_wp2_with fail
    refine HK2.out _ _ ?_
    clear HK2 k0 k1 k2 k3 k4
    apply wp_seq_k
    intro K3 hK
    have HK3 := Lib.hid hK
    clear hK
    by_cases a1 : r < -1
    · have d1 : decide (r < -1) = true := by simpa using a1
      have HN := Lib.hid (show SAbove h r s t 0 (.code 1) from .arg HC.out (.inl a1))
      clear a1
      go_wp2
      go_returns
      exact ⟨0, _, .code 1, rfl, rfl, HN.out, HB.out⟩
    have d1 : decide (r < -1) = false := by simpa using a1
    by_cases a2 : (h.node.length : Int) ≤ r
    · have d2 : decide ((h.node.length : Int) ≤ r) = true := by simpa using a2
      have HN := Lib.hid (show SAbove h r s t 0 (.code 1) from .arg HC.out (.inr a2))
      clear a1 a2
      go_wp2
      go_returns
      exact ⟨0, _, .code 1, rfl, rfl, HN.out, HB.out⟩
    have d2 : decide ((h.node.length : Int) ≤ r) = false := by simpa using a2
    have HA1 := Lib.hid (show ¬ (r < -1 ∨ (h.node.length : Int) ≤ r) by omega)
    clear a1 a2
    go_wp2_with fail
    refine HK3.out _ _ ?_
    change Code.wp _ (tailAt 4 aboveBody) _ _ _
    exact above_nodes SEE.out HC.out HT.out HB.out HX.out HA1.out
  · obtain ⟨t1, v1, rfl⟩ := HV.out.iface hc
    have HC := Lib.hid hc
    clear hc
    go_wp2
    go_returns
    exact ⟨0, _, _, rfl, HV.out, .form HC.out, HB.out⟩
end Go.Proofs.YtjbphoophgbmiaaDoor
