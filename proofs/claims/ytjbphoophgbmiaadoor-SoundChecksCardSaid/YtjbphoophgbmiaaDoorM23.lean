/- The law SoundChecks: its walk. -/
import Derived.Test.YtjbphoophgbmiaaDoorM22
import Derived.Test.YtjbphoophgbmiaaDoorM17
import Derived.Test.YtjbphoophgbmiaaDoorM15
import Derived.Test.YtjbphoophgbmiaaDoorM12
namespace Go.Proofs.YtjbphoophgbmiaaDoor
open Go.ChangeShapes Go.WideShapes Go.ChangeAt Go.RowKit Go.Joins Go.Deep

noncomputable def checksBody : Code := Tryd.f4.body.getD .skip
def FewIs (h : HierD) (w : World) (e : Ending) (w' : World) : Prop := ∃ b : Bool, e = .returned (.bool b) ∧ (b = true → h.node.length ≤ 14) ∧ Below w.heap.size w w'
set_option linter.unusedSimpArgs false in
set_option maxRecDepth 100000 in
set_option maxHeartbeats 8000000 in
theorem few14_any (A : HA) (h : HierD) (w : World) : Calls Tryd.prog 13 #[hierVal A h] w (FewIs h w) := by
  have HX := Lib.hid (Cells.new w 25 (hierCells A h))
  have HB := Lib.hid ((Below.refl w.heap.size w).alloc (Nat.le_refl _) (.cells (hierCells A h).toArray 25))
  obtain ⟨k0, k1, k2, k3, k4⟩ := hier_five HX.out
  unfold hierVal
  by_cases hf : h.node.length ≤ 14
  · have d1 : decide (h.node.length ≤ 14) = true := by simpa using hf
    have d2 : decide ((h.node.length : Int) ≤ 14) = true := by simp; omega
    have HF := Lib.hid hf
    clear hf
    go_enter Tryd.func13, Tryd.ntmps13
    go_wp2_with fail
    refine (count_any A h _).mono ?_
    rintro e w1 ⟨c, rfl, -, hb⟩
    have HB1 := Lib.hid (HB.out.trans (hb.mono HB.out.size))
    clear hb k0 k1 k2 k3 k4
    go_wp2
    go_returns
    exact ⟨_, rfl, fun _ => HF.out, HB1.out⟩
  · have d1 : decide (h.node.length ≤ 14) = false := by simpa using hf
    have d2 : decide ((h.node.length : Int) ≤ 14) = false := by simp; omega
    clear hf
    go_enter Tryd.func13, Tryd.ntmps13
    go_wp2
    go_returns
    exact ⟨_, rfl, fun e => (by cases e), HB.out⟩
theorem SCheck.pos {h : HierD} {x : EV} (s : SCheck h x) : x.pos := by
  rcases s with ⟨-, rfl⟩ | ⟨-, -, rfl⟩ | ⟨-, r, -, -, -, rfl⟩
  · exact checkErr_pos h
  · simp [EV.pos]
  · simp [EV.pos]
theorem SAbove.pos {h : HierD} {r s t d : Int} {x : EV} (a : SAbove h r s t d x) : x.pos := by
  cases a
  · exact checkErr_pos h
  all_goals simp [EV.pos]
theorem SAbove.same {h : HierD} {r s t d e : Int} {x y : EV} (a : SAbove h r s t d x) (b : SAbove h r s t e y) : d = e ∧ x = y := by
  cases a with
  | form h1 =>
    cases b with
    | form => exact ⟨rfl, rfl⟩
    | arg k => exact absurd k h1
    | node k => exact absurd k h1
    | walk D _ k => exact absurd k h1
    | none D k => exact absurd k h1
  | arg h1 h2 =>
    cases b with
    | form k => exact absurd h1 k
    | arg => exact ⟨rfl, rfl⟩
    | node k l => exact absurd h2 l
    | walk D _ k l => exact absurd h2 l
    | none D k l => exact absurd h2 l
  | node h1 h2 h3 =>
    cases b with
    | form k => exact absurd h1 k
    | arg k l => exact absurd l h2
    | node => exact ⟨rfl, rfl⟩
    | walk D _ k l m => exact absurd h3 m
    | none D k l m => exact absurd h3 m
  | walk D _ h1 h2 h3 i f =>
    cases b with
    | form k => exact absurd h1 k
    | arg k l => exact absurd l h2
    | node k l m => exact absurd m h3
    | walk D' _ k l m i' f' =>
      have := i.unique i' t.toNat
      rw [f, f'] at this
      simp only [Option.some.injEq] at this
      exact ⟨this, rfl⟩
    | none D' k l m i' f' =>
      have := i.unique i' t.toNat
      rw [f, f'] at this
      cases this
  | none D h1 h2 h3 i f =>
    cases b with
    | form k => exact absurd h1 k
    | arg k l => exact absurd l h2
    | node k l m => exact absurd m h3
    | walk D' _ k l m i' f' =>
      have := i.unique i' t.toNat
      rw [f, f'] at this
      cases this
    | none D' k l m i' f' => exact ⟨rfl, rfl⟩
theorem matErr_pos (h : HierD) : (matErr h).pos := by
  unfold matErr
  split
  · split <;> simp [EV.pos]
  · exact checkErr_pos h
theorem matErr_form {h : HierD} (e : matErr h = .nil) : checkErr h = .nil := by
  unfold matErr at e
  split at e
  · assumption
  · exact e
set_option linter.unusedSimpArgs false in
set_option maxRecDepth 100000 in
set_option maxHeartbeats 8000000 in
theorem samematrix_nil (w : World) : Calls Tryd.prog 26 #[.slice none 0 0, .slice none 0 0] w (BoolIs true w) := by
  go_enter Tryd.func26, Tryd.ntmps26
  go_wp2_with fail
  refine wp_loop_rounds 1 ?_
  rw [rounds_succ]
  go_wp2
  go_returns
  exact ⟨rfl, Below.refl _ _⟩
theorem twin_lit (A : HA) (h : HierD) (w : World) (see : HSee w A h) (hr : Reach5 h) : Calls Tryd.prog 21 #[.agg #[.slice A.a0 h.node.length A.c0, .slice A.a1 h.upF.length A.c1, .slice A.a2 h.up.length A.c2, .slice A.a3 h.dnF.length A.c3, .slice A.a4 h.dn.length A.c4]] w (HierNew h w) := twin_any A h w see hr
theorem schk_lit (A : HA) (h : HierD) (w : World) (see : HSee w A h) : Calls Tryd.prog 17 #[hierVal A h] w (SCheckNew h w) := scheck_any A h w see
theorem rschk_lit (A : HA) (h : HierD) (w : World) (see : HSee w A h) (hn : h.node.length ≤ 14) (hr : Reach5 h) : Calls Tryd.prog 22 #[.agg #[.slice A.a0 h.node.length A.c0, .slice A.a1 h.upF.length A.c1, .slice A.a2 h.up.length A.c2, .slice A.a3 h.dnF.length A.c3, .slice A.a4 h.dn.length A.c4]] w (RSCheckNew h w) := rscheck_any A h w see hn (by have := hr.up; omega) (by have := hr.dn; omega) (by have := hr.n; omega)
theorem rsabv_lit (A : HA) (h : HierD) (r s t : Int) (w : World) (see : HSee w A h) (hn : h.node.length ≤ 14) (hr : Reach5 h) : Calls Tryd.prog 23 #[.agg #[.slice A.a0 h.node.length A.c0, .slice A.a1 h.upF.length A.c1, .slice A.a2 h.up.length A.c2, .slice A.a3 h.dnF.length A.c3, .slice A.a4 h.dn.length A.c4], .int .i64 r, .int .i64 s, .int .i64 t] w (RSAboveNew h r s t w) := rsabove_any A h r s t w see hn (by have := hr.up; omega) (by have := hr.dn; omega) (by have := hr.n; omega)
theorem rsmat_lit (A : HA) (h : HierD) (w : World) (see : HSee w A h) (hn : h.node.length ≤ 14) (hr : Reach5 h) : Calls Tryd.prog 25 #[.agg #[.slice A.a0 h.node.length A.c0, .slice A.a1 h.upF.length A.c1, .slice A.a2 h.up.length A.c2, .slice A.a3 h.dnF.length A.c3, .slice A.a4 h.dn.length A.c4]] w (RMatNew h w) := rsmatrix_any A h w see hn (by have := hr.up; omega) (by have := hr.dn; omega) (by have := hr.n; omega)

set_option linter.unusedSimpArgs false in
set_option maxRecDepth 100000 in
set_option maxHeartbeats 8000000 in
theorem checks5 {s0 s5 s6 s7 s8 s9 s10 s11 s12 s13 s14 s15 s16 s17 s18 s19 s20 s21 s22 s23 s24 s25 s26 s27 s28 s29 s30 s31 s32 s33 s34 s35 s36 s37 s38 s39 s40 s41 s42 s43 s44 s45 s46 s47 s48 s49 s50 s51 s52 s53 s54 s55 s56 s57 s58 s59 s60 s61 s62 s63 s64 s65 s66 s67 s68 s69 s70 s71 : Value} {A : HA} {h : HierD} {r s t : Int} {bx : Nat} {wx : World} (Q : Exit → Act → World → Prop) (hQp : ∀ c (a : Act) (t : Option Tmp) (v : Value) w', Q (.panic c) (a.put t v) w' → Q (.panic c) a w')
    (see : HSee wx A h) (k0 : wx.cell? ⟨bx, 0, none⟩ = some (.slice A.a0 h.node.length A.c0)) (k1 : wx.cell? ⟨bx, 1, none⟩ = some (.slice A.a1 h.upF.length A.c1)) (k2 : wx.cell? ⟨bx, 2, none⟩ = some (.slice A.a2 h.up.length A.c2)) (k3 : wx.cell? ⟨bx, 3, none⟩ = some (.slice A.a3 h.dnF.length A.c3)) (k4 : wx.cell? ⟨bx, 4, none⟩ = some (.slice A.a4 h.dn.length A.c4)) (hn : h.node.length ≤ 14) (hr : Reach5 h) (hg : EVar wx)
    (hQ : ∀ (t20 t21 t22 t23 t24 t25 : Value) (w' : World), Below wx.heap.size wx w' → Q .normal ⟨#[s0, .int .i64 r, .int .i64 s, .int .i64 t, .pointer (some ⟨bx, 0, none⟩), s5, s6, s7, s8, s9, s10, s11, s12, s13, s14, s15, s16, s17, s18, s19, t20, t21, t22, t23, t24, t25, .bool false, s27, s28, s29, s30, s31, s32, s33, s34, s35, s36, s37, s38, s39, s40, s41, s42, s43, s44, s45, s46, s47, s48, s49, s50, s51, s52, s53, s54, s55, s56, s57, s58, s59, s60, s61, s62, s63, s64, s65, s66, s67, s68, s69, s70, s71], []⟩ w') : Code.wp Tryd.prog ((regionAt 5 checksBody).getD .skip) Q ⟨#[s0, .int .i64 r, .int .i64 s, .int .i64 t, .pointer (some ⟨bx, 0, none⟩), s5, s6, s7, s8, s9, s10, s11, s12, s13, s14, s15, s16, s17, s18, s19, s20, s21, s22, s23, s24, s25, s26, s27, s28, s29, s30, s31, s32, s33, s34, s35, s36, s37, s38, s39, s40, s41, s42, s43, s44, s45, s46, s47, s48, s49, s50, s51, s52, s53, s54, s55, s56, s57, s58, s59, s60, s61, s62, s63, s64, s65, s66, s67, s68, s69, s70, s71], []⟩ wx := by
  have HQ := Lib.hid hQ
  have HQP := Lib.hid hQp
  have SEE := Lib.hid see
  have HRE := Lib.hid hr
  have HG := Lib.hid hg
  clear hQ hQp see hr hg
  conv => arg 2; whnf
  refine wp_region_held_drew (S := fun W => Below wx.heap.size wx W) (by kernel_rfl) ((Below.refl _ _).drew) (fun hHeld => ?_)
  simp only [List.size_toArray, List.length_cons, List.length_nil, Nat.reduceAdd, Array.replicate_succ, Array.replicate_zero, List.push_toArray, List.nil_append, List.cons_append]
  refine wpAnyH_take (i := 0) (oi := { dst := some 20, op := Op.load 25 (Operand.tmp 4), type := 25, pos := "law.go:44", after := #[], guard := none }) (v := .agg #[.slice A.a0 h.node.length A.c0, .slice A.a1 h.upF.length A.c1, .slice A.a2 h.up.length A.c2, .slice A.a3 h.dnF.length A.c3, .slice A.a4 h.dn.length A.c4]) rfl (by kernel_rfl) (by kernel_rfl) (by kernel_rfl) (fun c a w' => HQP.out c a _ _ w') (Or.inl ⟨by rfl, ?_⟩) hHeld ?_
  · intro W hSw
    try dsimp only at hSw
    have m0 := ck hSw k0
    have m1 := ck hSw k1
    have m2 := ck hSw k2
    have m3 := ck hSw k3
    have m4 := ck hSw k4
    clear hSw hHeld k0 k1 k2 k3 k4
    go_simp
  simp only [Act.put, List.setIfInBounds_toArray, List.set_cons_zero, List.set_cons_succ]
  refine wpAnyH_take (i := 3) (oi := { dst := some 23, op := Op.load 25 (Operand.tmp 4), type := 25, pos := "law.go:44", after := #[], guard := none }) (v := .agg #[.slice A.a0 h.node.length A.c0, .slice A.a1 h.upF.length A.c1, .slice A.a2 h.up.length A.c2, .slice A.a3 h.dnF.length A.c3, .slice A.a4 h.dn.length A.c4]) rfl (by kernel_rfl) (by kernel_rfl) (by kernel_rfl) (fun c a w' => HQP.out c a _ _ w') (Or.inl ⟨by rfl, ?_⟩) hHeld ?_
  · intro W hSw
    try dsimp only at hSw
    have m0 := ck hSw k0
    have m1 := ck hSw k1
    have m2 := ck hSw k2
    have m3 := ck hSw k3
    have m4 := ck hSw k4
    clear hSw hHeld k0 k1 k2 k3 k4
    go_simp
  simp only [Act.put, List.setIfInBounds_toArray, List.set_cons_zero, List.set_cons_succ]
  clear k0 k1 k2 k3 k4
  have HB0 := Lib.hid hHeld
  clear hHeld
  refine wpAnyH_ready (rs := [1]) (by kernel_rfl) (by simp) (AllReadyH.cons (o := { dst := some 21, op := Op.call { callee := Callee.value (Operand.func 21), args := #[Operand.tmp 20], argTypes := #[25] }, type := 25, pos := "law.go:44", after := #[{ on := 0, ground := Ground.data }], guard := none }) rfl (fun K hK => ?_) AllReadyH.nil)
  go_simp
  refine (twin_lit A h _ (SEE.out.below HB0.out) HRE.out).mono ?_
  rintro e w1 ⟨B, rfl, sb, -, hb⟩
  have SB1 := Lib.hid sb
  have HB1 := Lib.hid (HB0.out.trans (hb.mono HB0.out.size))
  clear hb sb
  go_wp2_with fail
  refine hK.out _ _ HB1.out (fun hHeld => ?_)
  clear hK K hHeld
  simp only [Act.put, List.setIfInBounds_toArray, List.set_cons_zero, List.set_cons_succ]
  refine wpAnyH_ready (rs := [2]) (by kernel_rfl) (by simp) (AllReadyH.cons (o := { dst := some 22, op := Op.call { callee := Callee.value (Operand.func 17), args := #[Operand.tmp 21], argTypes := #[25] }, type := 34, pos := "law.go:44", after := #[{ on := 1, ground := Ground.data }, { on := 1, ground := Ground.chain }], guard := none }) rfl (fun K hK => ?_) AllReadyH.nil)
  go_simp
  refine (schk_lit B h _ SB1.out).mono ?_
  rintro e w2 ⟨v, x, rfl, hv, hm, hb⟩
  have SB2 := Lib.hid (SB1.out.below hb)
  have HV2 := Lib.hid hv
  have HMC := Lib.hid hm
  have HB2 := Lib.hid (HB1.out.trans (hb.mono HB1.out.size))
  clear hb hv hm
  go_wp2_with fail
  refine hK.out _ _ HB2.out (fun hHeld => ?_)
  clear hK K hHeld
  simp only [Act.put, List.setIfInBounds_toArray, List.set_cons_zero, List.set_cons_succ]
  refine wpAnyH_ready (rs := [4]) (by kernel_rfl) (by simp) (AllReadyH.cons (o := { dst := some 24, op := Op.call { callee := Callee.value (Operand.func 22), args := #[Operand.tmp 23], argTypes := #[25] }, type := 30, pos := "law.go:44", after := #[{ on := 3, ground := Ground.data }, { on := 2, ground := Ground.chain }], guard := none }) rfl (fun K hK => ?_) AllReadyH.nil)
  go_simp
  refine (rschk_lit A h _ (SEE.out.below HB2.out) hn HRE.out).mono ?_
  rintro e w3 ⟨u, y, rfl, hu, hm, hb⟩
  have SB3 := Lib.hid (SB2.out.below hb)
  have HV3 := Lib.hid (HV2.out.below hb)
  have HU3 := Lib.hid hu
  have HMD := Lib.hid hm
  have HB3 := Lib.hid (HB2.out.trans (hb.mono HB2.out.size))
  clear hb hu hm
  have HXY := HMD.out.same HMC.out
  subst HXY
  have HPO := Lib.hid (SCheck.pos HMC.out)
  go_wp2_with fail
  refine hK.out _ _ HB3.out (fun hHeld => ?_)
  clear hK K hHeld
  simp only [Act.put, List.setIfInBounds_toArray, List.set_cons_zero, List.set_cons_succ]
  refine wpAnyH_ready (rs := [5]) (by kernel_rfl) (by simp) (AllReadyH.cons (o := { dst := some 25, op := Op.call { callee := Callee.value (Operand.func 16), args := #[Operand.tmp 22, Operand.tmp 24], argTypes := #[34, 30] }, type := 4, pos := "law.go:44", after := #[{ on := 2, ground := Ground.data }, { on := 4, ground := Ground.data }, { on := 4, ground := Ground.chain }], guard := none }) rfl (fun K hK => ?_) AllReadyH.nil)
  go_simp
  refine (same_any _ v u _ HPO.out (HG.out.below HB3.out) HV3.out HU3.out).mono ?_
  rintro e w4 ⟨rfl, hb⟩
  have SB4 := Lib.hid (SB3.out.below hb)
  have HV4 := Lib.hid (HV3.out.below hb)
  have HU4 := Lib.hid (HU3.out.below hb)
  have HB4 := Lib.hid (HB3.out.trans (hb.mono HB3.out.size))
  clear hb 
  go_wp2_with fail
  refine hK.out _ _ HB4.out (fun hHeld => ?_)
  clear hK K hHeld
  simp only [Act.put, List.setIfInBounds_toArray, List.set_cons_zero, List.set_cons_succ]
  refine wpAnyH_take (i := 6) (oi := { dst := some 26, op := Op.unOp UnOp.not 4 (Operand.tmp 25), type := 4, pos := "law.go:44", after := #[{ on := 5, ground := Ground.data }], guard := none }) (v := .bool false) rfl (by kernel_rfl) (by kernel_rfl) (by kernel_rfl) (fun c a w' => HQP.out c a _ _ w') (Or.inl ⟨by rfl, ?_⟩) HB4.out ?_
  · intro W hSw
    clear hSw
    go_simp
  simp only [Act.put, List.setIfInBounds_toArray, List.set_cons_zero, List.set_cons_succ]
  refine wpAnyH_done (by kernel_rfl) ?_ _
  exact HQ.out _ _ _ _ _ _ _ HB4.out

set_option linter.unusedSimpArgs false in
set_option maxRecDepth 100000 in
set_option maxHeartbeats 8000000 in
theorem checks_end {s0 s1 s2 s3 s5 s6 s7 s8 s9 s11 s15 s16 s17 s18 s19 s20 s21 s22 s23 s24 s25 s26 s27 s28 s29 s30 s31 s32 s33 s34 s35 s36 s37 s38 s39 s40 s41 s42 s43 s44 s45 s46 s47 s48 s49 s50 s51 s52 s53 s54 s55 s56 s57 s58 s59 s60 s61 s62 s63 s64 s65 s66 s67 s68 s69 s70 s71 : Value} {v m1 m2 : Value} {x : EV} {be : Nat} {uc : Int} {ua : Option Addr} {un ucap : Nat} {w wx : World} (hg : EVar w) (hb : Below w.heap.size w wx) (hp : x.pos) (he : Cells wx be 30 [.int .i64 uc, .slice ua un ucap]) (hv : ErrIs wx v x) (hu : ErrV wx (.agg #[.int .i64 uc, .slice ua un ucap]) x) (hc : Calls Tryd.prog 26 #[m1, m2] wx (BoolIs true wx)) : Code.wp Tryd.prog (tailAt 9 checksBody) (bodyPost Tryd.prog Tryd.f4 (BoolIs true w)) ⟨#[s0, s1, s2, s3, .pointer (some ⟨w.heap.size, 0, none⟩), s5, s6, s7, s8, s9, v, s11, .pointer (some ⟨be, 0, none⟩), m1, m2, s15, s16, s17, s18, s19, s20, s21, s22, s23, s24, s25, s26, s27, s28, s29, s30, s31, s32, s33, s34, s35, s36, s37, s38, s39, s40, s41, s42, s43, s44, s45, s46, s47, s48, s49, s50, s51, s52, s53, s54, s55, s56, s57, s58, s59, s60, s61, s62, s63, s64, s65, s66, s67, s68, s69, s70, s71], []⟩ wx := by
  have HG := Lib.hid hg
  have HB := Lib.hid hb
  have HP := Lib.hid hp
  have HE := Lib.hid he
  have HV := Lib.hid hv
  have HU := Lib.hid hu
  have HC := Lib.hid hc
  clear hg hb hp he hv hu hc
  conv => arg 2; whnf
  go_wp2_with fail
  refine HC.out.mono ?_
  rintro e w1 ⟨rfl, hb1⟩
  have HB1 := Lib.hid (HB.out.trans (hb1.mono HB.out.size))
  have HV1 := Lib.hid (HV.out.below hb1)
  have HU1 := Lib.hid (HU.out.below hb1)
  have he1 := HE.out.below hb1 HE.out.lt
  have y0 : w1.cell? ⟨be, 0, none⟩ = some (.int .i64 uc) := he1.cell rfl
  have y1 : w1.cell? ⟨be, 1, none⟩ = some (.slice ua un ucap) := he1.cell rfl
  clear hb1 he1 HV HU HE HC
  go_wp2_with fail
  refine (same_any x _ _ _ HP.out (HG.out.below HB1.out) HV1.out HU1.out).mono ?_
  rintro e w2 ⟨rfl, hb2⟩
  have HB2 := Lib.hid (HB1.out.trans (hb2.mono HB1.out.size))
  clear hb2
  go_wp2
  go_returns
  exact ⟨rfl, HB2.out⟩

theorem Cells.ne_type {w : World} {a b : Nat} {t u : TypeId} {l m : List Value} (h : Cells w a t l) (k : Cells w b u m) (ne : t ≠ u) : a ≠ b := by
  rintro rfl
  have := (show w.heap[a]? = _ from h).symm.trans k
  simp at this
  exact ne this.2
theorem ErrIs.put {w : World} {x : EV} {B : Nat} {l : List Value} {v : Value} (h : ErrIs w v x) (hc : Cells w B 30 l) (a b : Value) : ErrIs ((w.setCell ⟨B, 0, none⟩ a).setCell ⟨B, 1, none⟩ b) v x := by
  cases x with
  | nil => exact h
  | code n => exact h
  | «at» k i n =>
    obtain ⟨g, e, hg⟩ := h
    have hne : g ≠ B := hg.ne_type hc (by decide)
    exact ⟨g, e, (hg.other (a := ⟨B, 0, none⟩) hne _).other (a := ⟨B, 1, none⟩) hne _⟩
def MatIs (h : HierD) (m : Value) (w : World) : Prop := (matErr h ≠ .nil → m = .slice none 0 0) ∧ (matErr h = .nil → ∃ (bm : Nat) (rb : Nat → Nat) (D : Nat → Nat → Option Int), m = .slice (some ⟨bm, 0, none⟩) h.node.length h.node.length ∧ (∀ i, i < h.node.length → IsS (webD h) (-1) i (D i)) ∧ MRep h.node.length (fun v x => farOf (D (h.node.idxOf v) (h.node.idxOf x))) bm rb w)
theorem MatIs.below {h : HierD} {m : Value} {w w' : World} (k : MatIs h m w) (o : Below w.heap.size w w') : MatIs h m w' :=
  ⟨k.1, fun e => by
    obtain ⟨bm, rb, D, h1, h2, h3⟩ := k.2 e
    exact ⟨bm, rb, D, h1, h2, h3.below o⟩⟩
theorem MatIs.put {h : HierD} {m : Value} {w : World} {B : Nat} {l : List Value} (k : MatIs h m w) (hc : Cells w B 30 l) (a b : Value) : MatIs h m ((w.setCell ⟨B, 0, none⟩ a).setCell ⟨B, 1, none⟩ b) :=
  ⟨k.1, fun e => by
    obtain ⟨bm, rb, D, h1, h2, h3⟩ := k.2 e
    have ne1 : bm ≠ B := h3.m.ne_type hc (by decide)
    have ne2 : ∀ v, v < h.node.length → rb v ≠ B := fun v hv => (h3.r v hv).ne_type hc (by decide)
    exact ⟨bm, rb, D, h1, h2, ⟨(h3.m.other (a := ⟨B, 0, none⟩) ne1 _).other (a := ⟨B, 1, none⟩) ne1 _, fun v hv => ((h3.r v hv).other (a := ⟨B, 0, none⟩) (ne2 v hv) _).other (a := ⟨B, 1, none⟩) (ne2 v hv) _⟩⟩⟩
theorem MatIs.calls {h : HierD} {m k : Value} {w : World} (hn : h.node.length ≤ 14) (a : MatIs h m w) (b : MatIs h k w) : Calls Tryd.prog 26 #[m, k] w (BoolIs true w) := by
  by_cases e : matErr h = .nil
  · obtain ⟨bm, rb, D, rfl, h2, h3⟩ := a.2 e
    obtain ⟨bm', rb', D', rfl, k2, k3⟩ := b.2 e
    have ok := order_nil (checkErr_parts (matErr_form e)).2.2.2.1
    refine samematrix_any _ _ _ _ _ _ _ w (by omega) h3 k3 (fun v x hv _ => ?_)
    have hi := List.idxOf_lt_length_of_mem (ok.mem v hv)
    rw [(h2 _ hi).unique (k2 _ hi)]
  · rw [a.1 e, b.1 e]
    exact samematrix_nil w
set_option linter.unusedSimpArgs false in
set_option maxRecDepth 100000 in
set_option maxHeartbeats 8000000 in
theorem checks_doc {s0 s5 s6 s7 s8 s9 s11 s14 s15 s16 s17 s18 s19 s20 s21 s22 s23 s24 s25 s26 s27 s28 s29 s30 s31 s32 s33 s34 s35 s36 s37 s38 s39 s40 s41 s42 s43 s44 s45 s46 s47 s48 s49 s50 s51 s52 s53 s54 s55 s56 s57 s58 s59 s60 s61 s62 s63 s64 s65 s66 s67 s68 s69 s70 s71 : Value} {A : HA} {h : HierD} {r s t : Int} {w wx : World} {v m1 : Value} {be : Nat} {uc : Int} {ua : Option Addr} {un ucap : Nat} (see : HSee w A h) (hn : h.node.length ≤ 14) (hr : Reach5 h) (hg : EVar w) (hx : Cells wx w.heap.size 25 (hierCells A h)) (hb : Below w.heap.size w wx) (he : Cells wx be 30 [.int .i64 uc, .slice ua un ucap]) (hv : ErrIs wx v (matErr h)) (hm : MatIs h m1 wx) (hbe : w.heap.size < be) : Code.wp Tryd.prog (tailAt 8 checksBody) (bodyPost Tryd.prog Tryd.f4 (BoolIs true w)) ⟨#[s0, .int .i64 r, .int .i64 s, .int .i64 t, .pointer (some ⟨w.heap.size, 0, none⟩), s5, s6, s7, s8, s9, v, s11, .pointer (some ⟨be, 0, none⟩), m1, s14, s15, s16, s17, s18, s19, s20, s21, s22, s23, s24, s25, s26, s27, s28, s29, s30, s31, s32, s33, s34, s35, s36, s37, s38, s39, s40, s41, s42, s43, s44, s45, s46, s47, s48, s49, s50, s51, s52, s53, s54, s55, s56, s57, s58, s59, s60, s61, s62, s63, s64, s65, s66, s67, s68, s69, s70, s71], []⟩ wx := by
  have SEE := Lib.hid see
  have HRE := Lib.hid hr
  have HG := Lib.hid hg
  have HX := Lib.hid hx
  have HB := Lib.hid hb
  clear see hr hg hx hb
  have HE := Lib.hid he
  have HV := Lib.hid hv
  have HM := Lib.hid hm
  clear he hv hm
  obtain ⟨k0, k1, k2, k3, k4⟩ := hier_five HX.out
  conv => arg 2; whnf
  apply wp_seq_k
  intro KK hK
  have HKK := Lib.hid hK
  clear hK
  go_wp2_with fail
  refine (rsmat_lit A h _ (SEE.out.below HB.out) hn HRE.out).mono ?_
  rintro e w1 ⟨mv, u, rfl, hu, hb1, hm1, hm2⟩
  obtain ⟨uc2, ua2, un2, ucap2, rfl⟩ := hu.form
  have HB1 := Lib.hid (HB.out.trans (hb1.mono HB.out.size))
  have HE1 := Lib.hid (HE.out.below hb1 HE.out.lt)
  have HV1 := Lib.hid (HV.out.below hb1)
  have HM1 := Lib.hid (HM.out.below hb1)
  have HD1 := Lib.hid (show MatIs h mv w1 from ⟨hm1, hm2⟩)
  have HU := Lib.hid hu
  have z0 : w1.cell? ⟨be, 0, none⟩ = some (.int .i64 uc) := HE1.out.cell rfl
  have z1 : w1.cell? ⟨be, 1, none⟩ = some (.slice ua un ucap) := HE1.out.cell rfl
  have g0 := HE1.out.frozen 0
  have g1 := HE1.out.frozen 1
  have lr := HE1.out.lt
  clear hu hb1 hm1 hm2 HB HE HV HM HX k0 k1 k2 k3 k4
  go_wp2_with fail
  refine HKK.out _ _ ?_
  change Code.wp _ (tailAt 9 checksBody) _ _ _
  exact checks_end HG.out ((HB1.out.setCell (p := ⟨be, 0, none⟩) (Nat.le_of_lt hbe) _).setCell (p := ⟨be, 1, none⟩) (Nat.le_of_lt hbe) _) (matErr_pos h) ((HE1.out.set 0 _).set 1 _) (HV1.out.put HE1.out _ _) (HU.out.put HE1.out _ _) (MatIs.calls hn (HM1.out.put HE1.out _ _) (HD1.out.put HE1.out _ _))

set_option linter.unusedSimpArgs false in
set_option maxRecDepth 100000 in
set_option maxHeartbeats 8000000 in
theorem checks_mat {s0 s5 s6 s7 s8 s9 s10 s11 s13 s14 s15 s16 s17 s18 s19 s20 s21 s22 s23 s24 s25 s26 s27 s28 s29 s30 s31 s32 s33 s34 s35 s36 s37 s38 s39 s40 s41 s42 s43 s44 s45 s46 s47 s48 s49 s50 s51 s52 s53 s54 s55 s56 s57 s58 s59 s60 s61 s62 s63 s64 s65 s66 s67 s68 s69 s70 s71 : Value} {A : HA} {h : HierD} {r s t : Int} {w wx : World} {be : Nat} {uc : Int} {ua : Option Addr} {un ucap : Nat} (see : HSee w A h) (hn : h.node.length ≤ 14) (hr : Reach5 h) (hg : EVar w) (hx : Cells wx w.heap.size 25 (hierCells A h)) (hb : Below w.heap.size w wx) (he : Cells wx be 30 [.int .i64 uc, .slice ua un ucap]) (hbe : w.heap.size < be) : Code.wp Tryd.prog (tailAt 7 checksBody) (bodyPost Tryd.prog Tryd.f4 (BoolIs true w)) ⟨#[s0, .int .i64 r, .int .i64 s, .int .i64 t, .pointer (some ⟨w.heap.size, 0, none⟩), s5, s6, s7, s8, s9, s10, s11, .pointer (some ⟨be, 0, none⟩), s13, s14, s15, s16, s17, s18, s19, s20, s21, s22, s23, s24, s25, s26, s27, s28, s29, s30, s31, s32, s33, s34, s35, s36, s37, s38, s39, s40, s41, s42, s43, s44, s45, s46, s47, s48, s49, s50, s51, s52, s53, s54, s55, s56, s57, s58, s59, s60, s61, s62, s63, s64, s65, s66, s67, s68, s69, s70, s71], []⟩ wx := by
  have SEE := Lib.hid see
  have HRE := Lib.hid hr
  have HG := Lib.hid hg
  have HX := Lib.hid hx
  have HB := Lib.hid hb
  clear see hr hg hx hb
  have HE := Lib.hid he
  clear he
  obtain ⟨k0, k1, k2, k3, k4⟩ := hier_five HX.out
  conv => arg 2; whnf
  apply wp_seq_k
  intro KK hK
  have HKK := Lib.hid hK
  clear hK
  go_wp2_with fail
  refine (twin_lit A h _ (SEE.out.below HB.out) HRE.out).mono ?_
  rintro e w1 ⟨B, rfl, sb, -, hb1⟩
  have HX1 := Lib.hid (HX.out.below hb1 HX.out.lt)
  have HB1 := Lib.hid (HB.out.trans (hb1.mono HB.out.size))
  have HE1 := Lib.hid (HE.out.below hb1 HE.out.lt)
  have SB := Lib.hid sb
  clear sb hb1 HX HB HE k0 k1 k2 k3 k4
  go_wp2_with fail
  refine (matrix_any B h _ SB.out).mono ?_
  rintro e w2 ⟨mv, v, rfl, hv, hb2, hm1, hm2⟩
  have HX2 := Lib.hid (HX1.out.below hb2 HX1.out.lt)
  have HB2 := Lib.hid (HB1.out.trans (hb2.mono HB1.out.size))
  have HE2 := Lib.hid (HE1.out.below hb2 HE1.out.lt)
  have HV := Lib.hid hv
  have HM := Lib.hid (show MatIs h mv w2 from ⟨hm1, fun e => by
    obtain ⟨bm, rb, D, h1, h2, -, h3⟩ := hm2 e
    exact ⟨bm, rb, D, h1, h2, h3⟩⟩)
  clear hv hb2 hm1 hm2 HX1 HB1 HE1
  go_wp2_with fail
  refine HKK.out _ _ ?_
  change Code.wp _ (tailAt 8 checksBody) _ _ _
  exact checks_doc SEE.out hn HRE.out HG.out HX2.out HB2.out HE2.out HV.out HM.out hbe

set_option linter.unusedSimpArgs false in
set_option maxRecDepth 100000 in
set_option maxHeartbeats 8000000 in
theorem checks_cmp {s0 s5 s6 s7 s8 s13 s14 s15 s16 s17 s18 s19 s20 s21 s22 s23 s24 s25 s26 s27 s28 s29 s30 s31 s32 s33 s34 s35 s36 s37 s38 s39 s40 s41 s42 s43 s44 s45 s46 s47 s48 s49 s50 s51 s52 s53 s54 s55 s56 s57 s58 s59 s60 s61 s62 s63 s64 s65 s66 s67 s68 s69 s70 s71 : Value} {A : HA} {h : HierD} {r s t : Int} {w wx : World} {d : Int} {v : Value} {x : EV} {be : Nat} {uc : Int} {ua : Option Addr} {un ucap : Nat} (see : HSee w A h) (hn : h.node.length ≤ 14) (hr : Reach5 h) (hg : EVar w) (hx : Cells wx w.heap.size 25 (hierCells A h)) (hb : Below w.heap.size w wx) (he : Cells wx be 30 [.int .i64 uc, .slice ua un ucap]) (hbe : w.heap.size < be) (hp : x.pos) (hv : ErrIs wx v x) (hu : ErrV wx (.agg #[.int .i64 uc, .slice ua un ucap]) x) : Code.wp Tryd.prog (tailAt 6 checksBody) (bodyPost Tryd.prog Tryd.f4 (BoolIs true w)) ⟨#[s0, .int .i64 r, .int .i64 s, .int .i64 t, .pointer (some ⟨w.heap.size, 0, none⟩), s5, s6, s7, s8, .int .u64 d, v, .int .u64 d, .pointer (some ⟨be, 0, none⟩), s13, s14, s15, s16, s17, s18, s19, s20, s21, s22, s23, s24, s25, s26, s27, s28, s29, s30, s31, s32, s33, s34, s35, s36, s37, s38, s39, s40, s41, s42, s43, s44, s45, s46, s47, s48, s49, s50, s51, s52, s53, s54, s55, s56, s57, s58, s59, s60, s61, s62, s63, s64, s65, s66, s67, s68, s69, s70, s71], []⟩ wx := by
  have SEE := Lib.hid see
  have HRE := Lib.hid hr
  have HG := Lib.hid hg
  have HX := Lib.hid hx
  have HB := Lib.hid hb
  clear see hr hg hx hb
  have HE := Lib.hid he
  have HP := Lib.hid hp
  have HV := Lib.hid hv
  have HU := Lib.hid hu
  have t1 : (d == d) = true := by simp
  have t2 : (d != d) = false := by simp
  have y0 : wx.cell? ⟨be, 0, none⟩ = some (.int .i64 uc) := he.cell rfl
  have y1 : wx.cell? ⟨be, 1, none⟩ = some (.slice ua un ucap) := he.cell rfl
  clear he hp hv hu
  conv => arg 2; whnf
  apply wp_seq_k
  intro KK hK
  have HKK := Lib.hid hK
  clear hK
  go_wp2_with fail
  refine (same_any x _ _ _ HP.out (HG.out.below HB.out) HV.out HU.out).mono ?_
  rintro e w1 ⟨rfl, hb1⟩
  have HX1 := Lib.hid (HX.out.below hb1 HX.out.lt)
  have HB1 := Lib.hid (HB.out.trans (hb1.mono HB.out.size))
  have HE1 := Lib.hid (HE.out.below hb1 HE.out.lt)
  clear hb1 HX HB HE HV HU y0 y1
  go_wp2_with fail
  refine HKK.out _ _ ?_
  change Code.wp _ (tailAt 7 checksBody) _ _ _
  exact checks_mat SEE.out hn HRE.out HG.out HX1.out HB1.out HE1.out hbe

set_option linter.unusedSimpArgs false in
set_option maxRecDepth 100000 in
set_option maxHeartbeats 8000000 in
theorem checks_rdoc {s0 s5 s6 s7 s8 s11 s12 s13 s14 s15 s16 s17 s18 s19 s20 s21 s22 s23 s24 s25 s26 s27 s28 s29 s30 s31 s32 s33 s34 s35 s36 s37 s38 s39 s40 s41 s42 s43 s44 s45 s46 s47 s48 s49 s50 s51 s52 s53 s54 s55 s56 s57 s58 s59 s60 s61 s62 s63 s64 s65 s66 s67 s68 s69 s70 s71 : Value} {A : HA} {h : HierD} {r s t : Int} {w wx : World} {d : Int} {v : Value} {x : EV} (see : HSee w A h) (hn : h.node.length ≤ 14) (hr : Reach5 h) (hg : EVar w) (hx : Cells wx w.heap.size 25 (hierCells A h)) (hb : Below w.heap.size w wx) (hv : ErrIs wx v x) (ha : SAbove h r s t d x) : Code.wp Tryd.prog (tailAt 5 checksBody) (bodyPost Tryd.prog Tryd.f4 (BoolIs true w)) ⟨#[s0, .int .i64 r, .int .i64 s, .int .i64 t, .pointer (some ⟨w.heap.size, 0, none⟩), s5, s6, s7, s8, .int .u64 d, v, s11, s12, s13, s14, s15, s16, s17, s18, s19, s20, s21, s22, s23, s24, s25, s26, s27, s28, s29, s30, s31, s32, s33, s34, s35, s36, s37, s38, s39, s40, s41, s42, s43, s44, s45, s46, s47, s48, s49, s50, s51, s52, s53, s54, s55, s56, s57, s58, s59, s60, s61, s62, s63, s64, s65, s66, s67, s68, s69, s70, s71], []⟩ wx := by
  have SEE := Lib.hid see
  have HRE := Lib.hid hr
  have HG := Lib.hid hg
  have HX := Lib.hid hx
  have HB := Lib.hid hb
  clear see hr hg hx hb
  have HV := Lib.hid hv
  have HA := Lib.hid ha
  clear hv ha
  obtain ⟨k0, k1, k2, k3, k4⟩ := hier_five HX.out
  conv => arg 2; whnf
  apply wp_seq_k
  intro KK hK
  have HKK := Lib.hid hK
  clear hK
  go_wp2_with fail
  refine (rsabv_lit A h r s t _ (SEE.out.below HB.out) hn HRE.out).mono ?_
  rintro e w1 ⟨d', u, y, rfl, hu, ha', hb1⟩
  obtain ⟨rfl, rfl⟩ := ha'.same HA.out
  obtain ⟨uc, ua, un, ucap, rfl⟩ := hu.form
  have ho := (Below.refl w1.heap.size w1).alloc (Nat.le_refl _) (.cells #[.int .i64 uc, .slice ua un ucap] 30)
  have hb1' := hb1.trans (ho.mono hb1.size)
  have HP := Lib.hid ha'.pos
  have HX1 := Lib.hid (HX.out.below hb1' HX.out.lt)
  have HB1 := Lib.hid (HB.out.trans (hb1'.mono HB.out.size))
  have HV1 := Lib.hid (HV.out.below hb1')
  have HU1 := Lib.hid (hu.below ho)
  have HE1 := Lib.hid (Cells.new w1 30 [.int .i64 uc, .slice ua un ucap])
  have HLT := Lib.hid (show w.heap.size < w1.heap.size from Nat.lt_of_lt_of_le HX.out.lt hb1.size)
  clear hu ha' hb1 ho hb1' HX HB HV HA k0 k1 k2 k3 k4
  go_wp2_with fail
  refine HKK.out _ _ ?_
  change Code.wp _ (tailAt 6 checksBody) _ _ _
  exact checks_cmp SEE.out hn HRE.out HG.out HX1.out HB1.out HE1.out HLT.out HP.out HV1.out HU1.out
set_option linter.unusedSimpArgs false in
set_option maxRecDepth 100000 in
set_option maxHeartbeats 8000000 in
theorem checks_abv {s0 s5 s6 s7 s8 s9 s10 s11 s12 s13 s14 s15 s16 s17 s18 s19 s20 s21 s22 s23 s24 s25 s26 s27 s28 s29 s30 s31 s32 s33 s34 s35 s36 s37 s38 s39 s40 s41 s42 s43 s44 s45 s46 s47 s48 s49 s50 s51 s52 s53 s54 s55 s56 s57 s58 s59 s60 s61 s62 s63 s64 s65 s66 s67 s68 s69 s70 s71 : Value} {A : HA} {h : HierD} {r s t : Int} {w wx : World} (see : HSee w A h) (hn : h.node.length ≤ 14) (hr : Reach5 h) (hg : EVar w) (hx : Cells wx w.heap.size 25 (hierCells A h)) (hb : Below w.heap.size w wx) : Code.wp Tryd.prog (tailAt 4 checksBody) (bodyPost Tryd.prog Tryd.f4 (BoolIs true w)) ⟨#[s0, .int .i64 r, .int .i64 s, .int .i64 t, .pointer (some ⟨w.heap.size, 0, none⟩), s5, s6, s7, s8, s9, s10, s11, s12, s13, s14, s15, s16, s17, s18, s19, s20, s21, s22, s23, s24, s25, s26, s27, s28, s29, s30, s31, s32, s33, s34, s35, s36, s37, s38, s39, s40, s41, s42, s43, s44, s45, s46, s47, s48, s49, s50, s51, s52, s53, s54, s55, s56, s57, s58, s59, s60, s61, s62, s63, s64, s65, s66, s67, s68, s69, s70, s71], []⟩ wx := by
  have SEE := Lib.hid see
  have HRE := Lib.hid hr
  have HG := Lib.hid hg
  have HX := Lib.hid hx
  have HB := Lib.hid hb
  clear see hr hg hx hb
  obtain ⟨k0, k1, k2, k3, k4⟩ := hier_five HX.out
  conv => arg 2; whnf
  apply wp_seq_k
  intro KK hK
  have HKK := Lib.hid hK
  clear hK
  go_wp2_with fail
  refine (twin_lit A h _ (SEE.out.below HB.out) HRE.out).mono ?_
  rintro e w1 ⟨B, rfl, sb, -, hb1⟩
  have HX1 := Lib.hid (HX.out.below hb1 HX.out.lt)
  have HB1 := Lib.hid (HB.out.trans (hb1.mono HB.out.size))
  have SB := Lib.hid sb
  clear sb hb1 HX HB k0 k1 k2 k3 k4
  go_wp2_with fail
  refine (above_any B h r s t _ SB.out).mono ?_
  rintro e w2 ⟨d, v, x, rfl, hv, ha, hb2⟩
  have HX2 := Lib.hid (HX1.out.below hb2 HX1.out.lt)
  have HB2 := Lib.hid (HB1.out.trans (hb2.mono HB1.out.size))
  have HV := Lib.hid hv
  have HA := Lib.hid ha
  clear hv ha hb2 HX1 HB1
  go_wp2_with fail
  refine HKK.out _ _ ?_
  change Code.wp _ (tailAt 5 checksBody) _ _ _
  exact checks_rdoc SEE.out hn HRE.out HG.out HX2.out HB2.out HV.out HA.out
set_option linter.unusedSimpArgs false in
set_option maxRecDepth 100000 in
set_option maxHeartbeats 8000000 in
theorem checks_chk {s0 s5 s6 s7 s8 s9 s10 s11 s12 s13 s14 s15 s16 s17 s18 s19 s20 s21 s22 s23 s24 s25 s26 s27 s28 s29 s30 s31 s32 s33 s34 s35 s36 s37 s38 s39 s40 s41 s42 s43 s44 s45 s46 s47 s48 s49 s50 s51 s52 s53 s54 s55 s56 s57 s58 s59 s60 s61 s62 s63 s64 s65 s66 s67 s68 s69 s70 s71 : Value} {A : HA} {h : HierD} {r s t : Int} {w wx : World} (see : HSee w A h) (hn : h.node.length ≤ 14) (hr : Reach5 h) (hg : EVar w) (hx : Cells wx w.heap.size 25 (hierCells A h)) (hb : Below w.heap.size w wx) : Code.wp Tryd.prog (tailAt 3 checksBody) (bodyPost Tryd.prog Tryd.f4 (BoolIs true w)) ⟨#[s0, .int .i64 r, .int .i64 s, .int .i64 t, .pointer (some ⟨w.heap.size, 0, none⟩), s5, s6, s7, s8, s9, s10, s11, s12, s13, s14, s15, s16, s17, s18, s19, s20, s21, s22, s23, s24, s25, s26, s27, s28, s29, s30, s31, s32, s33, s34, s35, s36, s37, s38, s39, s40, s41, s42, s43, s44, s45, s46, s47, s48, s49, s50, s51, s52, s53, s54, s55, s56, s57, s58, s59, s60, s61, s62, s63, s64, s65, s66, s67, s68, s69, s70, s71], []⟩ wx := by
  have SEE := Lib.hid see
  have HRE := Lib.hid hr
  have HG := Lib.hid hg
  have HX := Lib.hid hx
  have HB := Lib.hid hb
  clear see hr hg hx hb
  obtain ⟨k0, k1, k2, k3, k4⟩ := hier_five HX.out
  conv => arg 2; whnf
  apply wp_seq_k
  intro KK hK
  have HKK := Lib.hid hK
  clear hK
  go_upto_region 5 with fail
  change Code.wp _ ((regionAt 5 checksBody).getD .skip) _ _ _
  refine checks5 _ (fun _ _ t _ _ hq => by cases t <;> exact hq) (SEE.out.below HB.out) k0 k1 k2 k3 k4 hn HRE.out (HG.out.below HB.out) ?_
  intro t20 t21 t22 t23 t24 t25 w1 hb1
  have HX1 := Lib.hid (HX.out.below hb1 HX.out.lt)
  have HB1 := Lib.hid (HB.out.trans (hb1.mono HB.out.size))
  clear hb1 HX HB k0 k1 k2 k3 k4
  go_wp2_with fail
  refine HKK.out _ _ ?_
  change Code.wp _ (tailAt 4 checksBody) _ _ _
  exact checks_abv SEE.out hn HRE.out HG.out HX1.out HB1.out
set_option linter.unusedSimpArgs false in
set_option maxRecDepth 100000 in
set_option maxHeartbeats 8000000 in
theorem checks_few {s0 s5 s6 s7 s8 s9 s10 s11 s12 s13 s14 s15 s16 s17 s18 s19 s20 s21 s22 s23 s24 s25 s26 s27 s28 s29 s30 s31 s32 s33 s34 s35 s36 s37 s38 s39 s40 s41 s42 s43 s44 s45 s46 s47 s48 s49 s50 s51 s52 s53 s54 s55 s56 s57 s58 s59 s60 s61 s62 s63 s64 s65 s66 s67 s68 s69 s70 s71 : Value} {A : HA} {h : HierD} {r s t : Int} {w wx : World} (see : HSee w A h) (hr : Reach5 h) (hg : EVar w) (hx : Cells wx w.heap.size 25 (hierCells A h)) (hb : Below w.heap.size w wx) : Code.wp Tryd.prog (tailAt 2 checksBody) (bodyPost Tryd.prog Tryd.f4 (BoolIs true w)) ⟨#[s0, .int .i64 r, .int .i64 s, .int .i64 t, .pointer (some ⟨w.heap.size, 0, none⟩), s5, s6, s7, s8, s9, s10, s11, s12, s13, s14, s15, s16, s17, s18, s19, s20, s21, s22, s23, s24, s25, s26, s27, s28, s29, s30, s31, s32, s33, s34, s35, s36, s37, s38, s39, s40, s41, s42, s43, s44, s45, s46, s47, s48, s49, s50, s51, s52, s53, s54, s55, s56, s57, s58, s59, s60, s61, s62, s63, s64, s65, s66, s67, s68, s69, s70, s71], []⟩ wx := by
  have SEE := Lib.hid see
  have HRE := Lib.hid hr
  have HG := Lib.hid hg
  have HX := Lib.hid hx
  have HB := Lib.hid hb
  clear see hr hg hx hb
  obtain ⟨k0, k1, k2, k3, k4⟩ := hier_five HX.out
  conv => arg 2; whnf
  apply wp_seq_k
  intro KK hK
  have HKK := Lib.hid hK
  clear hK
  go_wp2_with fail
  refine (few14_any A h _).mono ?_
  rintro e w1 ⟨b, rfl, hf, hb1⟩
  have HX1 := Lib.hid (HX.out.below hb1 HX.out.lt)
  have HB1 := Lib.hid (HB.out.trans (hb1.mono HB.out.size))
  have HF := Lib.hid hf
  clear hf hb1 HX HB k0 k1 k2 k3 k4
  cases b
  · go_wp2
    go_returns
    exact ⟨rfl, HB1.out⟩
  · go_wp2_with fail
    refine HKK.out _ _ ?_
    change Code.wp _ (tailAt 3 checksBody) _ _ _
    exact checks_chk SEE.out (HF.out (by first | trivial | rfl)) HRE.out HG.out HX1.out HB1.out
set_option linter.unusedSimpArgs false in
set_option maxRecDepth 100000 in
set_option maxHeartbeats 8000000 in
theorem checks_awake {s0 s5 s6 s7 s8 s9 s10 s11 s12 s13 s14 s15 s16 s17 s18 s19 s20 s21 s22 s23 s24 s25 s26 s27 s28 s29 s30 s31 s32 s33 s34 s35 s36 s37 s38 s39 s40 s41 s42 s43 s44 s45 s46 s47 s48 s49 s50 s51 s52 s53 s54 s55 s56 s57 s58 s59 s60 s61 s62 s63 s64 s65 s66 s67 s68 s69 s70 s71 : Value} {A : HA} {h : HierD} {r s t : Int} {w wx : World} (see : HSee w A h) (hr : Reach5 h) (hg : EVar w) (hx : Cells wx w.heap.size 25 (hierCells A h)) (hb : Below w.heap.size w wx) : Code.wp Tryd.prog (tailAt 1 checksBody) (bodyPost Tryd.prog Tryd.f4 (BoolIs true w)) ⟨#[s0, .int .i64 r, .int .i64 s, .int .i64 t, .pointer (some ⟨w.heap.size, 0, none⟩), s5, s6, s7, s8, s9, s10, s11, s12, s13, s14, s15, s16, s17, s18, s19, s20, s21, s22, s23, s24, s25, s26, s27, s28, s29, s30, s31, s32, s33, s34, s35, s36, s37, s38, s39, s40, s41, s42, s43, s44, s45, s46, s47, s48, s49, s50, s51, s52, s53, s54, s55, s56, s57, s58, s59, s60, s61, s62, s63, s64, s65, s66, s67, s68, s69, s70, s71], []⟩ wx := by
  have SEE := Lib.hid see
  have HRE := Lib.hid hr
  have HG := Lib.hid hg
  have HX := Lib.hid hx
  have HB := Lib.hid hb
  clear see hr hg hx hb
  conv => arg 2; whnf
  apply wp_seq_k
  intro KK hK
  have HKK := Lib.hid hK
  clear hK
  go_wp2_with fail
  refine (awake16_any _ (HG.out.below HB.out)).mono ?_
  rintro e w1 ⟨rfl, hb1⟩
  have HX1 := Lib.hid (HX.out.below hb1 HX.out.lt)
  have HB1 := Lib.hid (HB.out.trans (hb1.mono HB.out.size))
  clear hb1 HX HB
  go_wp2_with fail
  refine HKK.out _ _ ?_
  change Code.wp _ (tailAt 2 checksBody) _ _ _
  exact checks_few SEE.out HRE.out HG.out HX1.out HB1.out
set_option linter.unusedSimpArgs false in
set_option maxRecDepth 100000 in
set_option maxHeartbeats 8000000 in
/-- **SoundChecks.** -/
theorem soundChecks_any (A : HA) (h : HierD) (r s t : Int) (w : World) (hg : EVar w) (see : HSee w A h) (hr : Reach5 h) : Calls Tryd.prog 4 #[hierVal A h, .int .i64 r, .int .i64 s, .int .i64 t] w (BoolIs true w) := by
  have SEE := Lib.hid see
  have HRE := Lib.hid hr
  have HG := Lib.hid hg
  clear see hr hg
  unfold hierVal
  go_enter Tryd.func4, Tryd.ntmps4
  apply wp_seq_k
  intro K1 hK
  have HK1 := Lib.hid hK
  clear hK
  go_wp2_with fail
  refine HK1.out _ _ ?_
  change Code.wp _ (tailAt 1 checksBody) _ _ _
  exact checks_awake SEE.out HRE.out HG.out (Cells.new w 25 (hierCells A h)) ((Below.refl w.heap.size w).alloc (Nat.le_refl _) _)
end Go.Proofs.YtjbphoophgbmiaaDoor
