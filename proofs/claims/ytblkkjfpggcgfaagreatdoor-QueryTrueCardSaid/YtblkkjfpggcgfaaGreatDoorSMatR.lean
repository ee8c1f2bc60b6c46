/- search.Matrix: a row of distances is appended. -/
import Derived.Test.YtblkkjfpggcgfaaGreatDoorSMat
namespace Go.Proofs.YtblkkjfpggcgfaaGreatDoor
open Go.ChangeShapes Go.WideShapes Go.ChangeAt Go.RowKit Go.Joins Go.Deep

noncomputable def smBody : Code := Tryz.f9.body.getD .skip

theorem Tryz.sizeBndM : (Tryz.prog.info? 82).map (·.size) = some 3 := by kernel_rfl
set_option linter.unusedSimpArgs false in
set_option maxRecDepth 100000 in
set_option maxHeartbeats 8000000 in
theorem mfree_any (w : World) : Calls Tryz.prog 26 #[] w fun e w' => e = .returned (.agg #[.int .i64 4611686018427387904, .int .i64 4611686018427387904, .int .u64 18446744073709551615]) ∧ Below w.heap.size w w' := by
  have HB := Lib.hid ((Below.refl w.heap.size w).alloc (Nat.le_refl _) (.cells #[.int .i64 4611686018427387904, .int .i64 4611686018427387904, .int .u64 18446744073709551615] 82))
  have HR := Lib.hid (Cells.new w 82 [.int .i64 4611686018427387904, .int .i64 4611686018427387904, .int .u64 18446744073709551615])
  go_enter Tryz.func26, Tryz.ntmps26
  go_wp2_with fail
  refine bodyPost_ret (results_e rfl _ _ w.heap.size 82 [.int .i64 4611686018427387904, .int .i64 4611686018427387904, .int .u64 18446744073709551615] _ rfl HR.out Tryz.underlying82 rfl (by rw [Tryz.sizeBndM]; rfl)) rfl ?_
  exact ⟨rfl, HB.out⟩
set_option linter.unusedSimpArgs false in
set_option maxRecDepth 100000 in
set_option maxHeartbeats 8000000 in
theorem mat_app {s0 s2 s3 s4 s5 s8 s9 s10 s11 s12 s13 s14 s15 s16 s17 s18 s19 s20 s21 s22 s23 s32 s33 : Value} {s24 s25 s26 s27 s28 s29 s30 s31 : Value} {bx base n N k cap : Nat} {ao : Option Addr} {C : CA} {l : List AF} {ps : List Nat} {D : Nat → Nat → Option Int} {W : World} {Q : Exit → Act → World → Prop}
    (kx : Cells W bx 40 [.slice C.fa (n + 1) C.fc, .slice C.ta N C.tc, .slice C.wa N C.wc]) (ok : CsrOk n l) (see : CSee W C n l) (hN : l.length = N) (hk : k < n) (hn : n ≤ 1024) (hps : ps.length = k) (hm : MatO base n ps D (.slice ao k cap) W) (hbase : base ≤ W.heap.size) (hbx : bx < base) (hQp : ∀ c a d v w', Q (.panic c) (a.put d v) w' → Q (.panic c) a w')
    (hQ : ∀ (ao5 : Option Addr) (cap5 : Nat) (w5 : World) (x : Nat) (Dk : Nat → Option Int) (t24 t25 t26 t27 t28 t29 t30 t31 : Value), MatO base n (ps ++ [x]) (fun s => if s = k then Dk else D s) (.slice ao5 (k + 1) cap5) w5 → IsS (webC l) (-1) k Dk → (∀ v d, Dk v = some d → 0 ≤ d ∧ d ≤ 65535 * 140737488355328) → Below base W w5 →
      Q .normal ⟨#[s0, .pointer (some ⟨bx, 0, none⟩), s2, s3, s4, s5, .slice ao5 (k + 1) cap5, .int .i64 (k : Int), s8, s9, s10, s11, s12, s13, s14, s15, s16, s17, s18, s19, s20, s21, s22, s23, t24, t25, t26, t27, t28, t29, t30, t31, s32, s33], []⟩ w5) :
    Code.wp Tryz.prog ((regionAt 11 smBody).getD .skip) Q ⟨#[s0, .pointer (some ⟨bx, 0, none⟩), s2, s3, s4, s5, .slice ao k cap, .int .i64 (k : Int), s8, s9, s10, s11, s12, s13, s14, s15, s16, s17, s18, s19, s20, s21, s22, s23, s24, s25, s26, s27, s28, s29, s30, s31, s32, s33], []⟩ W := by
  have HQ := Lib.hid hQ
  have HQP := Lib.hid hQp
  have HRUN := Lib.hid (fun W s => run_any C n N k l W ok s hN hk)
  unfold csrVal at HRUN
  have HM := Lib.hid hm
  have SEE := Lib.hid see
  have HP := Lib.hid hps
  have HB0 := Lib.hid hbase
  have KX := Lib.hid kx
  clear hQ hQp ok see hm hps hbase kx
  conv => arg 2; whnf
  refine wp_region_held_drew (S := fun w' => Below base W w') (by kernel_rfl) (Below.refl _ _).drew (fun hHeld => ?_)
  simp only [List.size_toArray, List.length_cons, List.length_nil, Nat.reduceAdd, Array.replicate_succ, Array.replicate_zero, List.push_toArray, List.nil_append, List.cons_append]
  refine wpAnyH_take (i := 0) (oi := { dst := some 24, op := Op.move (Operand.tmp 6), type := 43, pos := "search.go:181", after := #[], guard := none }) (v := .slice ao k cap) rfl (by kernel_rfl) (by kernel_rfl) (by kernel_rfl) (fun c a w' => HQP.out c a _ _ w') (Or.inl ⟨by rfl, ?_⟩) hHeld ?_
  · intro W hSw
    try dsimp only at hSw
    clear hSw hHeld
    go_simp
  simp only [Act.put, List.setIfInBounds_toArray, List.set_cons_zero, List.set_cons_succ]
  refine wpAnyH_take (i := 1) (oi := { dst := some 25, op := Op.load 40 (Operand.tmp 1), type := 40, pos := "search.go:181", after := #[], guard := none }) (v := .agg #[.slice C.fa (n + 1) C.fc, .slice C.ta N C.tc, .slice C.wa N C.wc]) rfl (by kernel_rfl) (by kernel_rfl) (by kernel_rfl) (fun c a w' => HQP.out c a _ _ w') (Or.inl ⟨by rfl, ?_⟩) hHeld ?_
  · intro W hSw
    try dsimp only at hSw
    have hx := KX.out.below hSw hbx
    have m0 : W.cell? ⟨bx, 0, none⟩ = some (.slice C.fa (n + 1) C.fc) := hx.cell rfl
    have m1 : W.cell? ⟨bx, 1, none⟩ = some (.slice C.ta N C.tc) := hx.cell rfl
    have m2 : W.cell? ⟨bx, 2, none⟩ = some (.slice C.wa N C.wc) := hx.cell rfl
    clear hx
    clear hSw hHeld
    go_simp
  simp only [Act.put, List.setIfInBounds_toArray, List.set_cons_zero, List.set_cons_succ]
  refine wpAnyH_take (i := 2) (oi := { dst := some 26, op := Op.move (Operand.tmp 7), type := 3, pos := "search.go:181", after := #[], guard := none }) (v := .int .i64 (k : Int)) rfl (by kernel_rfl) (by kernel_rfl) (by kernel_rfl) (fun c a w' => HQP.out c a _ _ w') (Or.inl ⟨by rfl, ?_⟩) hHeld ?_
  · intro W hSw
    try dsimp only at hSw
    clear hSw hHeld
    go_simp
  simp only [Act.put, List.setIfInBounds_toArray, List.set_cons_zero, List.set_cons_succ]
  have HBd := Lib.hid ((Below.refl W.heap.size W).drew)
  refine wpAnyH_ready (rs := [3]) (by kernel_rfl) (by simp) (AllReadyH.cons (o := { dst := some 27, op := Op.call { callee := Callee.value (Operand.func 26), args := #[], argTypes := #[] }, type := 82, pos := "search.go:181", after := #[], guard := none }) rfl (fun K hK => ?_) AllReadyH.nil)
  go_simp
  refine (mfree_any _).mono ?_
  rintro e w1 ⟨rfl, hb1⟩
  have HB1 := Lib.hid (HBd.out.trans (hb1.mono HBd.out.size))
  clear hb1 hHeld HBd
  go_wp2_with fail
  refine hK.out _ _ (HB1.out.mono HB0.out) (fun hHeld => ?_)
  clear hK K
  simp only [Act.put, List.setIfInBounds_toArray, List.set_cons_zero, List.set_cons_succ]
  refine wpAnyH_ready (rs := [4]) (by kernel_rfl) (by simp) (AllReadyH.cons (o := { dst := some 28, op := Op.call { callee := Callee.value (Operand.func 25), args := #[Operand.tmp 25, Operand.tmp 26, Operand.tmp 27], argTypes := #[40, 3, 82] }, type := 79, pos := "search.go:181", after := #[{ on := 1, ground := Ground.data }, { on := 2, ground := Ground.data }, { on := 3, ground := Ground.data }, { on := 3, ground := Ground.chain }], guard := none }) rfl (fun K hK => ?_) AllReadyH.nil)
  go_simp
  refine (HRUN.out _ (SEE.out.below HB1.out)).mono ?_
  rintro e w2 ⟨Z, iv, hs, ds, H, S, Dk, rfl, hr, hS, hD, -, hbig, hb2⟩
  have HB2 := Lib.hid (HB1.out.trans (hb2.mono HB1.out.size))
  have HR := Lib.hid hr
  have HS := Lib.hid hS
  have HD := Lib.hid hD
  have HBIG := Lib.hid hbig
  clear hb2 hHeld HB1 hr hS hD hbig
  go_wp2_with fail
  refine hK.out _ _ (HB2.out.mono HB0.out) (fun hHeld => ?_)
  clear hK K
  simp only [Act.put, List.setIfInBounds_toArray, List.set_cons_zero, List.set_cons_succ]
  refine wpAnyH_ready (rs := [5]) (by kernel_rfl) (by simp) (AllReadyH.cons (o := { dst := some 29, op := Op.call { callee := Callee.value (Operand.func 27), args := #[Operand.tmp 28], argTypes := #[79] }, type := 46, pos := "search.go:181", after := #[{ on := 4, ground := Ground.data }, { on := 4, ground := Ground.chain }], guard := none }) rfl (fun K hK => ?_) AllReadyH.nil)
  go_simp
  refine (all_any _ C n N Z iv hs ds H S Dk _ (by omega) HR.out HD.out).mono ?_
  rintro e w3 ⟨rb, rfl, hc, hrb, hb3⟩
  have HB3 := Lib.hid (HB2.out.trans (hb3.mono HB2.out.size))
  have HC3 := Lib.hid hc
  have HRB := Lib.hid (Nat.le_trans HB2.out.size hrb)
  clear hb3 hHeld HB2 hc hrb HR HD
  go_wp2_with fail
  refine hK.out _ _ (HB3.out.mono HB0.out) (fun hHeld => ?_)
  clear hK K
  simp only [Act.put, List.setIfInBounds_toArray, List.set_cons_zero, List.set_cons_succ]
  refine wpAnyH_ready (rs := [6]) (by kernel_rfl) (by simp) (AllReadyH.cons (o := { dst := some 30, op := Op.buildSlice 43 1 #[(0, Operand.tmp 29)], type := 43, pos := "search.go:181", after := #[{ on := 5, ground := Ground.data }], guard := none }) rfl (fun K hK => ?_) AllReadyH.nil)
  go_simp
  have x3 : ∀ (j : Nat) (u : Value), ([.slice (some ⟨rb, 0, none⟩) n n] : List Value)[j]? = some u → (w3.alloc (.cells #[.slice (some ⟨rb, 0, none⟩) n n] 46)).cell? ((⟨w3.heap.size, 0, none⟩ : Addr).add j) = some u := fun j u hu => cells_new w3 46 [.slice (some ⟨rb, 0, none⟩) n n] j u hu
  have x2 := HC3.out.alloc (.cells #[.slice (some ⟨rb, 0, none⟩) n n] 46)
  have x4 : Below W.heap.size W (w3.alloc (.cells #[.slice (some ⟨rb, 0, none⟩) n n] 46)) := HB3.out.alloc HB3.out.size (.cells #[.slice (some ⟨rb, 0, none⟩) n n] 46)
  refine hK.out _ _ (x4.mono HB0.out) (fun hHeld => ?_)
  clear hK K hHeld
  simp only [Act.put, List.setIfInBounds_toArray, List.set_cons_zero, List.set_cons_succ]
  obtain ⟨wa, hwa⟩ : ∃ wa, w3.alloc (.cells #[.slice (some ⟨rb, 0, none⟩) n n] 46) = wa := ⟨_, rfl⟩
  rw [hwa] at x2 x3 x4 ⊢
  clear hwa
  have HA2 := Lib.hid x2
  have HA3 := Lib.hid x3
  have HA4 := Lib.hid x4
  have HMa := Lib.hid (HM.out.below x4)
  have hMo := HMa.out.o
  rw [HP.out] at hMo
  have HMO := Lib.hid hMo
  clear x2 x3 x4 HC3 HB3 hMo
  refine wpAnyH_ready (rs := [7]) (by kernel_rfl) (by simp) (AllReadyH.cons (o := { dst := some 31, op := Op.call { callee := Callee.builtin Builtin.append, args := #[Operand.tmp 24, Operand.tmp 30], argTypes := #[43, 43] }, type := 43, pos := "search.go:181", after := #[{ on := 0, ground := Ground.data }, { on := 6, ground := Ground.data }, { on := 5, ground := Ground.chain }], guard := none }) rfl (fun K hK => ?_) AllReadyH.nil)
  refine step_app rfl (.tmp 24) (.tmp 30) 43 rfl 46 (.slice none 0 0) 1 24 Tryz.underlying43 Tryz.infoRowM rfl (by decide) (.slice ao k cap) k (ps.flatMap (ptrC n)) rfl HMO.out ⟨w3.heap.size, 0, none⟩ 1 1 [.slice (some ⟨rb, 0, none⟩) n n] rfl rfl HA3.out (by intro u hu; simp at hu; subst hu; rfl) (by unfold maxLen; omega) (by omega) ?_
  intro ao5 cap5 w5 hown5 ho5 hk5
  have hpp := HP.out
  have hM5 : MatO base n (ps ++ [rb]) (fun s => if s = k then Dk else D s) (.slice ao5 (k + 1) cap5) w5 := by
    refine MatO.app (x := rb) (wm := wa) (HM.out.congr fun s hs => (if_neg (by omega)).symm) HB0.out HRB.out HA4.out ?_ ho5 ?_ hk5
    · rw [hpp]
      simp only [if_true]
      exact HA2.out
    · rw [hpp]
      exact hown5
  have hb5 : Below base W w5 := (HA4.out.mono HB0.out).trans (ho5.below (B := base) (by have := HA4.out.size; have := HB0.out; omega) (fun q hq => HM.out.nb q (own_mem hq)))
  have HM5 := Lib.hid hM5
  have HB5 := Lib.hid hb5
  refine hK.out _ _ hb5 (fun hHeld => ?_)
  clear hK K hown5 ho5 hk5 hM5 hb5 hpp
  simp only [Act.put, List.setIfInBounds_toArray, List.set_cons_zero, List.set_cons_succ]
  refine wpAnyH_take (i := 8) (oi := { dst := some 6, op := Op.assign (Operand.tmp 31), type := 43, pos := "search.go:181", after := #[{ on := 7, ground := Ground.data }, { on := 7, ground := Ground.chain }, { on := 0, ground := Ground.phase }, { on := 1, ground := Ground.phase }, { on := 2, ground := Ground.phase }, { on := 3, ground := Ground.phase }, { on := 4, ground := Ground.phase }, { on := 5, ground := Ground.phase }, { on := 6, ground := Ground.phase }, { on := 7, ground := Ground.phase }], guard := none }) (v := .slice ao5 (k + 1) cap5) rfl (by kernel_rfl) (by kernel_rfl) (by kernel_rfl) (fun c a w' => HQP.out c a _ _ w') (Or.inl ⟨by rfl, ?_⟩) hHeld ?_
  · intro W hSw
    try dsimp only at hSw
    clear hSw hHeld
    go_simp
  simp only [Act.put, List.setIfInBounds_toArray, List.set_cons_zero, List.set_cons_succ]
  refine wpAnyH_done (by kernel_rfl) ?_ _
  exact HQ.out ao5 cap5 w5 rb Dk _ _ _ _ _ _ _ _ HM5.out HS.out HBIG.out HB5.out
end Go.Proofs.YtblkkjfpggcgfaaGreatDoor
