/- hier.Graph: an arc is appended to the graph's list. -/
import Derived.Test.YtblkkjfpggcgfaaGreatDoorH24
import Derived.Test.YtblkkjfpggcgfaaGreatDoorH25
import Derived.Deep.RegionHeldLaw
import Derived.Deep.RegionHeld3
import Derived.StillTailTactics
namespace Go.Proofs.YtblkkjfpggcgfaaGreatDoor
open Go.ChangeShapes Go.WideShapes Go.ChangeAt Go.RowKit Go.Joins Go.Deep
noncomputable def ghBody : Code := Tryz.f6.body.getD .skip
theorem Tryz.sizeGraph : (Tryz.prog.info? 30).map (·.size) = some 2 := by kernel_rfl
theorem Tryz.infoArc : (Tryz.prog.info? 68).map (fun i => (i.zero, i.size, i.bytes)) = some (some (.agg #[.int .i64 0, .int .i64 0, .int .i64 0]), 3, 24) := by kernel_rfl
set_option linter.unusedSimpArgs false in
set_option maxRecDepth 100000 in
set_option maxHeartbeats 8000000 in
theorem graph_app {s0 s2 s3 s4 s5 s7 s9 s10 s11 s12 s13 s14 s15 s16 s17 s18 s19 s20 s21 s22 s23 s24 s25 s26 s27 s28 s29 s30 s55 s56 s57 s58 s59 : Value} {s31 s32 s33 s34 s35 s36 s37 s38 s39 s40 s41 s42 s43 s44 s45 s46 s47 s48 s49 s50 s51 s52 s53 s54 : Value} {hb G eb b0 o0 n c0 M cap q0 q1 v0 v1 wt : Nat} {ao : Option Addr} {gn : Value} {xs : List Value} {W : World} {K1 K2 K3 : Act → World → Prop} {R : Ending → World → Prop}
    (k0 : W.cell? ⟨hb, 0, none⟩ = some (.slice (some ⟨b0, o0, none⟩) n c0)) (y1 : W.cell? ⟨eb, 1, none⟩ = some (.int .u64 (wt : Int))) (y4 : W.cell? ⟨eb, 4, none⟩ = some (.int .i64 (q0 : Int))) (y5 : W.cell? ⟨eb, 5, none⟩ = some (.int .i64 (q1 : Int)))
    (cG : Cells W G 30 [gn, .slice ao M cap]) (z0 : W.cell? ⟨b0, o0 + q0, none⟩ = some (.int .u32 (v0 : Int))) (z1 : W.cell? ⟨b0, o0 + q1, none⟩ = some (.int .u32 (v1 : Int)))
    (hq0 : q0 < n) (hq1 : q1 < n) (hv0 : v0 ≤ 65536) (hv1 : v1 ≤ 65536) (hwt : wt ≤ 2147483647) (hM : M ≤ 1048576) (hown : W.ownsRow 0 68 3 (.slice ao M cap) M xs) (hng : G ∉ (Value.slice ao M cap).ownBlock.toList)
    (nh : hb ∉ (Value.slice ao M cap).ownBlock.toList) (ne : eb ∉ (Value.slice ao M cap).ownBlock.toList) (nb : b0 ∉ (Value.slice ao M cap).ownBlock.toList) (xh : hb ≠ G) (xe : eb ≠ G) (xb : b0 ≠ G)
    (hQ : ∀ (ao5 : Option Addr) (cap5 : Nat) (w5 : World) (t31 t32 t33 t34 t35 t36 t37 t38 t39 t40 t41 t42 t43 t44 t45 t46 t47 t48 t49 t50 t51 t52 t53 t54 : Value), w5.ownsRow 0 68 3 (.slice ao5 (M + 1) cap5) (M + 1) (xs ++ [.int .i64 (v0 : Int), .int .i64 (v1 : Int), .int .i64 (wt : Int)]) →
      Only (Value.slice ao M cap).ownBlock.toList W w5 → (∀ k, (Value.slice ao5 (M + 1) cap5).ownBlock = some k → (Value.slice ao M cap).ownBlock = some k ∨ W.heap.size ≤ k) → Cells w5 G 30 [gn, .slice ao M cap] →
      K1 ⟨#[s0, .pointer (some ⟨hb, 0, none⟩), s2, s3, s4, s5, .pointer (some ⟨G, 0, none⟩), s7, .pointer (some ⟨eb, 0, none⟩), s9, s10, s11, s12, s13, s14, s15, s16, s17, s18, s19, s20, s21, s22, s23, s24, s25, s26, s27, s28, s29, s30, t31, t32, t33, t34, t35, t36, t37, t38, t39, t40, t41, t42, t43, t44, t45, t46, t47, t48, t49, t50, t51, t52, t53, t54, s55, s56, s57, s58, s59], []⟩ (w5.setCell ⟨G, 1, none⟩ (.slice ao5 (M + 1) cap5))) :
    Code.wp Tryz.prog ((regionAt 9 ghBody).getD .skip) (Exit.inBlock 1 (Exit.then K1 (Exit.then K2 (Exit.inBlock 0 (Exit.then K3 (bodyPost Tryz.prog Tryz.f6 R)))))) ⟨#[s0, .pointer (some ⟨hb, 0, none⟩), s2, s3, s4, s5, .pointer (some ⟨G, 0, none⟩), s7, .pointer (some ⟨eb, 0, none⟩), s9, s10, s11, s12, s13, s14, s15, s16, s17, s18, s19, s20, s21, s22, s23, s24, s25, s26, s27, s28, s29, s30, s31, s32, s33, s34, s35, s36, s37, s38, s39, s40, s41, s42, s43, s44, s45, s46, s47, s48, s49, s50, s51, s52, s53, s54, s55, s56, s57, s58, s59], []⟩ W := by
  have HQ := Lib.hid hQ
  have g1 : W.cell? ⟨G, 1, none⟩ = some (.slice ao M cap) := cG.cell rfl
  have f1 := cG.frozen 1
  have lG := cG.lt
  have lb := block_lt z0
  have le := block_lt y1
  have lh := block_lt k0
  have cv0 := IntWalk.i64_in (v0 : Int) (by omega)
  have cv1 := IntWalk.i64_in (v1 : Int) (by omega)
  have cwt := IntWalk.i64_in (wt : Int) (by omega)
  have HC := Lib.hid cG
  have HO := Lib.hid hown
  have HN := Lib.hid hng
  clear hQ cG hown hng
  have NH := Lib.hid nh
  have NE := Lib.hid ne
  have NB := Lib.hid nb
  clear nh ne nb
  have K0 := Lib.hid (And.intro k0 (And.intro y1 (And.intro y4 (And.intro y5 (And.intro z0 z1)))))
  conv => arg 2; whnf
  refine wp_region_held_drew (S := fun w' => w'.cell? ⟨hb, 0, none⟩ = some (.slice (some ⟨b0, o0, none⟩) n c0) ∧ w'.cell? ⟨eb, 1, none⟩ = some (.int .u64 (wt : Int)) ∧ w'.cell? ⟨eb, 4, none⟩ = some (.int .i64 (q0 : Int)) ∧ w'.cell? ⟨eb, 5, none⟩ = some (.int .i64 (q1 : Int)) ∧ w'.cell? ⟨b0, o0 + q0, none⟩ = some (.int .u32 (v0 : Int)) ∧ w'.cell? ⟨b0, o0 + q1, none⟩ = some (.int .u32 (v1 : Int))) (by kernel_rfl) K0.out (fun hHeld => ?_)
  simp only [List.size_toArray, List.length_cons, List.length_nil, Nat.reduceAdd, Array.replicate_succ, Array.replicate_zero, List.push_toArray, List.nil_append, List.cons_append]
  refine wpAnyH_take (i := 0) (oi := { dst := some 31, op := Op.fieldAddr 30 (Operand.tmp 6) 1, type := 0, pos := "hier.go:161", after := #[], guard := none }) (v := .pointer (some ⟨G, 1, none⟩)) rfl (by kernel_rfl) (by kernel_rfl) (by kernel_rfl) (fun c a w' h => h) (Or.inl ⟨by rfl, ?_⟩) hHeld ?_
  · intro W hSw
    try dsimp only at hSw
    clear hSw
    clear hHeld
    go_simp
  simp only [Act.put, List.setIfInBounds_toArray, List.set_cons_zero, List.set_cons_succ]
  refine wpAnyH_take (i := 2) (oi := { dst := some 33, op := Op.fieldAddr 25 (Operand.tmp 1) 0, type := 0, pos := "hier.go:161", after := #[], guard := none }) (v := .pointer (some ⟨hb, 0, none⟩)) rfl (by kernel_rfl) (by kernel_rfl) (by kernel_rfl) (fun c a w' h => h) (Or.inl ⟨by rfl, ?_⟩) hHeld ?_
  · intro W hSw
    try dsimp only at hSw
    clear hSw
    clear hHeld
    go_simp
  simp only [Act.put, List.setIfInBounds_toArray, List.set_cons_zero, List.set_cons_succ]
  refine wpAnyH_take (i := 3) (oi := { dst := some 34, op := Op.load 22 (Operand.tmp 33), type := 22, pos := "hier.go:161", after := #[{ on := 2, ground := Ground.data }], guard := none }) (v := .slice (some ⟨b0, o0, none⟩) n c0) rfl (by kernel_rfl) (by kernel_rfl) (by kernel_rfl) (fun c a w' h => h) (Or.inl ⟨by rfl, ?_⟩) hHeld ?_
  · intro W hSw
    try dsimp only at hSw
    obtain ⟨m0, m1, m2, m3, m4, m5⟩ := hSw
    clear hHeld
    go_simp
  simp only [Act.put, List.setIfInBounds_toArray, List.set_cons_zero, List.set_cons_succ]
  refine wpAnyH_take (i := 4) (oi := { dst := some 35, op := Op.fieldAddr 65 (Operand.tmp 8) 1, type := 0, pos := "hier.go:161", after := #[], guard := none }) (v := .pointer (some ⟨eb, 4, none⟩)) rfl (by kernel_rfl) (by kernel_rfl) (by kernel_rfl) (fun c a w' h => h) (Or.inl ⟨by rfl, ?_⟩) hHeld ?_
  · intro W hSw
    try dsimp only at hSw
    clear hSw
    clear hHeld
    go_simp
  simp only [Act.put, List.setIfInBounds_toArray, List.set_cons_zero, List.set_cons_succ]
  refine wpAnyH_take (i := 5) (oi := { dst := some 36, op := Op.load 3 (Operand.tmp 35), type := 3, pos := "hier.go:161", after := #[{ on := 4, ground := Ground.data }], guard := none }) (v := .int .i64 (q0 : Int)) rfl (by kernel_rfl) (by kernel_rfl) (by kernel_rfl) (fun c a w' h => h) (Or.inl ⟨by rfl, ?_⟩) hHeld ?_
  · intro W hSw
    try dsimp only at hSw
    obtain ⟨m0, m1, m2, m3, m4, m5⟩ := hSw
    clear hHeld
    go_simp
  simp only [Act.put, List.setIfInBounds_toArray, List.set_cons_zero, List.set_cons_succ]
  refine wpAnyH_take (i := 6) (oi := { dst := some 37, op := Op.indexAddr 22 (Operand.tmp 34) (Operand.tmp 36), type := 0, pos := "hier.go:161", after := #[{ on := 3, ground := Ground.data }, { on := 5, ground := Ground.data }], guard := none }) (v := .pointer (some ⟨b0, o0 + q0, none⟩)) rfl (by kernel_rfl) (by kernel_rfl) (by kernel_rfl) (fun c a w' h => h) (Or.inl ⟨by rfl, ?_⟩) hHeld ?_
  · intro W hSw
    try dsimp only at hSw
    clear hSw
    clear hHeld
    go_simp
  simp only [Act.put, List.setIfInBounds_toArray, List.set_cons_zero, List.set_cons_succ]
  refine wpAnyH_take (i := 7) (oi := { dst := some 38, op := Op.load 61 (Operand.tmp 37), type := 61, pos := "hier.go:161", after := #[{ on := 6, ground := Ground.data }], guard := none }) (v := .int .u32 (v0 : Int)) rfl (by kernel_rfl) (by kernel_rfl) (by kernel_rfl) (fun c a w' h => h) (Or.inl ⟨by rfl, ?_⟩) hHeld ?_
  · intro W hSw
    try dsimp only at hSw
    obtain ⟨m0, m1, m2, m3, m4, m5⟩ := hSw
    clear hHeld
    go_simp
  simp only [Act.put, List.setIfInBounds_toArray, List.set_cons_zero, List.set_cons_succ]
  refine wpAnyH_take (i := 8) (oi := { dst := some 39, op := Op.convert 61 3 (Operand.tmp 38), type := 3, pos := "hier.go:161", after := #[{ on := 7, ground := Ground.data }], guard := none }) (v := .int .i64 (v0 : Int)) rfl (by kernel_rfl) (by kernel_rfl) (by kernel_rfl) (fun c a w' h => h) (Or.inl ⟨by rfl, ?_⟩) hHeld ?_
  · intro W hSw
    try dsimp only at hSw
    clear hSw
    clear hHeld
    go_simp
  simp only [Act.put, List.setIfInBounds_toArray, List.set_cons_zero, List.set_cons_succ]
  refine wpAnyH_take (i := 9) (oi := { dst := some 40, op := Op.fieldAddr 25 (Operand.tmp 1) 0, type := 0, pos := "hier.go:161", after := #[], guard := none }) (v := .pointer (some ⟨hb, 0, none⟩)) rfl (by kernel_rfl) (by kernel_rfl) (by kernel_rfl) (fun c a w' h => h) (Or.inl ⟨by rfl, ?_⟩) hHeld ?_
  · intro W hSw
    try dsimp only at hSw
    clear hSw
    clear hHeld
    go_simp
  simp only [Act.put, List.setIfInBounds_toArray, List.set_cons_zero, List.set_cons_succ]
  refine wpAnyH_take (i := 10) (oi := { dst := some 41, op := Op.load 22 (Operand.tmp 40), type := 22, pos := "hier.go:161", after := #[{ on := 9, ground := Ground.data }], guard := none }) (v := .slice (some ⟨b0, o0, none⟩) n c0) rfl (by kernel_rfl) (by kernel_rfl) (by kernel_rfl) (fun c a w' h => h) (Or.inl ⟨by rfl, ?_⟩) hHeld ?_
  · intro W hSw
    try dsimp only at hSw
    obtain ⟨m0, m1, m2, m3, m4, m5⟩ := hSw
    clear hHeld
    go_simp
  simp only [Act.put, List.setIfInBounds_toArray, List.set_cons_zero, List.set_cons_succ]
  refine wpAnyH_take (i := 11) (oi := { dst := some 42, op := Op.fieldAddr 65 (Operand.tmp 8) 2, type := 0, pos := "hier.go:161", after := #[], guard := none }) (v := .pointer (some ⟨eb, 5, none⟩)) rfl (by kernel_rfl) (by kernel_rfl) (by kernel_rfl) (fun c a w' h => h) (Or.inl ⟨by rfl, ?_⟩) hHeld ?_
  · intro W hSw
    try dsimp only at hSw
    clear hSw
    clear hHeld
    go_simp
  simp only [Act.put, List.setIfInBounds_toArray, List.set_cons_zero, List.set_cons_succ]
  refine wpAnyH_take (i := 12) (oi := { dst := some 43, op := Op.load 3 (Operand.tmp 42), type := 3, pos := "hier.go:161", after := #[{ on := 11, ground := Ground.data }], guard := none }) (v := .int .i64 (q1 : Int)) rfl (by kernel_rfl) (by kernel_rfl) (by kernel_rfl) (fun c a w' h => h) (Or.inl ⟨by rfl, ?_⟩) hHeld ?_
  · intro W hSw
    try dsimp only at hSw
    obtain ⟨m0, m1, m2, m3, m4, m5⟩ := hSw
    clear hHeld
    go_simp
  simp only [Act.put, List.setIfInBounds_toArray, List.set_cons_zero, List.set_cons_succ]
  refine wpAnyH_take (i := 13) (oi := { dst := some 44, op := Op.indexAddr 22 (Operand.tmp 41) (Operand.tmp 43), type := 0, pos := "hier.go:161", after := #[{ on := 10, ground := Ground.data }, { on := 12, ground := Ground.data }], guard := none }) (v := .pointer (some ⟨b0, o0 + q1, none⟩)) rfl (by kernel_rfl) (by kernel_rfl) (by kernel_rfl) (fun c a w' h => h) (Or.inl ⟨by rfl, ?_⟩) hHeld ?_
  · intro W hSw
    try dsimp only at hSw
    clear hSw
    clear hHeld
    go_simp
  simp only [Act.put, List.setIfInBounds_toArray, List.set_cons_zero, List.set_cons_succ]
  refine wpAnyH_take (i := 14) (oi := { dst := some 45, op := Op.load 61 (Operand.tmp 44), type := 61, pos := "hier.go:161", after := #[{ on := 13, ground := Ground.data }], guard := none }) (v := .int .u32 (v1 : Int)) rfl (by kernel_rfl) (by kernel_rfl) (by kernel_rfl) (fun c a w' h => h) (Or.inl ⟨by rfl, ?_⟩) hHeld ?_
  · intro W hSw
    try dsimp only at hSw
    obtain ⟨m0, m1, m2, m3, m4, m5⟩ := hSw
    clear hHeld
    go_simp
  simp only [Act.put, List.setIfInBounds_toArray, List.set_cons_zero, List.set_cons_succ]
  refine wpAnyH_take (i := 15) (oi := { dst := some 46, op := Op.convert 61 3 (Operand.tmp 45), type := 3, pos := "hier.go:161", after := #[{ on := 14, ground := Ground.data }], guard := none }) (v := .int .i64 (v1 : Int)) rfl (by kernel_rfl) (by kernel_rfl) (by kernel_rfl) (fun c a w' h => h) (Or.inl ⟨by rfl, ?_⟩) hHeld ?_
  · intro W hSw
    try dsimp only at hSw
    clear hSw
    clear hHeld
    go_simp
  simp only [Act.put, List.setIfInBounds_toArray, List.set_cons_zero, List.set_cons_succ]
  refine wpAnyH_take (i := 16) (oi := { dst := some 47, op := Op.fieldAddr 65 (Operand.tmp 8) 0, type := 0, pos := "hier.go:161", after := #[], guard := none }) (v := .pointer (some ⟨eb, 0, none⟩)) rfl (by kernel_rfl) (by kernel_rfl) (by kernel_rfl) (fun c a w' h => h) (Or.inl ⟨by rfl, ?_⟩) hHeld ?_
  · intro W hSw
    try dsimp only at hSw
    clear hSw
    clear hHeld
    go_simp
  simp only [Act.put, List.setIfInBounds_toArray, List.set_cons_zero, List.set_cons_succ]
  refine wpAnyH_take (i := 17) (oi := { dst := some 48, op := Op.fieldAddr 63 (Operand.tmp 47) 1, type := 0, pos := "hier.go:161", after := #[{ on := 16, ground := Ground.data }], guard := none }) (v := .pointer (some ⟨eb, 1, none⟩)) rfl (by kernel_rfl) (by kernel_rfl) (by kernel_rfl) (fun c a w' h => h) (Or.inl ⟨by rfl, ?_⟩) hHeld ?_
  · intro W hSw
    try dsimp only at hSw
    clear hSw
    clear hHeld
    go_simp
  simp only [Act.put, List.setIfInBounds_toArray, List.set_cons_zero, List.set_cons_succ]
  refine wpAnyH_take (i := 18) (oi := { dst := some 49, op := Op.load 35 (Operand.tmp 48), type := 35, pos := "hier.go:161", after := #[{ on := 17, ground := Ground.data }], guard := none }) (v := .int .u64 (wt : Int)) rfl (by kernel_rfl) (by kernel_rfl) (by kernel_rfl) (fun c a w' h => h) (Or.inl ⟨by rfl, ?_⟩) hHeld ?_
  · intro W hSw
    try dsimp only at hSw
    obtain ⟨m0, m1, m2, m3, m4, m5⟩ := hSw
    clear hHeld
    go_simp
  simp only [Act.put, List.setIfInBounds_toArray, List.set_cons_zero, List.set_cons_succ]
  refine wpAnyH_take (i := 19) (oi := { dst := some 50, op := Op.convert 35 3 (Operand.tmp 49), type := 3, pos := "hier.go:161", after := #[{ on := 18, ground := Ground.data }], guard := none }) (v := .int .i64 (wt : Int)) rfl (by kernel_rfl) (by kernel_rfl) (by kernel_rfl) (fun c a w' h => h) (Or.inl ⟨by rfl, ?_⟩) hHeld ?_
  · intro W hSw
    try dsimp only at hSw
    clear hSw
    clear hHeld
    go_simp
  simp only [Act.put, List.setIfInBounds_toArray, List.set_cons_zero, List.set_cons_succ]
  refine wpAnyH_take (i := 20) (oi := { dst := some 51, op := Op.build 68 #[(0, Operand.tmp 39), (1, Operand.tmp 46), (2, Operand.tmp 50)], type := 68, pos := "hier.go:161", after := #[{ on := 8, ground := Ground.data }, { on := 15, ground := Ground.data }, { on := 19, ground := Ground.data }], guard := none }) (v := .agg #[.int .i64 (v0 : Int), .int .i64 (v1 : Int), .int .i64 (wt : Int)]) rfl (by kernel_rfl) (by kernel_rfl) (by kernel_rfl) (fun c a w' h => h) (Or.inl ⟨by rfl, ?_⟩) hHeld ?_
  · intro W hSw
    try dsimp only at hSw
    clear hSw
    clear hHeld
    go_simp
  simp only [Act.put, List.setIfInBounds_toArray, List.set_cons_zero, List.set_cons_succ]
  refine wpAnyH_ready (rs := [1, 21]) (by kernel_rfl) (by simp) ?_
  refine AllReadyH.cons (o := { dst := some 32, op := Op.load 28 (Operand.tmp 31), type := 28, pos := "hier.go:161", after := #[{ on := 0, ground := Ground.data }], guard := none }) rfl (fun K hK => ?_) (AllReadyH.cons (o := { dst := some 52, op := Op.buildSlice 28 1 #[(0, Operand.tmp 51)], type := 28, pos := "hier.go:161", after := #[{ on := 20, ground := Ground.data }], guard := none }) rfl (fun K hK => ?_) AllReadyH.nil)
  · go_simp
    refine hK.out _ _ hHeld (fun hHeld => ?_)
    clear hK K
    simp only [Act.put, List.setIfInBounds_toArray, List.set_cons_zero, List.set_cons_succ]
    refine wpAnyH_ready (rs := [21]) (by kernel_rfl) (by simp) (AllReadyH.cons (o := { dst := some 52, op := Op.buildSlice 28 1 #[(0, Operand.tmp 51)], type := 28, pos := "hier.go:161", after := #[{ on := 20, ground := Ground.data }], guard := none }) rfl (fun K hK => ?_) AllReadyH.nil)
    go_simp
    have hba : Below W.heap.size W (W.alloc (.cells #[.int .i64 (v0 : Int), .int .i64 (v1 : Int), .int .i64 (wt : Int)] 68)).drew := ((Below.refl _ _).alloc (Nat.le_refl _) _).drew
    have x1 := (HC.out.alloc (.cells #[.int .i64 (v0 : Int), .int .i64 (v1 : Int), .int .i64 (wt : Int)] 68)).drew
    have x2 : (W.alloc (.cells #[.int .i64 (v0 : Int), .int .i64 (v1 : Int), .int .i64 (wt : Int)] 68)).drew.ownsRow 0 68 3 (.slice ao M cap) M xs := own_kept (bs := []) HO.out (((Only.refl _ W).alloc (.cells #[.int .i64 (v0 : Int), .int .i64 (v1 : Int), .int .i64 (wt : Int)] 68)).drew) (fun q _ => by simp)
    have x3 : ∀ (j : Nat) (u : Value), ([.int .i64 (v0 : Int), .int .i64 (v1 : Int), .int .i64 (wt : Int)] : List Value)[j]? = some u → (W.alloc (.cells #[.int .i64 (v0 : Int), .int .i64 (v1 : Int), .int .i64 (wt : Int)] 68)).drew.cell? ((⟨W.heap.size, 0, none⟩ : Addr).add j) = some u := fun j u hu => cells_new W 68 [.int .i64 (v0 : Int), .int .i64 (v1 : Int), .int .i64 (wt : Int)] j u hu
    have x4 := hba
    refine hK.out _ _ ⟨ck hba K0.out.1, ck hba K0.out.2.1, ck hba K0.out.2.2.1, ck hba K0.out.2.2.2.1, ck hba K0.out.2.2.2.2.1, ck hba K0.out.2.2.2.2.2⟩ (fun hHeld => ?_)
    clear hK K hba
    simp only [Act.put, List.setIfInBounds_toArray, List.set_cons_zero, List.set_cons_succ]
    obtain ⟨wa, hwa⟩ : ∃ wa, (W.alloc (.cells #[.int .i64 (v0 : Int), .int .i64 (v1 : Int), .int .i64 (wt : Int)] 68)).drew = wa := ⟨_, rfl⟩
    rw [hwa] at x1 x2 x3 x4 hHeld ⊢
    clear hwa
    have HA1 := Lib.hid x1
    have HA2 := Lib.hid x2
    have HA3 := Lib.hid x3
    have HAB := Lib.hid x4
    have ga : wa.cell? ⟨G, 1, none⟩ = some (.slice ao M cap) := x1.cell rfl
    clear x1 x2 x3 x4
    refine wpAnyH_ready (rs := [22]) (by kernel_rfl) (by simp) (AllReadyH.cons (o := { dst := some 53, op := Op.call { callee := Callee.builtin Builtin.append, args := #[Operand.tmp 32, Operand.tmp 52], argTypes := #[28, 28] }, type := 28, pos := "hier.go:161", after := #[{ on := 1, ground := Ground.data }, { on := 21, ground := Ground.data }], guard := none }) rfl (fun K hK => ?_) AllReadyH.nil)
    refine step_app rfl (.tmp 32) (.tmp 52) 28 rfl 68 (.agg #[.int .i64 0, .int .i64 0, .int .i64 0]) 3 24 Tryz.underlying28 Tryz.infoArc rfl (by decide) (.slice ao M cap) M xs rfl HA2.out ⟨W.heap.size, 0, none⟩ 1 1 [.int .i64 (v0 : Int), .int .i64 (v1 : Int), .int .i64 (wt : Int)] rfl rfl HA3.out (by intro u hu; simp at hu; rcases hu with rfl | rfl | rfl <;> rfl) (by unfold maxLen; omega) (by omega) ?_
    intro ao5 cap5 w5 hown5 ho5 hk5
    have hc5 := HA1.out.kept ho5 HN.out
    have hOW : Only (Value.slice ao M cap).ownBlock.toList W w5 := (Only.of_below HAB.out).trans ho5 (fun x hx => .inl hx)
    have hk6 : ∀ k, (Value.slice ao5 (M + 1) cap5).ownBlock = some k → (Value.slice ao M cap).ownBlock = some k ∨ W.heap.size ≤ k := fun k hk => (hk5 k hk).imp id (fun h => Nat.le_trans HAB.out.size h)
    have p5 : w5.cell? ⟨G, 1, none⟩ = some (.slice ao M cap) := hc5.cell rfl
    have f5 := hc5.frozen 1
    have l5 := hc5.lt
    have s0' := hOW.cell K0.out.1 NH.out
    have s1' := hOW.cell K0.out.2.1 NE.out
    have s2' := hOW.cell K0.out.2.2.1 NE.out
    have s3' := hOW.cell K0.out.2.2.2.1 NE.out
    have s4' := hOW.cell K0.out.2.2.2.2.1 NB.out
    have s5' := hOW.cell K0.out.2.2.2.2.2 NB.out
    have HC5 := Lib.hid hc5
    have HO5 := Lib.hid hown5
    have HY5 := Lib.hid hOW
    have HK6 := Lib.hid hk6
    have HS5 := Lib.hid (And.intro s0' (And.intro s1' (And.intro s2' (And.intro s3' (And.intro s4' s5')))))
    refine hK.out _ _ HS5.out (fun hHeld => ?_)
    clear hK K hc5 hown5 ho5 hk5 hOW hk6 s0' s1' s2' s3' s4' s5'
    simp only [Act.put, List.setIfInBounds_toArray, List.set_cons_zero, List.set_cons_succ]
    refine wpAnyH_take (i := 23) (oi := { dst := some 54, op := Op.fieldAddr 30 (Operand.tmp 6) 1, type := 0, pos := "hier.go:161", after := #[{ on := 0, ground := Ground.phase }, { on := 1, ground := Ground.phase }, { on := 2, ground := Ground.phase }, { on := 3, ground := Ground.phase }, { on := 4, ground := Ground.phase }, { on := 5, ground := Ground.phase }, { on := 6, ground := Ground.phase }, { on := 7, ground := Ground.phase }, { on := 8, ground := Ground.phase }, { on := 9, ground := Ground.phase }, { on := 10, ground := Ground.phase }, { on := 11, ground := Ground.phase }, { on := 12, ground := Ground.phase }, { on := 13, ground := Ground.phase }, { on := 14, ground := Ground.phase }, { on := 15, ground := Ground.phase }, { on := 16, ground := Ground.phase }, { on := 17, ground := Ground.phase }, { on := 18, ground := Ground.phase }, { on := 19, ground := Ground.phase }, { on := 20, ground := Ground.phase }, { on := 21, ground := Ground.phase }, { on := 22, ground := Ground.phase }], guard := none }) (v := .pointer (some ⟨G, 1, none⟩)) rfl (by kernel_rfl) (by kernel_rfl) (by kernel_rfl) (fun c a w' h => h) (Or.inl ⟨by rfl, ?_⟩) hHeld ?_
    · intro W hSw
      try dsimp only at hSw
      clear hSw
      clear hHeld
      go_simp
    simp only [Act.put, List.setIfInBounds_toArray, List.set_cons_zero, List.set_cons_succ]
    refine wpAnyH_ready (rs := [24]) (by kernel_rfl) (by simp) (AllReadyH.cons (o := { dst := none, op := Op.store 28 (Operand.tmp 54) (Operand.tmp 53), type := 0, pos := "hier.go:161", after := #[{ on := 23, ground := Ground.data }, { on := 22, ground := Ground.data }, { on := 22, ground := Ground.chain }, { on := 0, ground := Ground.phase }, { on := 1, ground := Ground.phase }, { on := 2, ground := Ground.phase }, { on := 3, ground := Ground.phase }, { on := 4, ground := Ground.phase }, { on := 5, ground := Ground.phase }, { on := 6, ground := Ground.phase }, { on := 7, ground := Ground.phase }, { on := 8, ground := Ground.phase }, { on := 9, ground := Ground.phase }, { on := 10, ground := Ground.phase }, { on := 11, ground := Ground.phase }, { on := 12, ground := Ground.phase }, { on := 13, ground := Ground.phase }, { on := 14, ground := Ground.phase }, { on := 15, ground := Ground.phase }, { on := 16, ground := Ground.phase }, { on := 17, ground := Ground.phase }, { on := 18, ground := Ground.phase }, { on := 19, ground := Ground.phase }, { on := 20, ground := Ground.phase }, { on := 21, ground := Ground.phase }, { on := 22, ground := Ground.phase }], guard := none }) rfl (fun K hK => ?_) AllReadyH.nil)
    go_simp
    have hfar : ∀ (b o : Nat) (v : Value), b ≠ G → w5.cell? ⟨b, o, none⟩ = some v → (w5.setCell ⟨G, 1, none⟩ (.slice ao5 (M + 1) cap5)).cell? ⟨b, o, none⟩ = some v := fun b o v hne hv => ((Only.refl [G] w5).setCell (p := ⟨G, 1, none⟩) (by simp) _).cell hv (by simpa using hne)
    refine hK.out _ _ ⟨hfar _ _ _ xh HS5.out.1, hfar _ _ _ xe HS5.out.2.1, hfar _ _ _ xe HS5.out.2.2.1, hfar _ _ _ xe HS5.out.2.2.2.1, hfar _ _ _ xb HS5.out.2.2.2.2.1, hfar _ _ _ xb HS5.out.2.2.2.2.2⟩ (fun hHeld => ?_)
    clear hK K hHeld
    try simp only [Act.put, List.setIfInBounds_toArray, List.set_cons_zero, List.set_cons_succ]
    refine wpAnyH_done (by kernel_rfl) ?_ _
    exact HQ.out ao5 cap5 w5 _ _ _ _ _ _ _ _ _ _ _ _ _ _ _ _ _ _ _ _ _ _ _ _ HO5.out HY5.out HK6.out HC5.out
  · go_simp
    have hba : Below W.heap.size W (W.alloc (.cells #[.int .i64 (v0 : Int), .int .i64 (v1 : Int), .int .i64 (wt : Int)] 68)).drew := ((Below.refl _ _).alloc (Nat.le_refl _) _).drew
    have x1 := (HC.out.alloc (.cells #[.int .i64 (v0 : Int), .int .i64 (v1 : Int), .int .i64 (wt : Int)] 68)).drew
    have x2 : (W.alloc (.cells #[.int .i64 (v0 : Int), .int .i64 (v1 : Int), .int .i64 (wt : Int)] 68)).drew.ownsRow 0 68 3 (.slice ao M cap) M xs := own_kept (bs := []) HO.out (((Only.refl _ W).alloc (.cells #[.int .i64 (v0 : Int), .int .i64 (v1 : Int), .int .i64 (wt : Int)] 68)).drew) (fun q _ => by simp)
    have x3 : ∀ (j : Nat) (u : Value), ([.int .i64 (v0 : Int), .int .i64 (v1 : Int), .int .i64 (wt : Int)] : List Value)[j]? = some u → (W.alloc (.cells #[.int .i64 (v0 : Int), .int .i64 (v1 : Int), .int .i64 (wt : Int)] 68)).drew.cell? ((⟨W.heap.size, 0, none⟩ : Addr).add j) = some u := fun j u hu => cells_new W 68 [.int .i64 (v0 : Int), .int .i64 (v1 : Int), .int .i64 (wt : Int)] j u hu
    have x4 := hba
    refine hK.out _ _ ⟨ck hba K0.out.1, ck hba K0.out.2.1, ck hba K0.out.2.2.1, ck hba K0.out.2.2.2.1, ck hba K0.out.2.2.2.2.1, ck hba K0.out.2.2.2.2.2⟩ (fun hHeld => ?_)
    clear hK K hba
    simp only [Act.put, List.setIfInBounds_toArray, List.set_cons_zero, List.set_cons_succ]
    obtain ⟨wa, hwa⟩ : ∃ wa, (W.alloc (.cells #[.int .i64 (v0 : Int), .int .i64 (v1 : Int), .int .i64 (wt : Int)] 68)).drew = wa := ⟨_, rfl⟩
    rw [hwa] at x1 x2 x3 x4 hHeld ⊢
    clear hwa
    have HA1 := Lib.hid x1
    have HA2 := Lib.hid x2
    have HA3 := Lib.hid x3
    have HAB := Lib.hid x4
    have ga : wa.cell? ⟨G, 1, none⟩ = some (.slice ao M cap) := x1.cell rfl
    clear x1 x2 x3 x4
    refine wpAnyH_ready (rs := [1]) (by kernel_rfl) (by simp) (AllReadyH.cons (o := { dst := some 32, op := Op.load 28 (Operand.tmp 31), type := 28, pos := "hier.go:161", after := #[{ on := 0, ground := Ground.data }], guard := none }) rfl (fun K hK => ?_) AllReadyH.nil)
    go_simp
    refine hK.out _ _ hHeld (fun hHeld => ?_)
    clear hK K
    simp only [Act.put, List.setIfInBounds_toArray, List.set_cons_zero, List.set_cons_succ]
    refine wpAnyH_ready (rs := [22]) (by kernel_rfl) (by simp) (AllReadyH.cons (o := { dst := some 53, op := Op.call { callee := Callee.builtin Builtin.append, args := #[Operand.tmp 32, Operand.tmp 52], argTypes := #[28, 28] }, type := 28, pos := "hier.go:161", after := #[{ on := 1, ground := Ground.data }, { on := 21, ground := Ground.data }], guard := none }) rfl (fun K hK => ?_) AllReadyH.nil)
    refine step_app rfl (.tmp 32) (.tmp 52) 28 rfl 68 (.agg #[.int .i64 0, .int .i64 0, .int .i64 0]) 3 24 Tryz.underlying28 Tryz.infoArc rfl (by decide) (.slice ao M cap) M xs rfl HA2.out ⟨W.heap.size, 0, none⟩ 1 1 [.int .i64 (v0 : Int), .int .i64 (v1 : Int), .int .i64 (wt : Int)] rfl rfl HA3.out (by intro u hu; simp at hu; rcases hu with rfl | rfl | rfl <;> rfl) (by unfold maxLen; omega) (by omega) ?_
    intro ao5 cap5 w5 hown5 ho5 hk5
    have hc5 := HA1.out.kept ho5 HN.out
    have hOW : Only (Value.slice ao M cap).ownBlock.toList W w5 := (Only.of_below HAB.out).trans ho5 (fun x hx => .inl hx)
    have hk6 : ∀ k, (Value.slice ao5 (M + 1) cap5).ownBlock = some k → (Value.slice ao M cap).ownBlock = some k ∨ W.heap.size ≤ k := fun k hk => (hk5 k hk).imp id (fun h => Nat.le_trans HAB.out.size h)
    have p5 : w5.cell? ⟨G, 1, none⟩ = some (.slice ao M cap) := hc5.cell rfl
    have f5 := hc5.frozen 1
    have l5 := hc5.lt
    have s0' := hOW.cell K0.out.1 NH.out
    have s1' := hOW.cell K0.out.2.1 NE.out
    have s2' := hOW.cell K0.out.2.2.1 NE.out
    have s3' := hOW.cell K0.out.2.2.2.1 NE.out
    have s4' := hOW.cell K0.out.2.2.2.2.1 NB.out
    have s5' := hOW.cell K0.out.2.2.2.2.2 NB.out
    have HC5 := Lib.hid hc5
    have HO5 := Lib.hid hown5
    have HY5 := Lib.hid hOW
    have HK6 := Lib.hid hk6
    have HS5 := Lib.hid (And.intro s0' (And.intro s1' (And.intro s2' (And.intro s3' (And.intro s4' s5')))))
    refine hK.out _ _ HS5.out (fun hHeld => ?_)
    clear hK K hc5 hown5 ho5 hk5 hOW hk6 s0' s1' s2' s3' s4' s5'
    simp only [Act.put, List.setIfInBounds_toArray, List.set_cons_zero, List.set_cons_succ]
    refine wpAnyH_take (i := 23) (oi := { dst := some 54, op := Op.fieldAddr 30 (Operand.tmp 6) 1, type := 0, pos := "hier.go:161", after := #[{ on := 0, ground := Ground.phase }, { on := 1, ground := Ground.phase }, { on := 2, ground := Ground.phase }, { on := 3, ground := Ground.phase }, { on := 4, ground := Ground.phase }, { on := 5, ground := Ground.phase }, { on := 6, ground := Ground.phase }, { on := 7, ground := Ground.phase }, { on := 8, ground := Ground.phase }, { on := 9, ground := Ground.phase }, { on := 10, ground := Ground.phase }, { on := 11, ground := Ground.phase }, { on := 12, ground := Ground.phase }, { on := 13, ground := Ground.phase }, { on := 14, ground := Ground.phase }, { on := 15, ground := Ground.phase }, { on := 16, ground := Ground.phase }, { on := 17, ground := Ground.phase }, { on := 18, ground := Ground.phase }, { on := 19, ground := Ground.phase }, { on := 20, ground := Ground.phase }, { on := 21, ground := Ground.phase }, { on := 22, ground := Ground.phase }], guard := none }) (v := .pointer (some ⟨G, 1, none⟩)) rfl (by kernel_rfl) (by kernel_rfl) (by kernel_rfl) (fun c a w' h => h) (Or.inl ⟨by rfl, ?_⟩) hHeld ?_
    · intro W hSw
      try dsimp only at hSw
      clear hSw
      clear hHeld
      go_simp
    simp only [Act.put, List.setIfInBounds_toArray, List.set_cons_zero, List.set_cons_succ]
    refine wpAnyH_ready (rs := [24]) (by kernel_rfl) (by simp) (AllReadyH.cons (o := { dst := none, op := Op.store 28 (Operand.tmp 54) (Operand.tmp 53), type := 0, pos := "hier.go:161", after := #[{ on := 23, ground := Ground.data }, { on := 22, ground := Ground.data }, { on := 22, ground := Ground.chain }, { on := 0, ground := Ground.phase }, { on := 1, ground := Ground.phase }, { on := 2, ground := Ground.phase }, { on := 3, ground := Ground.phase }, { on := 4, ground := Ground.phase }, { on := 5, ground := Ground.phase }, { on := 6, ground := Ground.phase }, { on := 7, ground := Ground.phase }, { on := 8, ground := Ground.phase }, { on := 9, ground := Ground.phase }, { on := 10, ground := Ground.phase }, { on := 11, ground := Ground.phase }, { on := 12, ground := Ground.phase }, { on := 13, ground := Ground.phase }, { on := 14, ground := Ground.phase }, { on := 15, ground := Ground.phase }, { on := 16, ground := Ground.phase }, { on := 17, ground := Ground.phase }, { on := 18, ground := Ground.phase }, { on := 19, ground := Ground.phase }, { on := 20, ground := Ground.phase }, { on := 21, ground := Ground.phase }, { on := 22, ground := Ground.phase }], guard := none }) rfl (fun K hK => ?_) AllReadyH.nil)
    go_simp
    have hfar : ∀ (b o : Nat) (v : Value), b ≠ G → w5.cell? ⟨b, o, none⟩ = some v → (w5.setCell ⟨G, 1, none⟩ (.slice ao5 (M + 1) cap5)).cell? ⟨b, o, none⟩ = some v := fun b o v hne hv => ((Only.refl [G] w5).setCell (p := ⟨G, 1, none⟩) (by simp) _).cell hv (by simpa using hne)
    refine hK.out _ _ ⟨hfar _ _ _ xh HS5.out.1, hfar _ _ _ xe HS5.out.2.1, hfar _ _ _ xe HS5.out.2.2.1, hfar _ _ _ xe HS5.out.2.2.2.1, hfar _ _ _ xb HS5.out.2.2.2.2.1, hfar _ _ _ xb HS5.out.2.2.2.2.2⟩ (fun hHeld => ?_)
    clear hK K hHeld
    try simp only [Act.put, List.setIfInBounds_toArray, List.set_cons_zero, List.set_cons_succ]
    refine wpAnyH_done (by kernel_rfl) ?_ _
    exact HQ.out ao5 cap5 w5 _ _ _ _ _ _ _ _ _ _ _ _ _ _ _ _ _ _ _ _ _ _ _ _ HO5.out HY5.out HK6.out HC5.out
def InG (n : Nat) (l : List AF) : Prop := ∀ x ∈ l, x.1.val < n ∧ x.2.1.val < n
theorem within_any (x n : Nat) (w : World) (h : x < n) : Calls Tryz.prog 94 #[.int .i64 (x : Int), .int .i64 (n : Int)] w fun e w' => e = .returned (.bool true) ∧ w' = w := by
  have q0 : decide ((0 : Int) ≤ (x : Int)) = true := by simp
  have q1 : decide ((x : Int) < (n : Int)) = true := by simpa using h
  have q2 : decide (x < n) = true := by simpa using h
  have q3 : decide ((x : Int) ≥ (0 : Int)) = true := by simp
  clear h
  go_enter Tryz.func94, Tryz.ntmps94
  go_wp2
  go_ret
  exact ⟨rfl, rfl⟩
set_option maxRecDepth 100000 in
theorem garc_any (x : AF) (n : Nat) (w : World) (h1 : x.1.val < n) (h2 : x.2.1.val < n) : Calls Tryz.prog 77 #[.agg (arcCells x).toArray, .int .i64 (n : Int)] w fun e w' => e = .returned .nilIface ∧ Below w.heap.size w w' := by
  obtain ⟨⟨a, ha⟩, ⟨b, hb⟩, ⟨c, hc⟩⟩ := x
  dsimp only at h1 h2
  unfold arcCells
  dsimp only
  have q0 : decide ((c : Int) < 0) = false := by simp
  have q1 : decide ((c : Int) > 2147483647) = false := by simp; omega
  have q2 : decide (2147483647 < (c : Int)) = false := by simp; omega
  have q3 : decide (c > 2147483647) = false := by simp; omega
  have q4 : decide (2147483647 < c) = false := by simp; omega
  have W1 := Lib.hid (fun w => within_any a n w h1)
  have W2 := Lib.hid (fun w => within_any b n w h2)
  clear h1 h2 ha hb hc
  go_enter Tryz.func77, Tryz.ntmps77
  go_wp2_with fail
  refine (W1.out _).mono ?_
  rintro e w' ⟨rfl, rfl⟩
  go_wp2_with fail
  refine (W2.out _).mono ?_
  rintro e w' ⟨rfl, rfl⟩
  go_wp2_with fail
  go_ret
  exact ⟨rfl, by go_grown⟩
set_option maxRecDepth 100000 in
set_option maxHeartbeats 2000000 in
theorem gcheck_any (n : Nat) (ao : Option Addr) (cap : Nat) (l : List AF) (w : World) (see : See w ao cap arcCells 3 l) (hn : n ≤ 65536) (hl : l.length ≤ 262144) (hg : InG n l) :
    Calls Tryz.prog 45 #[.agg #[.int .i64 (n : Int), .slice ao l.length cap]] w fun e w' => e = .returned .nilIface ∧ Below w.heap.size w w' := by
  obtain ⟨N, hN⟩ : ∃ N, l.length = N := ⟨_, rfl⟩
  rw [hN] at hl ⊢
  have HN := Lib.hid hN
  have SEE := Lib.hid see
  have HG := Lib.hid hg
  have q0 : decide ((n : Int) < 0) = false := by simp
  have q1 : decide (65536 < n) = false := by simp; omega
  have q2 : decide ((65536 : Int) < (n : Int)) = false := by simp; omega
  have q3 : decide (262144 < N) = false := by simp; omega
  have q4 : decide ((262144 : Int) < (N : Int)) = false := by simp; omega
  have HX := Lib.hid (Cells.new w 30 [.int .i64 (n : Int), .slice ao N cap])
  have HB := Lib.hid ((Below.refl w.heap.size w).alloc (Nat.le_refl _) (.cells #[.int .i64 (n : Int), .slice ao N cap] 30))
  clear hN see hg
  go_enter Tryz.func45, Tryz.ntmps45
  go_wp2_with fail
  go_loopg [24] N (fun g vi wr => ∃ k : Nat, vi = .int .i64 k ∧ k ≤ N ∧ g = N - k ∧ Cells wr w.heap.size 30 [.int .i64 (n : Int), .slice ao N cap] ∧ Below w.heap.size w wr)
  case atStart => exact ⟨0, rfl, Nat.zero_le _, rfl, HX.out, HB.out⟩
  case round =>
    obtain ⟨k, rfl, hk, hg, hx, hbl⟩ := hrel
    obtain ⟨wo, rfl⟩ : ∃ wo : World, wo = wr := ⟨_, rfl⟩
    have HGM := Lib.hid hg
    have HX1 := Lib.hid hx
    have HBL := Lib.hid hbl
    have c0 : wo.cell? ⟨w.heap.size, 0, none⟩ = some (.int .i64 (n : Int)) := hx.cell rfl
    have l0 := hx.lt
    clear hg hx hbl HX
    by_cases hkl : k < N
    · obtain ⟨x, hx⟩ : ∃ x, l[k]? = some x := ⟨_, List.getElem?_eq_getElem (by rw [HN.out]; exact hkl)⟩
      obtain ⟨b, o, ea, cc⟩ := SEE.out.cell k x hx
      have e0 := ck HBL.out (cc 0 _ rfl)
      have e1 := ck HBL.out (cc 1 _ rfl)
      have e2 := ck HBL.out (cc 2 _ rfl)
      rw [Nat.add_zero] at e0
      have lb := block_lt e0
      have EA := Lib.hid ea
      have HXX := Lib.hid hx
      have hin := HG.out x (List.mem_of_getElem? hx)
      have HC := Lib.hid (fun w => garc_any x n w hin.1 hin.2)
      clear hx cc ea hin
      rw [EA.out]
      go_wp2_with fail
      refine (HC.out _).mono ?_
      rintro e w2 ⟨rfl, hb⟩
      have hx2 := HX1.out.below (((Below.refl wo.heap.size wo).alloc (Nat.le_refl _) (.cells (arcCells x).toArray 68)).trans (hb.mono (by simp))) HX1.out.lt
      have hb2 := HBL.out.trans (((Below.refl wo.heap.size wo).alloc (Nat.le_refl _) (.cells (arcCells x).toArray 68)).trans (hb.mono (by simp)) |>.mono HBL.out.size)
      have HX2 := Lib.hid hx2
      have HB2 := Lib.hid hb2
      clear hx2 hb2 hb
      go_wp2_with fail
      rw [← EA.out]
      go_roundg (N - (k + 1))
      case measure => rw [HGM.out]; omega
      case rel => exact ⟨k + 1, by go_num, by omega, rfl, HX2.out, HB2.out⟩
    · obtain rfl : k = N := by omega
      go_wp2
      go_ret
      exact ⟨rfl, HBL.out⟩
def sameB (x y : AF) : Bool := x.1.val == y.1.val && x.2.1.val == y.2.1.val
def Apart (l : List AF) : Prop := ∀ (k : Nat) (x y : AF), l[k]? = some y → l[k + 1]? = some x → sameB x y = false
set_option maxRecDepth 100000 in
set_option maxHeartbeats 4000000 in
theorem compactF_any (ao : Option Addr) (cap : Nat) (l : List AF) (w : World) (see : See w ao cap arcCells 3 l) (hl : l.length ≤ 1048576) (hd : Apart l) :
    Calls Tryz.prog 47 #[.slice ao l.length cap, .func (.func 48) #[] #[]] w fun e w' => e = .returned (.slice ao l.length cap) ∧ Below w.heap.size w w' := by
  obtain ⟨N, hN⟩ : ∃ N, l.length = N := ⟨_, rfl⟩
  rw [hN] at hl ⊢
  have HN := Lib.hid hN
  have SEE := Lib.hid see
  have HD := Lib.hid hd
  clear hN see hd
  by_cases h2 : N < 2
  · have q1 : decide (N < 2) = true := by simpa using h2
    have q2 : decide ((N : Int) < 2) = true := by simp; omega
    clear h2
    go_enter Tryz.func47, Tryz.ntmps47
    go_wp2
    go_ret
    exact ⟨rfl, Below.refl _ _⟩
  · have q1 : decide (N < 2) = false := by simpa using h2
    have q2 : decide ((N : Int) < 2) = false := by simp; omega
    go_enter Tryz.func47, Tryz.ntmps47
    go_wp2_with fail
    go_loopg [5] (N - 1) (fun g vi wr => ∃ j : Nat, vi = .int .i64 (j : Int) ∧ 1 ≤ j ∧ j ≤ N ∧ g = N - j ∧ Below w.heap.size w wr)
    case atStart => exact ⟨1, rfl, by omega, by omega, rfl, Below.refl _ _⟩
    case round =>
      obtain ⟨j, rfl, hj1, hk, hg, hbl⟩ := hrel
      have HGM := Lib.hid hg
      have HBL := Lib.hid hbl
      clear hg hbl
      by_cases hkl : j < N
      · obtain ⟨k, hjk⟩ : ∃ k, j = k + 1 := ⟨j - 1, by omega⟩
        have n1 : (j : Int) - 1 = (k : Int) := by omega
        have hkN : k < N := by omega
        have cw := IntWalk.i64_in (k : Int) (by omega)
        obtain ⟨x, hx⟩ : ∃ x, l[j]? = some x := ⟨_, List.getElem?_eq_getElem (by rw [HN.out]; exact hkl)⟩
        obtain ⟨y, hy⟩ : ∃ y, l[k]? = some y := ⟨_, List.getElem?_eq_getElem (by rw [HN.out]; omega)⟩
        obtain ⟨b, o, ea, cc⟩ := SEE.out.cell j x hx
        obtain ⟨b', o', ea', cc'⟩ := SEE.out.cell k y hy
        rw [ea] at ea'
        simp only [Option.some.injEq, Addr.mk.injEq, and_true] at ea'
        obtain ⟨rfl, rfl⟩ := ea'
        have e0 := ck HBL.out (cc 0 _ rfl)
        have e1 := ck HBL.out (cc 1 _ rfl)
        have e2 := ck HBL.out (cc 2 _ rfl)
        have d0 := ck HBL.out (cc' 0 _ rfl)
        have d1 := ck HBL.out (cc' 1 _ rfl)
        have d2 := ck HBL.out (cc' 2 _ rfl)
        rw [Nat.add_zero] at e0 d0
        have lb := block_lt e0
        have EA := Lib.hid ea
        have hs := HD.out k x y hy (by rw [← hjk]; exact hx)
        have hC : ∀ w, Calls Tryz.prog 48 #[.agg (arcCells x).toArray, .agg (arcCells y).toArray] w fun e w' => e = .returned (.bool false) ∧ Below w.heap.size w w' := fun w => by
          have := compact_any x y w
          unfold sameB at hs
          rw [hs] at this
          exact this
        have HC := Lib.hid hC
        clear hC
        have HJK := Lib.hid hjk
        clear hx hy cc cc' ea hs hjk
        rw [EA.out]
        go_upto_region 6 with fail
        go_still_tail 10, (by kernel_rfl)
        repeat still_step
        change wpList _ _ _ _ _ wr.drew
        go_wp2_with fail
        refine (HC.out _).mono ?_
        rintro e w2 ⟨rfl, hb⟩
        have HB2 := Lib.hid (HBL.out.trans ((Below.refl wr.heap.size wr).drew.trans (hb.mono (by simp)) |>.mono HBL.out.size))
        clear hb
        go_wp2_with fail
        rw [← EA.out]
        go_roundg (N - (j + 1))
        case measure => rw [HGM.out]; omega
        case rel => exact ⟨j + 1, by go_num, by omega, by omega, rfl, HB2.out⟩
      · obtain rfl : j = N := by omega
        go_wp2
        go_ret
        exact ⟨rfl, HBL.out⟩
end Go.Proofs.YtblkkjfpggcgfaaGreatDoor
