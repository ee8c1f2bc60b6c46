/- viaductref10.Laid: a plain link is appended. -/
import Derived.Test.YtchhbgckonpedaaGreatDoorG24
import Derived.Test.YtchhbgckonpedaaGreatDoorG40
import Derived.Deep.RegionHeldLaw
import Derived.Deep.RegionHeld3
namespace Go.Proofs.YtchhbgckonpedaaGreatDoor
open Go.ChangeShapes Go.WideShapes Go.ChangeAt Go.RowKit Go.Joins Go.Deep
noncomputable def laBody : Code := Tryz.f58.body.getD .skip
set_option linter.unusedSimpArgs false in
set_option maxRecDepth 100000 in
set_option maxHeartbeats 8000000 in
theorem laid_app15 {s0 s1 s3 s4 s5 s7 s8 s11 s12 s13 s14 s15 s16 s17 s18 s19 s20 s21 s22 s23 s24 s25 s26 s27 s28 s29 s30 s31 s32 s33 s34 s35 s36 s37 s38 s39 s40 s41 s42 s43 s44 s45 s46 s47 s48 s49 s50 s51 s52 s53 s54 s55 s72 s73 s74 s75 s76 s77 s78 s79 s80 s81 s82 s83 s84 s85 s86 s87 s88 s89 s90 s91 s92 s93 s94 s95 s96 s97 s98 s99 s100 s101 s102 s103 s104 s105 s106 s107 s108 s109 s110 s111 s112 s113 s114 s115 s116 s117 s118 s119 s120 s121 s122 s123 s124 s125 s126 s127 s128 s129 s130 s131 s132 s133 s134 s135 s136 s137 s138 s139 s140 s141 s142 s143 s144 s145 s146 s147 s148 s149 s150 s151 s152 s153 s154 s155 s156 s157 s158 s159 s160 s161 s162 s163 s164 s165 s166 s167 s168 s169 s170 s171 s172 s173 s174 s175 s176 s177 s178 s179 s180 s181 s182 s183 s184 s185 s186 s187 s188 s189 s190 s191 s192 s193 s194 : Value} {s56 s57 s58 s59 s60 s61 s62 s63 s64 s65 s66 s67 s68 s69 s70 s71 : Value} {wb G bW pr n cW M cap r x : Nat} {ao : Option Addr} {L xs : List Value} {W : World} {Q : Exit → Act → World → Prop}
    (k0 : W.cell? ⟨wb, 0, none⟩ = some (.slice (some ⟨bW, 0, none⟩) n cW)) (k1 : W.cell? ⟨bW, r, none⟩ = some (.slice (some ⟨pr, 0, none⟩) n n)) (k2 : W.cell? ⟨pr, x, none⟩ = some (.int .u64 0))
    (cG : Cells W G 25 L) (hL : L[2]? = some (.slice ao M cap)) (hr : r < n) (hx : x < n) (hn : n ≤ 256) (hM : M ≤ 1048576) (hown : W.ownsRow 0 65 4 (.slice ao M cap) M xs) (hng : G ∉ (Value.slice ao M cap).ownBlock.toList)
    (nb : wb ∉ (Value.slice ao M cap).ownBlock.toList ∧ bW ∉ (Value.slice ao M cap).ownBlock.toList ∧ pr ∉ (Value.slice ao M cap).ownBlock.toList) (nx : wb ≠ G ∧ bW ≠ G ∧ pr ≠ G)
    (hQp : ∀ c a d v w', Q (.panic c) (a.put d v) w' → Q (.panic c) a w')
    (hQ : ∀ (ao5 : Option Addr) (cap5 : Nat) (w5 : World) (t56 t57 t58 t59 t60 t61 t62 t63 t64 t65 t66 t67 t68 t69 t70 t71 : Value), w5.ownsRow 0 65 4 (.slice ao5 (M + 1) cap5) (M + 1) (xs ++ [.int .u32 (x : Int), .int .u64 0, .int .u32 4294967295, .int .u32 4294967295]) →
      Only (Value.slice ao M cap).ownBlock.toList W w5 → (∀ k, (Value.slice ao5 (M + 1) cap5).ownBlock = some k → (Value.slice ao M cap).ownBlock = some k ∨ W.heap.size ≤ k) → Cells w5 G 25 L →
      Q .normal ⟨#[s0, s1, .pointer (some ⟨wb, 0, none⟩), s3, s4, s5, .pointer (some ⟨G, 0, none⟩), s7, s8, .int .i64 (r : Int), .int .i64 (x : Int), s11, s12, s13, s14, s15, s16, s17, s18, s19, s20, s21, s22, s23, s24, s25, s26, s27, s28, s29, s30, s31, s32, s33, s34, s35, s36, s37, s38, s39, s40, s41, s42, s43, s44, s45, s46, s47, s48, s49, s50, s51, s52, s53, s54, s55, t56, t57, t58, t59, t60, t61, t62, t63, t64, t65, t66, t67, t68, t69, t70, t71, s72, s73, s74, s75, s76, s77, s78, s79, s80, s81, s82, s83, s84, s85, s86, s87, s88, s89, s90, s91, s92, s93, s94, s95, s96, s97, s98, s99, s100, s101, s102, s103, s104, s105, s106, s107, s108, s109, s110, s111, s112, s113, s114, s115, s116, s117, s118, s119, s120, s121, s122, s123, s124, s125, s126, s127, s128, s129, s130, s131, s132, s133, s134, s135, s136, s137, s138, s139, s140, s141, s142, s143, s144, s145, s146, s147, s148, s149, s150, s151, s152, s153, s154, s155, s156, s157, s158, s159, s160, s161, s162, s163, s164, s165, s166, s167, s168, s169, s170, s171, s172, s173, s174, s175, s176, s177, s178, s179, s180, s181, s182, s183, s184, s185, s186, s187, s188, s189, s190, s191, s192, s193, s194], []⟩ (w5.setCell ⟨G, 2, none⟩ (.slice ao5 (M + 1) cap5))) :
    Code.wp Tryz.prog ((regionAt 15 laBody).getD .skip) Q ⟨#[s0, s1, .pointer (some ⟨wb, 0, none⟩), s3, s4, s5, .pointer (some ⟨G, 0, none⟩), s7, s8, .int .i64 (r : Int), .int .i64 (x : Int), s11, s12, s13, s14, s15, s16, s17, s18, s19, s20, s21, s22, s23, s24, s25, s26, s27, s28, s29, s30, s31, s32, s33, s34, s35, s36, s37, s38, s39, s40, s41, s42, s43, s44, s45, s46, s47, s48, s49, s50, s51, s52, s53, s54, s55, s56, s57, s58, s59, s60, s61, s62, s63, s64, s65, s66, s67, s68, s69, s70, s71, s72, s73, s74, s75, s76, s77, s78, s79, s80, s81, s82, s83, s84, s85, s86, s87, s88, s89, s90, s91, s92, s93, s94, s95, s96, s97, s98, s99, s100, s101, s102, s103, s104, s105, s106, s107, s108, s109, s110, s111, s112, s113, s114, s115, s116, s117, s118, s119, s120, s121, s122, s123, s124, s125, s126, s127, s128, s129, s130, s131, s132, s133, s134, s135, s136, s137, s138, s139, s140, s141, s142, s143, s144, s145, s146, s147, s148, s149, s150, s151, s152, s153, s154, s155, s156, s157, s158, s159, s160, s161, s162, s163, s164, s165, s166, s167, s168, s169, s170, s171, s172, s173, s174, s175, s176, s177, s178, s179, s180, s181, s182, s183, s184, s185, s186, s187, s188, s189, s190, s191, s192, s193, s194], []⟩ W := by
  have HQ := Lib.hid hQ
  have HQP := Lib.hid hQp
  have g1 : W.cell? ⟨G, 2, none⟩ = some (.slice ao M cap) := cG.cell hL
  have f1 := cG.frozen 2
  have lG := cG.lt
  have lw := block_lt k0
  have lb := block_lt k1
  have lp := block_lt k2
  have cx := IntWalk.u32_in (x : Int) (by omega)
  have HC := Lib.hid cG
  have HO := Lib.hid hown
  have HN := Lib.hid hng
  have HL := Lib.hid hL
  have NB := Lib.hid nb
  have NX := Lib.hid nx
  have K0 := Lib.hid (And.intro k0 (And.intro k1 k2))
  clear hQ hQp cG hown hng hL nb nx
  conv => arg 2; whnf
  refine wp_region_held_drew (S := fun w' => w'.cell? ⟨wb, 0, none⟩ = some (.slice (some ⟨bW, 0, none⟩) n cW) ∧ w'.cell? ⟨bW, r, none⟩ = some (.slice (some ⟨pr, 0, none⟩) n n) ∧ w'.cell? ⟨pr, x, none⟩ = some (.int .u64 0)) (by kernel_rfl) K0.out (fun hHeld => ?_)
  simp only [List.size_toArray, List.length_cons, List.length_nil, Nat.reduceAdd, Array.replicate_succ, Array.replicate_zero, List.push_toArray, List.nil_append, List.cons_append]
  refine wpAnyH_take (i := 0) (oi := { dst := some 56, op := Op.fieldAddr 25 (Operand.tmp 6) 2, type := 0, pos := "made.go:69", after := #[], guard := none }) (v := .pointer (some ⟨G, 2, none⟩)) rfl (by kernel_rfl) (by kernel_rfl) (by kernel_rfl) (fun c a w' => HQP.out c a _ _ w') (Or.inl ⟨by rfl, ?_⟩) hHeld ?_
  · intro W hSw
    try dsimp only at hSw
    clear hSw
    clear hHeld
    go_simp
  simp only [Act.put, List.setIfInBounds_toArray, List.set_cons_zero, List.set_cons_succ]
  refine wpAnyH_take (i := 2) (oi := { dst := some 58, op := Op.move (Operand.tmp 10), type := 3, pos := "made.go:69", after := #[], guard := none }) (v := .int .i64 (x : Int)) rfl (by kernel_rfl) (by kernel_rfl) (by kernel_rfl) (fun c a w' => HQP.out c a _ _ w') (Or.inl ⟨by rfl, ?_⟩) hHeld ?_
  · intro W hSw
    try dsimp only at hSw
    clear hSw
    clear hHeld
    go_simp
  simp only [Act.put, List.setIfInBounds_toArray, List.set_cons_zero, List.set_cons_succ]
  refine wpAnyH_take (i := 3) (oi := { dst := some 59, op := Op.convert 3 62 (Operand.tmp 58), type := 62, pos := "made.go:69", after := #[{ on := 2, ground := Ground.data }], guard := none }) (v := .int .u32 (x : Int)) rfl (by kernel_rfl) (by kernel_rfl) (by kernel_rfl) (fun c a w' => HQP.out c a _ _ w') (Or.inl ⟨by rfl, ?_⟩) hHeld ?_
  · intro W hSw
    try dsimp only at hSw
    clear hSw
    clear hHeld
    go_simp
  simp only [Act.put, List.setIfInBounds_toArray, List.set_cons_zero, List.set_cons_succ]
  refine wpAnyH_take (i := 4) (oi := { dst := some 60, op := Op.fieldAddr 112 (Operand.tmp 2) 0, type := 0, pos := "made.go:69", after := #[], guard := none }) (v := .pointer (some ⟨wb, 0, none⟩)) rfl (by kernel_rfl) (by kernel_rfl) (by kernel_rfl) (fun c a w' => HQP.out c a _ _ w') (Or.inl ⟨by rfl, ?_⟩) hHeld ?_
  · intro W hSw
    try dsimp only at hSw
    clear hSw
    clear hHeld
    go_simp
  simp only [Act.put, List.setIfInBounds_toArray, List.set_cons_zero, List.set_cons_succ]
  refine wpAnyH_take (i := 5) (oi := { dst := some 61, op := Op.load 110 (Operand.tmp 60), type := 110, pos := "made.go:69", after := #[{ on := 4, ground := Ground.data }], guard := none }) (v := .slice (some ⟨bW, 0, none⟩) n cW) rfl (by kernel_rfl) (by kernel_rfl) (by kernel_rfl) (fun c a w' => HQP.out c a _ _ w') (Or.inl ⟨by rfl, ?_⟩) hHeld ?_
  · intro W hSw
    try dsimp only at hSw
    obtain ⟨m0, m1, m2⟩ := hSw
    clear hHeld
    go_simp
  simp only [Act.put, List.setIfInBounds_toArray, List.set_cons_zero, List.set_cons_succ]
  refine wpAnyH_take (i := 6) (oi := { dst := some 62, op := Op.move (Operand.tmp 9), type := 3, pos := "made.go:69", after := #[], guard := none }) (v := .int .i64 (r : Int)) rfl (by kernel_rfl) (by kernel_rfl) (by kernel_rfl) (fun c a w' => HQP.out c a _ _ w') (Or.inl ⟨by rfl, ?_⟩) hHeld ?_
  · intro W hSw
    try dsimp only at hSw
    clear hSw
    clear hHeld
    go_simp
  simp only [Act.put, List.setIfInBounds_toArray, List.set_cons_zero, List.set_cons_succ]
  refine wpAnyH_take (i := 7) (oi := { dst := some 63, op := Op.indexAddr 110 (Operand.tmp 61) (Operand.tmp 62), type := 0, pos := "made.go:69", after := #[{ on := 5, ground := Ground.data }, { on := 6, ground := Ground.data }], guard := none }) (v := .pointer (some ⟨bW, r, none⟩)) rfl (by kernel_rfl) (by kernel_rfl) (by kernel_rfl) (fun c a w' => HQP.out c a _ _ w') (Or.inl ⟨by rfl, ?_⟩) hHeld ?_
  · intro W hSw
    try dsimp only at hSw
    clear hSw
    clear hHeld
    go_simp
  simp only [Act.put, List.setIfInBounds_toArray, List.set_cons_zero, List.set_cons_succ]
  refine wpAnyH_take (i := 8) (oi := { dst := some 64, op := Op.load 113 (Operand.tmp 63), type := 113, pos := "made.go:69", after := #[{ on := 7, ground := Ground.data }], guard := none }) (v := .slice (some ⟨pr, 0, none⟩) n n) rfl (by kernel_rfl) (by kernel_rfl) (by kernel_rfl) (fun c a w' => HQP.out c a _ _ w') (Or.inl ⟨by rfl, ?_⟩) hHeld ?_
  · intro W hSw
    try dsimp only at hSw
    obtain ⟨m0, m1, m2⟩ := hSw
    clear hHeld
    go_simp
  simp only [Act.put, List.setIfInBounds_toArray, List.set_cons_zero, List.set_cons_succ]
  refine wpAnyH_take (i := 9) (oi := { dst := some 65, op := Op.move (Operand.tmp 10), type := 3, pos := "made.go:69", after := #[], guard := none }) (v := .int .i64 (x : Int)) rfl (by kernel_rfl) (by kernel_rfl) (by kernel_rfl) (fun c a w' => HQP.out c a _ _ w') (Or.inl ⟨by rfl, ?_⟩) hHeld ?_
  · intro W hSw
    try dsimp only at hSw
    clear hSw
    clear hHeld
    go_simp
  simp only [Act.put, List.setIfInBounds_toArray, List.set_cons_zero, List.set_cons_succ]
  refine wpAnyH_take (i := 10) (oi := { dst := some 66, op := Op.indexAddr 113 (Operand.tmp 64) (Operand.tmp 65), type := 0, pos := "made.go:69", after := #[{ on := 8, ground := Ground.data }, { on := 9, ground := Ground.data }], guard := none }) (v := .pointer (some ⟨pr, x, none⟩)) rfl (by kernel_rfl) (by kernel_rfl) (by kernel_rfl) (fun c a w' => HQP.out c a _ _ w') (Or.inl ⟨by rfl, ?_⟩) hHeld ?_
  · intro W hSw
    try dsimp only at hSw
    clear hSw
    clear hHeld
    go_simp
  simp only [Act.put, List.setIfInBounds_toArray, List.set_cons_zero, List.set_cons_succ]
  refine wpAnyH_take (i := 11) (oi := { dst := some 67, op := Op.load 45 (Operand.tmp 66), type := 45, pos := "made.go:69", after := #[{ on := 10, ground := Ground.data }], guard := none }) (v := .int .u64 0) rfl (by kernel_rfl) (by kernel_rfl) (by kernel_rfl) (fun c a w' => HQP.out c a _ _ w') (Or.inl ⟨by rfl, ?_⟩) hHeld ?_
  · intro W hSw
    try dsimp only at hSw
    obtain ⟨m0, m1, m2⟩ := hSw
    clear hHeld
    go_simp
  simp only [Act.put, List.setIfInBounds_toArray, List.set_cons_zero, List.set_cons_succ]
  refine wpAnyH_take (i := 12) (oi := { dst := some 68, op := Op.build 65 #[(0, Operand.tmp 59), (1, Operand.tmp 67), (2, Operand.const (Value.int IntKind.u32 4294967295)), (3, Operand.const (Value.int IntKind.u32 4294967295))], type := 65, pos := "made.go:69", after := #[{ on := 3, ground := Ground.data }, { on := 11, ground := Ground.data }], guard := none }) (v := .agg #[.int .u32 (x : Int), .int .u64 0, .int .u32 4294967295, .int .u32 4294967295]) rfl (by kernel_rfl) (by kernel_rfl) (by kernel_rfl) (fun c a w' => HQP.out c a _ _ w') (Or.inl ⟨by rfl, ?_⟩) hHeld ?_
  · intro W hSw
    try dsimp only at hSw
    clear hSw
    clear hHeld
    go_simp
  simp only [Act.put, List.setIfInBounds_toArray, List.set_cons_zero, List.set_cons_succ]
  refine wpAnyH_ready (rs := [1, 13]) (by kernel_rfl) (by simp) ?_
  refine AllReadyH.cons (o := { dst := some 57, op := Op.load 23 (Operand.tmp 56), type := 23, pos := "made.go:69", after := #[{ on := 0, ground := Ground.data }], guard := none }) rfl (fun K hK => ?_) (AllReadyH.cons (o := { dst := some 69, op := Op.buildSlice 23 1 #[(0, Operand.tmp 68)], type := 23, pos := "made.go:69", after := #[{ on := 12, ground := Ground.data }], guard := none }) rfl (fun K hK => ?_) AllReadyH.nil)
  · go_simp
    refine hK.out _ _ hHeld (fun hHeld => ?_)
    clear hK K
    simp only [Act.put, List.setIfInBounds_toArray, List.set_cons_zero, List.set_cons_succ]
    refine wpAnyH_ready (rs := [13]) (by kernel_rfl) (by simp) (AllReadyH.cons (o := { dst := some 69, op := Op.buildSlice 23 1 #[(0, Operand.tmp 68)], type := 23, pos := "made.go:69", after := #[{ on := 12, ground := Ground.data }], guard := none }) rfl (fun K hK => ?_) AllReadyH.nil)
    go_simp
    have hba : Below W.heap.size W (W.alloc (.cells #[.int .u32 (x : Int), .int .u64 0, .int .u32 4294967295, .int .u32 4294967295] 65)).drew := ((Below.refl _ _).alloc (Nat.le_refl _) _).drew
    have x1 := (HC.out.alloc (.cells #[.int .u32 (x : Int), .int .u64 0, .int .u32 4294967295, .int .u32 4294967295] 65)).drew
    have x2 : (W.alloc (.cells #[.int .u32 (x : Int), .int .u64 0, .int .u32 4294967295, .int .u32 4294967295] 65)).drew.ownsRow 0 65 4 (.slice ao M cap) M xs := own_kept (bs := []) HO.out (((Only.refl _ W).alloc (.cells #[.int .u32 (x : Int), .int .u64 0, .int .u32 4294967295, .int .u32 4294967295] 65)).drew) (fun q _ => by simp)
    have x3 : ∀ (j : Nat) (u : Value), ([.int .u32 (x : Int), .int .u64 0, .int .u32 4294967295, .int .u32 4294967295] : List Value)[j]? = some u → (W.alloc (.cells #[.int .u32 (x : Int), .int .u64 0, .int .u32 4294967295, .int .u32 4294967295] 65)).drew.cell? ((⟨W.heap.size, 0, none⟩ : Addr).add j) = some u := fun j u hu => cells_new W 65 [.int .u32 (x : Int), .int .u64 0, .int .u32 4294967295, .int .u32 4294967295] j u hu
    have x4 := hba
    refine hK.out _ _ ⟨ck hba K0.out.1, ck hba K0.out.2.1, ck hba K0.out.2.2⟩ (fun hHeld => ?_)
    clear hK K hba
    simp only [Act.put, List.setIfInBounds_toArray, List.set_cons_zero, List.set_cons_succ]
    obtain ⟨wa, hwa⟩ : ∃ wa, (W.alloc (.cells #[.int .u32 (x : Int), .int .u64 0, .int .u32 4294967295, .int .u32 4294967295] 65)).drew = wa := ⟨_, rfl⟩
    rw [hwa] at x1 x2 x3 x4 hHeld ⊢
    clear hwa
    have HA1 := Lib.hid x1
    have HA2 := Lib.hid x2
    have HA3 := Lib.hid x3
    have HAB := Lib.hid x4
    have ga : wa.cell? ⟨G, 2, none⟩ = some (.slice ao M cap) := x1.cell HL.out
    clear x1 x2 x3 x4
    refine wpAnyH_ready (rs := [14]) (by kernel_rfl) (by simp) (AllReadyH.cons (o := { dst := some 70, op := Op.call { callee := Callee.builtin Builtin.append, args := #[Operand.tmp 57, Operand.tmp 69], argTypes := #[23, 23] }, type := 23, pos := "made.go:69", after := #[{ on := 1, ground := Ground.data }, { on := 13, ground := Ground.data }], guard := none }) rfl (fun K hK => ?_) AllReadyH.nil)
    refine step_app rfl (.tmp 57) (.tmp 69) 23 rfl 65 (.agg #[.int .u32 0, .int .u64 0, .int .u32 0, .int .u32 0]) 4 24 Tryz.underlying23 Tryz.infoLink rfl (by decide) (.slice ao M cap) M xs rfl HA2.out ⟨W.heap.size, 0, none⟩ 1 1 [.int .u32 (x : Int), .int .u64 0, .int .u32 4294967295, .int .u32 4294967295] rfl rfl HA3.out (by intro u hu; simp at hu; rcases hu with rfl | rfl | rfl | rfl <;> rfl) (by unfold maxLen; omega) (by omega) ?_
    intro ao5 cap5 w5 hown5 ho5 hk5
    have hc5 := HA1.out.kept ho5 HN.out
    have hOW : Only (Value.slice ao M cap).ownBlock.toList W w5 := (Only.of_below HAB.out).trans ho5 (fun x hx => .inl hx)
    have hk6 : ∀ k, (Value.slice ao5 (M + 1) cap5).ownBlock = some k → (Value.slice ao M cap).ownBlock = some k ∨ W.heap.size ≤ k := fun k hk => (hk5 k hk).imp id (fun h => Nat.le_trans HAB.out.size h)
    have p5 : w5.cell? ⟨G, 2, none⟩ = some (.slice ao M cap) := hc5.cell HL.out
    have f5 := hc5.frozen 2
    have l5 := hc5.lt
    have s0' := hOW.cell K0.out.1 NB.out.1
    have s1' := hOW.cell K0.out.2.1 NB.out.2.1
    have s2' := hOW.cell K0.out.2.2 NB.out.2.2
    have HC5 := Lib.hid hc5
    have HO5 := Lib.hid hown5
    have HY5 := Lib.hid hOW
    have HK6 := Lib.hid hk6
    have HS5 := Lib.hid (And.intro s0' (And.intro s1' s2'))
    refine hK.out _ _ HS5.out (fun hHeld => ?_)
    clear hK K hc5 hown5 ho5 hk5 hOW hk6 s0' s1' s2'
    simp only [Act.put, List.setIfInBounds_toArray, List.set_cons_zero, List.set_cons_succ]
    refine wpAnyH_take (i := 15) (oi := { dst := some 71, op := Op.fieldAddr 25 (Operand.tmp 6) 2, type := 0, pos := "made.go:69", after := #[{ on := 0, ground := Ground.phase }, { on := 1, ground := Ground.phase }, { on := 2, ground := Ground.phase }, { on := 3, ground := Ground.phase }, { on := 4, ground := Ground.phase }, { on := 5, ground := Ground.phase }, { on := 6, ground := Ground.phase }, { on := 7, ground := Ground.phase }, { on := 8, ground := Ground.phase }, { on := 9, ground := Ground.phase }, { on := 10, ground := Ground.phase }, { on := 11, ground := Ground.phase }, { on := 12, ground := Ground.phase }, { on := 13, ground := Ground.phase }, { on := 14, ground := Ground.phase }], guard := none }) (v := .pointer (some ⟨G, 2, none⟩)) rfl (by kernel_rfl) (by kernel_rfl) (by kernel_rfl) (fun c a w' => HQP.out c a _ _ w') (Or.inl ⟨by rfl, ?_⟩) hHeld ?_
    · intro W hSw
      try dsimp only at hSw
      clear hSw
      clear hHeld
      go_simp
    simp only [Act.put, List.setIfInBounds_toArray, List.set_cons_zero, List.set_cons_succ]
    refine wpAnyH_ready (rs := [16]) (by kernel_rfl) (by simp) (AllReadyH.cons (o := { dst := none, op := Op.store 23 (Operand.tmp 71) (Operand.tmp 70), type := 0, pos := "made.go:69", after := #[{ on := 15, ground := Ground.data }, { on := 14, ground := Ground.data }, { on := 14, ground := Ground.chain }, { on := 0, ground := Ground.phase }, { on := 1, ground := Ground.phase }, { on := 2, ground := Ground.phase }, { on := 3, ground := Ground.phase }, { on := 4, ground := Ground.phase }, { on := 5, ground := Ground.phase }, { on := 6, ground := Ground.phase }, { on := 7, ground := Ground.phase }, { on := 8, ground := Ground.phase }, { on := 9, ground := Ground.phase }, { on := 10, ground := Ground.phase }, { on := 11, ground := Ground.phase }, { on := 12, ground := Ground.phase }, { on := 13, ground := Ground.phase }, { on := 14, ground := Ground.phase }], guard := none }) rfl (fun K hK => ?_) AllReadyH.nil)
    go_simp
    have hfar : ∀ (b o : Nat) (v : Value), b ≠ G → w5.cell? ⟨b, o, none⟩ = some v → (w5.setCell ⟨G, 2, none⟩ (.slice ao5 (M + 1) cap5)).cell? ⟨b, o, none⟩ = some v := fun b o v hne hv => ((Only.refl [G] w5).setCell (p := ⟨G, 2, none⟩) (by simp) _).cell hv (by simpa using hne)
    refine hK.out _ _ ⟨hfar _ _ _ NX.out.1 HS5.out.1, hfar _ _ _ NX.out.2.1 HS5.out.2.1, hfar _ _ _ NX.out.2.2 HS5.out.2.2⟩ (fun hHeld => ?_)
    clear hK K hHeld
    try simp only [Act.put, List.setIfInBounds_toArray, List.set_cons_zero, List.set_cons_succ]
    refine wpAnyH_done (by kernel_rfl) ?_ _
    exact HQ.out ao5 cap5 w5 _ _ _ _ _ _ _ _ _ _ _ _ _ _ _ _ HO5.out HY5.out HK6.out HC5.out
  · go_simp
    have hba : Below W.heap.size W (W.alloc (.cells #[.int .u32 (x : Int), .int .u64 0, .int .u32 4294967295, .int .u32 4294967295] 65)).drew := ((Below.refl _ _).alloc (Nat.le_refl _) _).drew
    have x1 := (HC.out.alloc (.cells #[.int .u32 (x : Int), .int .u64 0, .int .u32 4294967295, .int .u32 4294967295] 65)).drew
    have x2 : (W.alloc (.cells #[.int .u32 (x : Int), .int .u64 0, .int .u32 4294967295, .int .u32 4294967295] 65)).drew.ownsRow 0 65 4 (.slice ao M cap) M xs := own_kept (bs := []) HO.out (((Only.refl _ W).alloc (.cells #[.int .u32 (x : Int), .int .u64 0, .int .u32 4294967295, .int .u32 4294967295] 65)).drew) (fun q _ => by simp)
    have x3 : ∀ (j : Nat) (u : Value), ([.int .u32 (x : Int), .int .u64 0, .int .u32 4294967295, .int .u32 4294967295] : List Value)[j]? = some u → (W.alloc (.cells #[.int .u32 (x : Int), .int .u64 0, .int .u32 4294967295, .int .u32 4294967295] 65)).drew.cell? ((⟨W.heap.size, 0, none⟩ : Addr).add j) = some u := fun j u hu => cells_new W 65 [.int .u32 (x : Int), .int .u64 0, .int .u32 4294967295, .int .u32 4294967295] j u hu
    have x4 := hba
    refine hK.out _ _ ⟨ck hba K0.out.1, ck hba K0.out.2.1, ck hba K0.out.2.2⟩ (fun hHeld => ?_)
    clear hK K hba
    simp only [Act.put, List.setIfInBounds_toArray, List.set_cons_zero, List.set_cons_succ]
    obtain ⟨wa, hwa⟩ : ∃ wa, (W.alloc (.cells #[.int .u32 (x : Int), .int .u64 0, .int .u32 4294967295, .int .u32 4294967295] 65)).drew = wa := ⟨_, rfl⟩
    rw [hwa] at x1 x2 x3 x4 hHeld ⊢
    clear hwa
    have HA1 := Lib.hid x1
    have HA2 := Lib.hid x2
    have HA3 := Lib.hid x3
    have HAB := Lib.hid x4
    have ga : wa.cell? ⟨G, 2, none⟩ = some (.slice ao M cap) := x1.cell HL.out
    clear x1 x2 x3 x4
    refine wpAnyH_ready (rs := [1]) (by kernel_rfl) (by simp) (AllReadyH.cons (o := { dst := some 57, op := Op.load 23 (Operand.tmp 56), type := 23, pos := "made.go:69", after := #[{ on := 0, ground := Ground.data }], guard := none }) rfl (fun K hK => ?_) AllReadyH.nil)
    go_simp
    refine hK.out _ _ hHeld (fun hHeld => ?_)
    clear hK K
    simp only [Act.put, List.setIfInBounds_toArray, List.set_cons_zero, List.set_cons_succ]
    refine wpAnyH_ready (rs := [14]) (by kernel_rfl) (by simp) (AllReadyH.cons (o := { dst := some 70, op := Op.call { callee := Callee.builtin Builtin.append, args := #[Operand.tmp 57, Operand.tmp 69], argTypes := #[23, 23] }, type := 23, pos := "made.go:69", after := #[{ on := 1, ground := Ground.data }, { on := 13, ground := Ground.data }], guard := none }) rfl (fun K hK => ?_) AllReadyH.nil)
    refine step_app rfl (.tmp 57) (.tmp 69) 23 rfl 65 (.agg #[.int .u32 0, .int .u64 0, .int .u32 0, .int .u32 0]) 4 24 Tryz.underlying23 Tryz.infoLink rfl (by decide) (.slice ao M cap) M xs rfl HA2.out ⟨W.heap.size, 0, none⟩ 1 1 [.int .u32 (x : Int), .int .u64 0, .int .u32 4294967295, .int .u32 4294967295] rfl rfl HA3.out (by intro u hu; simp at hu; rcases hu with rfl | rfl | rfl | rfl <;> rfl) (by unfold maxLen; omega) (by omega) ?_
    intro ao5 cap5 w5 hown5 ho5 hk5
    have hc5 := HA1.out.kept ho5 HN.out
    have hOW : Only (Value.slice ao M cap).ownBlock.toList W w5 := (Only.of_below HAB.out).trans ho5 (fun x hx => .inl hx)
    have hk6 : ∀ k, (Value.slice ao5 (M + 1) cap5).ownBlock = some k → (Value.slice ao M cap).ownBlock = some k ∨ W.heap.size ≤ k := fun k hk => (hk5 k hk).imp id (fun h => Nat.le_trans HAB.out.size h)
    have p5 : w5.cell? ⟨G, 2, none⟩ = some (.slice ao M cap) := hc5.cell HL.out
    have f5 := hc5.frozen 2
    have l5 := hc5.lt
    have s0' := hOW.cell K0.out.1 NB.out.1
    have s1' := hOW.cell K0.out.2.1 NB.out.2.1
    have s2' := hOW.cell K0.out.2.2 NB.out.2.2
    have HC5 := Lib.hid hc5
    have HO5 := Lib.hid hown5
    have HY5 := Lib.hid hOW
    have HK6 := Lib.hid hk6
    have HS5 := Lib.hid (And.intro s0' (And.intro s1' s2'))
    refine hK.out _ _ HS5.out (fun hHeld => ?_)
    clear hK K hc5 hown5 ho5 hk5 hOW hk6 s0' s1' s2'
    simp only [Act.put, List.setIfInBounds_toArray, List.set_cons_zero, List.set_cons_succ]
    refine wpAnyH_take (i := 15) (oi := { dst := some 71, op := Op.fieldAddr 25 (Operand.tmp 6) 2, type := 0, pos := "made.go:69", after := #[{ on := 0, ground := Ground.phase }, { on := 1, ground := Ground.phase }, { on := 2, ground := Ground.phase }, { on := 3, ground := Ground.phase }, { on := 4, ground := Ground.phase }, { on := 5, ground := Ground.phase }, { on := 6, ground := Ground.phase }, { on := 7, ground := Ground.phase }, { on := 8, ground := Ground.phase }, { on := 9, ground := Ground.phase }, { on := 10, ground := Ground.phase }, { on := 11, ground := Ground.phase }, { on := 12, ground := Ground.phase }, { on := 13, ground := Ground.phase }, { on := 14, ground := Ground.phase }], guard := none }) (v := .pointer (some ⟨G, 2, none⟩)) rfl (by kernel_rfl) (by kernel_rfl) (by kernel_rfl) (fun c a w' => HQP.out c a _ _ w') (Or.inl ⟨by rfl, ?_⟩) hHeld ?_
    · intro W hSw
      try dsimp only at hSw
      clear hSw
      clear hHeld
      go_simp
    simp only [Act.put, List.setIfInBounds_toArray, List.set_cons_zero, List.set_cons_succ]
    refine wpAnyH_ready (rs := [16]) (by kernel_rfl) (by simp) (AllReadyH.cons (o := { dst := none, op := Op.store 23 (Operand.tmp 71) (Operand.tmp 70), type := 0, pos := "made.go:69", after := #[{ on := 15, ground := Ground.data }, { on := 14, ground := Ground.data }, { on := 14, ground := Ground.chain }, { on := 0, ground := Ground.phase }, { on := 1, ground := Ground.phase }, { on := 2, ground := Ground.phase }, { on := 3, ground := Ground.phase }, { on := 4, ground := Ground.phase }, { on := 5, ground := Ground.phase }, { on := 6, ground := Ground.phase }, { on := 7, ground := Ground.phase }, { on := 8, ground := Ground.phase }, { on := 9, ground := Ground.phase }, { on := 10, ground := Ground.phase }, { on := 11, ground := Ground.phase }, { on := 12, ground := Ground.phase }, { on := 13, ground := Ground.phase }, { on := 14, ground := Ground.phase }], guard := none }) rfl (fun K hK => ?_) AllReadyH.nil)
    go_simp
    have hfar : ∀ (b o : Nat) (v : Value), b ≠ G → w5.cell? ⟨b, o, none⟩ = some v → (w5.setCell ⟨G, 2, none⟩ (.slice ao5 (M + 1) cap5)).cell? ⟨b, o, none⟩ = some v := fun b o v hne hv => ((Only.refl [G] w5).setCell (p := ⟨G, 2, none⟩) (by simp) _).cell hv (by simpa using hne)
    refine hK.out _ _ ⟨hfar _ _ _ NX.out.1 HS5.out.1, hfar _ _ _ NX.out.2.1 HS5.out.2.1, hfar _ _ _ NX.out.2.2 HS5.out.2.2⟩ (fun hHeld => ?_)
    clear hK K hHeld
    try simp only [Act.put, List.setIfInBounds_toArray, List.set_cons_zero, List.set_cons_succ]
    refine wpAnyH_done (by kernel_rfl) ?_ _
    exact HQ.out ao5 cap5 w5 _ _ _ _ _ _ _ _ _ _ _ _ _ _ _ _ HO5.out HY5.out HK6.out HC5.out
set_option linter.unusedSimpArgs false in
set_option maxRecDepth 100000 in
set_option maxHeartbeats 8000000 in
theorem laid_app17 {s0 s1 s3 s4 s5 s7 s8 s11 s12 s13 s14 s15 s16 s17 s18 s19 s20 s21 s22 s23 s24 s25 s26 s27 s28 s29 s30 s31 s32 s33 s34 s35 s36 s37 s38 s39 s40 s41 s42 s43 s44 s45 s46 s47 s48 s49 s50 s51 s52 s53 s54 s55 s56 s57 s58 s59 s60 s61 s62 s63 s64 s65 s66 s67 s68 s69 s70 s71 s72 s73 s74 s75 s76 s77 s78 s79 s80 s97 s98 s99 s100 s101 s102 s103 s104 s105 s106 s107 s108 s109 s110 s111 s112 s113 s114 s115 s116 s117 s118 s119 s120 s121 s122 s123 s124 s125 s126 s127 s128 s129 s130 s131 s132 s133 s134 s135 s136 s137 s138 s139 s140 s141 s142 s143 s144 s145 s146 s147 s148 s149 s150 s151 s152 s153 s154 s155 s156 s157 s158 s159 s160 s161 s162 s163 s164 s165 s166 s167 s168 s169 s170 s171 s172 s173 s174 s175 s176 s177 s178 s179 s180 s181 s182 s183 s184 s185 s186 s187 s188 s189 s190 s191 s192 s193 s194 : Value} {s81 s82 s83 s84 s85 s86 s87 s88 s89 s90 s91 s92 s93 s94 s95 s96 : Value} {wb G bW pr n cW M cap r x : Nat} {ao : Option Addr} {L xs : List Value} {W : World} {Q : Exit → Act → World → Prop}
    (k0 : W.cell? ⟨wb, 0, none⟩ = some (.slice (some ⟨bW, 0, none⟩) n cW)) (k1 : W.cell? ⟨bW, x, none⟩ = some (.slice (some ⟨pr, 0, none⟩) n n)) (k2 : W.cell? ⟨pr, r, none⟩ = some (.int .u64 0))
    (cG : Cells W G 25 L) (hL : L[4]? = some (.slice ao M cap)) (hr : r < n) (hx : x < n) (hn : n ≤ 256) (hM : M ≤ 1048576) (hown : W.ownsRow 0 65 4 (.slice ao M cap) M xs) (hng : G ∉ (Value.slice ao M cap).ownBlock.toList)
    (nb : wb ∉ (Value.slice ao M cap).ownBlock.toList ∧ bW ∉ (Value.slice ao M cap).ownBlock.toList ∧ pr ∉ (Value.slice ao M cap).ownBlock.toList) (nx : wb ≠ G ∧ bW ≠ G ∧ pr ≠ G)
    (hQp : ∀ c a d v w', Q (.panic c) (a.put d v) w' → Q (.panic c) a w')
    (hQ : ∀ (ao5 : Option Addr) (cap5 : Nat) (w5 : World) (t81 t82 t83 t84 t85 t86 t87 t88 t89 t90 t91 t92 t93 t94 t95 t96 : Value), w5.ownsRow 0 65 4 (.slice ao5 (M + 1) cap5) (M + 1) (xs ++ [.int .u32 (x : Int), .int .u64 0, .int .u32 4294967295, .int .u32 4294967295]) →
      Only (Value.slice ao M cap).ownBlock.toList W w5 → (∀ k, (Value.slice ao5 (M + 1) cap5).ownBlock = some k → (Value.slice ao M cap).ownBlock = some k ∨ W.heap.size ≤ k) → Cells w5 G 25 L →
      Q .normal ⟨#[s0, s1, .pointer (some ⟨wb, 0, none⟩), s3, s4, s5, .pointer (some ⟨G, 0, none⟩), s7, s8, .int .i64 (r : Int), .int .i64 (x : Int), s11, s12, s13, s14, s15, s16, s17, s18, s19, s20, s21, s22, s23, s24, s25, s26, s27, s28, s29, s30, s31, s32, s33, s34, s35, s36, s37, s38, s39, s40, s41, s42, s43, s44, s45, s46, s47, s48, s49, s50, s51, s52, s53, s54, s55, s56, s57, s58, s59, s60, s61, s62, s63, s64, s65, s66, s67, s68, s69, s70, s71, s72, s73, s74, s75, s76, s77, s78, s79, s80, t81, t82, t83, t84, t85, t86, t87, t88, t89, t90, t91, t92, t93, t94, t95, t96, s97, s98, s99, s100, s101, s102, s103, s104, s105, s106, s107, s108, s109, s110, s111, s112, s113, s114, s115, s116, s117, s118, s119, s120, s121, s122, s123, s124, s125, s126, s127, s128, s129, s130, s131, s132, s133, s134, s135, s136, s137, s138, s139, s140, s141, s142, s143, s144, s145, s146, s147, s148, s149, s150, s151, s152, s153, s154, s155, s156, s157, s158, s159, s160, s161, s162, s163, s164, s165, s166, s167, s168, s169, s170, s171, s172, s173, s174, s175, s176, s177, s178, s179, s180, s181, s182, s183, s184, s185, s186, s187, s188, s189, s190, s191, s192, s193, s194], []⟩ (w5.setCell ⟨G, 4, none⟩ (.slice ao5 (M + 1) cap5))) :
    Code.wp Tryz.prog ((regionAt 17 laBody).getD .skip) Q ⟨#[s0, s1, .pointer (some ⟨wb, 0, none⟩), s3, s4, s5, .pointer (some ⟨G, 0, none⟩), s7, s8, .int .i64 (r : Int), .int .i64 (x : Int), s11, s12, s13, s14, s15, s16, s17, s18, s19, s20, s21, s22, s23, s24, s25, s26, s27, s28, s29, s30, s31, s32, s33, s34, s35, s36, s37, s38, s39, s40, s41, s42, s43, s44, s45, s46, s47, s48, s49, s50, s51, s52, s53, s54, s55, s56, s57, s58, s59, s60, s61, s62, s63, s64, s65, s66, s67, s68, s69, s70, s71, s72, s73, s74, s75, s76, s77, s78, s79, s80, s81, s82, s83, s84, s85, s86, s87, s88, s89, s90, s91, s92, s93, s94, s95, s96, s97, s98, s99, s100, s101, s102, s103, s104, s105, s106, s107, s108, s109, s110, s111, s112, s113, s114, s115, s116, s117, s118, s119, s120, s121, s122, s123, s124, s125, s126, s127, s128, s129, s130, s131, s132, s133, s134, s135, s136, s137, s138, s139, s140, s141, s142, s143, s144, s145, s146, s147, s148, s149, s150, s151, s152, s153, s154, s155, s156, s157, s158, s159, s160, s161, s162, s163, s164, s165, s166, s167, s168, s169, s170, s171, s172, s173, s174, s175, s176, s177, s178, s179, s180, s181, s182, s183, s184, s185, s186, s187, s188, s189, s190, s191, s192, s193, s194], []⟩ W := by
  have HQ := Lib.hid hQ
  have HQP := Lib.hid hQp
  have g1 : W.cell? ⟨G, 4, none⟩ = some (.slice ao M cap) := cG.cell hL
  have f1 := cG.frozen 4
  have lG := cG.lt
  have lw := block_lt k0
  have lb := block_lt k1
  have lp := block_lt k2
  have cx := IntWalk.u32_in (x : Int) (by omega)
  have HC := Lib.hid cG
  have HO := Lib.hid hown
  have HN := Lib.hid hng
  have HL := Lib.hid hL
  have NB := Lib.hid nb
  have NX := Lib.hid nx
  have K0 := Lib.hid (And.intro k0 (And.intro k1 k2))
  clear hQ hQp cG hown hng hL nb nx
  conv => arg 2; whnf
  refine wp_region_held_drew (S := fun w' => w'.cell? ⟨wb, 0, none⟩ = some (.slice (some ⟨bW, 0, none⟩) n cW) ∧ w'.cell? ⟨bW, x, none⟩ = some (.slice (some ⟨pr, 0, none⟩) n n) ∧ w'.cell? ⟨pr, r, none⟩ = some (.int .u64 0)) (by kernel_rfl) K0.out (fun hHeld => ?_)
  simp only [List.size_toArray, List.length_cons, List.length_nil, Nat.reduceAdd, Array.replicate_succ, Array.replicate_zero, List.push_toArray, List.nil_append, List.cons_append]
  refine wpAnyH_take (i := 0) (oi := { dst := some 81, op := Op.fieldAddr 25 (Operand.tmp 6) 4, type := 0, pos := "made.go:72", after := #[], guard := none }) (v := .pointer (some ⟨G, 4, none⟩)) rfl (by kernel_rfl) (by kernel_rfl) (by kernel_rfl) (fun c a w' => HQP.out c a _ _ w') (Or.inl ⟨by rfl, ?_⟩) hHeld ?_
  · intro W hSw
    try dsimp only at hSw
    clear hSw
    clear hHeld
    go_simp
  simp only [Act.put, List.setIfInBounds_toArray, List.set_cons_zero, List.set_cons_succ]
  refine wpAnyH_take (i := 2) (oi := { dst := some 83, op := Op.move (Operand.tmp 10), type := 3, pos := "made.go:72", after := #[], guard := none }) (v := .int .i64 (x : Int)) rfl (by kernel_rfl) (by kernel_rfl) (by kernel_rfl) (fun c a w' => HQP.out c a _ _ w') (Or.inl ⟨by rfl, ?_⟩) hHeld ?_
  · intro W hSw
    try dsimp only at hSw
    clear hSw
    clear hHeld
    go_simp
  simp only [Act.put, List.setIfInBounds_toArray, List.set_cons_zero, List.set_cons_succ]
  refine wpAnyH_take (i := 3) (oi := { dst := some 84, op := Op.convert 3 62 (Operand.tmp 83), type := 62, pos := "made.go:72", after := #[{ on := 2, ground := Ground.data }], guard := none }) (v := .int .u32 (x : Int)) rfl (by kernel_rfl) (by kernel_rfl) (by kernel_rfl) (fun c a w' => HQP.out c a _ _ w') (Or.inl ⟨by rfl, ?_⟩) hHeld ?_
  · intro W hSw
    try dsimp only at hSw
    clear hSw
    clear hHeld
    go_simp
  simp only [Act.put, List.setIfInBounds_toArray, List.set_cons_zero, List.set_cons_succ]
  refine wpAnyH_take (i := 4) (oi := { dst := some 85, op := Op.fieldAddr 112 (Operand.tmp 2) 0, type := 0, pos := "made.go:72", after := #[], guard := none }) (v := .pointer (some ⟨wb, 0, none⟩)) rfl (by kernel_rfl) (by kernel_rfl) (by kernel_rfl) (fun c a w' => HQP.out c a _ _ w') (Or.inl ⟨by rfl, ?_⟩) hHeld ?_
  · intro W hSw
    try dsimp only at hSw
    clear hSw
    clear hHeld
    go_simp
  simp only [Act.put, List.setIfInBounds_toArray, List.set_cons_zero, List.set_cons_succ]
  refine wpAnyH_take (i := 5) (oi := { dst := some 86, op := Op.load 110 (Operand.tmp 85), type := 110, pos := "made.go:72", after := #[{ on := 4, ground := Ground.data }], guard := none }) (v := .slice (some ⟨bW, 0, none⟩) n cW) rfl (by kernel_rfl) (by kernel_rfl) (by kernel_rfl) (fun c a w' => HQP.out c a _ _ w') (Or.inl ⟨by rfl, ?_⟩) hHeld ?_
  · intro W hSw
    try dsimp only at hSw
    obtain ⟨m0, m1, m2⟩ := hSw
    clear hHeld
    go_simp
  simp only [Act.put, List.setIfInBounds_toArray, List.set_cons_zero, List.set_cons_succ]
  refine wpAnyH_take (i := 6) (oi := { dst := some 87, op := Op.move (Operand.tmp 10), type := 3, pos := "made.go:72", after := #[], guard := none }) (v := .int .i64 (x : Int)) rfl (by kernel_rfl) (by kernel_rfl) (by kernel_rfl) (fun c a w' => HQP.out c a _ _ w') (Or.inl ⟨by rfl, ?_⟩) hHeld ?_
  · intro W hSw
    try dsimp only at hSw
    clear hSw
    clear hHeld
    go_simp
  simp only [Act.put, List.setIfInBounds_toArray, List.set_cons_zero, List.set_cons_succ]
  refine wpAnyH_take (i := 7) (oi := { dst := some 88, op := Op.indexAddr 110 (Operand.tmp 86) (Operand.tmp 87), type := 0, pos := "made.go:72", after := #[{ on := 5, ground := Ground.data }, { on := 6, ground := Ground.data }], guard := none }) (v := .pointer (some ⟨bW, x, none⟩)) rfl (by kernel_rfl) (by kernel_rfl) (by kernel_rfl) (fun c a w' => HQP.out c a _ _ w') (Or.inl ⟨by rfl, ?_⟩) hHeld ?_
  · intro W hSw
    try dsimp only at hSw
    clear hSw
    clear hHeld
    go_simp
  simp only [Act.put, List.setIfInBounds_toArray, List.set_cons_zero, List.set_cons_succ]
  refine wpAnyH_take (i := 8) (oi := { dst := some 89, op := Op.load 113 (Operand.tmp 88), type := 113, pos := "made.go:72", after := #[{ on := 7, ground := Ground.data }], guard := none }) (v := .slice (some ⟨pr, 0, none⟩) n n) rfl (by kernel_rfl) (by kernel_rfl) (by kernel_rfl) (fun c a w' => HQP.out c a _ _ w') (Or.inl ⟨by rfl, ?_⟩) hHeld ?_
  · intro W hSw
    try dsimp only at hSw
    obtain ⟨m0, m1, m2⟩ := hSw
    clear hHeld
    go_simp
  simp only [Act.put, List.setIfInBounds_toArray, List.set_cons_zero, List.set_cons_succ]
  refine wpAnyH_take (i := 9) (oi := { dst := some 90, op := Op.move (Operand.tmp 9), type := 3, pos := "made.go:72", after := #[], guard := none }) (v := .int .i64 (r : Int)) rfl (by kernel_rfl) (by kernel_rfl) (by kernel_rfl) (fun c a w' => HQP.out c a _ _ w') (Or.inl ⟨by rfl, ?_⟩) hHeld ?_
  · intro W hSw
    try dsimp only at hSw
    clear hSw
    clear hHeld
    go_simp
  simp only [Act.put, List.setIfInBounds_toArray, List.set_cons_zero, List.set_cons_succ]
  refine wpAnyH_take (i := 10) (oi := { dst := some 91, op := Op.indexAddr 113 (Operand.tmp 89) (Operand.tmp 90), type := 0, pos := "made.go:72", after := #[{ on := 8, ground := Ground.data }, { on := 9, ground := Ground.data }], guard := none }) (v := .pointer (some ⟨pr, r, none⟩)) rfl (by kernel_rfl) (by kernel_rfl) (by kernel_rfl) (fun c a w' => HQP.out c a _ _ w') (Or.inl ⟨by rfl, ?_⟩) hHeld ?_
  · intro W hSw
    try dsimp only at hSw
    clear hSw
    clear hHeld
    go_simp
  simp only [Act.put, List.setIfInBounds_toArray, List.set_cons_zero, List.set_cons_succ]
  refine wpAnyH_take (i := 11) (oi := { dst := some 92, op := Op.load 45 (Operand.tmp 91), type := 45, pos := "made.go:72", after := #[{ on := 10, ground := Ground.data }], guard := none }) (v := .int .u64 0) rfl (by kernel_rfl) (by kernel_rfl) (by kernel_rfl) (fun c a w' => HQP.out c a _ _ w') (Or.inl ⟨by rfl, ?_⟩) hHeld ?_
  · intro W hSw
    try dsimp only at hSw
    obtain ⟨m0, m1, m2⟩ := hSw
    clear hHeld
    go_simp
  simp only [Act.put, List.setIfInBounds_toArray, List.set_cons_zero, List.set_cons_succ]
  refine wpAnyH_take (i := 12) (oi := { dst := some 93, op := Op.build 65 #[(0, Operand.tmp 84), (1, Operand.tmp 92), (2, Operand.const (Value.int IntKind.u32 4294967295)), (3, Operand.const (Value.int IntKind.u32 4294967295))], type := 65, pos := "made.go:72", after := #[{ on := 3, ground := Ground.data }, { on := 11, ground := Ground.data }], guard := none }) (v := .agg #[.int .u32 (x : Int), .int .u64 0, .int .u32 4294967295, .int .u32 4294967295]) rfl (by kernel_rfl) (by kernel_rfl) (by kernel_rfl) (fun c a w' => HQP.out c a _ _ w') (Or.inl ⟨by rfl, ?_⟩) hHeld ?_
  · intro W hSw
    try dsimp only at hSw
    clear hSw
    clear hHeld
    go_simp
  simp only [Act.put, List.setIfInBounds_toArray, List.set_cons_zero, List.set_cons_succ]
  refine wpAnyH_ready (rs := [1, 13]) (by kernel_rfl) (by simp) ?_
  refine AllReadyH.cons (o := { dst := some 82, op := Op.load 23 (Operand.tmp 81), type := 23, pos := "made.go:72", after := #[{ on := 0, ground := Ground.data }], guard := none }) rfl (fun K hK => ?_) (AllReadyH.cons (o := { dst := some 94, op := Op.buildSlice 23 1 #[(0, Operand.tmp 93)], type := 23, pos := "made.go:72", after := #[{ on := 12, ground := Ground.data }], guard := none }) rfl (fun K hK => ?_) AllReadyH.nil)
  · go_simp
    refine hK.out _ _ hHeld (fun hHeld => ?_)
    clear hK K
    simp only [Act.put, List.setIfInBounds_toArray, List.set_cons_zero, List.set_cons_succ]
    refine wpAnyH_ready (rs := [13]) (by kernel_rfl) (by simp) (AllReadyH.cons (o := { dst := some 94, op := Op.buildSlice 23 1 #[(0, Operand.tmp 93)], type := 23, pos := "made.go:72", after := #[{ on := 12, ground := Ground.data }], guard := none }) rfl (fun K hK => ?_) AllReadyH.nil)
    go_simp
    have hba : Below W.heap.size W (W.alloc (.cells #[.int .u32 (x : Int), .int .u64 0, .int .u32 4294967295, .int .u32 4294967295] 65)).drew := ((Below.refl _ _).alloc (Nat.le_refl _) _).drew
    have x1 := (HC.out.alloc (.cells #[.int .u32 (x : Int), .int .u64 0, .int .u32 4294967295, .int .u32 4294967295] 65)).drew
    have x2 : (W.alloc (.cells #[.int .u32 (x : Int), .int .u64 0, .int .u32 4294967295, .int .u32 4294967295] 65)).drew.ownsRow 0 65 4 (.slice ao M cap) M xs := own_kept (bs := []) HO.out (((Only.refl _ W).alloc (.cells #[.int .u32 (x : Int), .int .u64 0, .int .u32 4294967295, .int .u32 4294967295] 65)).drew) (fun q _ => by simp)
    have x3 : ∀ (j : Nat) (u : Value), ([.int .u32 (x : Int), .int .u64 0, .int .u32 4294967295, .int .u32 4294967295] : List Value)[j]? = some u → (W.alloc (.cells #[.int .u32 (x : Int), .int .u64 0, .int .u32 4294967295, .int .u32 4294967295] 65)).drew.cell? ((⟨W.heap.size, 0, none⟩ : Addr).add j) = some u := fun j u hu => cells_new W 65 [.int .u32 (x : Int), .int .u64 0, .int .u32 4294967295, .int .u32 4294967295] j u hu
    have x4 := hba
    refine hK.out _ _ ⟨ck hba K0.out.1, ck hba K0.out.2.1, ck hba K0.out.2.2⟩ (fun hHeld => ?_)
    clear hK K hba
    simp only [Act.put, List.setIfInBounds_toArray, List.set_cons_zero, List.set_cons_succ]
    obtain ⟨wa, hwa⟩ : ∃ wa, (W.alloc (.cells #[.int .u32 (x : Int), .int .u64 0, .int .u32 4294967295, .int .u32 4294967295] 65)).drew = wa := ⟨_, rfl⟩
    rw [hwa] at x1 x2 x3 x4 hHeld ⊢
    clear hwa
    have HA1 := Lib.hid x1
    have HA2 := Lib.hid x2
    have HA3 := Lib.hid x3
    have HAB := Lib.hid x4
    have ga : wa.cell? ⟨G, 4, none⟩ = some (.slice ao M cap) := x1.cell HL.out
    clear x1 x2 x3 x4
    refine wpAnyH_ready (rs := [14]) (by kernel_rfl) (by simp) (AllReadyH.cons (o := { dst := some 95, op := Op.call { callee := Callee.builtin Builtin.append, args := #[Operand.tmp 82, Operand.tmp 94], argTypes := #[23, 23] }, type := 23, pos := "made.go:72", after := #[{ on := 1, ground := Ground.data }, { on := 13, ground := Ground.data }], guard := none }) rfl (fun K hK => ?_) AllReadyH.nil)
    refine step_app rfl (.tmp 82) (.tmp 94) 23 rfl 65 (.agg #[.int .u32 0, .int .u64 0, .int .u32 0, .int .u32 0]) 4 24 Tryz.underlying23 Tryz.infoLink rfl (by decide) (.slice ao M cap) M xs rfl HA2.out ⟨W.heap.size, 0, none⟩ 1 1 [.int .u32 (x : Int), .int .u64 0, .int .u32 4294967295, .int .u32 4294967295] rfl rfl HA3.out (by intro u hu; simp at hu; rcases hu with rfl | rfl | rfl | rfl <;> rfl) (by unfold maxLen; omega) (by omega) ?_
    intro ao5 cap5 w5 hown5 ho5 hk5
    have hc5 := HA1.out.kept ho5 HN.out
    have hOW : Only (Value.slice ao M cap).ownBlock.toList W w5 := (Only.of_below HAB.out).trans ho5 (fun x hx => .inl hx)
    have hk6 : ∀ k, (Value.slice ao5 (M + 1) cap5).ownBlock = some k → (Value.slice ao M cap).ownBlock = some k ∨ W.heap.size ≤ k := fun k hk => (hk5 k hk).imp id (fun h => Nat.le_trans HAB.out.size h)
    have p5 : w5.cell? ⟨G, 4, none⟩ = some (.slice ao M cap) := hc5.cell HL.out
    have f5 := hc5.frozen 4
    have l5 := hc5.lt
    have s0' := hOW.cell K0.out.1 NB.out.1
    have s1' := hOW.cell K0.out.2.1 NB.out.2.1
    have s2' := hOW.cell K0.out.2.2 NB.out.2.2
    have HC5 := Lib.hid hc5
    have HO5 := Lib.hid hown5
    have HY5 := Lib.hid hOW
    have HK6 := Lib.hid hk6
    have HS5 := Lib.hid (And.intro s0' (And.intro s1' s2'))
    refine hK.out _ _ HS5.out (fun hHeld => ?_)
    clear hK K hc5 hown5 ho5 hk5 hOW hk6 s0' s1' s2'
    simp only [Act.put, List.setIfInBounds_toArray, List.set_cons_zero, List.set_cons_succ]
    refine wpAnyH_take (i := 15) (oi := { dst := some 96, op := Op.fieldAddr 25 (Operand.tmp 6) 4, type := 0, pos := "made.go:72", after := #[{ on := 0, ground := Ground.phase }, { on := 1, ground := Ground.phase }, { on := 2, ground := Ground.phase }, { on := 3, ground := Ground.phase }, { on := 4, ground := Ground.phase }, { on := 5, ground := Ground.phase }, { on := 6, ground := Ground.phase }, { on := 7, ground := Ground.phase }, { on := 8, ground := Ground.phase }, { on := 9, ground := Ground.phase }, { on := 10, ground := Ground.phase }, { on := 11, ground := Ground.phase }, { on := 12, ground := Ground.phase }, { on := 13, ground := Ground.phase }, { on := 14, ground := Ground.phase }], guard := none }) (v := .pointer (some ⟨G, 4, none⟩)) rfl (by kernel_rfl) (by kernel_rfl) (by kernel_rfl) (fun c a w' => HQP.out c a _ _ w') (Or.inl ⟨by rfl, ?_⟩) hHeld ?_
    · intro W hSw
      try dsimp only at hSw
      clear hSw
      clear hHeld
      go_simp
    simp only [Act.put, List.setIfInBounds_toArray, List.set_cons_zero, List.set_cons_succ]
    refine wpAnyH_ready (rs := [16]) (by kernel_rfl) (by simp) (AllReadyH.cons (o := { dst := none, op := Op.store 23 (Operand.tmp 96) (Operand.tmp 95), type := 0, pos := "made.go:72", after := #[{ on := 15, ground := Ground.data }, { on := 14, ground := Ground.data }, { on := 14, ground := Ground.chain }, { on := 0, ground := Ground.phase }, { on := 1, ground := Ground.phase }, { on := 2, ground := Ground.phase }, { on := 3, ground := Ground.phase }, { on := 4, ground := Ground.phase }, { on := 5, ground := Ground.phase }, { on := 6, ground := Ground.phase }, { on := 7, ground := Ground.phase }, { on := 8, ground := Ground.phase }, { on := 9, ground := Ground.phase }, { on := 10, ground := Ground.phase }, { on := 11, ground := Ground.phase }, { on := 12, ground := Ground.phase }, { on := 13, ground := Ground.phase }, { on := 14, ground := Ground.phase }], guard := none }) rfl (fun K hK => ?_) AllReadyH.nil)
    go_simp
    have hfar : ∀ (b o : Nat) (v : Value), b ≠ G → w5.cell? ⟨b, o, none⟩ = some v → (w5.setCell ⟨G, 4, none⟩ (.slice ao5 (M + 1) cap5)).cell? ⟨b, o, none⟩ = some v := fun b o v hne hv => ((Only.refl [G] w5).setCell (p := ⟨G, 4, none⟩) (by simp) _).cell hv (by simpa using hne)
    refine hK.out _ _ ⟨hfar _ _ _ NX.out.1 HS5.out.1, hfar _ _ _ NX.out.2.1 HS5.out.2.1, hfar _ _ _ NX.out.2.2 HS5.out.2.2⟩ (fun hHeld => ?_)
    clear hK K hHeld
    try simp only [Act.put, List.setIfInBounds_toArray, List.set_cons_zero, List.set_cons_succ]
    refine wpAnyH_done (by kernel_rfl) ?_ _
    exact HQ.out ao5 cap5 w5 _ _ _ _ _ _ _ _ _ _ _ _ _ _ _ _ HO5.out HY5.out HK6.out HC5.out
  · go_simp
    have hba : Below W.heap.size W (W.alloc (.cells #[.int .u32 (x : Int), .int .u64 0, .int .u32 4294967295, .int .u32 4294967295] 65)).drew := ((Below.refl _ _).alloc (Nat.le_refl _) _).drew
    have x1 := (HC.out.alloc (.cells #[.int .u32 (x : Int), .int .u64 0, .int .u32 4294967295, .int .u32 4294967295] 65)).drew
    have x2 : (W.alloc (.cells #[.int .u32 (x : Int), .int .u64 0, .int .u32 4294967295, .int .u32 4294967295] 65)).drew.ownsRow 0 65 4 (.slice ao M cap) M xs := own_kept (bs := []) HO.out (((Only.refl _ W).alloc (.cells #[.int .u32 (x : Int), .int .u64 0, .int .u32 4294967295, .int .u32 4294967295] 65)).drew) (fun q _ => by simp)
    have x3 : ∀ (j : Nat) (u : Value), ([.int .u32 (x : Int), .int .u64 0, .int .u32 4294967295, .int .u32 4294967295] : List Value)[j]? = some u → (W.alloc (.cells #[.int .u32 (x : Int), .int .u64 0, .int .u32 4294967295, .int .u32 4294967295] 65)).drew.cell? ((⟨W.heap.size, 0, none⟩ : Addr).add j) = some u := fun j u hu => cells_new W 65 [.int .u32 (x : Int), .int .u64 0, .int .u32 4294967295, .int .u32 4294967295] j u hu
    have x4 := hba
    refine hK.out _ _ ⟨ck hba K0.out.1, ck hba K0.out.2.1, ck hba K0.out.2.2⟩ (fun hHeld => ?_)
    clear hK K hba
    simp only [Act.put, List.setIfInBounds_toArray, List.set_cons_zero, List.set_cons_succ]
    obtain ⟨wa, hwa⟩ : ∃ wa, (W.alloc (.cells #[.int .u32 (x : Int), .int .u64 0, .int .u32 4294967295, .int .u32 4294967295] 65)).drew = wa := ⟨_, rfl⟩
    rw [hwa] at x1 x2 x3 x4 hHeld ⊢
    clear hwa
    have HA1 := Lib.hid x1
    have HA2 := Lib.hid x2
    have HA3 := Lib.hid x3
    have HAB := Lib.hid x4
    have ga : wa.cell? ⟨G, 4, none⟩ = some (.slice ao M cap) := x1.cell HL.out
    clear x1 x2 x3 x4
    refine wpAnyH_ready (rs := [1]) (by kernel_rfl) (by simp) (AllReadyH.cons (o := { dst := some 82, op := Op.load 23 (Operand.tmp 81), type := 23, pos := "made.go:72", after := #[{ on := 0, ground := Ground.data }], guard := none }) rfl (fun K hK => ?_) AllReadyH.nil)
    go_simp
    refine hK.out _ _ hHeld (fun hHeld => ?_)
    clear hK K
    simp only [Act.put, List.setIfInBounds_toArray, List.set_cons_zero, List.set_cons_succ]
    refine wpAnyH_ready (rs := [14]) (by kernel_rfl) (by simp) (AllReadyH.cons (o := { dst := some 95, op := Op.call { callee := Callee.builtin Builtin.append, args := #[Operand.tmp 82, Operand.tmp 94], argTypes := #[23, 23] }, type := 23, pos := "made.go:72", after := #[{ on := 1, ground := Ground.data }, { on := 13, ground := Ground.data }], guard := none }) rfl (fun K hK => ?_) AllReadyH.nil)
    refine step_app rfl (.tmp 82) (.tmp 94) 23 rfl 65 (.agg #[.int .u32 0, .int .u64 0, .int .u32 0, .int .u32 0]) 4 24 Tryz.underlying23 Tryz.infoLink rfl (by decide) (.slice ao M cap) M xs rfl HA2.out ⟨W.heap.size, 0, none⟩ 1 1 [.int .u32 (x : Int), .int .u64 0, .int .u32 4294967295, .int .u32 4294967295] rfl rfl HA3.out (by intro u hu; simp at hu; rcases hu with rfl | rfl | rfl | rfl <;> rfl) (by unfold maxLen; omega) (by omega) ?_
    intro ao5 cap5 w5 hown5 ho5 hk5
    have hc5 := HA1.out.kept ho5 HN.out
    have hOW : Only (Value.slice ao M cap).ownBlock.toList W w5 := (Only.of_below HAB.out).trans ho5 (fun x hx => .inl hx)
    have hk6 : ∀ k, (Value.slice ao5 (M + 1) cap5).ownBlock = some k → (Value.slice ao M cap).ownBlock = some k ∨ W.heap.size ≤ k := fun k hk => (hk5 k hk).imp id (fun h => Nat.le_trans HAB.out.size h)
    have p5 : w5.cell? ⟨G, 4, none⟩ = some (.slice ao M cap) := hc5.cell HL.out
    have f5 := hc5.frozen 4
    have l5 := hc5.lt
    have s0' := hOW.cell K0.out.1 NB.out.1
    have s1' := hOW.cell K0.out.2.1 NB.out.2.1
    have s2' := hOW.cell K0.out.2.2 NB.out.2.2
    have HC5 := Lib.hid hc5
    have HO5 := Lib.hid hown5
    have HY5 := Lib.hid hOW
    have HK6 := Lib.hid hk6
    have HS5 := Lib.hid (And.intro s0' (And.intro s1' s2'))
    refine hK.out _ _ HS5.out (fun hHeld => ?_)
    clear hK K hc5 hown5 ho5 hk5 hOW hk6 s0' s1' s2'
    simp only [Act.put, List.setIfInBounds_toArray, List.set_cons_zero, List.set_cons_succ]
    refine wpAnyH_take (i := 15) (oi := { dst := some 96, op := Op.fieldAddr 25 (Operand.tmp 6) 4, type := 0, pos := "made.go:72", after := #[{ on := 0, ground := Ground.phase }, { on := 1, ground := Ground.phase }, { on := 2, ground := Ground.phase }, { on := 3, ground := Ground.phase }, { on := 4, ground := Ground.phase }, { on := 5, ground := Ground.phase }, { on := 6, ground := Ground.phase }, { on := 7, ground := Ground.phase }, { on := 8, ground := Ground.phase }, { on := 9, ground := Ground.phase }, { on := 10, ground := Ground.phase }, { on := 11, ground := Ground.phase }, { on := 12, ground := Ground.phase }, { on := 13, ground := Ground.phase }, { on := 14, ground := Ground.phase }], guard := none }) (v := .pointer (some ⟨G, 4, none⟩)) rfl (by kernel_rfl) (by kernel_rfl) (by kernel_rfl) (fun c a w' => HQP.out c a _ _ w') (Or.inl ⟨by rfl, ?_⟩) hHeld ?_
    · intro W hSw
      try dsimp only at hSw
      clear hSw
      clear hHeld
      go_simp
    simp only [Act.put, List.setIfInBounds_toArray, List.set_cons_zero, List.set_cons_succ]
    refine wpAnyH_ready (rs := [16]) (by kernel_rfl) (by simp) (AllReadyH.cons (o := { dst := none, op := Op.store 23 (Operand.tmp 96) (Operand.tmp 95), type := 0, pos := "made.go:72", after := #[{ on := 15, ground := Ground.data }, { on := 14, ground := Ground.data }, { on := 14, ground := Ground.chain }, { on := 0, ground := Ground.phase }, { on := 1, ground := Ground.phase }, { on := 2, ground := Ground.phase }, { on := 3, ground := Ground.phase }, { on := 4, ground := Ground.phase }, { on := 5, ground := Ground.phase }, { on := 6, ground := Ground.phase }, { on := 7, ground := Ground.phase }, { on := 8, ground := Ground.phase }, { on := 9, ground := Ground.phase }, { on := 10, ground := Ground.phase }, { on := 11, ground := Ground.phase }, { on := 12, ground := Ground.phase }, { on := 13, ground := Ground.phase }, { on := 14, ground := Ground.phase }], guard := none }) rfl (fun K hK => ?_) AllReadyH.nil)
    go_simp
    have hfar : ∀ (b o : Nat) (v : Value), b ≠ G → w5.cell? ⟨b, o, none⟩ = some v → (w5.setCell ⟨G, 4, none⟩ (.slice ao5 (M + 1) cap5)).cell? ⟨b, o, none⟩ = some v := fun b o v hne hv => ((Only.refl [G] w5).setCell (p := ⟨G, 4, none⟩) (by simp) _).cell hv (by simpa using hne)
    refine hK.out _ _ ⟨hfar _ _ _ NX.out.1 HS5.out.1, hfar _ _ _ NX.out.2.1 HS5.out.2.1, hfar _ _ _ NX.out.2.2 HS5.out.2.2⟩ (fun hHeld => ?_)
    clear hK K hHeld
    try simp only [Act.put, List.setIfInBounds_toArray, List.set_cons_zero, List.set_cons_succ]
    refine wpAnyH_done (by kernel_rfl) ?_ _
    exact HQ.out ao5 cap5 w5 _ _ _ _ _ _ _ _ _ _ _ _ _ _ _ _ HO5.out HY5.out HK6.out HC5.out
end Go.Proofs.YtchhbgckonpedaaGreatDoor
