/- The web of a hierarchy: a step is laid behind a rank's list. -/
import Derived.Test.YtblkkjfpggcgfaaGreatDoorH18
import Derived.Deep.AppendLies
namespace Go.Proofs.YtblkkjfpggcgfaaGreatDoor
open Go.ChangeShapes Go.WideShapes Go.ChangeAt Go.RowKit Go.Joins Go.Deep
def stepCells (s : Nat × Nat) : List Value := [.int .i64 (s.1 : Nat), .int .u64 (s.2 : Nat)]
theorem stepCells_len (s : Nat × Nat) : (stepCells s).length = 2 := rfl
noncomputable def weaveBody : Code := Tryz.f29.body.getD .skip
theorem Tryz.infoStep : (Tryz.prog.info? 139).map (fun i => (i.zero, i.size, i.bytes)) = some (some (.agg #[.int .i64 0, .int .u64 0]), 2, 16) := by kernel_rfl
theorem Tryz.infoSteps : (Tryz.prog.info? 137).map (fun i => (i.zero, i.size, i.bytes)) = some (some (.slice none 0 0), 1, 24) := by kernel_rfl
set_option linter.unusedSimpArgs false in
set_option maxRecDepth 100000 in
set_option maxHeartbeats 8000000 in
theorem weave_app8 {s0 s1 s2 s5 s7 s8 s9 s10 s11 s12 s13 s14 s15 s16 s17 s18 s19 s20 s21 s22 s23 s24 s25 s26 s27 s28 s29 s30 s31 s32 s33 s34 s35 s36 s37 s38 s39 s40 s41 s42 s43 s44 s45 s46 s47 s48 s49 s50 s51 s52 s53 s54 s55 s56 s57 s58 s59 s60 s61 s62 s63 s64 s65 s66 s67 s68 s69 s70 s71 s72 s73 s74 s75 s76 s77 s78 s79 s80 s81 s82 s83 s84 s85 s86 s87 s88 s89 s90 s91 s92 s93 s94 s95 : Value} {wx : World} {b3 bl bo r tn wt n m cap : Nat} {ao : Option Addr} {L xs : List Value} (Q : Exit → Act → World → Prop)
    (hQp : ∀ c (a : Act) (t : Option Tmp) (v : Value) w', Q (.panic c) (a.put t v) w' → Q (.panic c) a w')
    (c3 : wx.cell? ⟨b3, 0, none⟩ = some (.slice (some ⟨bo, 0, none⟩) n n)) (cl0 : wx.cell? ⟨bl, 0, none⟩ = some (.int .u32 (tn : Nat))) (cl1 : wx.cell? ⟨bl, 1, none⟩ = some (.int .u64 (wt : Nat)))
    (co : Cells wx bo 137 L) (hLi : L[r]? = some (.slice ao m cap)) (hin : r < n) (own : wx.ownsRow 0 139 2 (.slice ao m cap) m xs)
    (hne : ∀ q, (Value.slice ao m cap).ownBlock = some q → q ≠ b3 ∧ q ≠ bl ∧ q ≠ bo) (h3o : b3 ≠ bo) (hlo : bl ≠ bo) (hm : m ≤ 1048576) (hto : tn < 4294967296)
    (hQ : ∀ (t39 t40 t41 t42 t43 t44 t45 t46 t47 t48 t49 t50 t51 t52 t53 t54 t55 : Value) (ao' : Option Addr) (cap' : Nat) (w' : World), w'.ownsRow 0 139 2 (.slice ao' (m + 1) cap') (m + 1) (xs ++ [.int .i64 (tn : Nat), .int .u64 (wt : Nat)]) →
      (∀ q, (Value.slice ao' (m + 1) cap').ownBlock = some q → (Value.slice ao m cap).ownBlock = some q ∨ wx.heap.size ≤ q) → Cells w' bo 137 (L.set r (.slice ao' (m + 1) cap')) → Only (bo :: (Value.slice ao m cap).ownBlock.toList) wx w' → Q .normal ⟨#[s0, s1, s2, .pointer (some ⟨b3, 0, none⟩), .int .i64 (r : Nat), s5, .pointer (some ⟨bl, 0, none⟩), s7, s8, s9, s10, s11, s12, s13, s14, s15, s16, s17, s18, s19, s20, s21, s22, s23, s24, s25, s26, s27, s28, s29, s30, s31, s32, s33, s34, s35, s36, s37, s38, t39, t40, t41, t42, t43, t44, t45, t46, t47, t48, t49, t50, t51, t52, t53, t54, t55, s56, s57, s58, s59, s60, s61, s62, s63, s64, s65, s66, s67, s68, s69, s70, s71, s72, s73, s74, s75, s76, s77, s78, s79, s80, s81, s82, s83, s84, s85, s86, s87, s88, s89, s90, s91, s92, s93, s94, s95], []⟩ w') :
    Code.wp Tryz.prog ((regionAt 8 weaveBody).getD .skip) Q ⟨#[s0, s1, s2, .pointer (some ⟨b3, 0, none⟩), .int .i64 (r : Nat), s5, .pointer (some ⟨bl, 0, none⟩), s7, s8, s9, s10, s11, s12, s13, s14, s15, s16, s17, s18, s19, s20, s21, s22, s23, s24, s25, s26, s27, s28, s29, s30, s31, s32, s33, s34, s35, s36, s37, s38, s39, s40, s41, s42, s43, s44, s45, s46, s47, s48, s49, s50, s51, s52, s53, s54, s55, s56, s57, s58, s59, s60, s61, s62, s63, s64, s65, s66, s67, s68, s69, s70, s71, s72, s73, s74, s75, s76, s77, s78, s79, s80, s81, s82, s83, s84, s85, s86, s87, s88, s89, s90, s91, s92, s93, s94, s95], []⟩ wx := by
  obtain ⟨i0, hi0, hz0, hz1, hz2⟩ := info_parts Tryz.infoStep
  have HI0 := Lib.hid hi0
  have HZ0 := Lib.hid hz0
  have HZ1 := Lib.hid hz1
  have HZ2 := Lib.hid hz2
  have HQ := Lib.hid hQ
  have HQP := Lib.hid hQp
  have OWN := Lib.hid own
  have CO := Lib.hid co
  have HLI := Lib.hid hLi
  have HNE := Lib.hid hne
  have e0 : wx.cell? ⟨bo, r, none⟩ = some (.slice ao m cap) := co.cell hLi
  have lbo := co.lt
  have lb3 := block_lt c3
  have lbl := block_lt cl0
  have cu : IntKind.i64.wrap (tn : Int) = (tn : Int) := IntWalk.i64_in _ (by omega)
  clear hQ own co hLi hne hi0 hz0 hz1 hz2 hQp
  conv => arg 2; whnf
  refine wp_region_held_drew (S := fun W => W.cell? ⟨b3, 0, none⟩ = some (.slice (some ⟨bo, 0, none⟩) n n) ∧ W.cell? ⟨bl, 0, none⟩ = some (.int .u32 (tn : Nat)) ∧ W.cell? ⟨bl, 1, none⟩ = some (.int .u64 (wt : Nat))) (by kernel_rfl) ⟨c3, cl0, cl1⟩ (fun hHeld => ?_)
  simp only [List.size_toArray, List.length_cons, List.length_nil, Nat.reduceAdd, Array.replicate_succ, Array.replicate_zero, List.push_toArray, List.nil_append, List.cons_append]
  refine wpAnyH_take (i := 0) (oi := { dst := some 39, op := Op.fieldAddr 87 (Operand.tmp 3) 0, type := 0, pos := "sound.go:27", after := #[], guard := none }) (v := .pointer (some ⟨b3, 0, none⟩)) rfl (by kernel_rfl) (by kernel_rfl) (by kernel_rfl) (fun c a w' => HQP.out c a _ _ w') (Or.inl ⟨by rfl, ?_⟩) hHeld ?_
  · intro W hSw
    try dsimp only at hSw
    clear hSw
    clear hHeld
    go_simp
  simp only [Act.put, List.setIfInBounds_toArray, List.set_cons_zero, List.set_cons_succ]
  refine wpAnyH_take (i := 1) (oi := { dst := some 40, op := Op.load 85 (Operand.tmp 39), type := 85, pos := "sound.go:27", after := #[{ on := 0, ground := Ground.data }], guard := none }) (v := .slice (some ⟨bo, 0, none⟩) n n) rfl (by kernel_rfl) (by kernel_rfl) (by kernel_rfl) (fun c a w' => HQP.out c a _ _ w') (Or.inl ⟨by rfl, ?_⟩) hHeld ?_
  · intro W hSw
    try dsimp only at hSw
    obtain ⟨m1, m2, m3⟩ := hSw
    clear hHeld
    go_simp
  simp only [Act.put, List.setIfInBounds_toArray, List.set_cons_zero, List.set_cons_succ]
  refine wpAnyH_take (i := 2) (oi := { dst := some 41, op := Op.move (Operand.tmp 4), type := 3, pos := "sound.go:27", after := #[], guard := none }) (v := .int .i64 (r : Nat)) rfl (by kernel_rfl) (by kernel_rfl) (by kernel_rfl) (fun c a w' => HQP.out c a _ _ w') (Or.inl ⟨by rfl, ?_⟩) hHeld ?_
  · intro W hSw
    try dsimp only at hSw
    clear hSw
    clear hHeld
    go_simp
  simp only [Act.put, List.setIfInBounds_toArray, List.set_cons_zero, List.set_cons_succ]
  refine wpAnyH_take (i := 3) (oi := { dst := some 42, op := Op.fieldAddr 87 (Operand.tmp 3) 0, type := 0, pos := "sound.go:27", after := #[], guard := none }) (v := .pointer (some ⟨b3, 0, none⟩)) rfl (by kernel_rfl) (by kernel_rfl) (by kernel_rfl) (fun c a w' => HQP.out c a _ _ w') (Or.inl ⟨by rfl, ?_⟩) hHeld ?_
  · intro W hSw
    try dsimp only at hSw
    clear hSw
    clear hHeld
    go_simp
  simp only [Act.put, List.setIfInBounds_toArray, List.set_cons_zero, List.set_cons_succ]
  refine wpAnyH_take (i := 4) (oi := { dst := some 43, op := Op.load 85 (Operand.tmp 42), type := 85, pos := "sound.go:27", after := #[{ on := 3, ground := Ground.data }], guard := none }) (v := .slice (some ⟨bo, 0, none⟩) n n) rfl (by kernel_rfl) (by kernel_rfl) (by kernel_rfl) (fun c a w' => HQP.out c a _ _ w') (Or.inl ⟨by rfl, ?_⟩) hHeld ?_
  · intro W hSw
    try dsimp only at hSw
    obtain ⟨m1, m2, m3⟩ := hSw
    clear hHeld
    go_simp
  simp only [Act.put, List.setIfInBounds_toArray, List.set_cons_zero, List.set_cons_succ]
  refine wpAnyH_take (i := 5) (oi := { dst := some 44, op := Op.move (Operand.tmp 4), type := 3, pos := "sound.go:27", after := #[], guard := none }) (v := .int .i64 (r : Nat)) rfl (by kernel_rfl) (by kernel_rfl) (by kernel_rfl) (fun c a w' => HQP.out c a _ _ w') (Or.inl ⟨by rfl, ?_⟩) hHeld ?_
  · intro W hSw
    try dsimp only at hSw
    clear hSw
    clear hHeld
    go_simp
  simp only [Act.put, List.setIfInBounds_toArray, List.set_cons_zero, List.set_cons_succ]
  refine wpAnyH_take (i := 6) (oi := { dst := some 45, op := Op.indexAddr 85 (Operand.tmp 43) (Operand.tmp 44), type := 0, pos := "sound.go:27", after := #[{ on := 4, ground := Ground.data }, { on := 5, ground := Ground.data }], guard := none }) (v := .pointer (some ⟨bo, r, none⟩)) rfl (by kernel_rfl) (by kernel_rfl) (by kernel_rfl) (fun c a w' => HQP.out c a _ _ w') (Or.inl ⟨by rfl, ?_⟩) hHeld ?_
  · intro W hSw
    try dsimp only at hSw
    clear hSw
    clear hHeld
    go_simp
  simp only [Act.put, List.setIfInBounds_toArray, List.set_cons_zero, List.set_cons_succ]
  refine wpAnyH_take (i := 8) (oi := { dst := some 47, op := Op.fieldAddr 63 (Operand.tmp 6) 0, type := 0, pos := "sound.go:27", after := #[], guard := none }) (v := .pointer (some ⟨bl, 0, none⟩)) rfl (by kernel_rfl) (by kernel_rfl) (by kernel_rfl) (fun c a w' => HQP.out c a _ _ w') (Or.inl ⟨by rfl, ?_⟩) hHeld ?_
  · intro W hSw
    try dsimp only at hSw
    clear hSw
    clear hHeld
    go_simp
  simp only [Act.put, List.setIfInBounds_toArray, List.set_cons_zero, List.set_cons_succ]
  refine wpAnyH_take (i := 9) (oi := { dst := some 48, op := Op.load 61 (Operand.tmp 47), type := 61, pos := "sound.go:27", after := #[{ on := 8, ground := Ground.data }], guard := none }) (v := .int .u32 (tn : Nat)) rfl (by kernel_rfl) (by kernel_rfl) (by kernel_rfl) (fun c a w' => HQP.out c a _ _ w') (Or.inl ⟨by rfl, ?_⟩) hHeld ?_
  · intro W hSw
    try dsimp only at hSw
    obtain ⟨m1, m2, m3⟩ := hSw
    clear hHeld
    go_simp
  simp only [Act.put, List.setIfInBounds_toArray, List.set_cons_zero, List.set_cons_succ]
  refine wpAnyH_take (i := 10) (oi := { dst := some 49, op := Op.convert 61 3 (Operand.tmp 48), type := 3, pos := "sound.go:27", after := #[{ on := 9, ground := Ground.data }], guard := none }) (v := .int .i64 (tn : Nat)) rfl (by kernel_rfl) (by kernel_rfl) (by kernel_rfl) (fun c a w' => HQP.out c a _ _ w') (Or.inl ⟨by rfl, ?_⟩) hHeld ?_
  · intro W hSw
    try dsimp only at hSw
    clear hSw
    clear hHeld
    go_simp
  simp only [Act.put, List.setIfInBounds_toArray, List.set_cons_zero, List.set_cons_succ]
  refine wpAnyH_take (i := 11) (oi := { dst := some 50, op := Op.fieldAddr 63 (Operand.tmp 6) 1, type := 0, pos := "sound.go:27", after := #[], guard := none }) (v := .pointer (some ⟨bl, 1, none⟩)) rfl (by kernel_rfl) (by kernel_rfl) (by kernel_rfl) (fun c a w' => HQP.out c a _ _ w') (Or.inl ⟨by rfl, ?_⟩) hHeld ?_
  · intro W hSw
    try dsimp only at hSw
    clear hSw
    clear hHeld
    go_simp
  simp only [Act.put, List.setIfInBounds_toArray, List.set_cons_zero, List.set_cons_succ]
  refine wpAnyH_take (i := 12) (oi := { dst := some 51, op := Op.load 35 (Operand.tmp 50), type := 35, pos := "sound.go:27", after := #[{ on := 11, ground := Ground.data }], guard := none }) (v := .int .u64 (wt : Nat)) rfl (by kernel_rfl) (by kernel_rfl) (by kernel_rfl) (fun c a w' => HQP.out c a _ _ w') (Or.inl ⟨by rfl, ?_⟩) hHeld ?_
  · intro W hSw
    try dsimp only at hSw
    obtain ⟨m1, m2, m3⟩ := hSw
    clear hHeld
    go_simp
  simp only [Act.put, List.setIfInBounds_toArray, List.set_cons_zero, List.set_cons_succ]
  refine wpAnyH_take (i := 13) (oi := { dst := some 52, op := Op.build 139 #[(0, Operand.tmp 49), (1, Operand.tmp 51)], type := 139, pos := "sound.go:27", after := #[{ on := 10, ground := Ground.data }, { on := 12, ground := Ground.data }], guard := none }) (v := .agg #[.int .i64 (tn : Nat), .int .u64 (wt : Nat)]) rfl (by kernel_rfl) (by kernel_rfl) (by kernel_rfl) (fun c a w' => HQP.out c a _ _ w') (Or.inl ⟨by rfl, ?_⟩) hHeld ?_
  · intro W hSw
    try dsimp only at hSw
    clear hSw
    clear hHeld
    go_simp
  simp only [Act.put, List.setIfInBounds_toArray, List.set_cons_zero, List.set_cons_succ]
  refine wpAnyH_ready (rs := [7, 14]) (by kernel_rfl) (by simp) ?_
  refine AllReadyH.cons (o := { dst := some 46, op := Op.load 137 (Operand.tmp 45), type := 137, pos := "sound.go:27", after := #[{ on := 6, ground := Ground.data }], guard := none }) rfl (fun K hK => ?_) (AllReadyH.cons (o := { dst := some 53, op := Op.buildSlice 137 1 #[(0, Operand.tmp 52)], type := 137, pos := "sound.go:27", after := #[{ on := 13, ground := Ground.data }], guard := none }) rfl (fun K hK => ?_) AllReadyH.nil)
  · go_simp
    refine hK.out _ _ hHeld (fun hHeld => ?_)
    clear hK K
    simp only [Act.put, List.setIfInBounds_toArray, List.set_cons_zero, List.set_cons_succ]
    refine wpAnyH_ready (rs := [14]) (by kernel_rfl) (by simp) (AllReadyH.cons (o := { dst := some 53, op := Op.buildSlice 137 1 #[(0, Operand.tmp 52)], type := 137, pos := "sound.go:27", after := #[{ on := 13, ground := Ground.data }], guard := none }) rfl (fun K hK => ?_) AllReadyH.nil)
    go_simp
    refine hK.out _ _ ⟨World.cell?_alloc_lt _ _ ⟨b3, 0, none⟩ lb3 ▸ c3, World.cell?_alloc_lt _ _ ⟨bl, 0, none⟩ lbl ▸ cl0, World.cell?_alloc_lt _ _ ⟨bl, 1, none⟩ lbl ▸ cl1⟩ (fun hHeld => ?_)
    clear hK K
    simp only [Act.put, List.setIfInBounds_toArray, List.set_cons_zero, List.set_cons_succ]
    refine wpAnyH_ready (rs := [15]) (by kernel_rfl) (by simp) (AllReadyH.cons (o := { dst := some 54, op := Op.call { callee := Callee.builtin Builtin.append, args := #[Operand.tmp 46, Operand.tmp 53], argTypes := #[137, 137] }, type := 137, pos := "sound.go:27", after := #[{ on := 7, ground := Ground.data }, { on := 14, ground := Ground.data }], guard := none }) rfl (fun K hK => ?_) AllReadyH.nil)
    refine step_append_lies _ (by rfl) _ _ _ (by rfl) 0 139 i0 _ 2 16 Tryz.underlying137 HI0.out HZ0.out HZ1.out HZ2.out rfl (by decide) (.slice ao m cap) m xs (by rfl) (own_kept (bs := []) (own_drew OWN.out) ((Only.refl [] wx.drew).alloc _) (fun q _ => by simp))
      ⟨wx.heap.size, 0, none⟩ 1 1 [.int .i64 (tn : Nat), .int .u64 (wt : Nat)] (by rfl) (by rfl) (World.news_of_block (cs := #[.int .i64 (tn : Nat), .int .u64 (wt : Nat)]) (t := 139) (fr := (0, 0)) (heap_alloc_new wx.drew _)) (fun u hu => by simp only [List.mem_cons, List.not_mem_nil, or_false] at hu; rcases hu with rfl | rfl <;> rfl) (by omega) (by unfold maxLen; omega) (by omega) (Nat.zero_le _) (wx.heap.size + 1) (by simp) ?_
    intro gg cap5 w5 hown5 hgrow hat hlt
    have ho5 : Only (Value.slice ao m cap).ownBlock.toList (wx.drew.alloc (.cells #[.int .i64 (tn : Nat), .int .u64 (wt : Nat)] 139)) w5 := ⟨hgrow.os, hgrow.tape, hgrow.output, hgrow.size, fun q hq hn => hgrow.block q hq (fun e => hn (by simp [← e]))⟩
    have m3 := ho5.cell (World.cell?_alloc_lt _ _ ⟨b3, 0, none⟩ lb3 ▸ c3) (fun hq => by have := (HNE.out _ (by simpa using hq)).1; omega)
    have ml0 := ho5.cell (World.cell?_alloc_lt _ _ ⟨bl, 0, none⟩ lbl ▸ cl0) (fun hq => by have := (HNE.out _ (by simpa using hq)).2.1; omega)
    have ml1 := ho5.cell (World.cell?_alloc_lt _ _ ⟨bl, 1, none⟩ lbl ▸ cl1) (fun hq => by have := (HNE.out _ (by simpa using hq)).2.1; omega)
    have co5 := (CO.out.drew.alloc (.cells #[.int .i64 (tn : Nat), .int .u64 (wt : Nat)] 139)).kept ho5 (fun hq => by have := (HNE.out _ (by simpa using hq)).2.2; omega)
    have HO5 := Lib.hid ho5
    have OWN5 := Lib.hid hown5
    have HAT := Lib.hid hat
    clear hown5 hgrow hat ho5
    refine hK.out _ _ ⟨m3, ml0, ml1⟩ (fun hHeld => ?_)
    clear hK K
    simp only [Act.put, List.setIfInBounds_toArray, List.set_cons_zero, List.set_cons_succ]
    have y5 := co5.cell HLI.out
    have f5 := co5.frozen r
    have l5 := co5.lt
    have CO5 := Lib.hid co5
    clear co5
    refine wpAnyH_take (i := 16) (oi := { dst := some 55, op := Op.indexAddr 85 (Operand.tmp 40) (Operand.tmp 41), type := 0, pos := "sound.go:27", after := #[{ on := 1, ground := Ground.data }, { on := 2, ground := Ground.data }, { on := 0, ground := Ground.phase }, { on := 1, ground := Ground.phase }, { on := 2, ground := Ground.phase }, { on := 3, ground := Ground.phase }, { on := 4, ground := Ground.phase }, { on := 5, ground := Ground.phase }, { on := 6, ground := Ground.phase }, { on := 7, ground := Ground.phase }, { on := 8, ground := Ground.phase }, { on := 9, ground := Ground.phase }, { on := 10, ground := Ground.phase }, { on := 11, ground := Ground.phase }, { on := 12, ground := Ground.phase }, { on := 13, ground := Ground.phase }, { on := 14, ground := Ground.phase }, { on := 15, ground := Ground.phase }], guard := none }) (v := .pointer (some ⟨bo, r, none⟩)) rfl (by kernel_rfl) (by kernel_rfl) (by kernel_rfl) (fun c a w' => HQP.out c a _ _ w') (Or.inl ⟨by rfl, ?_⟩) hHeld ?_
    · intro W hSw
      try dsimp only at hSw
      clear hSw
      clear hHeld
      go_simp
    simp only [Act.put, List.setIfInBounds_toArray, List.set_cons_zero, List.set_cons_succ]
    refine wpAnyH_ready (rs := [17]) (by kernel_rfl) (by simp) (AllReadyH.cons (o := { dst := none, op := Op.store 137 (Operand.tmp 55) (Operand.tmp 54), type := 0, pos := "sound.go:27", after := #[{ on := 16, ground := Ground.data }, { on := 15, ground := Ground.data }, { on := 15, ground := Ground.chain }, { on := 0, ground := Ground.phase }, { on := 1, ground := Ground.phase }, { on := 2, ground := Ground.phase }, { on := 3, ground := Ground.phase }, { on := 4, ground := Ground.phase }, { on := 5, ground := Ground.phase }, { on := 6, ground := Ground.phase }, { on := 7, ground := Ground.phase }, { on := 8, ground := Ground.phase }, { on := 9, ground := Ground.phase }, { on := 10, ground := Ground.phase }, { on := 11, ground := Ground.phase }, { on := 12, ground := Ground.phase }, { on := 13, ground := Ground.phase }, { on := 14, ground := Ground.phase }, { on := 15, ground := Ground.phase }], guard := none }) rfl (fun K hK => ?_) AllReadyH.nil)
    go_simp
    refine hK.out _ _ ⟨by rw [World.cell?_setCell_far _ _ _ _ (by simpa using h3o.symm)]; exact m3, by rw [World.cell?_setCell_far _ _ _ _ (by simpa using hlo.symm)]; exact ml0, by rw [World.cell?_setCell_far _ _ _ _ (by simpa using hlo.symm)]; exact ml1⟩ (fun hHeld => ?_)
    clear hK K hHeld
    try simp only [Act.put, List.setIfInBounds_toArray, List.set_cons_zero, List.set_cons_succ]
    refine wpAnyH_done (by kernel_rfl) ?_ _
    refine HQ.out _ _ _ _ _ _ _ _ _ _ _ _ _ _ _ _ _ _ _ _ (own_kept (bs := [bo]) OWN5.out ((Only.refl [bo] w5).setCell (.inl (by simp)) _) ?_) ?_ (CO5.out.set r _) ?_
    · intro q hq
      simp only [Value.ownBlock, Option.some.injEq] at hq
      subst hq
      simp only [List.mem_singleton]
      rcases HAT.out with h1 | h1
      · exact (HNE.out _ h1).2.2
      · omega
    · intro q hq
      simp only [Value.ownBlock, Option.some.injEq] at hq
      subst hq
      rcases HAT.out with h1 | h1
      · exact .inl h1
      · exact .inr (by omega)
    · refine Only.setCell ?_ (p := ⟨bo, r, none⟩) (.inl (by simp)) _
      exact (((Only.refl (bo :: (Value.slice ao m cap).ownBlock.toList) wx).drew).alloc (.cells #[.int .i64 (tn : Nat), .int .u64 (wt : Nat)] 139)).trans HO5.out (fun q hq => .inl (List.mem_cons_of_mem _ hq))
  · go_simp
    refine hK.out _ _ ⟨World.cell?_alloc_lt _ _ ⟨b3, 0, none⟩ lb3 ▸ c3, World.cell?_alloc_lt _ _ ⟨bl, 0, none⟩ lbl ▸ cl0, World.cell?_alloc_lt _ _ ⟨bl, 1, none⟩ lbl ▸ cl1⟩ (fun hHeld => ?_)
    clear hK K
    simp only [Act.put, List.setIfInBounds_toArray, List.set_cons_zero, List.set_cons_succ]
    refine wpAnyH_ready (rs := [7]) (by kernel_rfl) (by simp) (AllReadyH.cons (o := { dst := some 46, op := Op.load 137 (Operand.tmp 45), type := 137, pos := "sound.go:27", after := #[{ on := 6, ground := Ground.data }], guard := none }) rfl (fun K hK => ?_) AllReadyH.nil)
    go_simp
    refine hK.out _ _ hHeld (fun hHeld => ?_)
    clear hK K
    simp only [Act.put, List.setIfInBounds_toArray, List.set_cons_zero, List.set_cons_succ]
    refine wpAnyH_ready (rs := [15]) (by kernel_rfl) (by simp) (AllReadyH.cons (o := { dst := some 54, op := Op.call { callee := Callee.builtin Builtin.append, args := #[Operand.tmp 46, Operand.tmp 53], argTypes := #[137, 137] }, type := 137, pos := "sound.go:27", after := #[{ on := 7, ground := Ground.data }, { on := 14, ground := Ground.data }], guard := none }) rfl (fun K hK => ?_) AllReadyH.nil)
    refine step_append_lies _ (by rfl) _ _ _ (by rfl) 0 139 i0 _ 2 16 Tryz.underlying137 HI0.out HZ0.out HZ1.out HZ2.out rfl (by decide) (.slice ao m cap) m xs (by rfl) (own_kept (bs := []) (own_drew OWN.out) ((Only.refl [] wx.drew).alloc _) (fun q _ => by simp))
      ⟨wx.heap.size, 0, none⟩ 1 1 [.int .i64 (tn : Nat), .int .u64 (wt : Nat)] (by rfl) (by rfl) (World.news_of_block (cs := #[.int .i64 (tn : Nat), .int .u64 (wt : Nat)]) (t := 139) (fr := (0, 0)) (heap_alloc_new wx.drew _)) (fun u hu => by simp only [List.mem_cons, List.not_mem_nil, or_false] at hu; rcases hu with rfl | rfl <;> rfl) (by omega) (by unfold maxLen; omega) (by omega) (Nat.zero_le _) (wx.heap.size + 1) (by simp) ?_
    intro gg cap5 w5 hown5 hgrow hat hlt
    have ho5 : Only (Value.slice ao m cap).ownBlock.toList (wx.drew.alloc (.cells #[.int .i64 (tn : Nat), .int .u64 (wt : Nat)] 139)) w5 := ⟨hgrow.os, hgrow.tape, hgrow.output, hgrow.size, fun q hq hn => hgrow.block q hq (fun e => hn (by simp [← e]))⟩
    have m3 := ho5.cell (World.cell?_alloc_lt _ _ ⟨b3, 0, none⟩ lb3 ▸ c3) (fun hq => by have := (HNE.out _ (by simpa using hq)).1; omega)
    have ml0 := ho5.cell (World.cell?_alloc_lt _ _ ⟨bl, 0, none⟩ lbl ▸ cl0) (fun hq => by have := (HNE.out _ (by simpa using hq)).2.1; omega)
    have ml1 := ho5.cell (World.cell?_alloc_lt _ _ ⟨bl, 1, none⟩ lbl ▸ cl1) (fun hq => by have := (HNE.out _ (by simpa using hq)).2.1; omega)
    have co5 := (CO.out.drew.alloc (.cells #[.int .i64 (tn : Nat), .int .u64 (wt : Nat)] 139)).kept ho5 (fun hq => by have := (HNE.out _ (by simpa using hq)).2.2; omega)
    have HO5 := Lib.hid ho5
    have OWN5 := Lib.hid hown5
    have HAT := Lib.hid hat
    clear hown5 hgrow hat ho5
    refine hK.out _ _ ⟨m3, ml0, ml1⟩ (fun hHeld => ?_)
    clear hK K
    simp only [Act.put, List.setIfInBounds_toArray, List.set_cons_zero, List.set_cons_succ]
    have y5 := co5.cell HLI.out
    have f5 := co5.frozen r
    have l5 := co5.lt
    have CO5 := Lib.hid co5
    clear co5
    refine wpAnyH_take (i := 16) (oi := { dst := some 55, op := Op.indexAddr 85 (Operand.tmp 40) (Operand.tmp 41), type := 0, pos := "sound.go:27", after := #[{ on := 1, ground := Ground.data }, { on := 2, ground := Ground.data }, { on := 0, ground := Ground.phase }, { on := 1, ground := Ground.phase }, { on := 2, ground := Ground.phase }, { on := 3, ground := Ground.phase }, { on := 4, ground := Ground.phase }, { on := 5, ground := Ground.phase }, { on := 6, ground := Ground.phase }, { on := 7, ground := Ground.phase }, { on := 8, ground := Ground.phase }, { on := 9, ground := Ground.phase }, { on := 10, ground := Ground.phase }, { on := 11, ground := Ground.phase }, { on := 12, ground := Ground.phase }, { on := 13, ground := Ground.phase }, { on := 14, ground := Ground.phase }, { on := 15, ground := Ground.phase }], guard := none }) (v := .pointer (some ⟨bo, r, none⟩)) rfl (by kernel_rfl) (by kernel_rfl) (by kernel_rfl) (fun c a w' => HQP.out c a _ _ w') (Or.inl ⟨by rfl, ?_⟩) hHeld ?_
    · intro W hSw
      try dsimp only at hSw
      clear hSw
      clear hHeld
      go_simp
    simp only [Act.put, List.setIfInBounds_toArray, List.set_cons_zero, List.set_cons_succ]
    refine wpAnyH_ready (rs := [17]) (by kernel_rfl) (by simp) (AllReadyH.cons (o := { dst := none, op := Op.store 137 (Operand.tmp 55) (Operand.tmp 54), type := 0, pos := "sound.go:27", after := #[{ on := 16, ground := Ground.data }, { on := 15, ground := Ground.data }, { on := 15, ground := Ground.chain }, { on := 0, ground := Ground.phase }, { on := 1, ground := Ground.phase }, { on := 2, ground := Ground.phase }, { on := 3, ground := Ground.phase }, { on := 4, ground := Ground.phase }, { on := 5, ground := Ground.phase }, { on := 6, ground := Ground.phase }, { on := 7, ground := Ground.phase }, { on := 8, ground := Ground.phase }, { on := 9, ground := Ground.phase }, { on := 10, ground := Ground.phase }, { on := 11, ground := Ground.phase }, { on := 12, ground := Ground.phase }, { on := 13, ground := Ground.phase }, { on := 14, ground := Ground.phase }, { on := 15, ground := Ground.phase }], guard := none }) rfl (fun K hK => ?_) AllReadyH.nil)
    go_simp
    refine hK.out _ _ ⟨by rw [World.cell?_setCell_far _ _ _ _ (by simpa using h3o.symm)]; exact m3, by rw [World.cell?_setCell_far _ _ _ _ (by simpa using hlo.symm)]; exact ml0, by rw [World.cell?_setCell_far _ _ _ _ (by simpa using hlo.symm)]; exact ml1⟩ (fun hHeld => ?_)
    clear hK K hHeld
    try simp only [Act.put, List.setIfInBounds_toArray, List.set_cons_zero, List.set_cons_succ]
    refine wpAnyH_done (by kernel_rfl) ?_ _
    refine HQ.out _ _ _ _ _ _ _ _ _ _ _ _ _ _ _ _ _ _ _ _ (own_kept (bs := [bo]) OWN5.out ((Only.refl [bo] w5).setCell (.inl (by simp)) _) ?_) ?_ (CO5.out.set r _) ?_
    · intro q hq
      simp only [Value.ownBlock, Option.some.injEq] at hq
      subst hq
      simp only [List.mem_singleton]
      rcases HAT.out with h1 | h1
      · exact (HNE.out _ h1).2.2
      · omega
    · intro q hq
      simp only [Value.ownBlock, Option.some.injEq] at hq
      subst hq
      rcases HAT.out with h1 | h1
      · exact .inl h1
      · exact .inr (by omega)
    · refine Only.setCell ?_ (p := ⟨bo, r, none⟩) (.inl (by simp)) _
      exact (((Only.refl (bo :: (Value.slice ao m cap).ownBlock.toList) wx).drew).alloc (.cells #[.int .i64 (tn : Nat), .int .u64 (wt : Nat)] 139)).trans HO5.out (fun q hq => .inl (List.mem_cons_of_mem _ hq))
set_option linter.unusedSimpArgs false in
set_option maxRecDepth 100000 in
set_option maxHeartbeats 8000000 in
theorem weave_app13 {s0 s1 s2 s5 s6 s7 s9 s10 s11 s12 s13 s14 s15 s16 s17 s18 s19 s20 s21 s22 s23 s24 s25 s26 s27 s28 s29 s30 s31 s32 s33 s34 s35 s36 s37 s38 s39 s40 s41 s42 s43 s44 s45 s46 s47 s48 s49 s50 s51 s52 s53 s54 s55 s56 s57 s58 s59 s60 s61 s62 s63 s64 s65 s66 s67 s68 s69 s70 s71 s72 s73 s74 s75 s76 s77 s78 s79 s80 s81 s82 s83 s84 s85 s86 s87 s88 s89 s90 s91 s92 s93 s94 s95 : Value} {wx : World} {b3 bl bo r tn wt n m cap : Nat} {ao : Option Addr} {L xs : List Value} (Q : Exit → Act → World → Prop)
    (hQp : ∀ c (a : Act) (t : Option Tmp) (v : Value) w', Q (.panic c) (a.put t v) w' → Q (.panic c) a w')
    (c3 : wx.cell? ⟨b3, 0, none⟩ = some (.slice (some ⟨bo, 0, none⟩) n n)) (cl0 : wx.cell? ⟨bl, 0, none⟩ = some (.int .u32 (tn : Nat))) (cl1 : wx.cell? ⟨bl, 1, none⟩ = some (.int .u64 (wt : Nat)))
    (co : Cells wx bo 137 L) (hLi : L[tn]? = some (.slice ao m cap)) (hin : tn < n) (own : wx.ownsRow 0 139 2 (.slice ao m cap) m xs)
    (hne : ∀ q, (Value.slice ao m cap).ownBlock = some q → q ≠ b3 ∧ q ≠ bl ∧ q ≠ bo) (h3o : b3 ≠ bo) (hlo : bl ≠ bo) (hm : m ≤ 1048576) (hto : tn < 4294967296)
    (hQ : ∀ (t76 t77 t78 t79 t80 t81 t82 t83 t84 t85 t86 t87 t88 t89 t90 t91 t92 : Value) (ao' : Option Addr) (cap' : Nat) (w' : World), w'.ownsRow 0 139 2 (.slice ao' (m + 1) cap') (m + 1) (xs ++ [.int .i64 (r : Nat), .int .u64 (wt : Nat)]) →
      (∀ q, (Value.slice ao' (m + 1) cap').ownBlock = some q → (Value.slice ao m cap).ownBlock = some q ∨ wx.heap.size ≤ q) → Cells w' bo 137 (L.set tn (.slice ao' (m + 1) cap')) → Only (bo :: (Value.slice ao m cap).ownBlock.toList) wx w' → Q .normal ⟨#[s0, s1, s2, .pointer (some ⟨b3, 0, none⟩), .int .i64 (r : Nat), s5, s6, s7, .pointer (some ⟨bl, 0, none⟩), s9, s10, s11, s12, s13, s14, s15, s16, s17, s18, s19, s20, s21, s22, s23, s24, s25, s26, s27, s28, s29, s30, s31, s32, s33, s34, s35, s36, s37, s38, s39, s40, s41, s42, s43, s44, s45, s46, s47, s48, s49, s50, s51, s52, s53, s54, s55, s56, s57, s58, s59, s60, s61, s62, s63, s64, s65, s66, s67, s68, s69, s70, s71, s72, s73, s74, s75, t76, t77, t78, t79, t80, t81, t82, t83, t84, t85, t86, t87, t88, t89, t90, t91, t92, s93, s94, s95], []⟩ w') :
    Code.wp Tryz.prog ((regionAt 13 weaveBody).getD .skip) Q ⟨#[s0, s1, s2, .pointer (some ⟨b3, 0, none⟩), .int .i64 (r : Nat), s5, s6, s7, .pointer (some ⟨bl, 0, none⟩), s9, s10, s11, s12, s13, s14, s15, s16, s17, s18, s19, s20, s21, s22, s23, s24, s25, s26, s27, s28, s29, s30, s31, s32, s33, s34, s35, s36, s37, s38, s39, s40, s41, s42, s43, s44, s45, s46, s47, s48, s49, s50, s51, s52, s53, s54, s55, s56, s57, s58, s59, s60, s61, s62, s63, s64, s65, s66, s67, s68, s69, s70, s71, s72, s73, s74, s75, s76, s77, s78, s79, s80, s81, s82, s83, s84, s85, s86, s87, s88, s89, s90, s91, s92, s93, s94, s95], []⟩ wx := by
  obtain ⟨i0, hi0, hz0, hz1, hz2⟩ := info_parts Tryz.infoStep
  have HI0 := Lib.hid hi0
  have HZ0 := Lib.hid hz0
  have HZ1 := Lib.hid hz1
  have HZ2 := Lib.hid hz2
  have HQ := Lib.hid hQ
  have HQP := Lib.hid hQp
  have OWN := Lib.hid own
  have CO := Lib.hid co
  have HLI := Lib.hid hLi
  have HNE := Lib.hid hne
  have e0 : wx.cell? ⟨bo, tn, none⟩ = some (.slice ao m cap) := co.cell hLi
  have lbo := co.lt
  have lb3 := block_lt c3
  have lbl := block_lt cl0
  have cu : IntKind.i64.wrap (tn : Int) = (tn : Int) := IntWalk.i64_in _ (by omega)
  clear hQ own co hLi hne hi0 hz0 hz1 hz2 hQp
  conv => arg 2; whnf
  refine wp_region_held_drew (S := fun W => W.cell? ⟨b3, 0, none⟩ = some (.slice (some ⟨bo, 0, none⟩) n n) ∧ W.cell? ⟨bl, 0, none⟩ = some (.int .u32 (tn : Nat)) ∧ W.cell? ⟨bl, 1, none⟩ = some (.int .u64 (wt : Nat))) (by kernel_rfl) ⟨c3, cl0, cl1⟩ (fun hHeld => ?_)
  simp only [List.size_toArray, List.length_cons, List.length_nil, Nat.reduceAdd, Array.replicate_succ, Array.replicate_zero, List.push_toArray, List.nil_append, List.cons_append]
  refine wpAnyH_take (i := 0) (oi := { dst := some 76, op := Op.fieldAddr 87 (Operand.tmp 3) 0, type := 0, pos := "sound.go:30", after := #[], guard := none }) (v := .pointer (some ⟨b3, 0, none⟩)) rfl (by kernel_rfl) (by kernel_rfl) (by kernel_rfl) (fun c a w' => HQP.out c a _ _ w') (Or.inl ⟨by rfl, ?_⟩) hHeld ?_
  · intro W hSw
    try dsimp only at hSw
    clear hSw
    clear hHeld
    go_simp
  simp only [Act.put, List.setIfInBounds_toArray, List.set_cons_zero, List.set_cons_succ]
  refine wpAnyH_take (i := 1) (oi := { dst := some 77, op := Op.load 85 (Operand.tmp 76), type := 85, pos := "sound.go:30", after := #[{ on := 0, ground := Ground.data }], guard := none }) (v := .slice (some ⟨bo, 0, none⟩) n n) rfl (by kernel_rfl) (by kernel_rfl) (by kernel_rfl) (fun c a w' => HQP.out c a _ _ w') (Or.inl ⟨by rfl, ?_⟩) hHeld ?_
  · intro W hSw
    try dsimp only at hSw
    obtain ⟨m1, m2, m3⟩ := hSw
    clear hHeld
    go_simp
  simp only [Act.put, List.setIfInBounds_toArray, List.set_cons_zero, List.set_cons_succ]
  refine wpAnyH_take (i := 2) (oi := { dst := some 78, op := Op.fieldAddr 63 (Operand.tmp 8) 0, type := 0, pos := "sound.go:30", after := #[], guard := none }) (v := .pointer (some ⟨bl, 0, none⟩)) rfl (by kernel_rfl) (by kernel_rfl) (by kernel_rfl) (fun c a w' => HQP.out c a _ _ w') (Or.inl ⟨by rfl, ?_⟩) hHeld ?_
  · intro W hSw
    try dsimp only at hSw
    clear hSw
    clear hHeld
    go_simp
  simp only [Act.put, List.setIfInBounds_toArray, List.set_cons_zero, List.set_cons_succ]
  refine wpAnyH_take (i := 3) (oi := { dst := some 79, op := Op.load 61 (Operand.tmp 78), type := 61, pos := "sound.go:30", after := #[{ on := 2, ground := Ground.data }], guard := none }) (v := .int .u32 (tn : Nat)) rfl (by kernel_rfl) (by kernel_rfl) (by kernel_rfl) (fun c a w' => HQP.out c a _ _ w') (Or.inl ⟨by rfl, ?_⟩) hHeld ?_
  · intro W hSw
    try dsimp only at hSw
    obtain ⟨m1, m2, m3⟩ := hSw
    clear hHeld
    go_simp
  simp only [Act.put, List.setIfInBounds_toArray, List.set_cons_zero, List.set_cons_succ]
  refine wpAnyH_take (i := 4) (oi := { dst := some 80, op := Op.fieldAddr 87 (Operand.tmp 3) 0, type := 0, pos := "sound.go:30", after := #[], guard := none }) (v := .pointer (some ⟨b3, 0, none⟩)) rfl (by kernel_rfl) (by kernel_rfl) (by kernel_rfl) (fun c a w' => HQP.out c a _ _ w') (Or.inl ⟨by rfl, ?_⟩) hHeld ?_
  · intro W hSw
    try dsimp only at hSw
    clear hSw
    clear hHeld
    go_simp
  simp only [Act.put, List.setIfInBounds_toArray, List.set_cons_zero, List.set_cons_succ]
  refine wpAnyH_take (i := 5) (oi := { dst := some 81, op := Op.load 85 (Operand.tmp 80), type := 85, pos := "sound.go:30", after := #[{ on := 4, ground := Ground.data }], guard := none }) (v := .slice (some ⟨bo, 0, none⟩) n n) rfl (by kernel_rfl) (by kernel_rfl) (by kernel_rfl) (fun c a w' => HQP.out c a _ _ w') (Or.inl ⟨by rfl, ?_⟩) hHeld ?_
  · intro W hSw
    try dsimp only at hSw
    obtain ⟨m1, m2, m3⟩ := hSw
    clear hHeld
    go_simp
  simp only [Act.put, List.setIfInBounds_toArray, List.set_cons_zero, List.set_cons_succ]
  refine wpAnyH_take (i := 6) (oi := { dst := some 82, op := Op.fieldAddr 63 (Operand.tmp 8) 0, type := 0, pos := "sound.go:30", after := #[], guard := none }) (v := .pointer (some ⟨bl, 0, none⟩)) rfl (by kernel_rfl) (by kernel_rfl) (by kernel_rfl) (fun c a w' => HQP.out c a _ _ w') (Or.inl ⟨by rfl, ?_⟩) hHeld ?_
  · intro W hSw
    try dsimp only at hSw
    clear hSw
    clear hHeld
    go_simp
  simp only [Act.put, List.setIfInBounds_toArray, List.set_cons_zero, List.set_cons_succ]
  refine wpAnyH_take (i := 7) (oi := { dst := some 83, op := Op.load 61 (Operand.tmp 82), type := 61, pos := "sound.go:30", after := #[{ on := 6, ground := Ground.data }], guard := none }) (v := .int .u32 (tn : Nat)) rfl (by kernel_rfl) (by kernel_rfl) (by kernel_rfl) (fun c a w' => HQP.out c a _ _ w') (Or.inl ⟨by rfl, ?_⟩) hHeld ?_
  · intro W hSw
    try dsimp only at hSw
    obtain ⟨m1, m2, m3⟩ := hSw
    clear hHeld
    go_simp
  simp only [Act.put, List.setIfInBounds_toArray, List.set_cons_zero, List.set_cons_succ]
  refine wpAnyH_take (i := 8) (oi := { dst := some 84, op := Op.indexAddr 85 (Operand.tmp 81) (Operand.tmp 83), type := 0, pos := "sound.go:30", after := #[{ on := 5, ground := Ground.data }, { on := 7, ground := Ground.data }], guard := none }) (v := .pointer (some ⟨bo, tn, none⟩)) rfl (by kernel_rfl) (by kernel_rfl) (by kernel_rfl) (fun c a w' => HQP.out c a _ _ w') (Or.inl ⟨by rfl, ?_⟩) hHeld ?_
  · intro W hSw
    try dsimp only at hSw
    clear hSw
    clear hHeld
    go_simp
  simp only [Act.put, List.setIfInBounds_toArray, List.set_cons_zero, List.set_cons_succ]
  refine wpAnyH_take (i := 10) (oi := { dst := some 86, op := Op.move (Operand.tmp 4), type := 3, pos := "sound.go:30", after := #[], guard := none }) (v := .int .i64 (r : Nat)) rfl (by kernel_rfl) (by kernel_rfl) (by kernel_rfl) (fun c a w' => HQP.out c a _ _ w') (Or.inl ⟨by rfl, ?_⟩) hHeld ?_
  · intro W hSw
    try dsimp only at hSw
    clear hSw
    clear hHeld
    go_simp
  simp only [Act.put, List.setIfInBounds_toArray, List.set_cons_zero, List.set_cons_succ]
  refine wpAnyH_take (i := 11) (oi := { dst := some 87, op := Op.fieldAddr 63 (Operand.tmp 8) 1, type := 0, pos := "sound.go:30", after := #[], guard := none }) (v := .pointer (some ⟨bl, 1, none⟩)) rfl (by kernel_rfl) (by kernel_rfl) (by kernel_rfl) (fun c a w' => HQP.out c a _ _ w') (Or.inl ⟨by rfl, ?_⟩) hHeld ?_
  · intro W hSw
    try dsimp only at hSw
    clear hSw
    clear hHeld
    go_simp
  simp only [Act.put, List.setIfInBounds_toArray, List.set_cons_zero, List.set_cons_succ]
  refine wpAnyH_take (i := 12) (oi := { dst := some 88, op := Op.load 35 (Operand.tmp 87), type := 35, pos := "sound.go:30", after := #[{ on := 11, ground := Ground.data }], guard := none }) (v := .int .u64 (wt : Nat)) rfl (by kernel_rfl) (by kernel_rfl) (by kernel_rfl) (fun c a w' => HQP.out c a _ _ w') (Or.inl ⟨by rfl, ?_⟩) hHeld ?_
  · intro W hSw
    try dsimp only at hSw
    obtain ⟨m1, m2, m3⟩ := hSw
    clear hHeld
    go_simp
  simp only [Act.put, List.setIfInBounds_toArray, List.set_cons_zero, List.set_cons_succ]
  refine wpAnyH_take (i := 13) (oi := { dst := some 89, op := Op.build 139 #[(0, Operand.tmp 86), (1, Operand.tmp 88)], type := 139, pos := "sound.go:30", after := #[{ on := 10, ground := Ground.data }, { on := 12, ground := Ground.data }], guard := none }) (v := .agg #[.int .i64 (r : Nat), .int .u64 (wt : Nat)]) rfl (by kernel_rfl) (by kernel_rfl) (by kernel_rfl) (fun c a w' => HQP.out c a _ _ w') (Or.inl ⟨by rfl, ?_⟩) hHeld ?_
  · intro W hSw
    try dsimp only at hSw
    clear hSw
    clear hHeld
    go_simp
  simp only [Act.put, List.setIfInBounds_toArray, List.set_cons_zero, List.set_cons_succ]
  refine wpAnyH_ready (rs := [9, 14]) (by kernel_rfl) (by simp) ?_
  refine AllReadyH.cons (o := { dst := some 85, op := Op.load 137 (Operand.tmp 84), type := 137, pos := "sound.go:30", after := #[{ on := 8, ground := Ground.data }], guard := none }) rfl (fun K hK => ?_) (AllReadyH.cons (o := { dst := some 90, op := Op.buildSlice 137 1 #[(0, Operand.tmp 89)], type := 137, pos := "sound.go:30", after := #[{ on := 13, ground := Ground.data }], guard := none }) rfl (fun K hK => ?_) AllReadyH.nil)
  · go_simp
    refine hK.out _ _ hHeld (fun hHeld => ?_)
    clear hK K
    simp only [Act.put, List.setIfInBounds_toArray, List.set_cons_zero, List.set_cons_succ]
    refine wpAnyH_ready (rs := [14]) (by kernel_rfl) (by simp) (AllReadyH.cons (o := { dst := some 90, op := Op.buildSlice 137 1 #[(0, Operand.tmp 89)], type := 137, pos := "sound.go:30", after := #[{ on := 13, ground := Ground.data }], guard := none }) rfl (fun K hK => ?_) AllReadyH.nil)
    go_simp
    refine hK.out _ _ ⟨World.cell?_alloc_lt _ _ ⟨b3, 0, none⟩ lb3 ▸ c3, World.cell?_alloc_lt _ _ ⟨bl, 0, none⟩ lbl ▸ cl0, World.cell?_alloc_lt _ _ ⟨bl, 1, none⟩ lbl ▸ cl1⟩ (fun hHeld => ?_)
    clear hK K
    simp only [Act.put, List.setIfInBounds_toArray, List.set_cons_zero, List.set_cons_succ]
    refine wpAnyH_ready (rs := [15]) (by kernel_rfl) (by simp) (AllReadyH.cons (o := { dst := some 91, op := Op.call { callee := Callee.builtin Builtin.append, args := #[Operand.tmp 85, Operand.tmp 90], argTypes := #[137, 137] }, type := 137, pos := "sound.go:30", after := #[{ on := 9, ground := Ground.data }, { on := 14, ground := Ground.data }], guard := none }) rfl (fun K hK => ?_) AllReadyH.nil)
    refine step_append_lies _ (by rfl) _ _ _ (by rfl) 0 139 i0 _ 2 16 Tryz.underlying137 HI0.out HZ0.out HZ1.out HZ2.out rfl (by decide) (.slice ao m cap) m xs (by rfl) (own_kept (bs := []) (own_drew OWN.out) ((Only.refl [] wx.drew).alloc _) (fun q _ => by simp))
      ⟨wx.heap.size, 0, none⟩ 1 1 [.int .i64 (r : Nat), .int .u64 (wt : Nat)] (by rfl) (by rfl) (World.news_of_block (cs := #[.int .i64 (r : Nat), .int .u64 (wt : Nat)]) (t := 139) (fr := (0, 0)) (heap_alloc_new wx.drew _)) (fun u hu => by simp only [List.mem_cons, List.not_mem_nil, or_false] at hu; rcases hu with rfl | rfl <;> rfl) (by omega) (by unfold maxLen; omega) (by omega) (Nat.zero_le _) (wx.heap.size + 1) (by simp) ?_
    intro gg cap5 w5 hown5 hgrow hat hlt
    have ho5 : Only (Value.slice ao m cap).ownBlock.toList (wx.drew.alloc (.cells #[.int .i64 (r : Nat), .int .u64 (wt : Nat)] 139)) w5 := ⟨hgrow.os, hgrow.tape, hgrow.output, hgrow.size, fun q hq hn => hgrow.block q hq (fun e => hn (by simp [← e]))⟩
    have m3 := ho5.cell (World.cell?_alloc_lt _ _ ⟨b3, 0, none⟩ lb3 ▸ c3) (fun hq => by have := (HNE.out _ (by simpa using hq)).1; omega)
    have ml0 := ho5.cell (World.cell?_alloc_lt _ _ ⟨bl, 0, none⟩ lbl ▸ cl0) (fun hq => by have := (HNE.out _ (by simpa using hq)).2.1; omega)
    have ml1 := ho5.cell (World.cell?_alloc_lt _ _ ⟨bl, 1, none⟩ lbl ▸ cl1) (fun hq => by have := (HNE.out _ (by simpa using hq)).2.1; omega)
    have co5 := (CO.out.drew.alloc (.cells #[.int .i64 (r : Nat), .int .u64 (wt : Nat)] 139)).kept ho5 (fun hq => by have := (HNE.out _ (by simpa using hq)).2.2; omega)
    have HO5 := Lib.hid ho5
    have OWN5 := Lib.hid hown5
    have HAT := Lib.hid hat
    clear hown5 hgrow hat ho5
    refine hK.out _ _ ⟨m3, ml0, ml1⟩ (fun hHeld => ?_)
    clear hK K
    simp only [Act.put, List.setIfInBounds_toArray, List.set_cons_zero, List.set_cons_succ]
    have y5 := co5.cell HLI.out
    have f5 := co5.frozen tn
    have l5 := co5.lt
    have CO5 := Lib.hid co5
    clear co5
    refine wpAnyH_take (i := 16) (oi := { dst := some 92, op := Op.indexAddr 85 (Operand.tmp 77) (Operand.tmp 79), type := 0, pos := "sound.go:30", after := #[{ on := 1, ground := Ground.data }, { on := 3, ground := Ground.data }, { on := 0, ground := Ground.phase }, { on := 1, ground := Ground.phase }, { on := 2, ground := Ground.phase }, { on := 3, ground := Ground.phase }, { on := 4, ground := Ground.phase }, { on := 5, ground := Ground.phase }, { on := 6, ground := Ground.phase }, { on := 7, ground := Ground.phase }, { on := 8, ground := Ground.phase }, { on := 9, ground := Ground.phase }, { on := 10, ground := Ground.phase }, { on := 11, ground := Ground.phase }, { on := 12, ground := Ground.phase }, { on := 13, ground := Ground.phase }, { on := 14, ground := Ground.phase }, { on := 15, ground := Ground.phase }], guard := none }) (v := .pointer (some ⟨bo, tn, none⟩)) rfl (by kernel_rfl) (by kernel_rfl) (by kernel_rfl) (fun c a w' => HQP.out c a _ _ w') (Or.inl ⟨by rfl, ?_⟩) hHeld ?_
    · intro W hSw
      try dsimp only at hSw
      clear hSw
      clear hHeld
      go_simp
    simp only [Act.put, List.setIfInBounds_toArray, List.set_cons_zero, List.set_cons_succ]
    refine wpAnyH_ready (rs := [17]) (by kernel_rfl) (by simp) (AllReadyH.cons (o := { dst := none, op := Op.store 137 (Operand.tmp 92) (Operand.tmp 91), type := 0, pos := "sound.go:30", after := #[{ on := 16, ground := Ground.data }, { on := 15, ground := Ground.data }, { on := 15, ground := Ground.chain }, { on := 0, ground := Ground.phase }, { on := 1, ground := Ground.phase }, { on := 2, ground := Ground.phase }, { on := 3, ground := Ground.phase }, { on := 4, ground := Ground.phase }, { on := 5, ground := Ground.phase }, { on := 6, ground := Ground.phase }, { on := 7, ground := Ground.phase }, { on := 8, ground := Ground.phase }, { on := 9, ground := Ground.phase }, { on := 10, ground := Ground.phase }, { on := 11, ground := Ground.phase }, { on := 12, ground := Ground.phase }, { on := 13, ground := Ground.phase }, { on := 14, ground := Ground.phase }, { on := 15, ground := Ground.phase }], guard := none }) rfl (fun K hK => ?_) AllReadyH.nil)
    go_simp
    refine hK.out _ _ ⟨by rw [World.cell?_setCell_far _ _ _ _ (by simpa using h3o.symm)]; exact m3, by rw [World.cell?_setCell_far _ _ _ _ (by simpa using hlo.symm)]; exact ml0, by rw [World.cell?_setCell_far _ _ _ _ (by simpa using hlo.symm)]; exact ml1⟩ (fun hHeld => ?_)
    clear hK K hHeld
    try simp only [Act.put, List.setIfInBounds_toArray, List.set_cons_zero, List.set_cons_succ]
    refine wpAnyH_done (by kernel_rfl) ?_ _
    refine HQ.out _ _ _ _ _ _ _ _ _ _ _ _ _ _ _ _ _ _ _ _ (own_kept (bs := [bo]) OWN5.out ((Only.refl [bo] w5).setCell (.inl (by simp)) _) ?_) ?_ (CO5.out.set tn _) ?_
    · intro q hq
      simp only [Value.ownBlock, Option.some.injEq] at hq
      subst hq
      simp only [List.mem_singleton]
      rcases HAT.out with h1 | h1
      · exact (HNE.out _ h1).2.2
      · omega
    · intro q hq
      simp only [Value.ownBlock, Option.some.injEq] at hq
      subst hq
      rcases HAT.out with h1 | h1
      · exact .inl h1
      · exact .inr (by omega)
    · refine Only.setCell ?_ (p := ⟨bo, tn, none⟩) (.inl (by simp)) _
      exact (((Only.refl (bo :: (Value.slice ao m cap).ownBlock.toList) wx).drew).alloc (.cells #[.int .i64 (r : Nat), .int .u64 (wt : Nat)] 139)).trans HO5.out (fun q hq => .inl (List.mem_cons_of_mem _ hq))
  · go_simp
    refine hK.out _ _ ⟨World.cell?_alloc_lt _ _ ⟨b3, 0, none⟩ lb3 ▸ c3, World.cell?_alloc_lt _ _ ⟨bl, 0, none⟩ lbl ▸ cl0, World.cell?_alloc_lt _ _ ⟨bl, 1, none⟩ lbl ▸ cl1⟩ (fun hHeld => ?_)
    clear hK K
    simp only [Act.put, List.setIfInBounds_toArray, List.set_cons_zero, List.set_cons_succ]
    refine wpAnyH_ready (rs := [9]) (by kernel_rfl) (by simp) (AllReadyH.cons (o := { dst := some 85, op := Op.load 137 (Operand.tmp 84), type := 137, pos := "sound.go:30", after := #[{ on := 8, ground := Ground.data }], guard := none }) rfl (fun K hK => ?_) AllReadyH.nil)
    go_simp
    refine hK.out _ _ hHeld (fun hHeld => ?_)
    clear hK K
    simp only [Act.put, List.setIfInBounds_toArray, List.set_cons_zero, List.set_cons_succ]
    refine wpAnyH_ready (rs := [15]) (by kernel_rfl) (by simp) (AllReadyH.cons (o := { dst := some 91, op := Op.call { callee := Callee.builtin Builtin.append, args := #[Operand.tmp 85, Operand.tmp 90], argTypes := #[137, 137] }, type := 137, pos := "sound.go:30", after := #[{ on := 9, ground := Ground.data }, { on := 14, ground := Ground.data }], guard := none }) rfl (fun K hK => ?_) AllReadyH.nil)
    refine step_append_lies _ (by rfl) _ _ _ (by rfl) 0 139 i0 _ 2 16 Tryz.underlying137 HI0.out HZ0.out HZ1.out HZ2.out rfl (by decide) (.slice ao m cap) m xs (by rfl) (own_kept (bs := []) (own_drew OWN.out) ((Only.refl [] wx.drew).alloc _) (fun q _ => by simp))
      ⟨wx.heap.size, 0, none⟩ 1 1 [.int .i64 (r : Nat), .int .u64 (wt : Nat)] (by rfl) (by rfl) (World.news_of_block (cs := #[.int .i64 (r : Nat), .int .u64 (wt : Nat)]) (t := 139) (fr := (0, 0)) (heap_alloc_new wx.drew _)) (fun u hu => by simp only [List.mem_cons, List.not_mem_nil, or_false] at hu; rcases hu with rfl | rfl <;> rfl) (by omega) (by unfold maxLen; omega) (by omega) (Nat.zero_le _) (wx.heap.size + 1) (by simp) ?_
    intro gg cap5 w5 hown5 hgrow hat hlt
    have ho5 : Only (Value.slice ao m cap).ownBlock.toList (wx.drew.alloc (.cells #[.int .i64 (r : Nat), .int .u64 (wt : Nat)] 139)) w5 := ⟨hgrow.os, hgrow.tape, hgrow.output, hgrow.size, fun q hq hn => hgrow.block q hq (fun e => hn (by simp [← e]))⟩
    have m3 := ho5.cell (World.cell?_alloc_lt _ _ ⟨b3, 0, none⟩ lb3 ▸ c3) (fun hq => by have := (HNE.out _ (by simpa using hq)).1; omega)
    have ml0 := ho5.cell (World.cell?_alloc_lt _ _ ⟨bl, 0, none⟩ lbl ▸ cl0) (fun hq => by have := (HNE.out _ (by simpa using hq)).2.1; omega)
    have ml1 := ho5.cell (World.cell?_alloc_lt _ _ ⟨bl, 1, none⟩ lbl ▸ cl1) (fun hq => by have := (HNE.out _ (by simpa using hq)).2.1; omega)
    have co5 := (CO.out.drew.alloc (.cells #[.int .i64 (r : Nat), .int .u64 (wt : Nat)] 139)).kept ho5 (fun hq => by have := (HNE.out _ (by simpa using hq)).2.2; omega)
    have HO5 := Lib.hid ho5
    have OWN5 := Lib.hid hown5
    have HAT := Lib.hid hat
    clear hown5 hgrow hat ho5
    refine hK.out _ _ ⟨m3, ml0, ml1⟩ (fun hHeld => ?_)
    clear hK K
    simp only [Act.put, List.setIfInBounds_toArray, List.set_cons_zero, List.set_cons_succ]
    have y5 := co5.cell HLI.out
    have f5 := co5.frozen tn
    have l5 := co5.lt
    have CO5 := Lib.hid co5
    clear co5
    refine wpAnyH_take (i := 16) (oi := { dst := some 92, op := Op.indexAddr 85 (Operand.tmp 77) (Operand.tmp 79), type := 0, pos := "sound.go:30", after := #[{ on := 1, ground := Ground.data }, { on := 3, ground := Ground.data }, { on := 0, ground := Ground.phase }, { on := 1, ground := Ground.phase }, { on := 2, ground := Ground.phase }, { on := 3, ground := Ground.phase }, { on := 4, ground := Ground.phase }, { on := 5, ground := Ground.phase }, { on := 6, ground := Ground.phase }, { on := 7, ground := Ground.phase }, { on := 8, ground := Ground.phase }, { on := 9, ground := Ground.phase }, { on := 10, ground := Ground.phase }, { on := 11, ground := Ground.phase }, { on := 12, ground := Ground.phase }, { on := 13, ground := Ground.phase }, { on := 14, ground := Ground.phase }, { on := 15, ground := Ground.phase }], guard := none }) (v := .pointer (some ⟨bo, tn, none⟩)) rfl (by kernel_rfl) (by kernel_rfl) (by kernel_rfl) (fun c a w' => HQP.out c a _ _ w') (Or.inl ⟨by rfl, ?_⟩) hHeld ?_
    · intro W hSw
      try dsimp only at hSw
      clear hSw
      clear hHeld
      go_simp
    simp only [Act.put, List.setIfInBounds_toArray, List.set_cons_zero, List.set_cons_succ]
    refine wpAnyH_ready (rs := [17]) (by kernel_rfl) (by simp) (AllReadyH.cons (o := { dst := none, op := Op.store 137 (Operand.tmp 92) (Operand.tmp 91), type := 0, pos := "sound.go:30", after := #[{ on := 16, ground := Ground.data }, { on := 15, ground := Ground.data }, { on := 15, ground := Ground.chain }, { on := 0, ground := Ground.phase }, { on := 1, ground := Ground.phase }, { on := 2, ground := Ground.phase }, { on := 3, ground := Ground.phase }, { on := 4, ground := Ground.phase }, { on := 5, ground := Ground.phase }, { on := 6, ground := Ground.phase }, { on := 7, ground := Ground.phase }, { on := 8, ground := Ground.phase }, { on := 9, ground := Ground.phase }, { on := 10, ground := Ground.phase }, { on := 11, ground := Ground.phase }, { on := 12, ground := Ground.phase }, { on := 13, ground := Ground.phase }, { on := 14, ground := Ground.phase }, { on := 15, ground := Ground.phase }], guard := none }) rfl (fun K hK => ?_) AllReadyH.nil)
    go_simp
    refine hK.out _ _ ⟨by rw [World.cell?_setCell_far _ _ _ _ (by simpa using h3o.symm)]; exact m3, by rw [World.cell?_setCell_far _ _ _ _ (by simpa using hlo.symm)]; exact ml0, by rw [World.cell?_setCell_far _ _ _ _ (by simpa using hlo.symm)]; exact ml1⟩ (fun hHeld => ?_)
    clear hK K hHeld
    try simp only [Act.put, List.setIfInBounds_toArray, List.set_cons_zero, List.set_cons_succ]
    refine wpAnyH_done (by kernel_rfl) ?_ _
    refine HQ.out _ _ _ _ _ _ _ _ _ _ _ _ _ _ _ _ _ _ _ _ (own_kept (bs := [bo]) OWN5.out ((Only.refl [bo] w5).setCell (.inl (by simp)) _) ?_) ?_ (CO5.out.set tn _) ?_
    · intro q hq
      simp only [Value.ownBlock, Option.some.injEq] at hq
      subst hq
      simp only [List.mem_singleton]
      rcases HAT.out with h1 | h1
      · exact (HNE.out _ h1).2.2
      · omega
    · intro q hq
      simp only [Value.ownBlock, Option.some.injEq] at hq
      subst hq
      rcases HAT.out with h1 | h1
      · exact .inl h1
      · exact .inr (by omega)
    · refine Only.setCell ?_ (p := ⟨bo, tn, none⟩) (.inl (by simp)) _
      exact (((Only.refl (bo :: (Value.slice ao m cap).ownBlock.toList) wx).drew).alloc (.cells #[.int .i64 (r : Nat), .int .u64 (wt : Nat)] 139)).trans HO5.out (fun q hq => .inl (List.mem_cons_of_mem _ hq))
end Go.Proofs.YtblkkjfpggcgfaaGreatDoor
