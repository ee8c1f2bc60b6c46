/- The web of a hierarchy: a step is laid behind a rank's list. -/
import Derived.Test.YtjbphoophgbmiaaDoorM9
import Derived.Deep.AppendLies
import Derived.Test.YtjbphoophgbmiaaDoorM3
import Derived.Test.YtjbphoophgbmiaaDoorM11
import Derived.BigQuiet
namespace Go.Proofs.YtjbphoophgbmiaaDoor
open Go.ChangeShapes Go.WideShapes Go.ChangeAt Go.RowKit Go.Joins Go.Deep

def stepCells (s : Nat × Nat) : List Value := [.int .i64 (s.1 : Nat), .int .u64 (s.2 : Nat)]
theorem stepCells_len (s : Nat × Nat) : (stepCells s).length = 2 := rfl
noncomputable def weaveBody : Code := Tryd.f49.body.getD .skip
theorem Tryd.infoStep : (Tryd.prog.info? 142).map (fun i => (i.zero, i.size, i.bytes)) = some (some (.agg #[.int .i64 0, .int .u64 0]), 2, 16) := by kernel_rfl
theorem Tryd.infoSteps : (Tryd.prog.info? 140).map (fun i => (i.zero, i.size, i.bytes)) = some (some (.slice none 0 0), 1, 24) := by kernel_rfl

set_option linter.unusedSimpArgs false in
set_option maxRecDepth 100000 in
set_option maxHeartbeats 8000000 in
theorem weave_app8 {s0 s1 s2 s5 s7 s8 s9 s10 s11 s12 s13 s14 s15 s16 s17 s18 s19 s20 s21 s22 s23 s24 s25 s26 s27 s28 s29 s30 s31 s32 s33 s34 s35 s36 s37 s38 s39 s40 s41 s42 s43 s44 s45 s46 s47 s48 s49 s50 s51 s52 s53 s54 s55 s56 s57 s58 s59 s60 s61 s62 s63 s64 s65 s66 s67 s68 s69 s70 s71 s72 s73 s74 s75 s76 s77 s78 s79 s80 s81 s82 s83 s84 s85 s86 s87 s88 s89 s90 s91 s92 s93 s94 s95 : Value} {wx : World} {b3 bl bo r tn wt n m cap : Nat} {ao : Option Addr} {L xs : List Value} (Q : Exit → Act → World → Prop)
    (hQp : ∀ c (a : Act) (t : Option Tmp) (v : Value) w', Q (.panic c) (a.put t v) w' → Q (.panic c) a w')
    (c3 : wx.cell? ⟨b3, 0, none⟩ = some (.slice (some ⟨bo, 0, none⟩) n n)) (cl0 : wx.cell? ⟨bl, 0, none⟩ = some (.int .u32 (tn : Nat))) (cl1 : wx.cell? ⟨bl, 1, none⟩ = some (.int .u64 (wt : Nat)))
    (co : Cells wx bo 140 L) (hLi : L[r]? = some (.slice ao m cap)) (hin : r < n) (own : wx.ownsRow 0 142 2 (.slice ao m cap) m xs)
    (hne : ∀ q, (Value.slice ao m cap).ownBlock = some q → q ≠ b3 ∧ q ≠ bl ∧ q ≠ bo) (h3o : b3 ≠ bo) (hlo : bl ≠ bo) (hm : m ≤ 1048576) (hto : tn < 4294967296)
    (hQ : ∀ (t39 t40 t41 t42 t43 t44 t45 t46 t47 t48 t49 t50 t51 t52 t53 t54 t55 : Value) (ao' : Option Addr) (cap' : Nat) (w' : World), w'.ownsRow 0 142 2 (.slice ao' (m + 1) cap') (m + 1) (xs ++ [.int .i64 (tn : Nat), .int .u64 (wt : Nat)]) →
      (∀ q, (Value.slice ao' (m + 1) cap').ownBlock = some q → (Value.slice ao m cap).ownBlock = some q ∨ wx.heap.size ≤ q) → Cells w' bo 140 (L.set r (.slice ao' (m + 1) cap')) → Only (bo :: (Value.slice ao m cap).ownBlock.toList) wx w' → Q .normal ⟨#[s0, s1, s2, .pointer (some ⟨b3, 0, none⟩), .int .i64 (r : Nat), s5, .pointer (some ⟨bl, 0, none⟩), s7, s8, s9, s10, s11, s12, s13, s14, s15, s16, s17, s18, s19, s20, s21, s22, s23, s24, s25, s26, s27, s28, s29, s30, s31, s32, s33, s34, s35, s36, s37, s38, t39, t40, t41, t42, t43, t44, t45, t46, t47, t48, t49, t50, t51, t52, t53, t54, t55, s56, s57, s58, s59, s60, s61, s62, s63, s64, s65, s66, s67, s68, s69, s70, s71, s72, s73, s74, s75, s76, s77, s78, s79, s80, s81, s82, s83, s84, s85, s86, s87, s88, s89, s90, s91, s92, s93, s94, s95], []⟩ w') :
    Code.wp Tryd.prog ((regionAt 8 weaveBody).getD .skip) Q ⟨#[s0, s1, s2, .pointer (some ⟨b3, 0, none⟩), .int .i64 (r : Nat), s5, .pointer (some ⟨bl, 0, none⟩), s7, s8, s9, s10, s11, s12, s13, s14, s15, s16, s17, s18, s19, s20, s21, s22, s23, s24, s25, s26, s27, s28, s29, s30, s31, s32, s33, s34, s35, s36, s37, s38, s39, s40, s41, s42, s43, s44, s45, s46, s47, s48, s49, s50, s51, s52, s53, s54, s55, s56, s57, s58, s59, s60, s61, s62, s63, s64, s65, s66, s67, s68, s69, s70, s71, s72, s73, s74, s75, s76, s77, s78, s79, s80, s81, s82, s83, s84, s85, s86, s87, s88, s89, s90, s91, s92, s93, s94, s95], []⟩ wx := by
  obtain ⟨i0, hi0, hz0, hz1, hz2⟩ := info_parts Tryd.infoStep
  have HI0 := Lib.hid hi0
  have HZ0 := Lib.hid hz0
  have HZ1 := Lib.hid hz1
  have HZ2 := Lib.hid hz2
  have HQ := Lib.hid hQ
  have HQP := Lib.hid hQp
  have OWN := Lib.hid own
  have CO := Lib.hid co
  have HLI := Lib.hid hLi
  have HNE := Lib.hid hne
  have e0 : wx.cell? ⟨bo, r, none⟩ = some (.slice ao m cap) := co.cell hLi
  have lbo := co.lt
  have lb3 := block_lt c3
  have lbl := block_lt cl0
  have cu : IntKind.i64.wrap (tn : Int) = (tn : Int) := IntWalk.i64_in _ (by omega)
  clear hQ own co hLi hne hi0 hz0 hz1 hz2 hQp
  conv => arg 2; whnf
  refine wp_region_held_drew (S := fun W => W.cell? ⟨b3, 0, none⟩ = some (.slice (some ⟨bo, 0, none⟩) n n) ∧ W.cell? ⟨bl, 0, none⟩ = some (.int .u32 (tn : Nat)) ∧ W.cell? ⟨bl, 1, none⟩ = some (.int .u64 (wt : Nat))) (by kernel_rfl) ⟨c3, cl0, cl1⟩ (fun hHeld => ?_)
  simp only [List.size_toArray, List.length_cons, List.length_nil, Nat.reduceAdd, Array.replicate_succ, Array.replicate_zero, List.push_toArray, List.nil_append, List.cons_append]
  refine wpAnyH_take (i := 0) (oi := { dst := some 39, op := Op.fieldAddr 92 (Operand.tmp 3) 0, type := 0, pos := "sound.go:27", after := #[], guard := none }) (v := .pointer (some ⟨b3, 0, none⟩)) rfl (by kernel_rfl) (by kernel_rfl) (by kernel_rfl) (fun c a w' => HQP.out c a _ _ w') (Or.inl ⟨by rfl, ?_⟩) hHeld ?_
  · intro W hSw
    try dsimp only at hSw
    clear hSw
    clear hHeld
    go_simp
  simp only [Act.put, List.setIfInBounds_toArray, List.set_cons_zero, List.set_cons_succ]
  refine wpAnyH_take (i := 1) (oi := { dst := some 40, op := Op.load 90 (Operand.tmp 39), type := 90, pos := "sound.go:27", after := #[{ on := 0, ground := Ground.data }], guard := none }) (v := .slice (some ⟨bo, 0, none⟩) n n) rfl (by kernel_rfl) (by kernel_rfl) (by kernel_rfl) (fun c a w' => HQP.out c a _ _ w') (Or.inl ⟨by rfl, ?_⟩) hHeld ?_
  · intro W hSw
    try dsimp only at hSw
    obtain ⟨m1, m2, m3⟩ := hSw
    clear hHeld
    go_simp
  simp only [Act.put, List.setIfInBounds_toArray, List.set_cons_zero, List.set_cons_succ]
  refine wpAnyH_take (i := 2) (oi := { dst := some 41, op := Op.move (Operand.tmp 4), type := 3, pos := "sound.go:27", after := #[], guard := none }) (v := .int .i64 (r : Nat)) rfl (by kernel_rfl) (by kernel_rfl) (by kernel_rfl) (fun c a w' => HQP.out c a _ _ w') (Or.inl ⟨by rfl, ?_⟩) hHeld ?_
  · intro W hSw
    try dsimp only at hSw
    clear hSw
    clear hHeld
    go_simp
  simp only [Act.put, List.setIfInBounds_toArray, List.set_cons_zero, List.set_cons_succ]
  refine wpAnyH_take (i := 3) (oi := { dst := some 42, op := Op.fieldAddr 92 (Operand.tmp 3) 0, type := 0, pos := "sound.go:27", after := #[], guard := none }) (v := .pointer (some ⟨b3, 0, none⟩)) rfl (by kernel_rfl) (by kernel_rfl) (by kernel_rfl) (fun c a w' => HQP.out c a _ _ w') (Or.inl ⟨by rfl, ?_⟩) hHeld ?_
  · intro W hSw
    try dsimp only at hSw
    clear hSw
    clear hHeld
    go_simp
  simp only [Act.put, List.setIfInBounds_toArray, List.set_cons_zero, List.set_cons_succ]
  refine wpAnyH_take (i := 4) (oi := { dst := some 43, op := Op.load 90 (Operand.tmp 42), type := 90, pos := "sound.go:27", after := #[{ on := 3, ground := Ground.data }], guard := none }) (v := .slice (some ⟨bo, 0, none⟩) n n) rfl (by kernel_rfl) (by kernel_rfl) (by kernel_rfl) (fun c a w' => HQP.out c a _ _ w') (Or.inl ⟨by rfl, ?_⟩) hHeld ?_
  · intro W hSw
    try dsimp only at hSw
    obtain ⟨m1, m2, m3⟩ := hSw
    clear hHeld
    go_simp
  simp only [Act.put, List.setIfInBounds_toArray, List.set_cons_zero, List.set_cons_succ]
  refine wpAnyH_take (i := 5) (oi := { dst := some 44, op := Op.move (Operand.tmp 4), type := 3, pos := "sound.go:27", after := #[], guard := none }) (v := .int .i64 (r : Nat)) rfl (by kernel_rfl) (by kernel_rfl) (by kernel_rfl) (fun c a w' => HQP.out c a _ _ w') (Or.inl ⟨by rfl, ?_⟩) hHeld ?_
  · intro W hSw
    try dsimp only at hSw
    clear hSw
    clear hHeld
    go_simp
  simp only [Act.put, List.setIfInBounds_toArray, List.set_cons_zero, List.set_cons_succ]
  refine wpAnyH_take (i := 6) (oi := { dst := some 45, op := Op.indexAddr 90 (Operand.tmp 43) (Operand.tmp 44), type := 0, pos := "sound.go:27", after := #[{ on := 4, ground := Ground.data }, { on := 5, ground := Ground.data }], guard := none }) (v := .pointer (some ⟨bo, r, none⟩)) rfl (by kernel_rfl) (by kernel_rfl) (by kernel_rfl) (fun c a w' => HQP.out c a _ _ w') (Or.inl ⟨by rfl, ?_⟩) hHeld ?_
  · intro W hSw
    try dsimp only at hSw
    clear hSw
    clear hHeld
    go_simp
  simp only [Act.put, List.setIfInBounds_toArray, List.set_cons_zero, List.set_cons_succ]
  refine wpAnyH_take (i := 8) (oi := { dst := some 47, op := Op.fieldAddr 39 (Operand.tmp 6) 0, type := 0, pos := "sound.go:27", after := #[], guard := none }) (v := .pointer (some ⟨bl, 0, none⟩)) rfl (by kernel_rfl) (by kernel_rfl) (by kernel_rfl) (fun c a w' => HQP.out c a _ _ w') (Or.inl ⟨by rfl, ?_⟩) hHeld ?_
  · intro W hSw
    try dsimp only at hSw
    clear hSw
    clear hHeld
    go_simp
  simp only [Act.put, List.setIfInBounds_toArray, List.set_cons_zero, List.set_cons_succ]
  refine wpAnyH_take (i := 9) (oi := { dst := some 48, op := Op.load 36 (Operand.tmp 47), type := 36, pos := "sound.go:27", after := #[{ on := 8, ground := Ground.data }], guard := none }) (v := .int .u32 (tn : Nat)) rfl (by kernel_rfl) (by kernel_rfl) (by kernel_rfl) (fun c a w' => HQP.out c a _ _ w') (Or.inl ⟨by rfl, ?_⟩) hHeld ?_
  · intro W hSw
    try dsimp only at hSw
    obtain ⟨m1, m2, m3⟩ := hSw
    clear hHeld
    go_simp
  simp only [Act.put, List.setIfInBounds_toArray, List.set_cons_zero, List.set_cons_succ]
  refine wpAnyH_take (i := 10) (oi := { dst := some 49, op := Op.convert 36 3 (Operand.tmp 48), type := 3, pos := "sound.go:27", after := #[{ on := 9, ground := Ground.data }], guard := none }) (v := .int .i64 (tn : Nat)) rfl (by kernel_rfl) (by kernel_rfl) (by kernel_rfl) (fun c a w' => HQP.out c a _ _ w') (Or.inl ⟨by rfl, ?_⟩) hHeld ?_
  · intro W hSw
    try dsimp only at hSw
    clear hSw
    clear hHeld
    go_simp
  simp only [Act.put, List.setIfInBounds_toArray, List.set_cons_zero, List.set_cons_succ]
  refine wpAnyH_take (i := 11) (oi := { dst := some 50, op := Op.fieldAddr 39 (Operand.tmp 6) 1, type := 0, pos := "sound.go:27", after := #[], guard := none }) (v := .pointer (some ⟨bl, 1, none⟩)) rfl (by kernel_rfl) (by kernel_rfl) (by kernel_rfl) (fun c a w' => HQP.out c a _ _ w') (Or.inl ⟨by rfl, ?_⟩) hHeld ?_
  · intro W hSw
    try dsimp only at hSw
    clear hSw
    clear hHeld
    go_simp
  simp only [Act.put, List.setIfInBounds_toArray, List.set_cons_zero, List.set_cons_succ]
  refine wpAnyH_take (i := 12) (oi := { dst := some 51, op := Op.load 37 (Operand.tmp 50), type := 37, pos := "sound.go:27", after := #[{ on := 11, ground := Ground.data }], guard := none }) (v := .int .u64 (wt : Nat)) rfl (by kernel_rfl) (by kernel_rfl) (by kernel_rfl) (fun c a w' => HQP.out c a _ _ w') (Or.inl ⟨by rfl, ?_⟩) hHeld ?_
  · intro W hSw
    try dsimp only at hSw
    obtain ⟨m1, m2, m3⟩ := hSw
    clear hHeld
    go_simp
  simp only [Act.put, List.setIfInBounds_toArray, List.set_cons_zero, List.set_cons_succ]
  refine wpAnyH_take (i := 13) (oi := { dst := some 52, op := Op.build 142 #[(0, Operand.tmp 49), (1, Operand.tmp 51)], type := 142, pos := "sound.go:27", after := #[{ on := 10, ground := Ground.data }, { on := 12, ground := Ground.data }], guard := none }) (v := .agg #[.int .i64 (tn : Nat), .int .u64 (wt : Nat)]) rfl (by kernel_rfl) (by kernel_rfl) (by kernel_rfl) (fun c a w' => HQP.out c a _ _ w') (Or.inl ⟨by rfl, ?_⟩) hHeld ?_
  · intro W hSw
    try dsimp only at hSw
    clear hSw
    clear hHeld
    go_simp
  simp only [Act.put, List.setIfInBounds_toArray, List.set_cons_zero, List.set_cons_succ]
  refine wpAnyH_ready (rs := [7, 14]) (by kernel_rfl) (by simp) ?_
  refine AllReadyH.cons (o := { dst := some 46, op := Op.load 140 (Operand.tmp 45), type := 140, pos := "sound.go:27", after := #[{ on := 6, ground := Ground.data }], guard := none }) rfl (fun K hK => ?_) (AllReadyH.cons (o := { dst := some 53, op := Op.buildSlice 140 1 #[(0, Operand.tmp 52)], type := 140, pos := "sound.go:27", after := #[{ on := 13, ground := Ground.data }], guard := none }) rfl (fun K hK => ?_) AllReadyH.nil)
  · go_simp
    refine hK.out _ _ hHeld (fun hHeld => ?_)
    clear hK K
    simp only [Act.put, List.setIfInBounds_toArray, List.set_cons_zero, List.set_cons_succ]
    refine wpAnyH_ready (rs := [14]) (by kernel_rfl) (by simp) (AllReadyH.cons (o := { dst := some 53, op := Op.buildSlice 140 1 #[(0, Operand.tmp 52)], type := 140, pos := "sound.go:27", after := #[{ on := 13, ground := Ground.data }], guard := none }) rfl (fun K hK => ?_) AllReadyH.nil)
    go_simp
    refine hK.out _ _ ⟨World.cell?_alloc_lt _ _ ⟨b3, 0, none⟩ lb3 ▸ c3, World.cell?_alloc_lt _ _ ⟨bl, 0, none⟩ lbl ▸ cl0, World.cell?_alloc_lt _ _ ⟨bl, 1, none⟩ lbl ▸ cl1⟩ (fun hHeld => ?_)
    clear hK K
    simp only [Act.put, List.setIfInBounds_toArray, List.set_cons_zero, List.set_cons_succ]
    refine wpAnyH_ready (rs := [15]) (by kernel_rfl) (by simp) (AllReadyH.cons (o := { dst := some 54, op := Op.call { callee := Callee.builtin Builtin.append, args := #[Operand.tmp 46, Operand.tmp 53], argTypes := #[140, 140] }, type := 140, pos := "sound.go:27", after := #[{ on := 7, ground := Ground.data }, { on := 14, ground := Ground.data }], guard := none }) rfl (fun K hK => ?_) AllReadyH.nil)
    refine step_append_lies _ (by rfl) _ _ _ (by rfl) 0 142 i0 _ 2 16 Tryd.underlying140 HI0.out HZ0.out HZ1.out HZ2.out rfl (by decide) (.slice ao m cap) m xs (by rfl) (own_kept (bs := []) (own_drew OWN.out) ((Only.refl [] wx.drew).alloc _) (fun q _ => by simp))
      ⟨wx.heap.size, 0, none⟩ 1 1 [.int .i64 (tn : Nat), .int .u64 (wt : Nat)] (by rfl) (by rfl) (World.news_of_block (cs := #[.int .i64 (tn : Nat), .int .u64 (wt : Nat)]) (t := 142) (fr := (0, 0)) (heap_alloc_new wx.drew _)) (fun u hu => by simp only [List.mem_cons, List.not_mem_nil, or_false] at hu; rcases hu with rfl | rfl <;> rfl) (by omega) (by unfold maxLen; omega) (by omega) (Nat.zero_le _) (wx.heap.size + 1) (by simp) ?_
    intro gg cap5 w5 hown5 hgrow hat hlt
    have ho5 : Only (Value.slice ao m cap).ownBlock.toList (wx.drew.alloc (.cells #[.int .i64 (tn : Nat), .int .u64 (wt : Nat)] 142)) w5 := ⟨hgrow.os, hgrow.tape, hgrow.output, hgrow.size, fun q hq hn => hgrow.block q hq (fun e => hn (by simp [← e]))⟩
    have m3 := ho5.cell (World.cell?_alloc_lt _ _ ⟨b3, 0, none⟩ lb3 ▸ c3) (fun hq => by have := (HNE.out _ (by simpa using hq)).1; omega)
    have ml0 := ho5.cell (World.cell?_alloc_lt _ _ ⟨bl, 0, none⟩ lbl ▸ cl0) (fun hq => by have := (HNE.out _ (by simpa using hq)).2.1; omega)
    have ml1 := ho5.cell (World.cell?_alloc_lt _ _ ⟨bl, 1, none⟩ lbl ▸ cl1) (fun hq => by have := (HNE.out _ (by simpa using hq)).2.1; omega)
    have co5 := (CO.out.drew.alloc (.cells #[.int .i64 (tn : Nat), .int .u64 (wt : Nat)] 142)).kept ho5 (fun hq => by have := (HNE.out _ (by simpa using hq)).2.2; omega)
    have HO5 := Lib.hid ho5
    have OWN5 := Lib.hid hown5
    have HAT := Lib.hid hat
    clear hown5 hgrow hat ho5
    refine hK.out _ _ ⟨m3, ml0, ml1⟩ (fun hHeld => ?_)
    clear hK K
    simp only [Act.put, List.setIfInBounds_toArray, List.set_cons_zero, List.set_cons_succ]
    have y5 := co5.cell HLI.out
    have f5 := co5.frozen r
    have l5 := co5.lt
    have CO5 := Lib.hid co5
    clear co5
    refine wpAnyH_take (i := 16) (oi := { dst := some 55, op := Op.indexAddr 90 (Operand.tmp 40) (Operand.tmp 41), type := 0, pos := "sound.go:27", after := #[{ on := 1, ground := Ground.data }, { on := 2, ground := Ground.data }, { on := 0, ground := Ground.phase }, { on := 1, ground := Ground.phase }, { on := 2, ground := Ground.phase }, { on := 3, ground := Ground.phase }, { on := 4, ground := Ground.phase }, { on := 5, ground := Ground.phase }, { on := 6, ground := Ground.phase }, { on := 7, ground := Ground.phase }, { on := 8, ground := Ground.phase }, { on := 9, ground := Ground.phase }, { on := 10, ground := Ground.phase }, { on := 11, ground := Ground.phase }, { on := 12, ground := Ground.phase }, { on := 13, ground := Ground.phase }, { on := 14, ground := Ground.phase }, { on := 15, ground := Ground.phase }], guard := none }) (v := .pointer (some ⟨bo, r, none⟩)) rfl (by kernel_rfl) (by kernel_rfl) (by kernel_rfl) (fun c a w' => HQP.out c a _ _ w') (Or.inl ⟨by rfl, ?_⟩) hHeld ?_
    · intro W hSw
      try dsimp only at hSw
      clear hSw
      clear hHeld
      go_simp
    simp only [Act.put, List.setIfInBounds_toArray, List.set_cons_zero, List.set_cons_succ]
    refine wpAnyH_ready (rs := [17]) (by kernel_rfl) (by simp) (AllReadyH.cons (o := { dst := none, op := Op.store 140 (Operand.tmp 55) (Operand.tmp 54), type := 0, pos := "sound.go:27", after := #[{ on := 16, ground := Ground.data }, { on := 15, ground := Ground.data }, { on := 15, ground := Ground.chain }, { on := 0, ground := Ground.phase }, { on := 1, ground := Ground.phase }, { on := 2, ground := Ground.phase }, { on := 3, ground := Ground.phase }, { on := 4, ground := Ground.phase }, { on := 5, ground := Ground.phase }, { on := 6, ground := Ground.phase }, { on := 7, ground := Ground.phase }, { on := 8, ground := Ground.phase }, { on := 9, ground := Ground.phase }, { on := 10, ground := Ground.phase }, { on := 11, ground := Ground.phase }, { on := 12, ground := Ground.phase }, { on := 13, ground := Ground.phase }, { on := 14, ground := Ground.phase }, { on := 15, ground := Ground.phase }], guard := none }) rfl (fun K hK => ?_) AllReadyH.nil)
    go_simp
    refine hK.out _ _ ⟨by rw [World.cell?_setCell_far _ _ _ _ (by simpa using h3o.symm)]; exact m3, by rw [World.cell?_setCell_far _ _ _ _ (by simpa using hlo.symm)]; exact ml0, by rw [World.cell?_setCell_far _ _ _ _ (by simpa using hlo.symm)]; exact ml1⟩ (fun hHeld => ?_)
    clear hK K hHeld
    try simp only [Act.put, List.setIfInBounds_toArray, List.set_cons_zero, List.set_cons_succ]
    refine wpAnyH_done (by kernel_rfl) ?_ _
    refine HQ.out _ _ _ _ _ _ _ _ _ _ _ _ _ _ _ _ _ _ _ _ (own_kept (bs := [bo]) OWN5.out ((Only.refl [bo] w5).setCell (.inl (by simp)) _) ?_) ?_ (CO5.out.set r _) ?_
    · intro q hq
      simp only [Value.ownBlock, Option.some.injEq] at hq
      subst hq
      simp only [List.mem_singleton]
      rcases HAT.out with h1 | h1
      · exact (HNE.out _ h1).2.2
      · omega
    · intro q hq
      simp only [Value.ownBlock, Option.some.injEq] at hq
      subst hq
      rcases HAT.out with h1 | h1
      · exact .inl h1
      · exact .inr (by omega)
    · refine Only.setCell ?_ (p := ⟨bo, r, none⟩) (.inl (by simp)) _
      exact (((Only.refl (bo :: (Value.slice ao m cap).ownBlock.toList) wx).drew).alloc (.cells #[.int .i64 (tn : Nat), .int .u64 (wt : Nat)] 142)).trans HO5.out (fun q hq => .inl (List.mem_cons_of_mem _ hq))
  · go_simp
    refine hK.out _ _ ⟨World.cell?_alloc_lt _ _ ⟨b3, 0, none⟩ lb3 ▸ c3, World.cell?_alloc_lt _ _ ⟨bl, 0, none⟩ lbl ▸ cl0, World.cell?_alloc_lt _ _ ⟨bl, 1, none⟩ lbl ▸ cl1⟩ (fun hHeld => ?_)
    clear hK K
    simp only [Act.put, List.setIfInBounds_toArray, List.set_cons_zero, List.set_cons_succ]
    refine wpAnyH_ready (rs := [7]) (by kernel_rfl) (by simp) (AllReadyH.cons (o := { dst := some 46, op := Op.load 140 (Operand.tmp 45), type := 140, pos := "sound.go:27", after := #[{ on := 6, ground := Ground.data }], guard := none }) rfl (fun K hK => ?_) AllReadyH.nil)
    go_simp
    refine hK.out _ _ hHeld (fun hHeld => ?_)
    clear hK K
    simp only [Act.put, List.setIfInBounds_toArray, List.set_cons_zero, List.set_cons_succ]
    refine wpAnyH_ready (rs := [15]) (by kernel_rfl) (by simp) (AllReadyH.cons (o := { dst := some 54, op := Op.call { callee := Callee.builtin Builtin.append, args := #[Operand.tmp 46, Operand.tmp 53], argTypes := #[140, 140] }, type := 140, pos := "sound.go:27", after := #[{ on := 7, ground := Ground.data }, { on := 14, ground := Ground.data }], guard := none }) rfl (fun K hK => ?_) AllReadyH.nil)
    refine step_append_lies _ (by rfl) _ _ _ (by rfl) 0 142 i0 _ 2 16 Tryd.underlying140 HI0.out HZ0.out HZ1.out HZ2.out rfl (by decide) (.slice ao m cap) m xs (by rfl) (own_kept (bs := []) (own_drew OWN.out) ((Only.refl [] wx.drew).alloc _) (fun q _ => by simp))
      ⟨wx.heap.size, 0, none⟩ 1 1 [.int .i64 (tn : Nat), .int .u64 (wt : Nat)] (by rfl) (by rfl) (World.news_of_block (cs := #[.int .i64 (tn : Nat), .int .u64 (wt : Nat)]) (t := 142) (fr := (0, 0)) (heap_alloc_new wx.drew _)) (fun u hu => by simp only [List.mem_cons, List.not_mem_nil, or_false] at hu; rcases hu with rfl | rfl <;> rfl) (by omega) (by unfold maxLen; omega) (by omega) (Nat.zero_le _) (wx.heap.size + 1) (by simp) ?_
    intro gg cap5 w5 hown5 hgrow hat hlt
    have ho5 : Only (Value.slice ao m cap).ownBlock.toList (wx.drew.alloc (.cells #[.int .i64 (tn : Nat), .int .u64 (wt : Nat)] 142)) w5 := ⟨hgrow.os, hgrow.tape, hgrow.output, hgrow.size, fun q hq hn => hgrow.block q hq (fun e => hn (by simp [← e]))⟩
    have m3 := ho5.cell (World.cell?_alloc_lt _ _ ⟨b3, 0, none⟩ lb3 ▸ c3) (fun hq => by have := (HNE.out _ (by simpa using hq)).1; omega)
    have ml0 := ho5.cell (World.cell?_alloc_lt _ _ ⟨bl, 0, none⟩ lbl ▸ cl0) (fun hq => by have := (HNE.out _ (by simpa using hq)).2.1; omega)
    have ml1 := ho5.cell (World.cell?_alloc_lt _ _ ⟨bl, 1, none⟩ lbl ▸ cl1) (fun hq => by have := (HNE.out _ (by simpa using hq)).2.1; omega)
    have co5 := (CO.out.drew.alloc (.cells #[.int .i64 (tn : Nat), .int .u64 (wt : Nat)] 142)).kept ho5 (fun hq => by have := (HNE.out _ (by simpa using hq)).2.2; omega)
    have HO5 := Lib.hid ho5
    have OWN5 := Lib.hid hown5
    have HAT := Lib.hid hat
    clear hown5 hgrow hat ho5
    refine hK.out _ _ ⟨m3, ml0, ml1⟩ (fun hHeld => ?_)
    clear hK K
    simp only [Act.put, List.setIfInBounds_toArray, List.set_cons_zero, List.set_cons_succ]
    have y5 := co5.cell HLI.out
    have f5 := co5.frozen r
    have l5 := co5.lt
    have CO5 := Lib.hid co5
    clear co5
    refine wpAnyH_take (i := 16) (oi := { dst := some 55, op := Op.indexAddr 90 (Operand.tmp 40) (Operand.tmp 41), type := 0, pos := "sound.go:27", after := #[{ on := 1, ground := Ground.data }, { on := 2, ground := Ground.data }, { on := 0, ground := Ground.phase }, { on := 1, ground := Ground.phase }, { on := 2, ground := Ground.phase }, { on := 3, ground := Ground.phase }, { on := 4, ground := Ground.phase }, { on := 5, ground := Ground.phase }, { on := 6, ground := Ground.phase }, { on := 7, ground := Ground.phase }, { on := 8, ground := Ground.phase }, { on := 9, ground := Ground.phase }, { on := 10, ground := Ground.phase }, { on := 11, ground := Ground.phase }, { on := 12, ground := Ground.phase }, { on := 13, ground := Ground.phase }, { on := 14, ground := Ground.phase }, { on := 15, ground := Ground.phase }], guard := none }) (v := .pointer (some ⟨bo, r, none⟩)) rfl (by kernel_rfl) (by kernel_rfl) (by kernel_rfl) (fun c a w' => HQP.out c a _ _ w') (Or.inl ⟨by rfl, ?_⟩) hHeld ?_
    · intro W hSw
      try dsimp only at hSw
      clear hSw
      clear hHeld
      go_simp
    simp only [Act.put, List.setIfInBounds_toArray, List.set_cons_zero, List.set_cons_succ]
    refine wpAnyH_ready (rs := [17]) (by kernel_rfl) (by simp) (AllReadyH.cons (o := { dst := none, op := Op.store 140 (Operand.tmp 55) (Operand.tmp 54), type := 0, pos := "sound.go:27", after := #[{ on := 16, ground := Ground.data }, { on := 15, ground := Ground.data }, { on := 15, ground := Ground.chain }, { on := 0, ground := Ground.phase }, { on := 1, ground := Ground.phase }, { on := 2, ground := Ground.phase }, { on := 3, ground := Ground.phase }, { on := 4, ground := Ground.phase }, { on := 5, ground := Ground.phase }, { on := 6, ground := Ground.phase }, { on := 7, ground := Ground.phase }, { on := 8, ground := Ground.phase }, { on := 9, ground := Ground.phase }, { on := 10, ground := Ground.phase }, { on := 11, ground := Ground.phase }, { on := 12, ground := Ground.phase }, { on := 13, ground := Ground.phase }, { on := 14, ground := Ground.phase }, { on := 15, ground := Ground.phase }], guard := none }) rfl (fun K hK => ?_) AllReadyH.nil)
    go_simp
    refine hK.out _ _ ⟨by rw [World.cell?_setCell_far _ _ _ _ (by simpa using h3o.symm)]; exact m3, by rw [World.cell?_setCell_far _ _ _ _ (by simpa using hlo.symm)]; exact ml0, by rw [World.cell?_setCell_far _ _ _ _ (by simpa using hlo.symm)]; exact ml1⟩ (fun hHeld => ?_)
    clear hK K hHeld
    try simp only [Act.put, List.setIfInBounds_toArray, List.set_cons_zero, List.set_cons_succ]
    refine wpAnyH_done (by kernel_rfl) ?_ _
    refine HQ.out _ _ _ _ _ _ _ _ _ _ _ _ _ _ _ _ _ _ _ _ (own_kept (bs := [bo]) OWN5.out ((Only.refl [bo] w5).setCell (.inl (by simp)) _) ?_) ?_ (CO5.out.set r _) ?_
    · intro q hq
      simp only [Value.ownBlock, Option.some.injEq] at hq
      subst hq
      simp only [List.mem_singleton]
      rcases HAT.out with h1 | h1
      · exact (HNE.out _ h1).2.2
      · omega
    · intro q hq
      simp only [Value.ownBlock, Option.some.injEq] at hq
      subst hq
      rcases HAT.out with h1 | h1
      · exact .inl h1
      · exact .inr (by omega)
    · refine Only.setCell ?_ (p := ⟨bo, r, none⟩) (.inl (by simp)) _
      exact (((Only.refl (bo :: (Value.slice ao m cap).ownBlock.toList) wx).drew).alloc (.cells #[.int .i64 (tn : Nat), .int .u64 (wt : Nat)] 142)).trans HO5.out (fun q hq => .inl (List.mem_cons_of_mem _ hq))

set_option linter.unusedSimpArgs false in
set_option maxRecDepth 100000 in
set_option maxHeartbeats 8000000 in
theorem weave_app13 {s0 s1 s2 s5 s6 s7 s9 s10 s11 s12 s13 s14 s15 s16 s17 s18 s19 s20 s21 s22 s23 s24 s25 s26 s27 s28 s29 s30 s31 s32 s33 s34 s35 s36 s37 s38 s39 s40 s41 s42 s43 s44 s45 s46 s47 s48 s49 s50 s51 s52 s53 s54 s55 s56 s57 s58 s59 s60 s61 s62 s63 s64 s65 s66 s67 s68 s69 s70 s71 s72 s73 s74 s75 s76 s77 s78 s79 s80 s81 s82 s83 s84 s85 s86 s87 s88 s89 s90 s91 s92 s93 s94 s95 : Value} {wx : World} {b3 bl bo r tn wt n m cap : Nat} {ao : Option Addr} {L xs : List Value} (Q : Exit → Act → World → Prop)
    (hQp : ∀ c (a : Act) (t : Option Tmp) (v : Value) w', Q (.panic c) (a.put t v) w' → Q (.panic c) a w')
    (c3 : wx.cell? ⟨b3, 0, none⟩ = some (.slice (some ⟨bo, 0, none⟩) n n)) (cl0 : wx.cell? ⟨bl, 0, none⟩ = some (.int .u32 (tn : Nat))) (cl1 : wx.cell? ⟨bl, 1, none⟩ = some (.int .u64 (wt : Nat)))
    (co : Cells wx bo 140 L) (hLi : L[tn]? = some (.slice ao m cap)) (hin : tn < n) (own : wx.ownsRow 0 142 2 (.slice ao m cap) m xs)
    (hne : ∀ q, (Value.slice ao m cap).ownBlock = some q → q ≠ b3 ∧ q ≠ bl ∧ q ≠ bo) (h3o : b3 ≠ bo) (hlo : bl ≠ bo) (hm : m ≤ 1048576) (hto : tn < 4294967296)
    (hQ : ∀ (t76 t77 t78 t79 t80 t81 t82 t83 t84 t85 t86 t87 t88 t89 t90 t91 t92 : Value) (ao' : Option Addr) (cap' : Nat) (w' : World), w'.ownsRow 0 142 2 (.slice ao' (m + 1) cap') (m + 1) (xs ++ [.int .i64 (r : Nat), .int .u64 (wt : Nat)]) →
      (∀ q, (Value.slice ao' (m + 1) cap').ownBlock = some q → (Value.slice ao m cap).ownBlock = some q ∨ wx.heap.size ≤ q) → Cells w' bo 140 (L.set tn (.slice ao' (m + 1) cap')) → Only (bo :: (Value.slice ao m cap).ownBlock.toList) wx w' → Q .normal ⟨#[s0, s1, s2, .pointer (some ⟨b3, 0, none⟩), .int .i64 (r : Nat), s5, s6, s7, .pointer (some ⟨bl, 0, none⟩), s9, s10, s11, s12, s13, s14, s15, s16, s17, s18, s19, s20, s21, s22, s23, s24, s25, s26, s27, s28, s29, s30, s31, s32, s33, s34, s35, s36, s37, s38, s39, s40, s41, s42, s43, s44, s45, s46, s47, s48, s49, s50, s51, s52, s53, s54, s55, s56, s57, s58, s59, s60, s61, s62, s63, s64, s65, s66, s67, s68, s69, s70, s71, s72, s73, s74, s75, t76, t77, t78, t79, t80, t81, t82, t83, t84, t85, t86, t87, t88, t89, t90, t91, t92, s93, s94, s95], []⟩ w') :
    Code.wp Tryd.prog ((regionAt 13 weaveBody).getD .skip) Q ⟨#[s0, s1, s2, .pointer (some ⟨b3, 0, none⟩), .int .i64 (r : Nat), s5, s6, s7, .pointer (some ⟨bl, 0, none⟩), s9, s10, s11, s12, s13, s14, s15, s16, s17, s18, s19, s20, s21, s22, s23, s24, s25, s26, s27, s28, s29, s30, s31, s32, s33, s34, s35, s36, s37, s38, s39, s40, s41, s42, s43, s44, s45, s46, s47, s48, s49, s50, s51, s52, s53, s54, s55, s56, s57, s58, s59, s60, s61, s62, s63, s64, s65, s66, s67, s68, s69, s70, s71, s72, s73, s74, s75, s76, s77, s78, s79, s80, s81, s82, s83, s84, s85, s86, s87, s88, s89, s90, s91, s92, s93, s94, s95], []⟩ wx := by
  obtain ⟨i0, hi0, hz0, hz1, hz2⟩ := info_parts Tryd.infoStep
  have HI0 := Lib.hid hi0
  have HZ0 := Lib.hid hz0
  have HZ1 := Lib.hid hz1
  have HZ2 := Lib.hid hz2
  have HQ := Lib.hid hQ
  have HQP := Lib.hid hQp
  have OWN := Lib.hid own
  have CO := Lib.hid co
  have HLI := Lib.hid hLi
  have HNE := Lib.hid hne
  have e0 : wx.cell? ⟨bo, tn, none⟩ = some (.slice ao m cap) := co.cell hLi
  have lbo := co.lt
  have lb3 := block_lt c3
  have lbl := block_lt cl0
  have cu : IntKind.i64.wrap (tn : Int) = (tn : Int) := IntWalk.i64_in _ (by omega)
  clear hQ own co hLi hne hi0 hz0 hz1 hz2 hQp
  conv => arg 2; whnf
  refine wp_region_held_drew (S := fun W => W.cell? ⟨b3, 0, none⟩ = some (.slice (some ⟨bo, 0, none⟩) n n) ∧ W.cell? ⟨bl, 0, none⟩ = some (.int .u32 (tn : Nat)) ∧ W.cell? ⟨bl, 1, none⟩ = some (.int .u64 (wt : Nat))) (by kernel_rfl) ⟨c3, cl0, cl1⟩ (fun hHeld => ?_)
  simp only [List.size_toArray, List.length_cons, List.length_nil, Nat.reduceAdd, Array.replicate_succ, Array.replicate_zero, List.push_toArray, List.nil_append, List.cons_append]
  refine wpAnyH_take (i := 0) (oi := { dst := some 76, op := Op.fieldAddr 92 (Operand.tmp 3) 0, type := 0, pos := "sound.go:30", after := #[], guard := none }) (v := .pointer (some ⟨b3, 0, none⟩)) rfl (by kernel_rfl) (by kernel_rfl) (by kernel_rfl) (fun c a w' => HQP.out c a _ _ w') (Or.inl ⟨by rfl, ?_⟩) hHeld ?_
  · intro W hSw
    try dsimp only at hSw
    clear hSw
    clear hHeld
    go_simp
  simp only [Act.put, List.setIfInBounds_toArray, List.set_cons_zero, List.set_cons_succ]
  refine wpAnyH_take (i := 1) (oi := { dst := some 77, op := Op.load 90 (Operand.tmp 76), type := 90, pos := "sound.go:30", after := #[{ on := 0, ground := Ground.data }], guard := none }) (v := .slice (some ⟨bo, 0, none⟩) n n) rfl (by kernel_rfl) (by kernel_rfl) (by kernel_rfl) (fun c a w' => HQP.out c a _ _ w') (Or.inl ⟨by rfl, ?_⟩) hHeld ?_
  · intro W hSw
    try dsimp only at hSw
    obtain ⟨m1, m2, m3⟩ := hSw
    clear hHeld
    go_simp
  simp only [Act.put, List.setIfInBounds_toArray, List.set_cons_zero, List.set_cons_succ]
  refine wpAnyH_take (i := 2) (oi := { dst := some 78, op := Op.fieldAddr 39 (Operand.tmp 8) 0, type := 0, pos := "sound.go:30", after := #[], guard := none }) (v := .pointer (some ⟨bl, 0, none⟩)) rfl (by kernel_rfl) (by kernel_rfl) (by kernel_rfl) (fun c a w' => HQP.out c a _ _ w') (Or.inl ⟨by rfl, ?_⟩) hHeld ?_
  · intro W hSw
    try dsimp only at hSw
    clear hSw
    clear hHeld
    go_simp
  simp only [Act.put, List.setIfInBounds_toArray, List.set_cons_zero, List.set_cons_succ]
  refine wpAnyH_take (i := 3) (oi := { dst := some 79, op := Op.load 36 (Operand.tmp 78), type := 36, pos := "sound.go:30", after := #[{ on := 2, ground := Ground.data }], guard := none }) (v := .int .u32 (tn : Nat)) rfl (by kernel_rfl) (by kernel_rfl) (by kernel_rfl) (fun c a w' => HQP.out c a _ _ w') (Or.inl ⟨by rfl, ?_⟩) hHeld ?_
  · intro W hSw
    try dsimp only at hSw
    obtain ⟨m1, m2, m3⟩ := hSw
    clear hHeld
    go_simp
  simp only [Act.put, List.setIfInBounds_toArray, List.set_cons_zero, List.set_cons_succ]
  refine wpAnyH_take (i := 4) (oi := { dst := some 80, op := Op.fieldAddr 92 (Operand.tmp 3) 0, type := 0, pos := "sound.go:30", after := #[], guard := none }) (v := .pointer (some ⟨b3, 0, none⟩)) rfl (by kernel_rfl) (by kernel_rfl) (by kernel_rfl) (fun c a w' => HQP.out c a _ _ w') (Or.inl ⟨by rfl, ?_⟩) hHeld ?_
  · intro W hSw
    try dsimp only at hSw
    clear hSw
    clear hHeld
    go_simp
  simp only [Act.put, List.setIfInBounds_toArray, List.set_cons_zero, List.set_cons_succ]
  refine wpAnyH_take (i := 5) (oi := { dst := some 81, op := Op.load 90 (Operand.tmp 80), type := 90, pos := "sound.go:30", after := #[{ on := 4, ground := Ground.data }], guard := none }) (v := .slice (some ⟨bo, 0, none⟩) n n) rfl (by kernel_rfl) (by kernel_rfl) (by kernel_rfl) (fun c a w' => HQP.out c a _ _ w') (Or.inl ⟨by rfl, ?_⟩) hHeld ?_
  · intro W hSw
    try dsimp only at hSw
    obtain ⟨m1, m2, m3⟩ := hSw
    clear hHeld
    go_simp
  simp only [Act.put, List.setIfInBounds_toArray, List.set_cons_zero, List.set_cons_succ]
  refine wpAnyH_take (i := 6) (oi := { dst := some 82, op := Op.fieldAddr 39 (Operand.tmp 8) 0, type := 0, pos := "sound.go:30", after := #[], guard := none }) (v := .pointer (some ⟨bl, 0, none⟩)) rfl (by kernel_rfl) (by kernel_rfl) (by kernel_rfl) (fun c a w' => HQP.out c a _ _ w') (Or.inl ⟨by rfl, ?_⟩) hHeld ?_
  · intro W hSw
    try dsimp only at hSw
    clear hSw
    clear hHeld
    go_simp
  simp only [Act.put, List.setIfInBounds_toArray, List.set_cons_zero, List.set_cons_succ]
  refine wpAnyH_take (i := 7) (oi := { dst := some 83, op := Op.load 36 (Operand.tmp 82), type := 36, pos := "sound.go:30", after := #[{ on := 6, ground := Ground.data }], guard := none }) (v := .int .u32 (tn : Nat)) rfl (by kernel_rfl) (by kernel_rfl) (by kernel_rfl) (fun c a w' => HQP.out c a _ _ w') (Or.inl ⟨by rfl, ?_⟩) hHeld ?_
  · intro W hSw
    try dsimp only at hSw
    obtain ⟨m1, m2, m3⟩ := hSw
    clear hHeld
    go_simp
  simp only [Act.put, List.setIfInBounds_toArray, List.set_cons_zero, List.set_cons_succ]
  refine wpAnyH_take (i := 8) (oi := { dst := some 84, op := Op.indexAddr 90 (Operand.tmp 81) (Operand.tmp 83), type := 0, pos := "sound.go:30", after := #[{ on := 5, ground := Ground.data }, { on := 7, ground := Ground.data }], guard := none }) (v := .pointer (some ⟨bo, tn, none⟩)) rfl (by kernel_rfl) (by kernel_rfl) (by kernel_rfl) (fun c a w' => HQP.out c a _ _ w') (Or.inl ⟨by rfl, ?_⟩) hHeld ?_
  · intro W hSw
    try dsimp only at hSw
    clear hSw
    clear hHeld
    go_simp
  simp only [Act.put, List.setIfInBounds_toArray, List.set_cons_zero, List.set_cons_succ]
  refine wpAnyH_take (i := 10) (oi := { dst := some 86, op := Op.move (Operand.tmp 4), type := 3, pos := "sound.go:30", after := #[], guard := none }) (v := .int .i64 (r : Nat)) rfl (by kernel_rfl) (by kernel_rfl) (by kernel_rfl) (fun c a w' => HQP.out c a _ _ w') (Or.inl ⟨by rfl, ?_⟩) hHeld ?_
  · intro W hSw
    try dsimp only at hSw
    clear hSw
    clear hHeld
    go_simp
  simp only [Act.put, List.setIfInBounds_toArray, List.set_cons_zero, List.set_cons_succ]
  refine wpAnyH_take (i := 11) (oi := { dst := some 87, op := Op.fieldAddr 39 (Operand.tmp 8) 1, type := 0, pos := "sound.go:30", after := #[], guard := none }) (v := .pointer (some ⟨bl, 1, none⟩)) rfl (by kernel_rfl) (by kernel_rfl) (by kernel_rfl) (fun c a w' => HQP.out c a _ _ w') (Or.inl ⟨by rfl, ?_⟩) hHeld ?_
  · intro W hSw
    try dsimp only at hSw
    clear hSw
    clear hHeld
    go_simp
  simp only [Act.put, List.setIfInBounds_toArray, List.set_cons_zero, List.set_cons_succ]
  refine wpAnyH_take (i := 12) (oi := { dst := some 88, op := Op.load 37 (Operand.tmp 87), type := 37, pos := "sound.go:30", after := #[{ on := 11, ground := Ground.data }], guard := none }) (v := .int .u64 (wt : Nat)) rfl (by kernel_rfl) (by kernel_rfl) (by kernel_rfl) (fun c a w' => HQP.out c a _ _ w') (Or.inl ⟨by rfl, ?_⟩) hHeld ?_
  · intro W hSw
    try dsimp only at hSw
    obtain ⟨m1, m2, m3⟩ := hSw
    clear hHeld
    go_simp
  simp only [Act.put, List.setIfInBounds_toArray, List.set_cons_zero, List.set_cons_succ]
  refine wpAnyH_take (i := 13) (oi := { dst := some 89, op := Op.build 142 #[(0, Operand.tmp 86), (1, Operand.tmp 88)], type := 142, pos := "sound.go:30", after := #[{ on := 10, ground := Ground.data }, { on := 12, ground := Ground.data }], guard := none }) (v := .agg #[.int .i64 (r : Nat), .int .u64 (wt : Nat)]) rfl (by kernel_rfl) (by kernel_rfl) (by kernel_rfl) (fun c a w' => HQP.out c a _ _ w') (Or.inl ⟨by rfl, ?_⟩) hHeld ?_
  · intro W hSw
    try dsimp only at hSw
    clear hSw
    clear hHeld
    go_simp
  simp only [Act.put, List.setIfInBounds_toArray, List.set_cons_zero, List.set_cons_succ]
  refine wpAnyH_ready (rs := [9, 14]) (by kernel_rfl) (by simp) ?_
  refine AllReadyH.cons (o := { dst := some 85, op := Op.load 140 (Operand.tmp 84), type := 140, pos := "sound.go:30", after := #[{ on := 8, ground := Ground.data }], guard := none }) rfl (fun K hK => ?_) (AllReadyH.cons (o := { dst := some 90, op := Op.buildSlice 140 1 #[(0, Operand.tmp 89)], type := 140, pos := "sound.go:30", after := #[{ on := 13, ground := Ground.data }], guard := none }) rfl (fun K hK => ?_) AllReadyH.nil)
  · go_simp
    refine hK.out _ _ hHeld (fun hHeld => ?_)
    clear hK K
    simp only [Act.put, List.setIfInBounds_toArray, List.set_cons_zero, List.set_cons_succ]
    refine wpAnyH_ready (rs := [14]) (by kernel_rfl) (by simp) (AllReadyH.cons (o := { dst := some 90, op := Op.buildSlice 140 1 #[(0, Operand.tmp 89)], type := 140, pos := "sound.go:30", after := #[{ on := 13, ground := Ground.data }], guard := none }) rfl (fun K hK => ?_) AllReadyH.nil)
    go_simp
    refine hK.out _ _ ⟨World.cell?_alloc_lt _ _ ⟨b3, 0, none⟩ lb3 ▸ c3, World.cell?_alloc_lt _ _ ⟨bl, 0, none⟩ lbl ▸ cl0, World.cell?_alloc_lt _ _ ⟨bl, 1, none⟩ lbl ▸ cl1⟩ (fun hHeld => ?_)
    clear hK K
    simp only [Act.put, List.setIfInBounds_toArray, List.set_cons_zero, List.set_cons_succ]
    refine wpAnyH_ready (rs := [15]) (by kernel_rfl) (by simp) (AllReadyH.cons (o := { dst := some 91, op := Op.call { callee := Callee.builtin Builtin.append, args := #[Operand.tmp 85, Operand.tmp 90], argTypes := #[140, 140] }, type := 140, pos := "sound.go:30", after := #[{ on := 9, ground := Ground.data }, { on := 14, ground := Ground.data }], guard := none }) rfl (fun K hK => ?_) AllReadyH.nil)
    refine step_append_lies _ (by rfl) _ _ _ (by rfl) 0 142 i0 _ 2 16 Tryd.underlying140 HI0.out HZ0.out HZ1.out HZ2.out rfl (by decide) (.slice ao m cap) m xs (by rfl) (own_kept (bs := []) (own_drew OWN.out) ((Only.refl [] wx.drew).alloc _) (fun q _ => by simp))
      ⟨wx.heap.size, 0, none⟩ 1 1 [.int .i64 (r : Nat), .int .u64 (wt : Nat)] (by rfl) (by rfl) (World.news_of_block (cs := #[.int .i64 (r : Nat), .int .u64 (wt : Nat)]) (t := 142) (fr := (0, 0)) (heap_alloc_new wx.drew _)) (fun u hu => by simp only [List.mem_cons, List.not_mem_nil, or_false] at hu; rcases hu with rfl | rfl <;> rfl) (by omega) (by unfold maxLen; omega) (by omega) (Nat.zero_le _) (wx.heap.size + 1) (by simp) ?_
    intro gg cap5 w5 hown5 hgrow hat hlt
    have ho5 : Only (Value.slice ao m cap).ownBlock.toList (wx.drew.alloc (.cells #[.int .i64 (r : Nat), .int .u64 (wt : Nat)] 142)) w5 := ⟨hgrow.os, hgrow.tape, hgrow.output, hgrow.size, fun q hq hn => hgrow.block q hq (fun e => hn (by simp [← e]))⟩
    have m3 := ho5.cell (World.cell?_alloc_lt _ _ ⟨b3, 0, none⟩ lb3 ▸ c3) (fun hq => by have := (HNE.out _ (by simpa using hq)).1; omega)
    have ml0 := ho5.cell (World.cell?_alloc_lt _ _ ⟨bl, 0, none⟩ lbl ▸ cl0) (fun hq => by have := (HNE.out _ (by simpa using hq)).2.1; omega)
    have ml1 := ho5.cell (World.cell?_alloc_lt _ _ ⟨bl, 1, none⟩ lbl ▸ cl1) (fun hq => by have := (HNE.out _ (by simpa using hq)).2.1; omega)
    have co5 := (CO.out.drew.alloc (.cells #[.int .i64 (r : Nat), .int .u64 (wt : Nat)] 142)).kept ho5 (fun hq => by have := (HNE.out _ (by simpa using hq)).2.2; omega)
    have HO5 := Lib.hid ho5
    have OWN5 := Lib.hid hown5
    have HAT := Lib.hid hat
    clear hown5 hgrow hat ho5
    refine hK.out _ _ ⟨m3, ml0, ml1⟩ (fun hHeld => ?_)
    clear hK K
    simp only [Act.put, List.setIfInBounds_toArray, List.set_cons_zero, List.set_cons_succ]
    have y5 := co5.cell HLI.out
    have f5 := co5.frozen tn
    have l5 := co5.lt
    have CO5 := Lib.hid co5
    clear co5
    refine wpAnyH_take (i := 16) (oi := { dst := some 92, op := Op.indexAddr 90 (Operand.tmp 77) (Operand.tmp 79), type := 0, pos := "sound.go:30", after := #[{ on := 1, ground := Ground.data }, { on := 3, ground := Ground.data }, { on := 0, ground := Ground.phase }, { on := 1, ground := Ground.phase }, { on := 2, ground := Ground.phase }, { on := 3, ground := Ground.phase }, { on := 4, ground := Ground.phase }, { on := 5, ground := Ground.phase }, { on := 6, ground := Ground.phase }, { on := 7, ground := Ground.phase }, { on := 8, ground := Ground.phase }, { on := 9, ground := Ground.phase }, { on := 10, ground := Ground.phase }, { on := 11, ground := Ground.phase }, { on := 12, ground := Ground.phase }, { on := 13, ground := Ground.phase }, { on := 14, ground := Ground.phase }, { on := 15, ground := Ground.phase }], guard := none }) (v := .pointer (some ⟨bo, tn, none⟩)) rfl (by kernel_rfl) (by kernel_rfl) (by kernel_rfl) (fun c a w' => HQP.out c a _ _ w') (Or.inl ⟨by rfl, ?_⟩) hHeld ?_
    · intro W hSw
      try dsimp only at hSw
      clear hSw
      clear hHeld
      go_simp
    simp only [Act.put, List.setIfInBounds_toArray, List.set_cons_zero, List.set_cons_succ]
    refine wpAnyH_ready (rs := [17]) (by kernel_rfl) (by simp) (AllReadyH.cons (o := { dst := none, op := Op.store 140 (Operand.tmp 92) (Operand.tmp 91), type := 0, pos := "sound.go:30", after := #[{ on := 16, ground := Ground.data }, { on := 15, ground := Ground.data }, { on := 15, ground := Ground.chain }, { on := 0, ground := Ground.phase }, { on := 1, ground := Ground.phase }, { on := 2, ground := Ground.phase }, { on := 3, ground := Ground.phase }, { on := 4, ground := Ground.phase }, { on := 5, ground := Ground.phase }, { on := 6, ground := Ground.phase }, { on := 7, ground := Ground.phase }, { on := 8, ground := Ground.phase }, { on := 9, ground := Ground.phase }, { on := 10, ground := Ground.phase }, { on := 11, ground := Ground.phase }, { on := 12, ground := Ground.phase }, { on := 13, ground := Ground.phase }, { on := 14, ground := Ground.phase }, { on := 15, ground := Ground.phase }], guard := none }) rfl (fun K hK => ?_) AllReadyH.nil)
    go_simp
    refine hK.out _ _ ⟨by rw [World.cell?_setCell_far _ _ _ _ (by simpa using h3o.symm)]; exact m3, by rw [World.cell?_setCell_far _ _ _ _ (by simpa using hlo.symm)]; exact ml0, by rw [World.cell?_setCell_far _ _ _ _ (by simpa using hlo.symm)]; exact ml1⟩ (fun hHeld => ?_)
    clear hK K hHeld
    try simp only [Act.put, List.setIfInBounds_toArray, List.set_cons_zero, List.set_cons_succ]
    refine wpAnyH_done (by kernel_rfl) ?_ _
    refine HQ.out _ _ _ _ _ _ _ _ _ _ _ _ _ _ _ _ _ _ _ _ (own_kept (bs := [bo]) OWN5.out ((Only.refl [bo] w5).setCell (.inl (by simp)) _) ?_) ?_ (CO5.out.set tn _) ?_
    · intro q hq
      simp only [Value.ownBlock, Option.some.injEq] at hq
      subst hq
      simp only [List.mem_singleton]
      rcases HAT.out with h1 | h1
      · exact (HNE.out _ h1).2.2
      · omega
    · intro q hq
      simp only [Value.ownBlock, Option.some.injEq] at hq
      subst hq
      rcases HAT.out with h1 | h1
      · exact .inl h1
      · exact .inr (by omega)
    · refine Only.setCell ?_ (p := ⟨bo, tn, none⟩) (.inl (by simp)) _
      exact (((Only.refl (bo :: (Value.slice ao m cap).ownBlock.toList) wx).drew).alloc (.cells #[.int .i64 (r : Nat), .int .u64 (wt : Nat)] 142)).trans HO5.out (fun q hq => .inl (List.mem_cons_of_mem _ hq))
  · go_simp
    refine hK.out _ _ ⟨World.cell?_alloc_lt _ _ ⟨b3, 0, none⟩ lb3 ▸ c3, World.cell?_alloc_lt _ _ ⟨bl, 0, none⟩ lbl ▸ cl0, World.cell?_alloc_lt _ _ ⟨bl, 1, none⟩ lbl ▸ cl1⟩ (fun hHeld => ?_)
    clear hK K
    simp only [Act.put, List.setIfInBounds_toArray, List.set_cons_zero, List.set_cons_succ]
    refine wpAnyH_ready (rs := [9]) (by kernel_rfl) (by simp) (AllReadyH.cons (o := { dst := some 85, op := Op.load 140 (Operand.tmp 84), type := 140, pos := "sound.go:30", after := #[{ on := 8, ground := Ground.data }], guard := none }) rfl (fun K hK => ?_) AllReadyH.nil)
    go_simp
    refine hK.out _ _ hHeld (fun hHeld => ?_)
    clear hK K
    simp only [Act.put, List.setIfInBounds_toArray, List.set_cons_zero, List.set_cons_succ]
    refine wpAnyH_ready (rs := [15]) (by kernel_rfl) (by simp) (AllReadyH.cons (o := { dst := some 91, op := Op.call { callee := Callee.builtin Builtin.append, args := #[Operand.tmp 85, Operand.tmp 90], argTypes := #[140, 140] }, type := 140, pos := "sound.go:30", after := #[{ on := 9, ground := Ground.data }, { on := 14, ground := Ground.data }], guard := none }) rfl (fun K hK => ?_) AllReadyH.nil)
    refine step_append_lies _ (by rfl) _ _ _ (by rfl) 0 142 i0 _ 2 16 Tryd.underlying140 HI0.out HZ0.out HZ1.out HZ2.out rfl (by decide) (.slice ao m cap) m xs (by rfl) (own_kept (bs := []) (own_drew OWN.out) ((Only.refl [] wx.drew).alloc _) (fun q _ => by simp))
      ⟨wx.heap.size, 0, none⟩ 1 1 [.int .i64 (r : Nat), .int .u64 (wt : Nat)] (by rfl) (by rfl) (World.news_of_block (cs := #[.int .i64 (r : Nat), .int .u64 (wt : Nat)]) (t := 142) (fr := (0, 0)) (heap_alloc_new wx.drew _)) (fun u hu => by simp only [List.mem_cons, List.not_mem_nil, or_false] at hu; rcases hu with rfl | rfl <;> rfl) (by omega) (by unfold maxLen; omega) (by omega) (Nat.zero_le _) (wx.heap.size + 1) (by simp) ?_
    intro gg cap5 w5 hown5 hgrow hat hlt
    have ho5 : Only (Value.slice ao m cap).ownBlock.toList (wx.drew.alloc (.cells #[.int .i64 (r : Nat), .int .u64 (wt : Nat)] 142)) w5 := ⟨hgrow.os, hgrow.tape, hgrow.output, hgrow.size, fun q hq hn => hgrow.block q hq (fun e => hn (by simp [← e]))⟩
    have m3 := ho5.cell (World.cell?_alloc_lt _ _ ⟨b3, 0, none⟩ lb3 ▸ c3) (fun hq => by have := (HNE.out _ (by simpa using hq)).1; omega)
    have ml0 := ho5.cell (World.cell?_alloc_lt _ _ ⟨bl, 0, none⟩ lbl ▸ cl0) (fun hq => by have := (HNE.out _ (by simpa using hq)).2.1; omega)
    have ml1 := ho5.cell (World.cell?_alloc_lt _ _ ⟨bl, 1, none⟩ lbl ▸ cl1) (fun hq => by have := (HNE.out _ (by simpa using hq)).2.1; omega)
    have co5 := (CO.out.drew.alloc (.cells #[.int .i64 (r : Nat), .int .u64 (wt : Nat)] 142)).kept ho5 (fun hq => by have := (HNE.out _ (by simpa using hq)).2.2; omega)
    have HO5 := Lib.hid ho5
    have OWN5 := Lib.hid hown5
    have HAT := Lib.hid hat
    clear hown5 hgrow hat ho5
    refine hK.out _ _ ⟨m3, ml0, ml1⟩ (fun hHeld => ?_)
    clear hK K
    simp only [Act.put, List.setIfInBounds_toArray, List.set_cons_zero, List.set_cons_succ]
    have y5 := co5.cell HLI.out
    have f5 := co5.frozen tn
    have l5 := co5.lt
    have CO5 := Lib.hid co5
    clear co5
    refine wpAnyH_take (i := 16) (oi := { dst := some 92, op := Op.indexAddr 90 (Operand.tmp 77) (Operand.tmp 79), type := 0, pos := "sound.go:30", after := #[{ on := 1, ground := Ground.data }, { on := 3, ground := Ground.data }, { on := 0, ground := Ground.phase }, { on := 1, ground := Ground.phase }, { on := 2, ground := Ground.phase }, { on := 3, ground := Ground.phase }, { on := 4, ground := Ground.phase }, { on := 5, ground := Ground.phase }, { on := 6, ground := Ground.phase }, { on := 7, ground := Ground.phase }, { on := 8, ground := Ground.phase }, { on := 9, ground := Ground.phase }, { on := 10, ground := Ground.phase }, { on := 11, ground := Ground.phase }, { on := 12, ground := Ground.phase }, { on := 13, ground := Ground.phase }, { on := 14, ground := Ground.phase }, { on := 15, ground := Ground.phase }], guard := none }) (v := .pointer (some ⟨bo, tn, none⟩)) rfl (by kernel_rfl) (by kernel_rfl) (by kernel_rfl) (fun c a w' => HQP.out c a _ _ w') (Or.inl ⟨by rfl, ?_⟩) hHeld ?_
    · intro W hSw
      try dsimp only at hSw
      clear hSw
      clear hHeld
      go_simp
    simp only [Act.put, List.setIfInBounds_toArray, List.set_cons_zero, List.set_cons_succ]
    refine wpAnyH_ready (rs := [17]) (by kernel_rfl) (by simp) (AllReadyH.cons (o := { dst := none, op := Op.store 140 (Operand.tmp 92) (Operand.tmp 91), type := 0, pos := "sound.go:30", after := #[{ on := 16, ground := Ground.data }, { on := 15, ground := Ground.data }, { on := 15, ground := Ground.chain }, { on := 0, ground := Ground.phase }, { on := 1, ground := Ground.phase }, { on := 2, ground := Ground.phase }, { on := 3, ground := Ground.phase }, { on := 4, ground := Ground.phase }, { on := 5, ground := Ground.phase }, { on := 6, ground := Ground.phase }, { on := 7, ground := Ground.phase }, { on := 8, ground := Ground.phase }, { on := 9, ground := Ground.phase }, { on := 10, ground := Ground.phase }, { on := 11, ground := Ground.phase }, { on := 12, ground := Ground.phase }, { on := 13, ground := Ground.phase }, { on := 14, ground := Ground.phase }, { on := 15, ground := Ground.phase }], guard := none }) rfl (fun K hK => ?_) AllReadyH.nil)
    go_simp
    refine hK.out _ _ ⟨by rw [World.cell?_setCell_far _ _ _ _ (by simpa using h3o.symm)]; exact m3, by rw [World.cell?_setCell_far _ _ _ _ (by simpa using hlo.symm)]; exact ml0, by rw [World.cell?_setCell_far _ _ _ _ (by simpa using hlo.symm)]; exact ml1⟩ (fun hHeld => ?_)
    clear hK K hHeld
    try simp only [Act.put, List.setIfInBounds_toArray, List.set_cons_zero, List.set_cons_succ]
    refine wpAnyH_done (by kernel_rfl) ?_ _
    refine HQ.out _ _ _ _ _ _ _ _ _ _ _ _ _ _ _ _ _ _ _ _ (own_kept (bs := [bo]) OWN5.out ((Only.refl [bo] w5).setCell (.inl (by simp)) _) ?_) ?_ (CO5.out.set tn _) ?_
    · intro q hq
      simp only [Value.ownBlock, Option.some.injEq] at hq
      subst hq
      simp only [List.mem_singleton]
      rcases HAT.out with h1 | h1
      · exact (HNE.out _ h1).2.2
      · omega
    · intro q hq
      simp only [Value.ownBlock, Option.some.injEq] at hq
      subst hq
      rcases HAT.out with h1 | h1
      · exact .inl h1
      · exact .inr (by omega)
    · refine Only.setCell ?_ (p := ⟨bo, tn, none⟩) (.inl (by simp)) _
      exact (((Only.refl (bo :: (Value.slice ao m cap).ownBlock.toList) wx).drew).alloc (.cells #[.int .i64 (r : Nat), .int .u64 (wt : Nat)] 142)).trans HO5.out (fun q hq => .inl (List.mem_cons_of_mem _ hq))
end Go.Proofs.YtjbphoophgbmiaaDoor

/- The web of a hierarchy: as data, and as it lies in memory. -/
namespace Go.Proofs.YtjbphoophgbmiaaDoor
open Go.ChangeShapes Go.WideShapes Go.ChangeAt Go.RowKit Go.Joins Go.Deep

def putS (S : Nat → List (Nat × Nat)) (i : Nat) (s : Nat × Nat) : Nat → List (Nat × Nat) := fun v => if v = i then S v ++ [s] else S v
def webUps (r : Nat) (ls : List LinkD) (S : Nat → List (Nat × Nat)) : Nat → List (Nat × Nat) := ls.foldl (fun S l => putS S r (l.to, l.wt)) S
def webDns (r : Nat) (ls : List LinkD) (S : Nat → List (Nat × Nat)) : Nat → List (Nat × Nat) := ls.foldl (fun S l => putS S l.to (r, l.wt)) S
def webTo (h : HierD) : Nat → Nat → List (Nat × Nat)
  | 0 => fun _ => []
  | r + 1 => webDns r (seg h.dnF h.dn r) (webUps r (seg h.upF h.up r) (webTo h r))
/-- The links of a hierarchy as arcs between ranks: from each rank, up and down. -/
def webD (h : HierD) : Nat → List (Nat × Nat) := webTo h h.node.length

theorem putS_len (S : Nat → List (Nat × Nat)) (i : Nat) (s : Nat × Nat) (v : Nat) : (putS S i s v).length ≤ (S v).length + 1 := by
  unfold putS
  split <;> simp
theorem putS_mem {S : Nat → List (Nat × Nat)} {i v : Nat} {s x : Nat × Nat} : x ∈ putS S i s v ↔ x ∈ S v ∨ (v = i ∧ x = s) := by
  unfold putS
  split
  · rename_i e; simp [e]
  · rename_i e; simp [e]
theorem ups_len (r : Nat) (ls : List LinkD) : ∀ (S : Nat → List (Nat × Nat)) v, (webUps r ls S v).length ≤ (S v).length + ls.length := by
  induction ls with
  | nil => intro S v; simp [webUps]
  | cons l ls ih =>
    intro S v
    have h1 := ih (putS S r (l.to, l.wt)) v
    have h2 := putS_len S r (l.to, l.wt) v
    simp only [webUps, List.foldl_cons, List.length_cons] at h1 ⊢
    omega
theorem dns_len (r : Nat) (ls : List LinkD) : ∀ (S : Nat → List (Nat × Nat)) v, (webDns r ls S v).length ≤ (S v).length + ls.length := by
  induction ls with
  | nil => intro S v; simp [webDns]
  | cons l ls ih =>
    intro S v
    have h1 := ih (putS S l.to (r, l.wt)) v
    have h2 := putS_len S l.to (r, l.wt) v
    simp only [webDns, List.foldl_cons, List.length_cons] at h1 ⊢
    omega
theorem ups_mem (r : Nat) (ls : List LinkD) : ∀ (S : Nat → List (Nat × Nat)) v x, x ∈ webUps r ls S v ↔ x ∈ S v ∨ (v = r ∧ ∃ l ∈ ls, x = (l.to, l.wt)) := by
  induction ls with
  | nil => intro S v x; simp [webUps]
  | cons l ls ih =>
    intro S v x
    have h1 := ih (putS S r (l.to, l.wt)) v x
    simp only [webUps, List.foldl_cons] at h1 ⊢
    rw [h1, putS_mem]
    simp only [List.mem_cons, exists_eq_or_imp]
    constructor
    · rintro ((h | ⟨h, e⟩) | ⟨h, e⟩)
      · exact .inl h
      · exact .inr ⟨h, .inl e⟩
      · exact .inr ⟨h, .inr e⟩
    · rintro (h | ⟨h, e | e⟩)
      · exact .inl (.inl h)
      · exact .inl (.inr ⟨h, e⟩)
      · exact .inr ⟨h, e⟩
theorem dns_mem (r : Nat) (ls : List LinkD) : ∀ (S : Nat → List (Nat × Nat)) v x, x ∈ webDns r ls S v ↔ x ∈ S v ∨ ∃ l ∈ ls, v = l.to ∧ x = (r, l.wt) := by
  induction ls with
  | nil => intro S v x; simp [webDns]
  | cons l ls ih =>
    intro S v x
    have h1 := ih (putS S l.to (r, l.wt)) v x
    simp only [webDns, List.foldl_cons] at h1 ⊢
    rw [h1, putS_mem]
    simp only [List.mem_cons, exists_eq_or_imp]
    constructor
    · rintro ((h | e) | e)
      · exact .inl h
      · exact .inr (.inl e)
      · exact .inr (.inr e)
    · rintro (h | e | e)
      · exact .inl (.inl h)
      · exact .inl (.inr e)
      · exact .inr e
theorem webTo_mem (h : HierD) : ∀ k a (x : Nat × Nat), x ∈ webTo h k a ↔ (a < k ∧ ∃ l ∈ seg h.upF h.up a, x = (l.to, l.wt)) ∨ (x.1 < k ∧ ∃ l ∈ seg h.dnF h.dn x.1, a = l.to ∧ x.2 = l.wt) := by
  intro k
  induction k with
  | zero => intro a x; simp [webTo]
  | succ k ih =>
    intro a x
    simp only [webTo]
    rw [dns_mem, ups_mem, ih]
    constructor
    · rintro (((⟨h1, h2⟩ | ⟨h1, h2⟩) | ⟨rfl, h2⟩) | ⟨l, hl, e1, rfl⟩)
      · exact .inl ⟨by omega, h2⟩
      · exact .inr ⟨by omega, h2⟩
      · exact .inl ⟨by omega, h2⟩
      · exact .inr ⟨by simp, l, hl, e1, rfl⟩
    · rintro (⟨h1, h2⟩ | ⟨h1, l, hl, e1, e2⟩)
      · rcases Nat.lt_or_ge a k with h3 | h3
        · exact .inl (.inl (.inl ⟨h3, h2⟩))
        · obtain rfl : a = k := by omega
          exact .inl (.inr ⟨rfl, h2⟩)
      · rcases Nat.lt_or_ge x.1 k with h3 | h3
        · exact .inl (.inl (.inr ⟨h3, l, hl, e1, e2⟩))
        · have e : x.1 = k := by omega
          rw [e] at hl
          exact .inr ⟨l, hl, e1, Prod.ext e e2⟩
theorem webTo_len {h : HierD} (u : FirstsOk h.node.length h.upF h.up.length) (d : FirstsOk h.node.length h.dnF h.dn.length) : ∀ k, k ≤ h.node.length → ∀ v, (webTo h k v).length ≤ h.upF.getD k 0 + h.dnF.getD k 0 := by
  intro k
  induction k with
  | zero => intro _ v; simp [webTo]
  | succ k ih =>
    intro hk v
    simp only [webTo]
    have h1 := dns_len k (seg h.dnF h.dn k) (webUps k (seg h.upF h.up k) (webTo h k)) v
    have h2 := ups_len k (seg h.upF h.up k) (webTo h k) v
    have h3 := ih (by omega) v
    have h4 := seg_length u k (by omega)
    have h5 := seg_length d k (by omega)
    have h6 := u.mono k (by omega)
    have h7 := d.mono k (by omega)
    omega

/-- The web as it lies in memory: one block of lists, each list of its own. -/
structure WRep (base n : Nat) (S : Nat → List (Nat × Nat)) (bo : Nat) (vs : Nat → Value) (w : World) : Prop where
  o : Cells w bo 140 ((List.range n).map vs)
  own : ∀ i, i < n → w.ownsRow 0 142 2 (vs i) (S i).length ((S i).flatMap stepCells)
  lo : ∀ i, i < n → ∀ q, (vs i).ownBlock = some q → base ≤ q ∧ q ≠ bo
  dis : ∀ i j, i < n → j < n → i ≠ j → ∀ q, (vs i).ownBlock = some q → (vs j).ownBlock ≠ some q
theorem own_lt {w : World} {base size n : Nat} {e : TypeId} {v : Value} {xs : List Value} (h : w.ownsRow base e size v n xs) {q : Nat} (hq : v.ownBlock = some q) : q < w.heap.size := (h.lt q hq).2
theorem WRep.kept {base n : Nat} {S : Nat → List (Nat × Nat)} {bo : Nat} {vs : Nat → Value} {w w' : World} {bs : List Nat} (k : WRep base n S bo vs w) (o : Only bs w w') (h1 : bo ∉ bs) (h2 : ∀ q ∈ bs, q < base ∨ w.heap.size ≤ q) : WRep base n S bo vs w' :=
  ⟨k.o.kept o h1, fun i hi => own_kept (k.own i hi) o (fun q hq hm => by
    have a := k.lo i hi q hq
    have b := own_lt (k.own i hi) hq
    rcases h2 q hm with c | c <;> omega), k.lo, k.dis⟩
theorem WRep.below {base n : Nat} {S : Nat → List (Nat × Nat)} {bo : Nat} {vs : Nat → Value} {w w' : World} (k : WRep base n S bo vs w) (o : Below w.heap.size w w') : WRep base n S bo vs w' :=
  k.kept (bs := []) (Only.of_below o) (by simp) (by simp)
theorem WRep.app {base n : Nat} {S : Nat → List (Nat × Nat)} {bo : Nat} {vs : Nat → Value} {w w' : World} (k : WRep base n S bo vs w) {i : Nat} (hi : i < n) (s : Nat × Nat) (v' : Value) (hbase : base ≤ w.heap.size) (hbo : bo < base)
    (h1 : w'.ownsRow 0 142 2 v' ((S i).length + 1) ((S i).flatMap stepCells ++ stepCells s)) (h2 : ∀ q, v'.ownBlock = some q → (vs i).ownBlock = some q ∨ w.heap.size ≤ q)
    (h3 : Cells w' bo 140 (((List.range n).map vs).set i v')) (h4 : Only (bo :: (vs i).ownBlock.toList) w w') : WRep base n (putS S i s) bo (fun v => if v = i then v' else vs v) w' := by
  refine ⟨?_, fun j hj => ?_, fun j hj q hq => ?_, fun a b ha hb hab q hq he => ?_⟩
  · rw [show (List.range n).map (fun v => if v = i then v' else vs v) = ((List.range n).map vs).set i v' from ?_]
    · exact h3
    · apply List.ext_getElem?
      intro j
      rw [List.getElem?_set]
      simp only [List.getElem?_map, List.length_map, List.length_range]
      by_cases hj : i = j
      · subst hj
        rw [if_pos rfl, if_pos hi, List.getElem?_range hi]
        simp
      · rw [if_neg hj]
        rcases Nat.lt_or_ge j n with hjn | hjn
        · rw [List.getElem?_range hjn]
          have hji : ¬ j = i := fun e => hj e.symm
          simp [hji]
        · rw [List.getElem?_eq_none (by simpa using hjn)]
          rfl
  · by_cases e : j = i
    · subst e
      simp only [if_true, putS]
      rw [List.length_append, List.flatMap_append]
      simpa using h1
    · simp only [if_neg e, putS]
      refine own_kept (k.own j hj) h4 (fun q hq hm => ?_)
      rw [List.mem_cons] at hm
      rcases hm with rfl | hm
      · exact (k.lo j hj _ hq).2 rfl
      · exact k.dis j i hj hi e q hq (by simpa using hm)
  · by_cases e : j = i
    · subst e
      simp only [if_true] at hq
      rcases h2 q hq with c | c
      · exact k.lo j hj q c
      · exact ⟨by omega, by omega⟩
    · simp only [if_neg e] at hq
      exact k.lo j hj q hq
  · by_cases ea : a = i
    · have eb : b ≠ i := fun e => hab (ea.trans e.symm)
      simp only [if_pos ea] at hq
      simp only [if_neg eb] at he
      rcases h2 q hq with c | c
      · exact k.dis i b hi hb (fun e => eb e.symm) q c he
      · have := own_lt (k.own b hb) he
        omega
    · simp only [if_neg ea] at hq
      by_cases eb : b = i
      · simp only [if_pos eb] at he
        rcases h2 q he with c | c
        · exact k.dis a i ha hi ea q hq c
        · have := own_lt (k.own a ha) hq
          omega
      · simp only [if_neg eb] at he
        exact k.dis a b ha hb hab q hq he
end Go.Proofs.YtjbphoophgbmiaaDoor

/- Least ways in a web, and the search that finds them: as data. -/
namespace Go.Proofs.YtjbphoophgbmiaaDoor
open Go.ChangeShapes Go.WideShapes Go.ChangeAt Go.RowKit Go.Joins Go.Deep

/-- A way from u over steps to what lies above r, and what it weighs. -/
inductive Wk (W : Nat → List (Nat × Nat)) (r : Int) (u : Nat) : Nat → Int → Prop
  | nil : Wk W r u u 0
  | snoc {a : Nat} {d : Int} (s : Nat × Nat) : Wk W r u a d → s ∈ W a → r < s.1 → Wk W r u s.1 (d + s.2)
theorem Wk.nonneg {W : Nat → List (Nat × Nat)} {r : Int} {u v : Nat} {d : Int} (h : Wk W r u v d) : 0 ≤ d := by
  induction h with
  | nil => omega
  | snoc s h hs hr ih => omega
/-- D tells what the least ways from u weigh. -/
structure IsS (W : Nat → List (Nat × Nat)) (r : Int) (u : Nat) (D : Nat → Option Int) : Prop where
  walk : ∀ v d, D v = some d → Wk W r u v d
  least : ∀ v d', Wk W r u v d' → ∃ d, D v = some d ∧ d ≤ d'
theorem IsS.unique {W : Nat → List (Nat × Nat)} {r : Int} {u : Nat} {D E : Nat → Option Int} (h : IsS W r u D) (k : IsS W r u E) : ∀ v, D v = E v := by
  intro v
  cases hD : D v with
  | none =>
    cases hE : E v with
    | none => rfl
    | some e =>
      obtain ⟨d, h1, -⟩ := h.least v e (k.walk v e hE)
      rw [hD] at h1; cases h1
  | some d =>
    obtain ⟨e, h1, h2⟩ := k.least v d (h.walk v d hD)
    obtain ⟨d', h3, h4⟩ := h.least v e (k.walk v e h1)
    rw [hD] at h3
    simp only [Option.some.injEq] at h3
    rw [h1]
    congr 1
    omega

def sumTo (f : Nat → Nat) : Nat → Nat
  | 0 => 0
  | n + 1 => sumTo f n + f n
theorem sumTo_congr {f g : Nat → Nat} : ∀ n, (∀ v, v < n → f v = g v) → sumTo f n = sumTo g n := by
  intro n
  induction n with
  | zero => intro _; rfl
  | succ n ih => intro h; simp only [sumTo]; rw [ih (fun v hv => h v (by omega)), h n (by omega)]
theorem sumTo_upd {f g : Nat → Nat} {b : Nat} : ∀ n, b < n → (∀ v, v ≠ b → f v = g v) → sumTo f n + g b = sumTo g n + f b := by
  intro n
  induction n with
  | zero => intro h; omega
  | succ n ih =>
    intro hb h
    simp only [sumTo]
    by_cases e : b = n
    · subst e
      rw [sumTo_congr b (fun v hv => h v (by omega))]
      omega
    · have := ih (by omega) h
      rw [h n (fun x => e x.symm)]
      omega
def one (x : Option Int) : Nat := if x.isSome then 1 else 0
/-- How many are labelled, or wait. -/
def cntS (D : Nat → Option Int) (n : Nat) : Nat := sumTo (fun v => one (D v)) n
/-- What falls with each step of the search. -/
def mu (n : Nat) (D m : Nat → Option Int) : Nat := 2 * sumTo (fun v => (farOf (D v)).toNat) n + cntS m n
def updD (D : Nat → Option Int) (b : Nat) (d : Int) : Nat → Option Int := fun v => if v = b then some d else D v

theorem cntS_le (D : Nat → Option Int) : ∀ n, cntS D n ≤ n := by
  intro n
  induction n with
  | zero => simp [cntS, sumTo]
  | succ n ih =>
    have h : one (D n) ≤ 1 := by unfold one; split <;> omega
    simp only [cntS, sumTo] at ih ⊢
    omega
theorem cntS_pos {D : Nat → Option Int} {v : Nat} {d : Int} (h : D v = some d) : ∀ n, v < n → 1 ≤ cntS D n := by
  intro n
  induction n with
  | zero => intro h; omega
  | succ n ih =>
    intro hv
    simp only [cntS, sumTo] at ih ⊢
    by_cases e : v = n
    · subst e
      rw [h]
      simp [one]
    · have := ih (by omega)
      omega

/-- What holds of the labels D and the queue m. P a s: the step s from a has been looked at. -/
structure DInv (n : Nat) (W : Nat → List (Nat × Nat)) (r : Int) (u : Nat) (D m : Nat → Option Int) (P : Nat → Nat × Nat → Prop) : Prop where
  src : D u = some 0
  walk : ∀ v d, D v = some d → Wk W r u v d
  q : ∀ v k, m v = some k → D v = some k
  fwd : ∀ a x s, D a = some x → s ∈ W a → r < s.1 → m a = none → P a s → ∃ y, D s.1 = some y ∧ y ≤ x + s.2
  bnd : ∀ v d, D v = some d → v < n ∧ d ≤ ((cntS D n : Nat) - 1 : Int) * 140737488355328
theorem DInv.start {n : Nat} {W : Nat → List (Nat × Nat)} {r : Int} {u : Nat} (hu : u < n) : DInv n W r u (startD u) (pushM (fun _ => none) u 0) (fun _ _ => True) := by
  refine ⟨by simp [startD], fun v d h => ?_, fun v k h => ?_, fun a x s h hs hr hm _ => ?_, fun v d h => ?_⟩
  · unfold startD at h
    split at h
    · rename_i e; subst e; simp only [Option.some.injEq] at h; subst h; exact .nil
    · cases h
  · unfold pushM at h
    split at h
    · rename_i e; subst e; simpa [startD] using h
    · cases h
  · unfold startD at h
    split at h
    · rename_i e; subst e; simp [pushM] at hm
    · cases h
  · unfold startD at h
    split at h
    · rename_i e
      subst e
      simp only [Option.some.injEq] at h
      subst h
      have := cntS_pos (D := startD v) (v := v) (d := 0) (by simp [startD]) n hu
      exact ⟨hu, by omega⟩
    · cases h
theorem DInv.big {n : Nat} {W : Nat → List (Nat × Nat)} {r : Int} {u : Nat} {D m : Nat → Option Int} {P : Nat → Nat × Nat → Prop} (h : DInv n W r u D m P) (hn : n ≤ 65536) {v : Nat} {d : Int} (hd : D v = some d) : 0 ≤ d ∧ d ≤ 65535 * 140737488355328 := by
  have h1 := (h.bnd v d hd).2
  have h2 := cntS_le D n
  exact ⟨(h.walk v d hd).nonneg, by omega⟩
/-- The thing with the least key is taken out. -/
theorem DInv.pop {n : Nat} {W : Nat → List (Nat × Nat)} {r : Int} {u : Nat} {D m : Nat → Option Int} (h : DInv n W r u D m (fun _ _ => True)) (id : Nat) : DInv n W r u D (eraseM m id) (fun a _ => a ≠ id) := by
  refine ⟨h.src, h.walk, fun v k hk => ?_, fun a x s ha hs hr hm hP => ?_, h.bnd⟩
  · unfold eraseM at hk
    split at hk
    · cases hk
    · exact h.q v k hk
  · unfold eraseM at hm
    rw [if_neg hP] at hm
    exact h.fwd a x s ha hs hr hm trivial
theorem mu_pop {n : Nat} {D m : Nat → Option Int} {id : Nat} {k : Int} (hk : m id = some k) (hid : id < n) : mu n D (eraseM m id) + 1 = mu n D m := by
  have h := sumTo_upd (f := fun v => one (eraseM m id v)) (g := fun v => one (m v)) (b := id) n hid (fun v hv => by simp [eraseM, hv])
  have e1 : one (m id) = 1 := by rw [hk]; rfl
  have e2 : one (eraseM m id id) = 0 := by simp [eraseM, one]
  simp only [e1, e2] at h
  unfold mu cntS
  omega
/-- A step is gone that makes a label less. -/
theorem DInv.relax {n : Nat} {W : Nat → List (Nat × Nat)} {r : Int} {u : Nat} {D m : Nat → Option Int} {id : Nat} {k : Int} {s : Nat × Nat} {Q : Nat × Nat → Prop} (h : DInv n W r u D m (fun a t => a = id → Q t)) (hn : n ≤ 65536) (hid : D id = some k) (hmid : m id = none)
    (hs : s ∈ W id) (hr : r < s.1) (hsn : s.1 < n) (hw : s.2 ≤ 140737488355328) (hlt : k + s.2 < farOf (D s.1)) :
    DInv n W r u (updD D s.1 (k + s.2)) (pushM m s.1 (k + s.2)) (fun a t => a = id → Q t ∨ t = s) ∧ pushM m s.1 (k + s.2) id = none ∧ updD D s.1 (k + s.2) id = some k ∧
    mu n (updD D s.1 (k + s.2)) (pushM m s.1 (k + s.2)) + 1 ≤ mu n D m := by
  have hk := h.big hn hid
  have hne : s.1 ≠ id := by
    intro e
    rw [e, hid] at hlt
    simp only [farOf] at hlt
    omega
  have hpm : pushM m s.1 (k + s.2) s.1 = some (k + s.2) := by
    unfold pushM
    rw [if_pos rfl]
    cases hm : m s.1 with
    | none => rfl
    | some o =>
      have := h.q _ _ hm
      rw [this] at hlt
      simp only [farOf] at hlt
      simp only
      rw [if_neg (by omega)]
  have hpo : ∀ v, v ≠ s.1 → pushM m s.1 (k + s.2) v = m v := fun v hv => by unfold pushM; rw [if_neg hv]
  have hD : updD D s.1 (k + s.2) s.1 = some (k + s.2) := if_pos rfl
  have hDo : ∀ v, v ≠ s.1 → updD D s.1 (k + s.2) v = D v := fun v hv => if_neg hv
  have hcnt := sumTo_upd (f := fun v => one (updD D s.1 (k + s.2) v)) (g := fun v => one (D v)) (b := s.1) n hsn (fun v hv => by simp [hDo v hv])
  have hcm := sumTo_upd (f := fun v => one (pushM m s.1 (k + s.2) v)) (g := fun v => one (m v)) (b := s.1) n hsn (fun v hv => by simp [hpo v hv])
  have hsum := sumTo_upd (f := fun v => (farOf (updD D s.1 (k + s.2) v)).toNat) (g := fun v => (farOf (D v)).toNat) (b := s.1) n hsn (fun v hv => by simp [hDo v hv])
  have one1 : one (some (k + (s.2 : Int))) = 1 := rfl
  have oneL : ∀ x, one x ≤ 1 := fun x => by unfold one; split <;> omega
  simp only [hD, hpm, one1] at hcnt hcm hsum
  have ff : farOf (some (k + (s.2 : Int))) = k + s.2 := rfl
  rw [ff] at hsum
  have cle : cntS D n ≤ cntS (updD D s.1 (k + s.2)) n := by have := oneL (D s.1); unfold cntS; omega
  refine ⟨⟨?_, fun v d hv => ?_, fun v o hv => ?_, fun a x t ha ht htr hm hP => ?_, fun v d hv => ?_⟩, by rw [hpo id hne.symm]; exact hmid, by rw [hDo id hne.symm]; exact hid, ?_⟩
  · by_cases e : u = s.1
    · rw [← e, h.src] at hlt
      simp only [farOf] at hlt
      omega
    · rw [hDo u e]
      exact h.src
  · by_cases e : v = s.1
    · subst e
      rw [hD] at hv
      simp only [Option.some.injEq] at hv
      subst hv
      exact (h.walk id k hid).snoc s hs hr
    · rw [hDo v e] at hv
      exact h.walk v d hv
  · by_cases e : v = s.1
    · subst e
      rw [hpm] at hv
      rw [hD]
      exact hv
    · rw [hpo v e] at hv
      rw [hDo v e]
      exact h.q v o hv
  · by_cases ea : a = s.1
    · subst ea
      rw [hpm] at hm
      cases hm
    · rw [hDo a ea] at ha
      rw [hpo a ea] at hm
      have old : (∃ y, D t.1 = some y ∧ y ≤ x + t.2) → ∃ y, updD D s.1 (k + s.2) t.1 = some y ∧ y ≤ x + t.2 := by
        rintro ⟨y, h1, h2⟩
        by_cases e : t.1 = s.1
        · rw [e] at h1 ⊢
          rw [h1] at hlt
          simp only [farOf] at hlt
          exact ⟨_, hD, by omega⟩
        · exact ⟨y, by rw [hDo _ e]; exact h1, h2⟩
      by_cases e : a = id
      · rcases hP e with h1 | h1
        · exact old (h.fwd a x t ha ht htr hm (fun _ => h1))
        · subst h1
          rw [e, hid] at ha
          simp only [Option.some.injEq] at ha
          exact ⟨_, hD, by omega⟩
      · exact old (h.fwd a x t ha ht htr hm (fun e' => absurd e' e))
  · by_cases e : v = s.1
    · subst e
      rw [hD] at hv
      simp only [Option.some.injEq] at hv
      subst hv
      refine ⟨hsn, ?_⟩
      cases hDs : D s.1 with
      | none =>
        rw [hDs] at hcnt
        have h1 := (h.bnd id k hid).2
        have h0 : one (none : Option Int) = 0 := rfl
        rw [h0] at hcnt
        have h2 : cntS (updD D s.1 (k + s.2)) n = cntS D n + 1 := by unfold cntS; omega
        rw [h2]
        omega
      | some o =>
        have h1 := (h.bnd s.1 o hDs).2
        rw [hDs] at hlt
        simp only [farOf] at hlt
        omega
    · rw [hDo v e] at hv
      have h1 := h.bnd v d hv
      exact ⟨h1.1, by omega⟩
  · have hc := oneL (m s.1)
    unfold mu cntS
    omega
/-- A step is looked at that makes no label less. -/
theorem DInv.skip {n : Nat} {W : Nat → List (Nat × Nat)} {r : Int} {u : Nat} {D m : Nat → Option Int} {id : Nat} {k : Int} {s : Nat × Nat} {Q : Nat × Nat → Prop} (h : DInv n W r u D m (fun a t => a = id → Q t)) (hn : n ≤ 65536) (hid : D id = some k)
    (hw : s.2 ≤ 140737488355328) (hno : r < s.1 → ¬ k + s.2 < farOf (D s.1)) : DInv n W r u D m (fun a t => a = id → Q t ∨ t = s) := by
  have hk := h.big hn hid
  refine ⟨h.src, h.walk, h.q, fun a x t ha ht htr hm hP => ?_, h.bnd⟩
  by_cases e : a = id
  · rcases hP e with h1 | h1
    · exact h.fwd a x t ha ht htr hm (fun _ => h1)
    · subst h1
      rw [e, hid] at ha
      simp only [Option.some.injEq] at ha
      have h2 := hno htr
      cases hD : D t.1 with
      | none => rw [hD] at h2; simp only [farOf] at h2; omega
      | some y => rw [hD] at h2; simp only [farOf] at h2; exact ⟨y, rfl, by omega⟩
  · exact h.fwd a x t ha ht htr hm (fun e' => absurd e' e)
theorem DInv.all {n : Nat} {W : Nat → List (Nat × Nat)} {r : Int} {u : Nat} {D m : Nat → Option Int} {id : Nat} {Q : Nat × Nat → Prop} (h : DInv n W r u D m (fun a t => a = id → Q t)) (hq : ∀ t ∈ W id, Q t) : DInv n W r u D m (fun _ _ => True) :=
  ⟨h.src, h.walk, h.q, fun a x t ha ht htr hm _ => h.fwd a x t ha ht htr hm (fun e => by subst e; exact hq t ht), h.bnd⟩
theorem DInv.done {n : Nat} {W : Nat → List (Nat × Nat)} {r : Int} {u : Nat} {D m : Nat → Option Int} (h : DInv n W r u D m (fun _ _ => True)) (hm : ∀ v, m v = none) : IsS W r u D := by
  refine ⟨h.walk, fun v d' hw => ?_⟩
  induction hw with
  | nil => exact ⟨0, h.src, by omega⟩
  | snoc s hw hs hr ih =>
    obtain ⟨d, h1, h2⟩ := ih
    obtain ⟨y, h3, h4⟩ := h.fwd _ d s h1 hs hr (hm _) trivial
    exact ⟨y, h3, by omega⟩
end Go.Proofs.YtjbphoophgbmiaaDoor

/- The web of a hierarchy: weave. -/
namespace Go.Proofs.YtjbphoophgbmiaaDoor
open Go.ChangeShapes Go.WideShapes Go.ChangeAt Go.RowKit Go.Joins Go.Deep

theorem Tryd.sizeWeb : (Tryd.prog.info? 92).map (·.size) = some 1 := by kernel_rfl
def webVal (bo n : Nat) : Value := .agg #[.slice (some ⟨bo, 0, none⟩) n n]
def WeaveNew (h : HierD) (w : World) (e : Ending) (w' : World) : Prop := ∃ bo base vs, e = .returned (webVal bo h.node.length) ∧ WRep base h.node.length (webD h) bo vs w' ∧ w.heap.size ≤ bo ∧ bo < base ∧ Below w.heap.size w w'
def nilSteps (n : Nat) : List Value := (List.range n).map fun _ => .slice none 0 0
theorem steps_made (n : Nat) : madeCells (Value.slice none 0 0).cells (n * 1) = (nilSteps n).toArray := by
  have e := madeCells_eq [Value.slice none 0 0] n (by simp)
  have h : ((List.replicate n ()).flatMap fun _ => [Value.slice none 0 0]) = nilSteps n := by
    apply List.ext_getElem?
    intro j
    have hg := flat_get (f := fun (_ : Unit) => [Value.slice none 0 0]) (sz := 1) (fun _ => rfl) (List.replicate n ()) j 0 (by omega)
    rw [Nat.mul_one, Nat.add_zero] at hg
    rw [hg]
    unfold nilSteps
    rcases Nat.lt_or_ge j n with h1 | h1
    · simp [h1]
    · rw [List.getElem?_eq_none (l := List.replicate n ()) (by simpa using h1), List.getElem?_eq_none (l := (List.range n).map _) (by simpa using h1)]; rfl
  rw [h] at e
  exact e
theorem WRep.nil {base n bo : Nat} {w : World} (h : Cells w bo 140 (nilSteps n)) : WRep base n (webTo ⟨[], [], [], [], []⟩ 0) bo (fun _ => .slice none 0 0) w :=
  ⟨h, fun i _ => World.ownsRow_nil w 0 142 2, fun i _ q hq => by simp [Value.ownBlock] at hq, fun i j _ _ _ q hq => by simp [Value.ownBlock] at hq⟩

set_option linter.unusedSimpArgs false in
set_option maxRecDepth 100000 in
set_option maxHeartbeats 8000000 in
theorem weave_any (A : HA) (h : HierD) (w : World) (see : HSee w A h) (u : FirstsOk h.node.length h.upF h.up.length) (d : FirstsOk h.node.length h.dnF h.dn.length) (ok : HalfOk h.node.length h.upF h.up) (okd : HalfOk h.node.length h.dnF h.dn) (hn : h.node.length ≤ 65536) (htot : h.up.length + h.dn.length ≤ 1048576) : Calls Tryd.prog 49 #[hierVal A h] w (WeaveNew h w) := by
  have hmk := run_make_n (P := Tryd.prog) 90 140 (.slice none 0 0) 1 24 Tryd.underlying90 Tryd.infoSteps .i64 .i64 h.node.length (by omega) (by omega)
  rw [steps_made] at hmk
  have SEE := Lib.hid see
  have UOK := Lib.hid u
  have DOK := Lib.hid d
  have OKU := Lib.hid ok
  have OKD := Lib.hid okd
  clear see u d ok okd
  unfold hierVal
  go_enter Tryd.func49, Tryd.ntmps49
  go_wp2_with fail
  have hb1 : Below w.heap.size w ((((w.alloc (.cells (hierCells A h).toArray 25)).alloc (.cells #[.slice none 0 0] 92)).alloc (.cells (nilSteps h.node.length).toArray 140)).alloc (.cells #[.slice (some ⟨w.heap.size + 1 + 1, 0, none⟩) h.node.length h.node.length] 92)) :=
    ((((Below.refl w.heap.size w).alloc (Nat.le_refl _) _).alloc (by simp) _).alloc (by simp; omega) _).alloc (by simp; omega) _
  have hx1 := (((Cells.new w 25 (hierCells A h)).alloc (.cells #[.slice none 0 0] 92)).alloc (.cells (nilSteps h.node.length).toArray 140)).alloc (.cells #[.slice (some ⟨w.heap.size + 1 + 1, 0, none⟩) h.node.length h.node.length] 92)
  have hr1 := ((cells_at (w := w.alloc (.cells (hierCells A h).toArray 25)) (b := w.heap.size + 1) (by simp) 92 [.slice none 0 0]).alloc (.cells (nilSteps h.node.length).toArray 140)).alloc (.cells #[.slice (some ⟨w.heap.size + 1 + 1, 0, none⟩) h.node.length h.node.length] 92)
  have ho1 := (cells_at (w := (w.alloc (.cells (hierCells A h).toArray 25)).alloc (.cells #[.slice none 0 0] 92)) (b := w.heap.size + 1 + 1) (by simp) 140 (nilSteps h.node.length)).alloc (.cells #[.slice (some ⟨w.heap.size + 1 + 1, 0, none⟩) h.node.length h.node.length] 92)
  have hc1 := cells_at (w := ((w.alloc (.cells (hierCells A h).toArray 25)).alloc (.cells #[.slice none 0 0] 92)).alloc (.cells (nilSteps h.node.length).toArray 140)) (b := w.heap.size + 1 + 1 + 1) (by simp) 92 [.slice (some ⟨w.heap.size + 1 + 1, 0, none⟩) h.node.length h.node.length]
  have HB0 := Lib.hid hb1
  have HX0 := Lib.hid hx1
  have HR0 := Lib.hid hr1
  have HC0 := Lib.hid hc1
  have HW0 := Lib.hid (show WRep (w.heap.size + 4) h.node.length (webTo h 0) (w.heap.size + 1 + 1) (fun _ => .slice none 0 0) _ from WRep.nil ho1)
  clear hb1 hx1 hr1 hc1 ho1 hmk
  go_loopg [17] h.node.length (fun g vi wr => ∃ (r : Nat) (vs : Nat → Value), vi = .int .i64 r ∧ r ≤ h.node.length ∧ g = h.node.length - r ∧ WRep (w.heap.size + 4) h.node.length (webTo h r) (w.heap.size + 1 + 1) vs wr ∧ Cells wr w.heap.size 25 (hierCells A h) ∧ Cells wr (w.heap.size + 1) 92 [.slice none 0 0] ∧ Cells wr (w.heap.size + 1 + 1 + 1) 92 [.slice (some ⟨w.heap.size + 1 + 1, 0, none⟩) h.node.length h.node.length] ∧ Below w.heap.size w wr)
  case atStart => exact ⟨0, _, rfl, Nat.zero_le _, rfl, HW0.out, HX0.out, HR0.out, HC0.out, HB0.out⟩
  case round =>
    obtain ⟨r, vs, rfl, hrl, hgr, hw2, hx2, hr2, hc2, hb2⟩ := hrel
    obtain ⟨wp, rfl⟩ : ∃ wp : World, wp = wr := ⟨_, rfl⟩
    have HGR := Lib.hid hgr
    have HW := Lib.hid hw2
    have HX := Lib.hid hx2
    have HR := Lib.hid hr2
    have HC := Lib.hid hc2
    have HB := Lib.hid hb2
    clear hgr hw2 hx2 hr2 hc2 hb2 HB0 HX0 HR0 HC0 HW0
    by_cases hrn : r < h.node.length
    · skip
      have hfl := UOK.out.len
      obtain ⟨lo, hlo⟩ : ∃ lo, h.upF[r]? = some lo := ⟨_, List.getElem?_eq_getElem (by omega)⟩
      obtain ⟨hi, hhi⟩ : ∃ hi, h.upF[r + 1]? = some hi := ⟨_, List.getElem?_eq_getElem (by omega)⟩
      have glo : h.upF.getD r 0 = lo := by rw [List.getD_eq_getElem?_getD, hlo]; rfl
      have ghi : h.upF.getD (r + 1) 0 = hi := by rw [List.getD_eq_getElem?_getD, hhi]; rfl
      have hlh : lo ≤ hi := by rw [← glo, ← ghi]; exact UOK.out.mono r hrn
      have hhl : hi ≤ h.up.length := by rw [← ghi]; exact UOK.out.le (r + 1) (by omega)
      have hseg : seg h.upF h.up r = (h.up.take hi).drop lo := by unfold seg; rw [glo, ghi]
      have su := SEE.out.below HB.out
      have hhc : hi ≤ A.c2 := Nat.le_trans hhl su.up.hcap
      have hhi32 : hi < 4294967296 := su.bu hi (List.mem_of_getElem? hhi)
      obtain ⟨b1, o1, ea1, lb1, cc1⟩ := see_one (f := fun (n : Nat) => Value.int .u32 n) su.upF (by omega)
      have cl := cc1 r lo hlo
      have ch := cc1 (r + 1) hi hhi
      obtain ⟨k0, k1, k2, k3, k4⟩ := hier_five HX.out
      rw [ea1] at k1
      have hil : r < h.upF.length := by omega
      have hil1 : r + 1 < h.upF.length := by omega
      have hsl := run_sub (P := Tryd.prog) 23 39 4 Tryd.underlying23 Tryd.sizeLink A.a2 h.up.length A.c2 lo hi .u32 .u32 hlh hhc
      have hLlen : ((h.up.take hi).drop lo).length = hi - lo := by simp; omega
      have hSUB : ∀ X, Below w.heap.size w X → See X (slBase A.a2 lo A.c2 4) (A.c2 - lo) linkCells 4 ((h.up.take hi).drop lo) := fun X hX => (SEE.out.below hX).up.sub lo hi hhl
      have hup : ∀ x ∈ (h.up.take hi).drop lo, r < x.to ∧ x.to < h.node.length ∧ x.wt ≤ 140737488355328 := fun x hx => OKU.out.up r hrn x (by rw [hseg]; exact hx)
      have hbnd : ∀ v, (webTo h r v).length + (hi - lo) ≤ 1048576 := fun v => by
        have a1 := webTo_len UOK.out DOK.out r (by omega) v
        have a2 := DOK.out.le r (by omega)
        rw [glo] at a1
        omega
      have LL := Lib.hid hLlen
      have HSUB := Lib.hid hSUB
      have HUP := Lib.hid hup
      have HSEG := Lib.hid hseg
      have HBND := Lib.hid hbnd
      clear hfl hlo hhi glo ghi hseg su cc1 ea1 hLlen hSUB hup hbnd
      generalize (h.up.take hi).drop lo = L at *
      go_wp2_with fail
      go_quiet (fail)
      go_wp2_with fail
      have HBq := Lib.hid (below_drewN HB.out nq)
      have HXq := Lib.hid (HX.out.drewN nq)
      have HWq := Lib.hid (HW.out.below (below_drewN (Below.refl _ _) nq))
      have HRq := Lib.hid (HR.out.drewN nq)
      have HCq := Lib.hid (HC.out.drewN nq)
      clear HB HX HW HR HC cl ch k0 k1 k2 k3 k4 hsl
      go_loopg [35] (hi - lo) (fun g vj wr => ∃ (j : Nat) (vs' : Nat → Value), vj = .int .i64 j ∧ j ≤ hi - lo ∧ g = hi - lo - j ∧ WRep (w.heap.size + 4) h.node.length (webUps r (L.take j) (webTo h r)) (w.heap.size + 1 + 1) vs' wr ∧ Cells wr w.heap.size 25 (hierCells A h) ∧ Cells wr (w.heap.size + 1) 92 [.slice none 0 0] ∧ Cells wr (w.heap.size + 1 + 1 + 1) 92 [.slice (some ⟨w.heap.size + 1 + 1, 0, none⟩) h.node.length h.node.length] ∧ Below w.heap.size w wr)
      case atStart => exact ⟨0, _, rfl, Nat.zero_le _, rfl, HWq.out, HXq.out, HRq.out, HCq.out, HBq.out⟩
      case round =>
        obtain ⟨j, vs', rfl, hj, hgj, hw2, hx2, hr2, hc2, hb2⟩ := hrel
        obtain ⟨wo, rfl⟩ : ∃ wo : World, wo = wr := ⟨_, rfl⟩
        have HGJ := Lib.hid hgj
        have HW := Lib.hid hw2
        have HX := Lib.hid hx2
        have HR := Lib.hid hr2
        have HC := Lib.hid hc2
        have HB := Lib.hid hb2
        clear hgj hw2 hx2 hr2 hc2 hb2 HWq HXq HRq HCq HBq
        by_cases hjl : j < hi - lo
        · obtain ⟨x, hx⟩ : ∃ x, L[j]? = some x := ⟨_, List.getElem?_eq_getElem (by rw [LL.out]; exact hjl)⟩
          obtain ⟨hx1, hx2, hx3⟩ := HUP.out x (List.mem_of_getElem? hx)
          obtain ⟨b2, o2, ea2, cc2⟩ := (HSUB.out wo HB.out).cell j x hx
          have e0 := cc2 0 _ rfl
          have e1 := cc2 1 _ rfl
          have e2 := cc2 2 _ rfl
          have e3 := cc2 3 _ rfl
          rw [Nat.add_zero] at e0
          have EA := Lib.hid ea2
          have HXJ := Lib.hid hx
          clear cc2 ea2 hx
          have HLT0 := Lib.hid (fun i (hi : i < h.node.length) q (hq : (vs' i).ownBlock = some q) => own_lt (HW.out.own i hi) hq)
          have hbsz := HC.out.lt
          obtain ⟨wq, hwq⟩ : ∃ wq, wo.alloc (.cells (linkCells x).toArray 39) = wq := ⟨_, rfl⟩
          have hlink := Cells.new wo 39 (linkCells x)
          have ho := (Below.refl wo.heap.size wo).alloc (Nat.le_refl _) (.cells (linkCells x).toArray 39)
          have hwsz : wq.heap.size = wo.heap.size + 1 := by rw [← hwq]; simp
          rw [hwq] at hlink ho
          have hc3 := HC.out.below ho HC.out.lt
          have hx3' := HX.out.below ho HX.out.lt
          have hr3 := HR.out.below ho HR.out.lt
          have hw3 := HW.out.below ho
          have hb3 := HB.out.trans (ho.mono HB.out.size)
          have lb3 := HC.out.lt
          have v0 : wq.cell? ⟨wo.heap.size, 0, none⟩ = some (.int .u32 (x.to : Nat)) := hlink.cell rfl
          have v1 : wq.cell? ⟨wo.heap.size, 1, none⟩ = some (.int .u64 (x.wt : Nat)) := hlink.cell rfl
          have q3 : wq.cell? ⟨w.heap.size + 1 + 1 + 1, 0, none⟩ = some (.slice (some ⟨w.heap.size + 1 + 1, 0, none⟩) h.node.length h.node.length) := hc3.cell rfl
          have HL3 := Lib.hid hlink
          have HC3 := Lib.hid hc3
          have HX3 := Lib.hid hx3'
          have HR3 := Lib.hid hr3
          have HW3 := Lib.hid hw3
          have HB3 := Lib.hid hb3
          have HWQ := Lib.hid hwq
          clear hlink ho hc3 hx3' hr3 hw3 hb3 HC HX HR HW HB
          rw [EA.out]
          go_upto_region 8 with fail
          try rw [show wo.alloc (.cells #[.int .u32 x.to, .int .u64 x.wt, .int .u32 x.left, .int .u32 x.right] 39) = wq from HWQ.out]
          clear e0 e1 e2 e3
          change Code.wp _ ((regionAt 8 weaveBody).getD .skip) _ _ _
          obtain ⟨ao, cap, hvs⟩ := own_form' (HW3.out.own r hrn)
          have hL := HW3.out.own r hrn
          have hne := HW3.out.lo r hrn
          rw [hvs] at hL hne
          have hlt0 := HLT0.out r hrn
          rw [hvs] at hlt0
          have hm : (webUps r (L.take j) (webTo h r) r).length ≤ 1048576 := by
            have a1 := ups_len r (L.take j) (webTo h r) r
            have a2 := HBND.out r
            have a3 : (L.take j).length ≤ hi - lo := by rw [List.length_take, LL.out]; omega
            omega
          have hidx : ((List.range h.node.length).map vs')[r]? = some (.slice ao (webUps r (L.take j) (webTo h r) r).length cap) := by rw [List.getElem?_map, List.getElem?_range (by omega), ← hvs]; rfl
          have hx32 : x.to < 4294967296 := by omega
          refine weave_app8 (r := r) (tn := x.to) (wt := x.wt) _ (fun _ _ t _ _ hq => by cases t <;> exact hq) q3 v0 v1 HW3.out.o hidx (by omega) hL (fun q hq => ⟨by have := hne q hq; omega, by have := hlt0 q hq; omega, (hne q hq).2⟩) (by omega) (by omega) hm hx32 ?_
          intro t39 t40 t41 t42 t43 t44 t45 t46 t47 t48 t49 t50 t51 t52 t53 t54 t55 ao2 cap2 w6 hown6 hblk6 hcells6 honly6
          rw [← hvs] at hblk6 honly6
          have hone : Only ((w.heap.size + 1 + 1) :: (vs' r).ownBlock.toList) wq w6 := honly6
          have hnew := HW3.out.app hrn (x.to, x.wt) _ (by omega) (by omega) hown6 hblk6 hcells6 honly6
          have hnm : ∀ b, b < w.heap.size + 1 + 1 ∨ b = w.heap.size + 1 + 1 + 1 → b ∉ ((w.heap.size + 1 + 1) :: (vs' r).ownBlock.toList) := fun b hb hm2 => by
            rw [List.mem_cons] at hm2
            rcases hm2 with e | e
            · omega
            · have := (HW3.out.lo r hrn b (by simpa using e)).1
              omega
          have hx6 := HX3.out.kept hone (hnm _ (.inl (by omega)))
          have hr6 := HR3.out.kept hone (hnm _ (.inl (by omega)))
          have hc6 := HC3.out.kept hone (hnm _ (.inr rfl))
          have hb6 : Below w.heap.size w w6 := HB3.out.trans (hone.below HB3.out.size (fun q hq => by
            rw [List.mem_cons] at hq
            rcases hq with e | e
            · omega
            · have := (HW3.out.lo r hrn q (by simpa using e)).1
              omega))
          have hS : putS (webUps r (L.take j) (webTo h r)) r (x.to, x.wt) = webUps r (L.take (j + 1)) (webTo h r) := by
            rw [List.take_add_one, HXJ.out]
            simp only [webUps, Option.toList_some, List.foldl_append, List.foldl_cons, List.foldl_nil]
          rw [hS] at hnew
          have HW6 := Lib.hid hnew
          have HX6 := Lib.hid hx6
          have HR6 := Lib.hid hr6
          have HC6 := Lib.hid hc6
          have HB6 := Lib.hid hb6
          clear hown6 hblk6 hcells6 honly6 hone hnew hnm hx6 hr6 hc6 hb6 hS hidx hL hne hlt0 HW3 HX3 HR3 HC3 HB3 HL3 v0 v1 q3
          try dsimp only [Exit.then]
          go_wp2_with fail
          rw [← EA.out]
          go_roundg (hi - lo - (j + 1))
          case measure => rw [HGJ.out]; omega
          case rel => exact ⟨j + 1, _, by go_num, by omega, rfl, HW6.out, HX6.out, HR6.out, HC6.out, HB6.out⟩
        · obtain rfl : j = hi - lo := by omega
          have hfull := HW.out
          rw [List.take_of_length_le (by rw [LL.out]; exact Nat.le_refl _), ← HSEG.out] at hfull
          clear HW HSEG LL HSUB HUP HBND
          have HW := Lib.hid hfull
          clear hfull
          go_wp2_with fail
          have hfl := DOK.out.len
          obtain ⟨lo, hlo⟩ : ∃ lo, h.dnF[r]? = some lo := ⟨_, List.getElem?_eq_getElem (by omega)⟩
          obtain ⟨hi, hhi⟩ : ∃ hi, h.dnF[r + 1]? = some hi := ⟨_, List.getElem?_eq_getElem (by omega)⟩
          have glo : h.dnF.getD r 0 = lo := by rw [List.getD_eq_getElem?_getD, hlo]; rfl
          have ghi : h.dnF.getD (r + 1) 0 = hi := by rw [List.getD_eq_getElem?_getD, hhi]; rfl
          have hlh : lo ≤ hi := by rw [← glo, ← ghi]; exact DOK.out.mono r hrn
          have hhl : hi ≤ h.dn.length := by rw [← ghi]; exact DOK.out.le (r + 1) (by omega)
          have hseg : seg h.dnF h.dn r = (h.dn.take hi).drop lo := by unfold seg; rw [glo, ghi]
          have su := SEE.out.below HB.out
          have hhc : hi ≤ A.c4 := Nat.le_trans hhl su.dn.hcap
          have hhi32 : hi < 4294967296 := su.bd hi (List.mem_of_getElem? hhi)
          obtain ⟨b1, o1, ea1, lb1, cc1⟩ := see_one (f := fun (n : Nat) => Value.int .u32 n) su.dnF (by omega)
          have cl := cc1 r lo hlo
          have ch := cc1 (r + 1) hi hhi
          obtain ⟨k0, k1, k2, k3, k4⟩ := hier_five HX.out
          rw [ea1] at k3
          have hil : r < h.dnF.length := by omega
          have hil1 : r + 1 < h.dnF.length := by omega
          have hsl := run_sub (P := Tryd.prog) 23 39 4 Tryd.underlying23 Tryd.sizeLink A.a4 h.dn.length A.c4 lo hi .u32 .u32 hlh hhc
          have hLlen : ((h.dn.take hi).drop lo).length = hi - lo := by simp; omega
          have hSUB : ∀ X, Below w.heap.size w X → See X (slBase A.a4 lo A.c4 4) (A.c4 - lo) linkCells 4 ((h.dn.take hi).drop lo) := fun X hX => (SEE.out.below hX).dn.sub lo hi hhl
          have hup : ∀ x ∈ (h.dn.take hi).drop lo, r < x.to ∧ x.to < h.node.length ∧ x.wt ≤ 140737488355328 := fun x hx => OKD.out.up r hrn x (by rw [hseg]; exact hx)
          have hbnd : ∀ v, (webUps r (seg h.upF h.up r) (webTo h r) v).length + (hi - lo) ≤ 1048576 := fun v => by
            have a1 := webTo_len UOK.out DOK.out r (by omega) v
            have a2 := ups_len r (seg h.upF h.up r) (webTo h r) v
            have a3 := seg_length UOK.out r hrn
            have a4 := UOK.out.mono r hrn
            have a5 := UOK.out.le (r + 1) (by omega)
            rw [glo] at a1
            omega
          have LL := Lib.hid hLlen
          have HSUB := Lib.hid hSUB
          have HUP := Lib.hid hup
          have HSEG := Lib.hid hseg
          have HBND := Lib.hid hbnd
          clear hfl hlo hhi glo ghi hseg su cc1 ea1 hLlen hSUB hup hbnd
          generalize (h.dn.take hi).drop lo = L at *
          go_wp2_with fail
          go_quiet (fail)
          go_wp2_with fail
          have HBq := Lib.hid (below_drewN HB.out nq)
          have HXq := Lib.hid (HX.out.drewN nq)
          have HWq := Lib.hid (HW.out.below (below_drewN (Below.refl _ _) nq))
          have HRq := Lib.hid (HR.out.drewN nq)
          have HCq := Lib.hid (HC.out.drewN nq)
          clear HB HX HW HR HC cl ch k0 k1 k2 k3 k4 hsl
          go_loopg [72] (hi - lo) (fun g vj wr => ∃ (j : Nat) (vs' : Nat → Value), vj = .int .i64 j ∧ j ≤ hi - lo ∧ g = hi - lo - j ∧ WRep (w.heap.size + 4) h.node.length (webDns r (L.take j) (webUps r (seg h.upF h.up r) (webTo h r))) (w.heap.size + 1 + 1) vs' wr ∧ Cells wr w.heap.size 25 (hierCells A h) ∧ Cells wr (w.heap.size + 1) 92 [.slice none 0 0] ∧ Cells wr (w.heap.size + 1 + 1 + 1) 92 [.slice (some ⟨w.heap.size + 1 + 1, 0, none⟩) h.node.length h.node.length] ∧ Below w.heap.size w wr)
          case atStart => exact ⟨0, _, rfl, Nat.zero_le _, rfl, HWq.out, HXq.out, HRq.out, HCq.out, HBq.out⟩
          case round =>
            obtain ⟨j, vs', rfl, hj, hgj, hw2, hx2, hr2, hc2, hb2⟩ := hrel
            obtain ⟨wo, rfl⟩ : ∃ wo : World, wo = wr := ⟨_, rfl⟩
            have HGJ := Lib.hid hgj
            have HW := Lib.hid hw2
            have HX := Lib.hid hx2
            have HR := Lib.hid hr2
            have HC := Lib.hid hc2
            have HB := Lib.hid hb2
            clear hgj hw2 hx2 hr2 hc2 hb2 HWq HXq HRq HCq HBq
            by_cases hjl : j < hi - lo
            · obtain ⟨x, hx⟩ : ∃ x, L[j]? = some x := ⟨_, List.getElem?_eq_getElem (by rw [LL.out]; exact hjl)⟩
              obtain ⟨hx1, hx2, hx3⟩ := HUP.out x (List.mem_of_getElem? hx)
              obtain ⟨b2, o2, ea2, cc2⟩ := (HSUB.out wo HB.out).cell j x hx
              have e0 := cc2 0 _ rfl
              have e1 := cc2 1 _ rfl
              have e2 := cc2 2 _ rfl
              have e3 := cc2 3 _ rfl
              rw [Nat.add_zero] at e0
              have EA := Lib.hid ea2
              have HXJ := Lib.hid hx
              clear cc2 ea2 hx
              have HLT0 := Lib.hid (fun i (hi : i < h.node.length) q (hq : (vs' i).ownBlock = some q) => own_lt (HW.out.own i hi) hq)
              have hbsz := HC.out.lt
              obtain ⟨wq, hwq⟩ : ∃ wq, wo.alloc (.cells (linkCells x).toArray 39) = wq := ⟨_, rfl⟩
              have hlink := Cells.new wo 39 (linkCells x)
              have ho := (Below.refl wo.heap.size wo).alloc (Nat.le_refl _) (.cells (linkCells x).toArray 39)
              have hwsz : wq.heap.size = wo.heap.size + 1 := by rw [← hwq]; simp
              rw [hwq] at hlink ho
              have hc3 := HC.out.below ho HC.out.lt
              have hx3' := HX.out.below ho HX.out.lt
              have hr3 := HR.out.below ho HR.out.lt
              have hw3 := HW.out.below ho
              have hb3 := HB.out.trans (ho.mono HB.out.size)
              have lb3 := HC.out.lt
              have v0 : wq.cell? ⟨wo.heap.size, 0, none⟩ = some (.int .u32 (x.to : Nat)) := hlink.cell rfl
              have v1 : wq.cell? ⟨wo.heap.size, 1, none⟩ = some (.int .u64 (x.wt : Nat)) := hlink.cell rfl
              have q3 : wq.cell? ⟨w.heap.size + 1 + 1 + 1, 0, none⟩ = some (.slice (some ⟨w.heap.size + 1 + 1, 0, none⟩) h.node.length h.node.length) := hc3.cell rfl
              have HL3 := Lib.hid hlink
              have HC3 := Lib.hid hc3
              have HX3 := Lib.hid hx3'
              have HR3 := Lib.hid hr3
              have HW3 := Lib.hid hw3
              have HB3 := Lib.hid hb3
              have HWQ := Lib.hid hwq
              clear hlink ho hc3 hx3' hr3 hw3 hb3 HC HX HR HW HB
              rw [EA.out]
              go_upto_region 13 with fail
              try rw [show wo.alloc (.cells #[.int .u32 x.to, .int .u64 x.wt, .int .u32 x.left, .int .u32 x.right] 39) = wq from HWQ.out]
              clear e0 e1 e2 e3
              change Code.wp _ ((regionAt 13 weaveBody).getD .skip) _ _ _
              obtain ⟨ao, cap, hvs⟩ := own_form' (HW3.out.own x.to hx2)
              have hL := HW3.out.own x.to hx2
              have hne := HW3.out.lo x.to hx2
              rw [hvs] at hL hne
              have hlt0 := HLT0.out x.to hx2
              rw [hvs] at hlt0
              have hm : (webDns r (L.take j) (webUps r (seg h.upF h.up r) (webTo h r)) x.to).length ≤ 1048576 := by
                have a1 := dns_len r (L.take j) (webUps r (seg h.upF h.up r) (webTo h r)) x.to
                have a2 := HBND.out x.to
                have a3 : (L.take j).length ≤ hi - lo := by rw [List.length_take, LL.out]; omega
                omega
              have hidx : ((List.range h.node.length).map vs')[x.to]? = some (.slice ao (webDns r (L.take j) (webUps r (seg h.upF h.up r) (webTo h r)) x.to).length cap) := by rw [List.getElem?_map, List.getElem?_range (by omega), ← hvs]; rfl
              have hx32 : x.to < 4294967296 := by omega
              refine weave_app13 (r := r) (tn := x.to) (wt := x.wt) _ (fun _ _ t _ _ hq => by cases t <;> exact hq) q3 v0 v1 HW3.out.o hidx (by omega) hL (fun q hq => ⟨by have := hne q hq; omega, by have := hlt0 q hq; omega, (hne q hq).2⟩) (by omega) (by omega) hm hx32 ?_
              intro t76 t77 t78 t79 t80 t81 t82 t83 t84 t85 t86 t87 t88 t89 t90 t91 t92 ao2 cap2 w6 hown6 hblk6 hcells6 honly6
              rw [← hvs] at hblk6 honly6
              have hone : Only ((w.heap.size + 1 + 1) :: (vs' x.to).ownBlock.toList) wq w6 := honly6
              have hnew := HW3.out.app hx2 (r, x.wt) _ (by omega) (by omega) hown6 hblk6 hcells6 honly6
              have hnm : ∀ b, b < w.heap.size + 1 + 1 ∨ b = w.heap.size + 1 + 1 + 1 → b ∉ ((w.heap.size + 1 + 1) :: (vs' x.to).ownBlock.toList) := fun b hb hm2 => by
                rw [List.mem_cons] at hm2
                rcases hm2 with e | e
                · omega
                · have := (HW3.out.lo x.to hx2 b (by simpa using e)).1
                  omega
              have hx6 := HX3.out.kept hone (hnm _ (.inl (by omega)))
              have hr6 := HR3.out.kept hone (hnm _ (.inl (by omega)))
              have hc6 := HC3.out.kept hone (hnm _ (.inr rfl))
              have hb6 : Below w.heap.size w w6 := HB3.out.trans (hone.below HB3.out.size (fun q hq => by
                rw [List.mem_cons] at hq
                rcases hq with e | e
                · omega
                · have := (HW3.out.lo x.to hx2 q (by simpa using e)).1
                  omega))
              have hS : putS (webDns r (L.take j) (webUps r (seg h.upF h.up r) (webTo h r))) x.to (r, x.wt) = webDns r (L.take (j + 1)) (webUps r (seg h.upF h.up r) (webTo h r)) := by
                rw [List.take_add_one, HXJ.out]
                simp only [webDns, Option.toList_some, List.foldl_append, List.foldl_cons, List.foldl_nil]
              rw [hS] at hnew
              have HW6 := Lib.hid hnew
              have HX6 := Lib.hid hx6
              have HR6 := Lib.hid hr6
              have HC6 := Lib.hid hc6
              have HB6 := Lib.hid hb6
              clear hown6 hblk6 hcells6 honly6 hone hnew hnm hx6 hr6 hc6 hb6 hS hidx hL hne hlt0 HW3 HX3 HR3 HC3 HB3 HL3 v0 v1 q3
              try dsimp only [Exit.then]
              go_wp2_with fail
              rw [← EA.out]
              go_roundg (hi - lo - (j + 1))
              case measure => rw [HGJ.out]; omega
              case rel => exact ⟨j + 1, _, by go_num, by omega, rfl, HW6.out, HX6.out, HR6.out, HC6.out, HB6.out⟩
            · obtain rfl : j = hi - lo := by omega
              have hfull := HW.out
              rw [List.take_of_length_le (by rw [LL.out]; exact Nat.le_refl _), ← HSEG.out] at hfull
              clear HW HSEG LL HSUB HUP HBND
              have HW := Lib.hid hfull
              clear hfull
              go_wp2_with fail
              go_roundg (h.node.length - (r + 1))
              case measure => rw [HGR.out]; omega
              case rel => exact ⟨r + 1, _, by go_num, by omega, rfl, HW.out, HX.out, HR.out, HC.out, HB.out⟩
    · obtain rfl : r = h.node.length := by omega
      have z0 : wp.cell? ⟨w.heap.size + 1, 0, none⟩ = some (.slice none 0 0) := HR.out.cell rfl
      have y0 : wp.cell? ⟨w.heap.size + 1 + 1 + 1, 0, none⟩ = some (.slice (some ⟨w.heap.size + 1 + 1, 0, none⟩) h.node.length h.node.length) := HC.out.cell rfl
      have g0 := HR.out.frozen 0
      have lr := HR.out.lt
      go_wp2
      refine bodyPost_ret (results_c rfl _ _ (w.heap.size + 1) 92 [.slice (some ⟨w.heap.size + 1 + 1, 0, none⟩) h.node.length h.node.length] _ rfl (HR.out.set 0 _) Tryd.underlying92 rfl (by rw [Tryd.sizeWeb]; rfl)) rfl ?_
      exact ⟨w.heap.size + 1 + 1, w.heap.size + 4, vs, rfl, HW.out.kept (bs := [w.heap.size + 1]) ((Only.refl _ _).setCell (.inl (by simp)) _) (by simp) (fun q hq => by simp at hq; omega), by omega, by omega, HB.out.setCell (p := ⟨w.heap.size + 1, 0, none⟩) (by simp) _⟩
end Go.Proofs.YtjbphoophgbmiaaDoor
