/- table.buckets: an entry is laid behind a rank's list, in a map. -/
import Derived.Test.YtjbphoophgbmiaaMapI
import Derived.Test.YtjbphoophgbmiaaTabP
import Derived.Test.YtjbphoophgbmiaaRefHb
import Derived.Deep.AppendLies
namespace Go.Proofs.Ytjbphoophgbmiaa
open Go.ChangeShapes Go.WideShapes Go.ChangeAt Go.RowKit Go.Joins Go.Deep

def entCells (s : Nat × Int) : List Value := [.int .i64 (s.1 : Nat), .int .u64 s.2]
theorem entCells_len (s : Nat × Int) : (entCells s).length = 2 := rfl
noncomputable def bucksBody : Code := Try.f34.body.getD .skip
theorem Try.infoEnt : (Try.prog.info? 111).map (fun i => (i.zero, i.size, i.bytes)) = some (some (.agg #[.int .i64 0, .int .u64 0]), 2, 16) := by kernel_rfl
theorem Try.zeroEnts (w : World) : (zeroValue 109).run Try.prog w = .ok (.slice none 0 0) w := by kernel_rfl
set_option linter.unusedSimpArgs false in
set_option maxRecDepth 100000 in
set_option maxHeartbeats 8000000 in
theorem buck_app {s0 s1 s2 s4 s5 s6 s7 s10 s11 s12 s13 s15 s16 s17 s18 s19 s20 s21 s22 s23 s24 s25 s26 s27 s28 s29 s30 s31 s32 s33 s34 s35 s36 s37 s38 s39 s40 s41 s42 s43 s44 s45 s46 s47 s48 s49 s50 s51 s52 s53 s54 s55 s56 : Value} {wx : World} {b3 bl bm r j m cap : Nat} {dd : Int} {ao : Option Addr} {xs : List Value} {g : Nat → Option Value} (Q : Exit → Act → World → Prop)
    (hQp : ∀ c (a : Act) (t : Option Tmp) (v : Value) w', Q (.panic c) (a.put t v) w' → Q (.panic c) a w')
    (cl0 : wx.cell? ⟨bl, 0, none⟩ = some (.int .i64 (r : Nat))) (cl1 : wx.cell? ⟨bl, 1, none⟩ = some (.int .u64 dd)) (hr : r ≤ 9223372036854775807)
    (mi : MapI wx bm g) (hgr : (g r).getD (.slice none 0 0) = .slice ao m cap) (own : wx.ownsRow 0 111 2 (.slice ao m cap) m xs)
    (hne : ∀ q, (Value.slice ao m cap).ownBlock = some q → q ≠ bl ∧ q ≠ bm) (hlm : bl ≠ bm) (hm : m ≤ 1048576)
    (hQ : ∀ (t41 t42 t43 t44 t45 t46 t47 t48 t49 t50 t51 t52 t53 : Value) (ao' : Option Addr) (cap' : Nat) (w' : World), w'.ownsRow 0 111 2 (.slice ao' (m + 1) cap') (m + 1) (xs ++ [.int .i64 (j : Nat), .int .u64 dd]) →
      (∀ q, (Value.slice ao' (m + 1) cap').ownBlock = some q → (Value.slice ao m cap).ownBlock = some q ∨ wx.heap.size ≤ q) → MapI w' bm (fun q => if q = r then some (.slice ao' (m + 1) cap') else g q) → Only (bm :: (Value.slice ao m cap).ownBlock.toList) wx w' → Q .normal ⟨#[s0, s1, s2, .pointer (some ⟨b3, 0, none⟩), s4, s5, s6, s7, .map (some bm), .int .i64 (j : Nat), s10, s11, s12, s13, .pointer (some ⟨bl, 0, none⟩), s15, s16, s17, s18, s19, s20, s21, s22, s23, s24, s25, s26, s27, s28, s29, s30, s31, s32, s33, s34, s35, s36, s37, s38, s39, s40, t41, t42, t43, t44, t45, t46, t47, t48, t49, t50, t51, t52, t53, s54, s55, s56], []⟩ w') :
    Code.wp Try.prog ((regionAt 11 bucksBody).getD .skip) Q ⟨#[s0, s1, s2, .pointer (some ⟨b3, 0, none⟩), s4, s5, s6, s7, .map (some bm), .int .i64 (j : Nat), s10, s11, s12, s13, .pointer (some ⟨bl, 0, none⟩), s15, s16, s17, s18, s19, s20, s21, s22, s23, s24, s25, s26, s27, s28, s29, s30, s31, s32, s33, s34, s35, s36, s37, s38, s39, s40, s41, s42, s43, s44, s45, s46, s47, s48, s49, s50, s51, s52, s53, s54, s55, s56], []⟩ wx := by
  obtain ⟨i0, hi0, hz0, hz1, hz2⟩ := info_parts Try.infoEnt
  have HI0 := Lib.hid hi0
  have HZ0 := Lib.hid hz0
  have HZ1 := Lib.hid hz1
  have HZ2 := Lib.hid hz2
  have HQ := Lib.hid hQ
  have HQP := Lib.hid hQp
  have OWN := Lib.hid own
  have MI := Lib.hid mi
  have HNE := Lib.hid hne
  have lbm := mi.lt
  have lbl := block_lt cl0
  have k1 := (mi.below ((Below.refl wx.heap.size wx).drew)).look Try.underlying77 Try.underlying3 (Try.zeroEnts _) hr
  have k2 := (mi.below (((Below.refl wx.heap.size wx).alloc (Nat.le_refl _) (.cells #[.int .i64 (j : Nat), .int .u64 dd] 111)).drew)).look Try.underlying77 Try.underlying3 (Try.zeroEnts _) hr
  rw [hgr] at k1 k2
  clear hQ own mi hne hi0 hz0 hz1 hz2 hQp hgr
  conv => arg 2; whnf
  refine wp_region_held_drew (S := fun W => W.cell? ⟨bl, 0, none⟩ = some (.int .i64 (r : Nat)) ∧ W.cell? ⟨bl, 1, none⟩ = some (.int .u64 dd)) (by kernel_rfl) ⟨cl0, cl1⟩ (fun hHeld => ?_)
  simp only [List.size_toArray, List.length_cons, List.length_nil, Nat.reduceAdd, Array.replicate_succ, Array.replicate_zero, List.push_toArray, List.nil_append, List.cons_append]
  refine wpAnyH_take (i := 0) (oi := { dst := some 41, op := Op.move (Operand.tmp 8), type := 77, pos := "table.go:39", after := #[], guard := none }) (v := .map (some bm)) rfl (by kernel_rfl) (by kernel_rfl) (by kernel_rfl) (fun c a w' => HQP.out c a _ _ w') (Or.inl ⟨by rfl, ?_⟩) hHeld ?_
  · intro W hSw
    try dsimp only at hSw
    clear hSw
    clear hHeld
    go_simp
  simp only [Act.put, List.setIfInBounds_toArray, List.set_cons_zero, List.set_cons_succ]
  refine wpAnyH_take (i := 1) (oi := { dst := some 42, op := Op.fieldAddr 106 (Operand.tmp 14) 0, type := 0, pos := "table.go:39", after := #[], guard := none }) (v := .pointer (some ⟨bl, 0, none⟩)) rfl (by kernel_rfl) (by kernel_rfl) (by kernel_rfl) (fun c a w' => HQP.out c a _ _ w') (Or.inl ⟨by rfl, ?_⟩) hHeld ?_
  · intro W hSw
    try dsimp only at hSw
    clear hSw
    clear hHeld
    go_simp
  simp only [Act.put, List.setIfInBounds_toArray, List.set_cons_zero, List.set_cons_succ]
  refine wpAnyH_take (i := 2) (oi := { dst := some 43, op := Op.load 3 (Operand.tmp 42), type := 3, pos := "table.go:39", after := #[{ on := 1, ground := Ground.data }], guard := none }) (v := .int .i64 (r : Nat)) rfl (by kernel_rfl) (by kernel_rfl) (by kernel_rfl) (fun c a w' => HQP.out c a _ _ w') (Or.inl ⟨by rfl, ?_⟩) hHeld ?_
  · intro W hSw
    try dsimp only at hSw
    obtain ⟨m1, m2⟩ := hSw
    clear hHeld
    go_simp
  simp only [Act.put, List.setIfInBounds_toArray, List.set_cons_zero, List.set_cons_succ]
  refine wpAnyH_take (i := 3) (oi := { dst := some 44, op := Op.move (Operand.tmp 8), type := 77, pos := "table.go:39", after := #[], guard := none }) (v := .map (some bm)) rfl (by kernel_rfl) (by kernel_rfl) (by kernel_rfl) (fun c a w' => HQP.out c a _ _ w') (Or.inl ⟨by rfl, ?_⟩) hHeld ?_
  · intro W hSw
    try dsimp only at hSw
    clear hSw
    clear hHeld
    go_simp
  simp only [Act.put, List.setIfInBounds_toArray, List.set_cons_zero, List.set_cons_succ]
  refine wpAnyH_take (i := 4) (oi := { dst := some 45, op := Op.fieldAddr 106 (Operand.tmp 14) 0, type := 0, pos := "table.go:39", after := #[], guard := none }) (v := .pointer (some ⟨bl, 0, none⟩)) rfl (by kernel_rfl) (by kernel_rfl) (by kernel_rfl) (fun c a w' => HQP.out c a _ _ w') (Or.inl ⟨by rfl, ?_⟩) hHeld ?_
  · intro W hSw
    try dsimp only at hSw
    clear hSw
    clear hHeld
    go_simp
  simp only [Act.put, List.setIfInBounds_toArray, List.set_cons_zero, List.set_cons_succ]
  refine wpAnyH_take (i := 5) (oi := { dst := some 46, op := Op.load 3 (Operand.tmp 45), type := 3, pos := "table.go:39", after := #[{ on := 4, ground := Ground.data }], guard := none }) (v := .int .i64 (r : Nat)) rfl (by kernel_rfl) (by kernel_rfl) (by kernel_rfl) (fun c a w' => HQP.out c a _ _ w') (Or.inl ⟨by rfl, ?_⟩) hHeld ?_
  · intro W hSw
    try dsimp only at hSw
    obtain ⟨m1, m2⟩ := hSw
    clear hHeld
    go_simp
  simp only [Act.put, List.setIfInBounds_toArray, List.set_cons_zero, List.set_cons_succ]
  refine wpAnyH_take (i := 7) (oi := { dst := some 48, op := Op.move (Operand.tmp 9), type := 3, pos := "table.go:39", after := #[], guard := none }) (v := .int .i64 (j : Nat)) rfl (by kernel_rfl) (by kernel_rfl) (by kernel_rfl) (fun c a w' => HQP.out c a _ _ w') (Or.inl ⟨by rfl, ?_⟩) hHeld ?_
  · intro W hSw
    try dsimp only at hSw
    clear hSw
    clear hHeld
    go_simp
  simp only [Act.put, List.setIfInBounds_toArray, List.set_cons_zero, List.set_cons_succ]
  refine wpAnyH_take (i := 8) (oi := { dst := some 49, op := Op.fieldAddr 106 (Operand.tmp 14) 1, type := 0, pos := "table.go:39", after := #[], guard := none }) (v := .pointer (some ⟨bl, 1, none⟩)) rfl (by kernel_rfl) (by kernel_rfl) (by kernel_rfl) (fun c a w' => HQP.out c a _ _ w') (Or.inl ⟨by rfl, ?_⟩) hHeld ?_
  · intro W hSw
    try dsimp only at hSw
    clear hSw
    clear hHeld
    go_simp
  simp only [Act.put, List.setIfInBounds_toArray, List.set_cons_zero, List.set_cons_succ]
  refine wpAnyH_take (i := 9) (oi := { dst := some 50, op := Op.load 33 (Operand.tmp 49), type := 33, pos := "table.go:39", after := #[{ on := 8, ground := Ground.data }], guard := none }) (v := .int .u64 dd) rfl (by kernel_rfl) (by kernel_rfl) (by kernel_rfl) (fun c a w' => HQP.out c a _ _ w') (Or.inl ⟨by rfl, ?_⟩) hHeld ?_
  · intro W hSw
    try dsimp only at hSw
    obtain ⟨m1, m2⟩ := hSw
    clear hHeld
    go_simp
  simp only [Act.put, List.setIfInBounds_toArray, List.set_cons_zero, List.set_cons_succ]
  refine wpAnyH_take (i := 10) (oi := { dst := some 51, op := Op.build 111 #[(0, Operand.tmp 48), (1, Operand.tmp 50)], type := 111, pos := "table.go:39", after := #[{ on := 7, ground := Ground.data }, { on := 9, ground := Ground.data }], guard := none }) (v := .agg #[.int .i64 (j : Nat), .int .u64 dd]) rfl (by kernel_rfl) (by kernel_rfl) (by kernel_rfl) (fun c a w' => HQP.out c a _ _ w') (Or.inl ⟨by rfl, ?_⟩) hHeld ?_
  · intro W hSw
    try dsimp only at hSw
    clear hSw
    clear hHeld
    go_simp
  simp only [Act.put, List.setIfInBounds_toArray, List.set_cons_zero, List.set_cons_succ]
  refine wpAnyH_ready (rs := [6, 11]) (by kernel_rfl) (by simp) ?_
  refine AllReadyH.cons (o := { dst := some 47, op := Op.lookup 77 (Operand.tmp 44) (Operand.tmp 46) false, type := 109, pos := "table.go:39", after := #[{ on := 3, ground := Ground.data }, { on := 5, ground := Ground.data }], guard := none }) rfl (fun K hK => ?_) (AllReadyH.cons (o := { dst := some 52, op := Op.buildSlice 109 1 #[(0, Operand.tmp 51)], type := 109, pos := "table.go:39", after := #[{ on := 10, ground := Ground.data }], guard := none }) rfl (fun K hK => ?_) AllReadyH.nil)
  · go_simp
    refine hK.out _ _ hHeld (fun hHeld => ?_)
    clear hK K
    simp only [Act.put, List.setIfInBounds_toArray, List.set_cons_zero, List.set_cons_succ]
    refine wpAnyH_ready (rs := [11]) (by kernel_rfl) (by simp) (AllReadyH.cons (o := { dst := some 52, op := Op.buildSlice 109 1 #[(0, Operand.tmp 51)], type := 109, pos := "table.go:39", after := #[{ on := 10, ground := Ground.data }], guard := none }) rfl (fun K hK => ?_) AllReadyH.nil)
    go_simp
    refine hK.out _ _ ⟨World.cell?_alloc_lt _ _ ⟨bl, 0, none⟩ lbl ▸ cl0, World.cell?_alloc_lt _ _ ⟨bl, 1, none⟩ lbl ▸ cl1⟩ (fun hHeld => ?_)
    clear hK K
    simp only [Act.put, List.setIfInBounds_toArray, List.set_cons_zero, List.set_cons_succ]
    refine wpAnyH_ready (rs := [12]) (by kernel_rfl) (by simp) (AllReadyH.cons (o := { dst := some 53, op := Op.call { callee := Callee.builtin Builtin.append, args := #[Operand.tmp 47, Operand.tmp 52], argTypes := #[109, 109] }, type := 109, pos := "table.go:39", after := #[{ on := 6, ground := Ground.data }, { on := 11, ground := Ground.data }], guard := none }) rfl (fun K hK => ?_) AllReadyH.nil)
    refine step_append_lies _ (by rfl) _ _ _ (by rfl) 0 111 i0 _ 2 16 Try.underlying109 HI0.out HZ0.out HZ1.out HZ2.out rfl (by decide) (.slice ao m cap) m xs (by rfl) (own_kept (bs := []) (own_drew OWN.out) ((Only.refl [] wx.drew).alloc _) (fun q _ => by simp))
      ⟨wx.heap.size, 0, none⟩ 1 1 [.int .i64 (j : Nat), .int .u64 dd] (by rfl) (by rfl) (World.news_of_block (cs := #[.int .i64 (j : Nat), .int .u64 dd]) (t := 111) (fr := (0, 0)) (heap_alloc_new wx.drew _)) (fun u hu => by simp only [List.mem_cons, List.not_mem_nil, or_false] at hu; rcases hu with rfl | rfl <;> rfl) (by omega) (by unfold maxLen; omega) (by omega) (Nat.zero_le _) (wx.heap.size + 1) (by simp) ?_
    intro gg cap5 w5 hown5 hgrow hat hlt
    have ho5 : Only (Value.slice ao m cap).ownBlock.toList (wx.drew.alloc (.cells #[.int .i64 (j : Nat), .int .u64 dd] 111)) w5 := ⟨hgrow.os, hgrow.tape, hgrow.output, hgrow.size, fun q hq hn => hgrow.block q hq (fun e => hn (by simp [← e]))⟩
    have ml0 := ho5.cell (World.cell?_alloc_lt _ _ ⟨bl, 0, none⟩ lbl ▸ cl0) (fun hq => by have := (HNE.out _ (by simpa using hq)).1; omega)
    have ml1 := ho5.cell (World.cell?_alloc_lt _ _ ⟨bl, 1, none⟩ lbl ▸ cl1) (fun hq => by have := (HNE.out _ (by simpa using hq)).1; omega)
    have mi5 := ((MI.out.below ((Below.refl wx.heap.size wx).drew)).below ((Below.refl wx.drew.heap.size wx.drew).alloc (Nat.le_refl _) (.cells #[.int .i64 (j : Nat), .int .u64 dd] 111))).only ho5 (fun hq => by have := (HNE.out _ (by simpa using hq)).2; omega)
    obtain ⟨w6, hup, mi6, ho6⟩ := mi5.put Try.underlying77 Try.underlying3 hr (.slice (some ⟨gg, 0, none⟩) (m + 1) cap5)
    have mm0 := ho6.cell ml0 (by simpa using hlm)
    have mm1 := ho6.cell ml1 (by simpa using hlm)
    have HO5 := Lib.hid ho5
    have HO6 := Lib.hid ho6
    have MI6 := Lib.hid mi6
    have OWN5 := Lib.hid hown5
    have HAT := Lib.hid hat
    clear hown5 hgrow hat ho5 ho6 mi5 mi6 k1 k2
    refine hK.out _ _ ⟨ml0, ml1⟩ (fun hHeld => ?_)
    clear hK K
    simp only [Act.put, List.setIfInBounds_toArray, List.set_cons_zero, List.set_cons_succ]
    refine wpAnyH_ready (rs := [13]) (by kernel_rfl) (by simp) (AllReadyH.cons (o := { dst := none, op := Op.mapUpdate 77 (Operand.tmp 41) (Operand.tmp 43) (Operand.tmp 53), type := 0, pos := "table.go:39", after := #[{ on := 0, ground := Ground.data }, { on := 2, ground := Ground.data }, { on := 12, ground := Ground.data }, { on := 12, ground := Ground.chain }, { on := 0, ground := Ground.phase }, { on := 1, ground := Ground.phase }, { on := 2, ground := Ground.phase }, { on := 3, ground := Ground.phase }, { on := 4, ground := Ground.phase }, { on := 5, ground := Ground.phase }, { on := 6, ground := Ground.phase }, { on := 7, ground := Ground.phase }, { on := 8, ground := Ground.phase }, { on := 9, ground := Ground.phase }, { on := 10, ground := Ground.phase }, { on := 11, ground := Ground.phase }, { on := 12, ground := Ground.phase }], guard := none }) rfl (fun K hK => ?_) AllReadyH.nil)
    go_simp
    refine hK.out _ _ ⟨mm0, mm1⟩ (fun hHeld => ?_)
    clear hK K hHeld
    try simp only [Act.put, List.setIfInBounds_toArray, List.set_cons_zero, List.set_cons_succ]
    refine wpAnyH_done (by kernel_rfl) ?_ _
    refine HQ.out _ _ _ _ _ _ _ _ _ _ _ _ _ _ _ _ (own_kept (bs := [bm]) OWN5.out HO6.out ?_) ?_ MI6.out ?_
    · intro q hq
      simp only [Value.ownBlock, Option.some.injEq] at hq
      subst hq
      simp only [List.mem_singleton]
      rcases HAT.out with h1 | h1
      · exact (HNE.out _ h1).2
      · omega
    · intro q hq
      simp only [Value.ownBlock, Option.some.injEq] at hq
      subst hq
      rcases HAT.out with h1 | h1
      · exact .inl h1
      · exact .inr (by omega)
    · exact ((((Only.refl (bm :: (Value.slice ao m cap).ownBlock.toList) wx).drew).alloc (.cells #[.int .i64 (j : Nat), .int .u64 dd] 111)).trans HO5.out (fun q hq => .inl (List.mem_cons_of_mem _ hq))).trans HO6.out (fun q hq => .inl (by simp only [List.mem_singleton] at hq; subst hq; exact List.mem_cons_self ..))
  · go_simp
    refine hK.out _ _ ⟨World.cell?_alloc_lt _ _ ⟨bl, 0, none⟩ lbl ▸ cl0, World.cell?_alloc_lt _ _ ⟨bl, 1, none⟩ lbl ▸ cl1⟩ (fun hHeld => ?_)
    clear hK K
    simp only [Act.put, List.setIfInBounds_toArray, List.set_cons_zero, List.set_cons_succ]
    refine wpAnyH_ready (rs := [6]) (by kernel_rfl) (by simp) (AllReadyH.cons (o := { dst := some 47, op := Op.lookup 77 (Operand.tmp 44) (Operand.tmp 46) false, type := 109, pos := "table.go:39", after := #[{ on := 3, ground := Ground.data }, { on := 5, ground := Ground.data }], guard := none }) rfl (fun K hK => ?_) AllReadyH.nil)
    go_simp
    refine hK.out _ _ hHeld (fun hHeld => ?_)
    clear hK K
    simp only [Act.put, List.setIfInBounds_toArray, List.set_cons_zero, List.set_cons_succ]
    refine wpAnyH_ready (rs := [12]) (by kernel_rfl) (by simp) (AllReadyH.cons (o := { dst := some 53, op := Op.call { callee := Callee.builtin Builtin.append, args := #[Operand.tmp 47, Operand.tmp 52], argTypes := #[109, 109] }, type := 109, pos := "table.go:39", after := #[{ on := 6, ground := Ground.data }, { on := 11, ground := Ground.data }], guard := none }) rfl (fun K hK => ?_) AllReadyH.nil)
    refine step_append_lies _ (by rfl) _ _ _ (by rfl) 0 111 i0 _ 2 16 Try.underlying109 HI0.out HZ0.out HZ1.out HZ2.out rfl (by decide) (.slice ao m cap) m xs (by rfl) (own_kept (bs := []) (own_drew OWN.out) ((Only.refl [] wx.drew).alloc _) (fun q _ => by simp))
      ⟨wx.heap.size, 0, none⟩ 1 1 [.int .i64 (j : Nat), .int .u64 dd] (by rfl) (by rfl) (World.news_of_block (cs := #[.int .i64 (j : Nat), .int .u64 dd]) (t := 111) (fr := (0, 0)) (heap_alloc_new wx.drew _)) (fun u hu => by simp only [List.mem_cons, List.not_mem_nil, or_false] at hu; rcases hu with rfl | rfl <;> rfl) (by omega) (by unfold maxLen; omega) (by omega) (Nat.zero_le _) (wx.heap.size + 1) (by simp) ?_
    intro gg cap5 w5 hown5 hgrow hat hlt
    have ho5 : Only (Value.slice ao m cap).ownBlock.toList (wx.drew.alloc (.cells #[.int .i64 (j : Nat), .int .u64 dd] 111)) w5 := ⟨hgrow.os, hgrow.tape, hgrow.output, hgrow.size, fun q hq hn => hgrow.block q hq (fun e => hn (by simp [← e]))⟩
    have ml0 := ho5.cell (World.cell?_alloc_lt _ _ ⟨bl, 0, none⟩ lbl ▸ cl0) (fun hq => by have := (HNE.out _ (by simpa using hq)).1; omega)
    have ml1 := ho5.cell (World.cell?_alloc_lt _ _ ⟨bl, 1, none⟩ lbl ▸ cl1) (fun hq => by have := (HNE.out _ (by simpa using hq)).1; omega)
    have mi5 := ((MI.out.below ((Below.refl wx.heap.size wx).drew)).below ((Below.refl wx.drew.heap.size wx.drew).alloc (Nat.le_refl _) (.cells #[.int .i64 (j : Nat), .int .u64 dd] 111))).only ho5 (fun hq => by have := (HNE.out _ (by simpa using hq)).2; omega)
    obtain ⟨w6, hup, mi6, ho6⟩ := mi5.put Try.underlying77 Try.underlying3 hr (.slice (some ⟨gg, 0, none⟩) (m + 1) cap5)
    have mm0 := ho6.cell ml0 (by simpa using hlm)
    have mm1 := ho6.cell ml1 (by simpa using hlm)
    have HO5 := Lib.hid ho5
    have HO6 := Lib.hid ho6
    have MI6 := Lib.hid mi6
    have OWN5 := Lib.hid hown5
    have HAT := Lib.hid hat
    clear hown5 hgrow hat ho5 ho6 mi5 mi6 k1 k2
    refine hK.out _ _ ⟨ml0, ml1⟩ (fun hHeld => ?_)
    clear hK K
    simp only [Act.put, List.setIfInBounds_toArray, List.set_cons_zero, List.set_cons_succ]
    refine wpAnyH_ready (rs := [13]) (by kernel_rfl) (by simp) (AllReadyH.cons (o := { dst := none, op := Op.mapUpdate 77 (Operand.tmp 41) (Operand.tmp 43) (Operand.tmp 53), type := 0, pos := "table.go:39", after := #[{ on := 0, ground := Ground.data }, { on := 2, ground := Ground.data }, { on := 12, ground := Ground.data }, { on := 12, ground := Ground.chain }, { on := 0, ground := Ground.phase }, { on := 1, ground := Ground.phase }, { on := 2, ground := Ground.phase }, { on := 3, ground := Ground.phase }, { on := 4, ground := Ground.phase }, { on := 5, ground := Ground.phase }, { on := 6, ground := Ground.phase }, { on := 7, ground := Ground.phase }, { on := 8, ground := Ground.phase }, { on := 9, ground := Ground.phase }, { on := 10, ground := Ground.phase }, { on := 11, ground := Ground.phase }, { on := 12, ground := Ground.phase }], guard := none }) rfl (fun K hK => ?_) AllReadyH.nil)
    go_simp
    refine hK.out _ _ ⟨mm0, mm1⟩ (fun hHeld => ?_)
    clear hK K hHeld
    try simp only [Act.put, List.setIfInBounds_toArray, List.set_cons_zero, List.set_cons_succ]
    refine wpAnyH_done (by kernel_rfl) ?_ _
    refine HQ.out _ _ _ _ _ _ _ _ _ _ _ _ _ _ _ _ (own_kept (bs := [bm]) OWN5.out HO6.out ?_) ?_ MI6.out ?_
    · intro q hq
      simp only [Value.ownBlock, Option.some.injEq] at hq
      subst hq
      simp only [List.mem_singleton]
      rcases HAT.out with h1 | h1
      · exact (HNE.out _ h1).2
      · omega
    · intro q hq
      simp only [Value.ownBlock, Option.some.injEq] at hq
      subst hq
      rcases HAT.out with h1 | h1
      · exact .inl h1
      · exact .inr (by omega)
    · exact ((((Only.refl (bm :: (Value.slice ao m cap).ownBlock.toList) wx).drew).alloc (.cells #[.int .i64 (j : Nat), .int .u64 dd] 111)).trans HO5.out (fun q hq => .inl (List.mem_cons_of_mem _ hq))).trans HO6.out (fun q hq => .inl (by simp only [List.mem_singleton] at hq; subst hq; exact List.mem_cons_self ..))
end Go.Proofs.Ytjbphoophgbmiaa
