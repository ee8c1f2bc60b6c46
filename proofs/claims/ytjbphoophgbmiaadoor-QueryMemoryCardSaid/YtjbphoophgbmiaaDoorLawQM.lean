/- The law QueryMemory: its walk. -/
import Derived.Test.YtjbphoophgbmiaaDoorLawQA
import Derived.Test.YtjbphoophgbmiaaDoorRefQ
import Derived.Deep.RegionHeld3
namespace Go.Proofs.YtjbphoophgbmiaaDoor
open Go.ChangeShapes Go.WideShapes Go.ChangeAt Go.RowKit Go.Joins Go.Deep

noncomputable def memBody : Code := Tryd.f9.body.getD .skip
theorem distance_lit (A : HA) (h : HierD) (s t : Int) (w : World) (see : HSee w A h) (hs64 : s ≤ 9223372036854775807) (ht64 : t ≤ 9223372036854775807) : Calls Tryd.prog 32 #[.agg #[.slice A.a0 h.node.length A.c0, .slice A.a1 h.upF.length A.c1, .slice A.a2 h.up.length A.c2, .slice A.a3 h.dnF.length A.c3, .slice A.a4 h.dn.length A.c4], .int .i64 s, .int .i64 t] w (DistPost h s t w) := distance_any A h s t w see hs64 ht64
theorem rdocmeet_lit (A : HA) (h : HierD) (s t : Int) (w : World) (see : HSee w A h) (hk1 : h.up.length ≤ 140737488355328) (hk2 : h.dn.length ≤ 140737488355328) (hn64 : h.node.length ≤ 140737488355328) :
    Calls Tryd.prog 31 #[.agg #[.slice A.a0 h.node.length A.c0, .slice A.a1 h.upF.length A.c1, .slice A.a2 h.up.length A.c2, .slice A.a3 h.dnF.length A.c3, .slice A.a4 h.dn.length A.c4], .int .i64 s, .int .i64 t] w (RMeetNew h s t w) := rdocmeet_any A h s t w see hk1 hk2 hn64

set_option linter.unusedSimpArgs false in
set_option maxRecDepth 100000 in
set_option maxHeartbeats 8000000 in
theorem mem11 {s0 s2 s3 s4 s7 s8 s9 s10 s11 s12 s13 s14 s15 s16 s17 s18 s19 s20 s21 s22 s23 s24 s25 s26 s27 s28 s29 s30 s31 s32 s33 s34 s35 s36 s37 s38 s39 s40 s41 s42 s43 s44 s45 s46 s47 s48 s49 s50 s51 s52 s53 s54 s55 s56 s57 s58 s59 s60 s61 s62 s63 s64 s65 s66 s67 s68 s69 s70 s71 s72 : Value} {A : HA} {h : HierD} {s t : Int} {wx : World} {bx lb lo n lc i : Nat} (Q : Exit → Act → World → Prop) (see : HSee wx A h) (k0 : wx.cell? ⟨bx, 0, none⟩ = some (.slice A.a0 h.node.length A.c0)) (k1 : wx.cell? ⟨bx, 1, none⟩ = some (.slice A.a1 h.upF.length A.c1)) (k2 : wx.cell? ⟨bx, 2, none⟩ = some (.slice A.a2 h.up.length A.c2)) (k3 : wx.cell? ⟨bx, 3, none⟩ = some (.slice A.a3 h.dnF.length A.c3)) (k4 : wx.cell? ⟨bx, 4, none⟩ = some (.slice A.a4 h.dn.length A.c4)) (c1 : wx.cell? ⟨lb, lo + (i - 1), none⟩ = some (.int .i64 s)) (c2 : wx.cell? ⟨lb, lo + i, none⟩ = some (.int .i64 t)) (hi1 : 1 ≤ i) (hin : i < n) (hn20 : n ≤ 20) (hs64 : s ≤ 9223372036854775807) (ht64 : t ≤ 9223372036854775807)
    (hQ : ∀ (r : Nat) (d : Int) (x : EV) (v : Value) (t31 t32 t33 t34 t35 t36 t37 t38 t39 t40 t41 t42 t43 t44 : Value) (w' : World), MeetIs h s t r d x → ErrIs w' v x → Below wx.heap.size wx w' → Q .normal ⟨#[s0, .slice (some ⟨lb, lo, none⟩) n lc, s2, s3, s4, .pointer (some ⟨bx, 0, none⟩), .int .i64 (i : Nat), .int .u64 d, v, s9, s10, s11, s12, s13, s14, s15, s16, s17, s18, s19, s20, s21, s22, s23, s24, s25, s26, s27, s28, s29, s30, t31, t32, t33, t34, t35, t36, t37, t38, t39, t40, t41, t42, t43, t44, s45, s46, s47, s48, s49, s50, s51, s52, s53, s54, s55, s56, s57, s58, s59, s60, s61, s62, s63, s64, s65, s66, s67, s68, s69, s70, s71, s72], []⟩ w') :
    Code.wp Tryd.prog ((regionAt 11 memBody).getD .skip) Q ⟨#[s0, .slice (some ⟨lb, lo, none⟩) n lc, s2, s3, s4, .pointer (some ⟨bx, 0, none⟩), .int .i64 (i : Nat), s7, s8, s9, s10, s11, s12, s13, s14, s15, s16, s17, s18, s19, s20, s21, s22, s23, s24, s25, s26, s27, s28, s29, s30, s31, s32, s33, s34, s35, s36, s37, s38, s39, s40, s41, s42, s43, s44, s45, s46, s47, s48, s49, s50, s51, s52, s53, s54, s55, s56, s57, s58, s59, s60, s61, s62, s63, s64, s65, s66, s67, s68, s69, s70, s71, s72], []⟩ wx := by
  have HQ := Lib.hid hQ
  have SEE := Lib.hid see
  have hsub : IntKind.i64.wrap ((i : Int) - 1) = ((i - 1 : Nat) : Int) := by rw [IntWalk.i64_in _ (by omega)]; omega
  have hi2 : i - 1 < n := by omega
  clear hQ see
  conv => arg 2; whnf
  go_region_held3 (fun W => W.cell? ⟨lb, lo + (i - 1), none⟩ = some (.int .i64 s) ∧ W.cell? ⟨lb, lo + i, none⟩ = some (.int .i64 t) ∧ W.cell? ⟨bx, 0, none⟩ = some (.slice A.a0 h.node.length A.c0) ∧ W.cell? ⟨bx, 1, none⟩ = some (.slice A.a1 h.upF.length A.c1) ∧ W.cell? ⟨bx, 2, none⟩ = some (.slice A.a2 h.up.length A.c2) ∧ W.cell? ⟨bx, 3, none⟩ = some (.slice A.a3 h.dnF.length A.c3) ∧ W.cell? ⟨bx, 4, none⟩ = some (.slice A.a4 h.dn.length A.c4)) (go_keep)
    (first
    | (go_at_call 32; (with_reducible refine (distance_lit A h s t _ ?_ hs64 ht64).mono ?_); exact (SEE.out.below (Below.refl _ _).drew); rintro e w1 ⟨r, d, x, v, rfl, hv, hm, hb⟩; (have hb1 : Below wx.heap.size wx w1 := ((Below.refl wx.heap.size wx).drew).trans (hb.mono (Nat.le_refl _))); (have m0 := ck hb1 k0); (have m1 := ck hb1 k1); (have m2 := ck hb1 k2); (have m3 := ck hb1 k3); (have m4 := ck hb1 k4); (have m5 := ck hb1 c1); (have m6 := ck hb1 c2)))
  exact HQ.out r d x v _ _ _ _ _ _ _ _ _ _ _ _ _ _ _ hm hv hb1

set_option linter.unusedSimpArgs false in
set_option maxRecDepth 100000 in
set_option maxHeartbeats 8000000 in
theorem mem12 {s0 s3 s4 s5 s7 s8 s9 s10 s11 s12 s13 s14 s15 s16 s17 s18 s19 s20 s21 s22 s23 s24 s25 s26 s27 s28 s29 s30 s31 s32 s33 s34 s35 s36 s37 s38 s39 s40 s41 s42 s43 s44 s45 s46 s47 s48 s49 s50 s51 s52 s53 s54 s55 s56 s57 s58 s59 s60 s61 s62 s63 s64 s65 s66 s67 s68 s69 s70 s71 s72 : Value} {A : HA} {h : HierD} {s t : Int} {wx : World} {bx lb lo n lc i : Nat} (Q : Exit → Act → World → Prop) (see : HSee wx A h) (k0 : wx.cell? ⟨bx, 0, none⟩ = some (.slice A.a0 h.node.length A.c0)) (k1 : wx.cell? ⟨bx, 1, none⟩ = some (.slice A.a1 h.upF.length A.c1)) (k2 : wx.cell? ⟨bx, 2, none⟩ = some (.slice A.a2 h.up.length A.c2)) (k3 : wx.cell? ⟨bx, 3, none⟩ = some (.slice A.a3 h.dnF.length A.c3)) (k4 : wx.cell? ⟨bx, 4, none⟩ = some (.slice A.a4 h.dn.length A.c4)) (c1 : wx.cell? ⟨lb, lo + (i - 1), none⟩ = some (.int .i64 s)) (c2 : wx.cell? ⟨lb, lo + i, none⟩ = some (.int .i64 t)) (hi1 : 1 ≤ i) (hin : i < n) (hn20 : n ≤ 20) (hk1 : h.up.length ≤ 140737488355328) (hk2 : h.dn.length ≤ 140737488355328) (hn64 : h.node.length ≤ 140737488355328)
    (hQ : ∀ (r : Nat) (d : Int) (x : EV) (b11 : Nat) (uc : Int) (ua : Option Addr) (un ucap : Nat) (t45 t46 t47 t48 t49 t50 t51 t52 t53 t54 t55 t56 t57 t58 t59 : Value) (w' : World), MeetIs h s t r d x → Cells w' b11 30 [.int .i64 uc, .slice ua un ucap] → ErrV w' (.agg [.int .i64 uc, .slice ua un ucap].toArray) x → Below wx.heap.size wx w' → Q .normal ⟨#[s0, .slice (some ⟨lb, lo, none⟩) n lc, .pointer (some ⟨bx, 0, none⟩), s3, s4, s5, .int .i64 (i : Nat), s7, s8, .int .i64 (r : Nat), .int .u64 d, .pointer (some ⟨b11, 0, none⟩), s12, s13, s14, s15, s16, s17, s18, s19, s20, s21, s22, s23, s24, s25, s26, s27, s28, s29, s30, s31, s32, s33, s34, s35, s36, s37, s38, s39, s40, s41, s42, s43, s44, t45, t46, t47, t48, t49, t50, t51, t52, t53, t54, t55, t56, t57, t58, t59, s60, s61, s62, s63, s64, s65, s66, s67, s68, s69, s70, s71, s72], []⟩ w') :
    Code.wp Tryd.prog ((regionAt 12 memBody).getD .skip) Q ⟨#[s0, .slice (some ⟨lb, lo, none⟩) n lc, .pointer (some ⟨bx, 0, none⟩), s3, s4, s5, .int .i64 (i : Nat), s7, s8, s9, s10, s11, s12, s13, s14, s15, s16, s17, s18, s19, s20, s21, s22, s23, s24, s25, s26, s27, s28, s29, s30, s31, s32, s33, s34, s35, s36, s37, s38, s39, s40, s41, s42, s43, s44, s45, s46, s47, s48, s49, s50, s51, s52, s53, s54, s55, s56, s57, s58, s59, s60, s61, s62, s63, s64, s65, s66, s67, s68, s69, s70, s71, s72], []⟩ wx := by
  have HQ := Lib.hid hQ
  have SEE := Lib.hid see
  have hsub : IntKind.i64.wrap ((i : Int) - 1) = ((i - 1 : Nat) : Int) := by rw [IntWalk.i64_in _ (by omega)]; omega
  have hi2 : i - 1 < n := by omega
  clear hQ see
  conv => arg 2; whnf
  have hba : Below wx.heap.size wx (wx.drew.alloc (.cells #[.int .i64 0, .slice none 0 0] 30)) := ((Below.refl wx.heap.size wx).drew).alloc (Nat.le_refl _) (.cells #[.int .i64 0, .slice none 0 0] 30)
  have hla0 : Cells (wx.drew.alloc (.cells #[.int .i64 0, .slice none 0 0] 30)) wx.heap.size 30 errZero := cells_at (w := wx.drew) rfl 30 errZero
  have HLA := Lib.hid hla0
  have HBA := Lib.hid hba
  have q1 : ¬ wx.heap.size = lb := by have := block_lt c1; omega
  have q2 : ¬ lb = wx.heap.size := by have := block_lt c1; omega
  have q3 : ¬ wx.heap.size = bx := by have := block_lt k0; omega
  have q4 : ¬ bx = wx.heap.size := by have := block_lt k0; omega
  clear hla0 hba
  go_region_held3 (fun W => W.cell? ⟨lb, lo + (i - 1), none⟩ = some (.int .i64 s) ∧ W.cell? ⟨lb, lo + i, none⟩ = some (.int .i64 t) ∧ W.cell? ⟨bx, 0, none⟩ = some (.slice A.a0 h.node.length A.c0) ∧ W.cell? ⟨bx, 1, none⟩ = some (.slice A.a1 h.upF.length A.c1) ∧ W.cell? ⟨bx, 2, none⟩ = some (.slice A.a2 h.up.length A.c2) ∧ W.cell? ⟨bx, 3, none⟩ = some (.slice A.a3 h.dnF.length A.c3) ∧ W.cell? ⟨bx, 4, none⟩ = some (.slice A.a4 h.dn.length A.c4)) (go_keep)
    (first
    | (go_at_call 31; (with_reducible refine (rdocmeet_lit A h s t _ ?_ hk1 hk2 hn64).mono ?_); exact (SEE.out.below (Below.refl _ _).drew); rintro e w1 ⟨r, d, x, v, rfl, hv, hm, hb⟩; (obtain ⟨uc, ua, un, ucap, rfl⟩ := hv.form); (have hb1 : Below wx.heap.size wx w1 := ((Below.refl wx.heap.size wx).drew).trans (hb.mono (Nat.le_refl _))); (have m0 := ck hb1 k0); (have m1 := ck hb1 k1); (have m2 := ck hb1 k2); (have m3 := ck hb1 k3); (have m4 := ck hb1 k4); (have m5 := ck hb1 c1); (have m6 := ck hb1 c2))
    | (go_at_call 31; (with_reducible refine (rdocmeet_lit A h s t _ ?_ hk1 hk2 hn64).mono ?_); exact (SEE.out.below HBA.out); rintro e w1 ⟨r, d, x, v, rfl, hv, hm, hb⟩; (obtain ⟨uc, ua, un, ucap, rfl⟩ := hv.form); (have hb1 : Below wx.heap.size wx w1 := HBA.out.trans (hb.mono HBA.out.size)); (have hla := HLA.out.below hb HLA.out.lt); (have lla := hla.lt); (have ff0 := hla.frozen 0); (have ff1 := hla.frozen 1); (have nn0 := hla.cell (i := 0) rfl); (have nn1 := hla.cell (i := 1) rfl); (have HLB := Lib.hid hla); (clear hla); (have m0 := ck hb1 k0); (have m1 := ck hb1 k1); (have m2 := ck hb1 k2); (have m3 := ck hb1 k3); (have m4 := ck hb1 k4); (have m5 := ck hb1 c1); (have m6 := ck hb1 c2)))
  · exact HQ.out r d x _ uc ua un ucap _ _ _ _ _ _ _ _ _ _ _ _ _ _ _ _ hm (Cells.new w1 30 [.int .i64 uc, .slice ua un ucap]) (hv.below ((Below.refl _ _).alloc (Nat.le_refl _) _)) (hb1.alloc hb1.size _)
  · exact HQ.out r d x _ uc ua un ucap _ _ _ _ _ _ _ _ _ _ _ _ _ _ _ _ hm ((HLB.out.set 0 _).set 1 _) (hv.put HLB.out _ _) ((hb1.setCell (p := ⟨wx.heap.size, 0, none⟩) (Nat.le_refl _) _).setCell (p := ⟨wx.heap.size, 1, none⟩) (Nat.le_refl _) _)

def memInt (x : Int) : List Value := [.int .i64 x]
/-- What has been laid and is kept. -/
structure MK (A B : HA) (h : HierD) (w : World) (bx : Nat) (wx : World) : Prop where
  x : Cells wx w.heap.size 25 (hierCells A h)
  y : Cells wx bx 25 (hierCells B h)
  s : HSee wx B h
  b : Below w.heap.size w wx
theorem MK.below {A B : HA} {h : HierD} {w wx wy : World} {bx : Nat} (k : MK A B h w bx wx) (o : Below wx.heap.size wx wy) : MK A B h w bx wy := ⟨k.x.below o k.x.lt, k.y.below o k.y.lt, k.s.below o, k.b.trans (o.mono k.b.size)⟩

set_option linter.unusedSimpArgs false in
set_option maxRecDepth 100000 in
set_option maxHeartbeats 8000000 in
theorem mem_end {s0 s3 s4 s6 s7 s8 s9 s10 s11 s12 s13 s14 s15 s16 s17 s18 s19 s20 s21 s22 s23 s24 s25 s26 s27 s28 s29 s30 s31 s32 s33 s34 s35 s36 s37 s38 s39 s40 s41 s42 s43 s44 s45 s46 s47 s48 s49 s50 s51 s52 s53 s54 s55 s56 s57 s58 s59 s60 s61 s62 s63 s64 s65 s66 s67 s68 s69 s70 s71 s72 : Value} {A B : HA} {h : HierD} {w wx : World} {bx lc : Nat} {la : Option Addr} {lst : List Int} (k : MK A B h w bx wx) (see : HSee w A h) : Code.wp Tryd.prog (tailAt 5 memBody) (bodyPost Tryd.prog Tryd.f9 (BoolIs true w)) ⟨#[s0, .slice la lst.length lc, .pointer (some ⟨w.heap.size, 0, none⟩), s3, s4, .pointer (some ⟨bx, 0, none⟩), s6, s7, s8, s9, s10, s11, s12, s13, s14, s15, s16, s17, s18, s19, s20, s21, s22, s23, s24, s25, s26, s27, s28, s29, s30, s31, s32, s33, s34, s35, s36, s37, s38, s39, s40, s41, s42, s43, s44, s45, s46, s47, s48, s49, s50, s51, s52, s53, s54, s55, s56, s57, s58, s59, s60, s61, s62, s63, s64, s65, s66, s67, s68, s69, s70, s71, s72], []⟩ wx := by
  have K := Lib.hid k
  have SEE := Lib.hid see
  obtain ⟨k0, k1, k2, k3, k4⟩ := hier_five k.x
  obtain ⟨j0, j1, j2, j3, j4⟩ := hier_five k.y
  clear k see
  conv => arg 2; whnf
  go_wp2_with fail
  refine (rsame_any B A h _ K.out.s (SEE.out.below K.out.b)).mono ?_
  rintro e w1 ⟨rfl, hb⟩
  have K1 := Lib.hid (K.out.below hb)
  clear K hb k0 k1 k2 k3 k4 j0 j1 j2 j3 j4
  go_wp2
  go_returns
  exact ⟨rfl, K1.out.b⟩
set_option linter.unusedSimpArgs false in
set_option maxRecDepth 100000 in
set_option maxHeartbeats 8000000 in
theorem mem_loop {s0 s3 s4 s6 s7 s8 s9 s10 s11 s12 s13 s14 s15 s16 s17 s18 s19 s20 s21 s22 s23 s24 s25 s26 s27 s28 s29 s30 s31 s32 s33 s34 s35 s36 s37 s38 s39 s40 s41 s42 s43 s44 s45 s46 s47 s48 s49 s50 s51 s52 s53 s54 s55 s56 s57 s58 s59 s60 s61 s62 s63 s64 s65 s66 s67 s68 s69 s70 s71 s72 : Value} {A B : HA} {h : HierD} {w wx : World} {bx lc : Nat} {la : Option Addr} {lst : List Int} (hg : EVar w) (k : MK A B h w bx wx) (see : HSee w A h) (sl : See w la lc memInt 1 lst) (hl64 : ∀ x ∈ lst, x ≤ 9223372036854775807) (hn20 : lst.length ≤ 20)
    (hk1 : h.up.length ≤ 140737488355328) (hk2 : h.dn.length ≤ 140737488355328) (hn64 : h.node.length ≤ 140737488355328) : Code.wp Tryd.prog (tailAt 4 memBody) (bodyPost Tryd.prog Tryd.f9 (BoolIs true w)) ⟨#[s0, .slice la lst.length lc, .pointer (some ⟨w.heap.size, 0, none⟩), s3, s4, .pointer (some ⟨bx, 0, none⟩), s6, s7, s8, s9, s10, s11, s12, s13, s14, s15, s16, s17, s18, s19, s20, s21, s22, s23, s24, s25, s26, s27, s28, s29, s30, s31, s32, s33, s34, s35, s36, s37, s38, s39, s40, s41, s42, s43, s44, s45, s46, s47, s48, s49, s50, s51, s52, s53, s54, s55, s56, s57, s58, s59, s60, s61, s62, s63, s64, s65, s66, s67, s68, s69, s70, s71, s72], []⟩ wx := by
  have K := Lib.hid k
  have SEE := Lib.hid see
  have SL := Lib.hid sl
  have HL := Lib.hid hl64
  have HG := Lib.hid hg
  clear k see sl hl64 hg
  conv => arg 2; whnf
  apply wp_seq_k
  intro KK hK
  have HKK := Lib.hid hK
  clear hK
  go_wp2_with fail
  go_loopg [23] 2 (fun g vi wr => ∃ q : Nat, vi = .int .i64 q ∧ q ≤ 2 ∧ g = 2 - q ∧ MK A B h w bx wr)
  case atStart => exact ⟨0, rfl, by omega, rfl, K.out⟩
  case round =>
    obtain ⟨q, rfl, hq, hgk, hk⟩ := hrel
    obtain ⟨wo, rfl⟩ : ∃ wo : World, wo = wr := ⟨_, rfl⟩
    have HGK := Lib.hid hgk
    have KO := Lib.hid hk
    clear hgk hk K
    by_cases hq2 : q < 2
    · have dq : decide ((q : Int) < 2) = true := by simp; omega
      go_wp2_with fail
      go_loopg [6] lst.length (fun g vi wr => ∃ i : Nat, vi = .int .i64 i ∧ 1 ≤ i ∧ i ≤ lst.length + 1 ∧ g = lst.length + 1 - i ∧ MK A B h w bx wr)
      case atStart => exact ⟨1, rfl, by omega, by omega, by omega, KO.out⟩
      case round =>
        obtain ⟨i, rfl, hi1, hi2, hgj, hk⟩ := hrel
        obtain ⟨wp, rfl⟩ : ∃ wp : World, wp = wr := ⟨_, rfl⟩
        have HGJ := Lib.hid hgj
        have KP := Lib.hid hk
        clear hgj hk
        by_cases hin : i < lst.length
        · obtain ⟨t, ht⟩ : ∃ t, lst[i]? = some t := ⟨_, List.getElem?_eq_getElem hin⟩
          obtain ⟨s, hs⟩ : ∃ s, lst[i - 1]? = some s := ⟨_, List.getElem?_eq_getElem (by omega)⟩
          have ht64 := HL.out t (List.mem_of_getElem? ht)
          have hs64 := HL.out s (List.mem_of_getElem? hs)
          obtain ⟨lb, lo, ea, cc2⟩ := SL.out.cell i t ht
          obtain ⟨lb', lo', ea', cc1⟩ := SL.out.cell (i - 1) s hs
          have hee := ea'.symm.trans ea
          simp only [Option.some.injEq, Addr.mk.injEq, and_true] at hee
          obtain ⟨rfl, rfl⟩ := hee
          have C2 := Lib.hid (cc2 0 _ rfl)
          have C1 := Lib.hid (cc1 0 _ rfl)
          have EA := Lib.hid ea
          clear ht hs cc1 cc2 ea ea'
          rw [EA.out]
          go_upto_region 11 with fail
          change Code.wp _ ((regionAt 11 memBody).getD .skip) _ _ _
          obtain ⟨j0, j1, j2, j3, j4⟩ := hier_five KP.out.y
          refine mem11 _ KP.out.s j0 j1 j2 j3 j4 (by have := ck KP.out.b C1.out; rwa [Nat.mul_one, Nat.add_zero] at this) (by have := ck KP.out.b C2.out; rwa [Nat.mul_one, Nat.add_zero] at this) hi1 hin hn20 hs64 ht64 ?_
          intro r d x v t31 t32 t33 t34 t35 t36 t37 t38 t39 t40 t41 t42 t43 t44 w1 hm hv hb
          have K1 := Lib.hid (KP.out.below hb)
          have HV := Lib.hid hv
          have HM := Lib.hid hm
          clear hb hv hm j0 j1 j2 j3 j4
          try dsimp only [Exit.then]
          go_upto_region 12 with fail
          change Code.wp _ ((regionAt 12 memBody).getD .skip) _ _ _
          obtain ⟨k0, k1, k2, k3, k4⟩ := hier_five K1.out.x
          refine mem12 _ (SEE.out.below K1.out.b) k0 k1 k2 k3 k4 (by have := ck K1.out.b C1.out; rwa [Nat.mul_one, Nat.add_zero] at this) (by have := ck K1.out.b C2.out; rwa [Nat.mul_one, Nat.add_zero] at this) hi1 hin hn20 hk1 hk2 hn64 ?_
          intro r2 d2 x2 b11 uc ua un ucap t45 t46 t47 t48 t49 t50 t51 t52 t53 t54 t55 t56 t57 t58 t59 w2 hm2 hc2 hv2 hb2
          obtain ⟨rfl, rfl, rfl⟩ := HM.out.same hm2
          have K2 := Lib.hid (K1.out.below hb2)
          have HV2 := Lib.hid (HV.out.below hb2)
          have HE2 := Lib.hid hv2
          have y0 : w2.cell? ⟨b11, 0, none⟩ = some (.int .i64 uc) := hc2.cell rfl
          have y1 : w2.cell? ⟨b11, 1, none⟩ = some (.slice ua un ucap) := hc2.cell rfl
          clear hm2 hc2 hv2 hb2 k0 k1 k2 k3 k4 K1 HV
          try dsimp only [Exit.then]
          go_wp2_with fail
          refine (same_any x _ _ _ HM.out.pos (HG.out.below K2.out.b) HV2.out HE2.out).mono ?_
          rintro e w3 ⟨rfl, hb3⟩
          have K3 := Lib.hid (K2.out.below hb3)
          clear hb3 y0 y1 HV2 HE2 K2
          go_wp2_with fail
          rw [← EA.out]
          go_roundg (lst.length + 1 - (i + 1))
          case measure => rw [HGJ.out]; omega
          case rel => exact ⟨i + 1, by go_num, by omega, by omega, rfl, K3.out⟩
        · go_wp2_with fail
          go_roundg (2 - (q + 1))
          case measure => rw [HGK.out]; omega
          case rel => exact ⟨q + 1, by go_num, by omega, rfl, KP.out⟩
    · obtain rfl : q = 2 := by omega
      go_wp2_with fail
      refine HKK.out _ _ ?_
      change Code.wp _ (tailAt 5 memBody) _ _ _
      exact mem_end KO.out SEE.out

set_option linter.unusedSimpArgs false in
set_option maxRecDepth 100000 in
set_option maxHeartbeats 8000000 in
theorem mem_twin {s0 s3 s4 s5 s6 s7 s8 s9 s10 s11 s12 s13 s14 s15 s16 s17 s18 s19 s20 s21 s22 s23 s24 s25 s26 s27 s28 s29 s30 s31 s32 s33 s34 s35 s36 s37 s38 s39 s40 s41 s42 s43 s44 s45 s46 s47 s48 s49 s50 s51 s52 s53 s54 s55 s56 s57 s58 s59 s60 s61 s62 s63 s64 s65 s66 s67 s68 s69 s70 s71 s72 : Value} {A : HA} {h : HierD} {w wx : World} {lc : Nat} {la : Option Addr} {lst : List Int} (hg : EVar w) (see : HSee w A h) (hr : Reach5 h) (sl : See w la lc memInt 1 lst) (hl64 : ∀ x ∈ lst, x ≤ 9223372036854775807) (hn20 : lst.length ≤ 20) (hx : Cells wx w.heap.size 25 (hierCells A h)) (hb0 : Below w.heap.size w wx) : Code.wp Tryd.prog (tailAt 3 memBody) (bodyPost Tryd.prog Tryd.f9 (BoolIs true w)) ⟨#[s0, .slice la lst.length lc, .pointer (some ⟨w.heap.size, 0, none⟩), s3, s4, s5, s6, s7, s8, s9, s10, s11, s12, s13, s14, s15, s16, s17, s18, s19, s20, s21, s22, s23, s24, s25, s26, s27, s28, s29, s30, s31, s32, s33, s34, s35, s36, s37, s38, s39, s40, s41, s42, s43, s44, s45, s46, s47, s48, s49, s50, s51, s52, s53, s54, s55, s56, s57, s58, s59, s60, s61, s62, s63, s64, s65, s66, s67, s68, s69, s70, s71, s72], []⟩ wx := by
  have SEE := Lib.hid see
  have SL := Lib.hid sl
  have HL := Lib.hid hl64
  have HG := Lib.hid hg
  have HRE := Lib.hid hr
  have HX := Lib.hid hx
  have HB := Lib.hid hb0
  obtain ⟨k0, k1, k2, k3, k4⟩ := hier_five hx
  clear see sl hl64 hg hr hx hb0
  conv => arg 2; whnf
  apply wp_seq_k
  intro KK hK
  have HKK := Lib.hid hK
  clear hK
  have hk1 : h.up.length ≤ 140737488355328 := by have := HRE.out.up; omega
  have hk2 : h.dn.length ≤ 140737488355328 := by have := HRE.out.dn; omega
  have hn64 : h.node.length ≤ 140737488355328 := by have := HRE.out.n; omega
  go_wp2_with fail
  refine (twin_any A h _ (SEE.out.below HB.out) HRE.out).mono ?_
  rintro e w1 ⟨B, rfl, see1, -, hb⟩
  have ho := (Below.refl w1.heap.size w1).alloc (Nat.le_refl _) (.cells (hierCells B h).toArray 25)
  have K := Lib.hid (MK.mk (A := A) (B := B) (h := h) (w := w) (bx := w1.heap.size) ((HX.out.below hb HX.out.lt).alloc (.cells (hierCells B h).toArray 25)) (Cells.new w1 25 (hierCells B h)) (see1.below ho) ((HB.out.trans (hb.mono HB.out.size)).alloc (HB.out.trans (hb.mono HB.out.size)).size _))
  clear hb see1 ho k0 k1 k2 k3 k4 HX HB
  unfold hierVal
  go_wp2_with fail
  refine HKK.out _ _ ?_
  change Code.wp _ (tailAt 4 memBody) _ _ _
  exact mem_loop HG.out K.out SEE.out SL.out HL.out hn20 hk1 hk2 hn64

set_option linter.unusedSimpArgs false in
set_option maxRecDepth 100000 in
set_option maxHeartbeats 8000000 in
theorem mem_great {s0 s3 s4 s5 s6 s7 s8 s9 s10 s11 s12 s13 s14 s15 s16 s17 s18 s19 s20 s21 s22 s23 s24 s25 s26 s27 s28 s29 s30 s31 s32 s33 s34 s35 s36 s37 s38 s39 s40 s41 s42 s43 s44 s45 s46 s47 s48 s49 s50 s51 s52 s53 s54 s55 s56 s57 s58 s59 s60 s61 s62 s63 s64 s65 s66 s67 s68 s69 s70 s71 s72 : Value} {A : HA} {h : HierD} {w wx : World} {lc : Nat} {la : Option Addr} {lst : List Int} (hg : EVar w) (see : HSee w A h) (hr : Reach5 h) (sl : See w la lc memInt 1 lst) (hl64 : ∀ x ∈ lst, x ≤ 9223372036854775807) (hx : Cells wx w.heap.size 25 (hierCells A h)) (hb0 : Below w.heap.size w wx) : Code.wp Tryd.prog (tailAt 2 memBody) (bodyPost Tryd.prog Tryd.f9 (BoolIs true w)) ⟨#[s0, .slice la lst.length lc, .pointer (some ⟨w.heap.size, 0, none⟩), s3, s4, s5, s6, s7, s8, s9, s10, s11, s12, s13, s14, s15, s16, s17, s18, s19, s20, s21, s22, s23, s24, s25, s26, s27, s28, s29, s30, s31, s32, s33, s34, s35, s36, s37, s38, s39, s40, s41, s42, s43, s44, s45, s46, s47, s48, s49, s50, s51, s52, s53, s54, s55, s56, s57, s58, s59, s60, s61, s62, s63, s64, s65, s66, s67, s68, s69, s70, s71, s72], []⟩ wx := by
  have SEE := Lib.hid see
  have SL := Lib.hid sl
  have HL := Lib.hid hl64
  have HG := Lib.hid hg
  have HRE := Lib.hid hr
  have HX := Lib.hid hx
  have HB := Lib.hid hb0
  obtain ⟨k0, k1, k2, k3, k4⟩ := hier_five hx
  clear see sl hl64 hg hr hx hb0
  conv => arg 2; whnf
  apply wp_seq_k
  intro KK hK
  have HKK := Lib.hid hK
  clear hK
  have hlm : lst.length ≤ 9223372036854775807 := by have := Nat.le_trans SL.out.hcap SL.out.hmax; simpa [maxLen] using this
  go_wp2_with fail
  refine (great_any A h _).mono ?_
  rintro e w2 ⟨b, rfl, hb⟩
  have HX2 := Lib.hid (HX.out.below hb HX.out.lt)
  have HB2 := Lib.hid (HB.out.trans (hb.mono HB.out.size))
  clear hb HX HB k0 k1 k2 k3 k4
  cases b
  case true =>
    go_wp2
    go_returns
    exact ⟨rfl, HB2.out⟩
  case false =>
    by_cases h20 : 20 < lst.length
    · have d1 : decide (20 < lst.length) = true := by simpa using h20
      have d2 : decide ((20 : Int) < (lst.length : Int)) = true := by simp; omega
      clear h20
      go_wp2
      go_returns
      exact ⟨rfl, HB2.out⟩
    · have d1 : decide (20 < lst.length) = false := by simpa using h20
      have d2 : decide ((20 : Int) < (lst.length : Int)) = false := by simp; omega
      have hn20 : lst.length ≤ 20 := by omega
      clear h20
      go_wp2_with fail
      refine HKK.out _ _ ?_
      change Code.wp _ (tailAt 3 memBody) _ _ _
      exact mem_twin HG.out SEE.out HRE.out SL.out HL.out hn20 HX2.out HB2.out

set_option linter.unusedSimpArgs false in
set_option maxRecDepth 100000 in
set_option maxHeartbeats 8000000 in
theorem mem_awake {s0 s3 s4 s5 s6 s7 s8 s9 s10 s11 s12 s13 s14 s15 s16 s17 s18 s19 s20 s21 s22 s23 s24 s25 s26 s27 s28 s29 s30 s31 s32 s33 s34 s35 s36 s37 s38 s39 s40 s41 s42 s43 s44 s45 s46 s47 s48 s49 s50 s51 s52 s53 s54 s55 s56 s57 s58 s59 s60 s61 s62 s63 s64 s65 s66 s67 s68 s69 s70 s71 s72 : Value} {A : HA} {h : HierD} {w wx : World} {lc : Nat} {la : Option Addr} {lst : List Int} (hg : EVar w) (see : HSee w A h) (hr : Reach5 h) (sl : See w la lc memInt 1 lst) (hl64 : ∀ x ∈ lst, x ≤ 9223372036854775807) (hx : Cells wx w.heap.size 25 (hierCells A h)) (hb0 : Below w.heap.size w wx) : Code.wp Tryd.prog (tailAt 1 memBody) (bodyPost Tryd.prog Tryd.f9 (BoolIs true w)) ⟨#[s0, .slice la lst.length lc, .pointer (some ⟨w.heap.size, 0, none⟩), s3, s4, s5, s6, s7, s8, s9, s10, s11, s12, s13, s14, s15, s16, s17, s18, s19, s20, s21, s22, s23, s24, s25, s26, s27, s28, s29, s30, s31, s32, s33, s34, s35, s36, s37, s38, s39, s40, s41, s42, s43, s44, s45, s46, s47, s48, s49, s50, s51, s52, s53, s54, s55, s56, s57, s58, s59, s60, s61, s62, s63, s64, s65, s66, s67, s68, s69, s70, s71, s72], []⟩ wx := by
  have SEE := Lib.hid see
  have SL := Lib.hid sl
  have HL := Lib.hid hl64
  have HG := Lib.hid hg
  have HRE := Lib.hid hr
  have HX := Lib.hid hx
  have HB := Lib.hid hb0
  obtain ⟨k0, k1, k2, k3, k4⟩ := hier_five hx
  clear see sl hl64 hg hr hx hb0
  conv => arg 2; whnf
  apply wp_seq_k
  intro KK hK
  have HKK := Lib.hid hK
  clear hK
  clear k0 k1 k2 k3 k4
  go_wp2_with fail
  refine (awake_any _).mono ?_
  rintro e w1 ⟨rfl, hb⟩
  have HX1 := Lib.hid (HX.out.below hb HX.out.lt)
  have HB1 := Lib.hid (HB.out.trans (hb.mono HB.out.size))
  clear hb HX HB
  go_wp2_with fail
  refine HKK.out _ _ ?_
  change Code.wp _ (tailAt 2 memBody) _ _ _
  exact mem_great HG.out SEE.out HRE.out SL.out HL.out HX1.out HB1.out

set_option linter.unusedSimpArgs false in
set_option maxRecDepth 100000 in
set_option maxHeartbeats 8000000 in
theorem queryMemory_any (A : HA) (h : HierD) (la : Option Addr) (lc : Nat) (lst : List Int) (w : World) (hg : EVar w) (see : HSee w A h) (hr : Reach5 h) (sl : See w la lc memInt 1 lst) (hl64 : ∀ x ∈ lst, x ≤ 9223372036854775807) : Calls Tryd.prog 9 #[hierVal A h, .slice la lst.length lc] w (BoolIs true w) := by
  have HX := Lib.hid (Cells.new w 25 (hierCells A h))
  have HB := Lib.hid ((Below.refl w.heap.size w).alloc (Nat.le_refl _) (.cells (hierCells A h).toArray 25))
  have SEE := Lib.hid see
  have SL := Lib.hid sl
  have HL := Lib.hid hl64
  have HG := Lib.hid hg
  have HRE := Lib.hid hr
  clear see sl hl64 hg hr
  unfold hierVal
  go_enter Tryd.func9, Tryd.ntmps9
  apply wp_seq_k
  intro K1 hK
  have HK1 := Lib.hid hK
  clear hK
  go_wp2_with fail
  refine HK1.out _ _ ?_
  change Code.wp _ (tailAt 1 memBody) _ _ _
  exact mem_awake HG.out SEE.out HRE.out SL.out HL.out HX.out HB.out
section
variable {H : Type} {enc : TypeId × Value → H} {P : Program} {w : World}
/-- A list of ints that comes in. -/
theorem open_intlist {t e : TypeId} {v : Value} {b0 base : Nat} {held : Bool} {d : DataW H} {p : List MemPlace} (ht : P.underlying t = some (.slice e)) (he : P.underlying e = some (.int .i64)) (hce : P.cellsOf e = 1) (hv : Value.okWide P w .any b0 t v) (hd : DataW.Trod enc P w base (fun _ => true) held t v d p) :
    ∃ la lc lst, v = .slice la lst.length lc ∧ See w la lc memInt 1 lst ∧ ∀ x ∈ lst, (Lit.int .i64 x).wf = true := by
  have hok := hv
  simp only [Value.okWide, ht] at hok
  obtain ⟨fuel, h⟩ := hd
  rcases ok_slice ht hok with rfl | ⟨b, o, len, cap, rfl⟩
  · exact ⟨none, 0, [], rfl, See.nil _ _ _, by simp⟩
  · simp only [Value.cells] at h
    rcases open_ints ht he hce h with ⟨h1, -⟩ | ⟨a, len2, cap2, zs, h1, -, hl, hm, hz, -, hc, hw⟩
    · simp at h1
    · simp only [List.cons.injEq, and_true, Value.slice.injEq, Option.some.injEq] at h1
      obtain ⟨rfl, rfl, rfl⟩ := h1
      simp only [if_true] at hz
      have hlen : (zs.take len).length = len := by simp; omega
      have hget : ∀ (i : Nat) (x : Int), (zs.take len)[i]? = some x → i < zs.length ∧ zs.getD i 0 = x ∧ (Lit.int .i64 x).wf = true := by
        intro i x hx
        rw [List.getElem?_take] at hx
        split at hx
        · rename_i hi
          have hil : i < zs.length := by omega
          rw [List.getElem?_eq_getElem hil] at hx
          simp only [Option.some.injEq] at hx
          subst hx
          rw [List.getD_eq_getElem?_getD, List.getElem?_eq_getElem hil]
          exact ⟨hil, rfl, hw _ (List.getElem_mem hil)⟩
        · cases hx
      refine ⟨some ⟨b, o, none⟩, cap, zs.take len, by rw [hlen], ⟨by omega, hm, fun i x hx => ⟨b, o, rfl, fun j u hu => ?_⟩⟩, fun x hx => ?_⟩
      · obtain ⟨h3, h4, -⟩ := hget i x hx
        have := hc i h3
        rw [h4] at this
        have e : (⟨b, o, none⟩ : Addr).add i = ⟨b, o + i, none⟩ := by unfold Addr.add; split <;> simp_all
        rw [e] at this
        cases j with
        | zero =>
          simp only [memInt, List.getElem?_cons_zero, Option.some.injEq] at hu
          rw [Nat.mul_one, Nat.add_zero, this, hu]
        | succ j => simp [memInt] at hu
      · obtain ⟨i, hi⟩ := List.getElem?_of_mem hx
        exact (hget i x hi).2.2
end
end Go.Proofs.YtjbphoophgbmiaaDoor
