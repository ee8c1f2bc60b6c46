/- The first of two errors. -/
import Derived.Test.YtchhbgckonpedaaGreatDoorE18
import Derived.Test.YtchhbgckonpedaaGreatDoorE26
set_option linter.unusedSimpArgs false
set_option maxRecDepth 100000
set_option maxHeartbeats 8000000
namespace Go.Proofs.YtchhbgckonpedaaGreatDoor
open Go.ChangeShapes Go.WideShapes Go.ChangeAt Go.RowKit Go.Joins Go.Deep
theorem rfirst_any (b : Nat) {E : EV} {c1 c2 : Int} {a1 a2 : Option Addr} {n1 k1 n2 k2 : Nat} {x1 x2 : EV} (w : World) (hc : Cells w b 36 [.int .i64 c1, .slice a1 n1 k1, .int .i64 c2, .slice a2 n2 k2])
  (h1 : ErrV w (.agg #[.int .i64 c1, .slice a1 n1 k1]) x1) (h2 : ErrV w (.agg #[.int .i64 c2, .slice a2 n2 k2]) x2) (p1 : x1.pos) (p2 : x2.pos) (hE : E = if x1.isNil = true then x2 else x1) :
  Calls Tryz.prog 51 #[.slice (some ⟨b,0,none⟩) 2 2] w (ErrNew E w) := by
 have d0 : w.cell? ⟨b,0,none⟩ = some (.int .i64 c1) := hc.cell rfl
 have d1 : w.cell? ⟨b,1,none⟩ = some (.slice a1 n1 k1) := hc.cell rfl
 have d2 : w.cell? ⟨b,2,none⟩ = some (.int .i64 c2) := hc.cell rfl
 have d3 : w.cell? ⟨b,3,none⟩ = some (.slice a2 n2 k2) := hc.cell rfl
 have lb := hc.lt
 have HR := Lib.hid (Cells.new w 36 errZero)
 have H1 := Lib.hid h1
 have H2 := Lib.hid h2
 have P1 := Lib.hid p1
 have P2 := Lib.hid p2
 have HC := Lib.hid hc
 have HE := Lib.hid hE
 clear hc h1 h2 p1 p2 hE
 go_enter Tryz.func51, Tryz.ntmps51
 go_wp2_with fail
 refine wp_loop_rounds 3 ?_
 rw [rounds_succ]
 go_wp2_with fail
 have hB2 := ((Below.refl w.heap.size w).alloc (Nat.le_refl _) (.cells errZero.toArray 36)).alloc (by simp) (.cells #[.int .i64 c1, .slice a1 n1 k1] 36)
 have hr2 := HR.out.alloc (.cells #[.int .i64 c1, .slice a1 n1 k1] 36)
 have hc2 := (HC.out.alloc (.cells errZero.toArray 36)).alloc (.cells #[.int .i64 c1, .slice a1 n1 k1] 36)
 have he2 : Cells ((w.alloc (.cells errZero.toArray 36)).alloc (.cells #[.int .i64 c1, .slice a1 n1 k1] 36)) (w.heap.size + 1) 36 [.int .i64 c1, .slice a1 n1 k1] := cells_at (by simp) _ _
 refine (bad_any _ x1 _ (H1.out.below hB2) P1.out).mono ?_
 rintro e w1 ⟨rfl,hb⟩
 have HR1 := Lib.hid (hr2.below hb hr2.lt)
 have HC1 := Lib.hid (hc2.below hb hc2.lt)
 have HE1 := Lib.hid (he2.below hb he2.lt)
 have HB1 := Lib.hid (hB2.trans (hb.mono hB2.size))
 clear hB2 hr2 hc2 he2 hb d0 d1 d2 d3 HR HC
 cases hn : x1.isNil
 ·have HE := Lib.hid (show E = x1 by rw [HE.out,if_neg (by rw [hn]; simp)])
  clear hn
  have y0 : w1.cell? ⟨w.heap.size + 1,0,none⟩ = some (.int .i64 c1) := HE1.out.cell rfl
  have y1 : w1.cell? ⟨w.heap.size + 1,1,none⟩ = some (.slice a1 n1 k1) := HE1.out.cell rfl
  have z0 : w1.cell? ⟨w.heap.size,0,none⟩ = some (.int .i64 0) := HR1.out.cell rfl
  have z1 : w1.cell? ⟨w.heap.size,1,none⟩ = some (.slice none 0 0) := HR1.out.cell rfl
  have g0 := HR1.out.frozen 0
  have g1 := HR1.out.frozen 1
  have lr := HR1.out.lt
  go_wp2
  refine bodyPost_ret (results_e rfl _ _ w.heap.size 36 [.int .i64 c1, .slice a1 n1 k1] _ rfl ((HR1.out.set 0 _).set 1 _) Tryz.underlying36 rfl (by rw [Tryz.sizeErr]; rfl)) rfl ?_
  rw [HE.out]
  exact ⟨_,rfl,(H1.out.below HB1.out).put HR1.out _ _,(HB1.out.setCell (p := ⟨w.heap.size,0,none⟩) (Nat.le_refl _) _).setCell (p := ⟨w.heap.size,1,none⟩) (Nat.le_refl _) _⟩
 ·have HE := Lib.hid (show E = x2 by rw [HE.out,if_pos hn])
  clear hn
  have d0 : w1.cell? ⟨b,0,none⟩ = some (.int .i64 c1) := HC1.out.cell rfl
  have d1 : w1.cell? ⟨b,1,none⟩ = some (.slice a1 n1 k1) := HC1.out.cell rfl
  have d2 : w1.cell? ⟨b,2,none⟩ = some (.int .i64 c2) := HC1.out.cell rfl
  have d3 : w1.cell? ⟨b,3,none⟩ = some (.slice a2 n2 k2) := HC1.out.cell rfl
  go_wp2_with fail
  rw [rounds_succ]
  go_wp2_with fail
  have hB2 := HB1.out.alloc HB1.out.size (.cells #[.int .i64 c2, .slice a2 n2 k2] 36)
  have hr2 := HR1.out.alloc (.cells #[.int .i64 c2, .slice a2 n2 k2] 36)
  have he2 := Cells.new w1 36 [.int .i64 c2, .slice a2 n2 k2]
  refine (bad_any _ x2 _ (H2.out.below hB2) P2.out).mono ?_
  rintro e w2 ⟨rfl,hb⟩
  have HR2 := Lib.hid (hr2.below hb hr2.lt)
  have HE2 := Lib.hid (he2.below hb he2.lt)
  have HB2 := Lib.hid (hB2.trans (hb.mono hB2.size))
  clear hB2 hr2 he2 hb d0 d1 d2 d3 HR1 HC1
  cases hn : x2.isNil
  ·clear hn
   have y0 : w2.cell? ⟨w1.heap.size,0,none⟩ = some (.int .i64 c2) := HE2.out.cell rfl
   have y1 : w2.cell? ⟨w1.heap.size,1,none⟩ = some (.slice a2 n2 k2) := HE2.out.cell rfl
   have z0 : w2.cell? ⟨w.heap.size,0,none⟩ = some (.int .i64 0) := HR2.out.cell rfl
   have z1 : w2.cell? ⟨w.heap.size,1,none⟩ = some (.slice none 0 0) := HR2.out.cell rfl
   have g0 := HR2.out.frozen 0
   have g1 := HR2.out.frozen 1
   have lr := HR2.out.lt
   go_wp2
   refine bodyPost_ret (results_e rfl _ _ w.heap.size 36 [.int .i64 c2, .slice a2 n2 k2] _ rfl ((HR2.out.set 0 _).set 1 _) Tryz.underlying36 rfl (by rw [Tryz.sizeErr]; rfl)) rfl ?_
   rw [HE.out]
   exact ⟨_,rfl,(H2.out.below HB2.out).put HR2.out _ _,(HB2.out.setCell (p := ⟨w.heap.size,0,none⟩) (Nat.le_refl _) _).setCell (p := ⟨w.heap.size,1,none⟩) (Nat.le_refl _) _⟩
  ·have hx := EV.isNil_iff.1 hn
   have HE := Lib.hid (show E = .nil by rw [HE.out,hx])
   clear hn hx
   have z0 : w2.cell? ⟨w.heap.size,0,none⟩ = some (.int .i64 0) := HR2.out.cell rfl
   have z1 : w2.cell? ⟨w.heap.size,1,none⟩ = some (.slice none 0 0) := HR2.out.cell rfl
   have g0 := HR2.out.frozen 0
   have g1 := HR2.out.frozen 1
   have lr := HR2.out.lt
   go_wp2_with fail
   rw [rounds_succ]
   go_wp2
   refine bodyPost_ret (results_e rfl _ _ w.heap.size 36 [.int .i64 0, .slice none 0 0] _ rfl ((HR2.out.set 0 _).set 1 _) Tryz.underlying36 rfl (by rw [Tryz.sizeErr]; rfl)) rfl ?_
   rw [HE.out]
   exact ⟨_,rfl,rfl,(HB2.out.setCell (p := ⟨w.heap.size,0,none⟩) (Nat.le_refl _) _).setCell (p := ⟨w.heap.size,1,none⟩) (Nat.le_refl _) _⟩
end Go.Proofs.YtchhbgckonpedaaGreatDoor
/- The reference's look at a hierarchy: the copies of an error into the result; the loop over the links. -/
namespace Go.Proofs.YtchhbgckonpedaaGreatDoor
open Go.ChangeShapes Go.WideShapes Go.ChangeAt Go.RowKit Go.Joins Go.Deep
noncomputable def docBody : Code := Tryz.f24.body.getD .skip
structure DK (A : HA) (h : HierD) (w wx : World) : Prop where
 x : Cells wx w.heap.size 25 (hierCells A h)
 r : Cells wx (w.heap.size + 1) 36 errZero
 b : Below w.heap.size w wx
theorem DK.below {A : HA} {h : HierD} {w wx wy : World} (k : DK A h w wx) (o : Below wx.heap.size wx wy) : DK A h w wy := ⟨k.x.below o k.x.lt,k.r.below o k.r.lt,k.b.trans (o.mono k.b.size)⟩
theorem linkErr_pos (h : HierD) (i : Nat) : (linkErrD h i).pos := by
 unfold linkErrD
 split
 ·simp [EV.pos]
 ·split <;> simp [EV.pos]
theorem copy_d8 {s0 s1 s3 s5 s6 s7 s8 s9 s10 s11 s12 s13 s14 s15 s16 s17 s18 s19 s20 s21 s22 s23 s24 s25 s26 s27 s28 s29 s30 s31 s32 s33 s34 s35 s36 s37 s38 s39 s40 s41 s42 s43 s44 s45 s46 s47 s48 s49 s50 s51 s52 s53 s54 s55 s56 s57 s58 s59 s60 s61 s62 s63 s64 s65 s66 s67 s68 s69 s70 s71 s72 s73 s74 s75 s76 s77 s78 s79 s80 s81 s82 s83 s84 s85 s86 s87 s88 s89 s90 s91 s92 s93 s94 s95 s96 s97 s98 s99 s100 s101 s102 s103 s104 s105 s106 : Value} {b br : Nat} {c : Int} {a : Option Addr} {m cap : Nat} {w : World} {Q : Exit → Act → World → Prop} (he : Cells w b 36 [.int .i64 c, .slice a m cap]) (hr : Cells w br 36 errZero)
  (hQ : Q .normal ⟨#[s0,s1, .pointer (some ⟨br,0,none⟩),s3, .pointer (some ⟨b,0,none⟩),s5,s6,s7,s8,s9,s10,s11,s12,s13,s14,s15,s16,s17,s18,s19,s20,s21,s22,s23,s24,s25,s26,s27,s28,s29,s30,s31,s32,s33,s34,s35,s36,s37,s38,s39,s40,s41,s42,s43,s44,s45,s46,s47,s48,s49,s50,s51,s52,s53,s54,s55,s56,s57,s58,s59,s60,s61, .agg #[.int .i64 c, .slice a m cap],s63,s64,s65,s66,s67,s68,s69,s70,s71,s72,s73,s74,s75,s76,s77,s78,s79,s80,s81,s82,s83,s84,s85,s86,s87,s88,s89,s90,s91,s92,s93,s94,s95,s96,s97,s98,s99,s100,s101,s102,s103,s104,s105,s106], []⟩ ((w.setCell ⟨br,0,none⟩ (.int .i64 c)).setCell ⟨br,1,none⟩ (.slice a m cap))) : Code.wp Tryz.prog ((regionAt 8 docBody).getD .skip) Q ⟨#[s0,s1, .pointer (some ⟨br,0,none⟩),s3, .pointer (some ⟨b,0,none⟩),s5,s6,s7,s8,s9,s10,s11,s12,s13,s14,s15,s16,s17,s18,s19,s20,s21,s22,s23,s24,s25,s26,s27,s28,s29,s30,s31,s32,s33,s34,s35,s36,s37,s38,s39,s40,s41,s42,s43,s44,s45,s46,s47,s48,s49,s50,s51,s52,s53,s54,s55,s56,s57,s58,s59,s60,s61,s62,s63,s64,s65,s66,s67,s68,s69,s70,s71,s72,s73,s74,s75,s76,s77,s78,s79,s80,s81,s82,s83,s84,s85,s86,s87,s88,s89,s90,s91,s92,s93,s94,s95,s96,s97,s98,s99,s100,s101,s102,s103,s104,s105,s106], []⟩ w := by
 have HQ := Lib.hid hQ
 have y0 : w.cell? ⟨b,0,none⟩ = some (.int .i64 c) := he.cell rfl
 have y1 : w.cell? ⟨b,1,none⟩ = some (.slice a m cap) := he.cell rfl
 have z0 : w.cell? ⟨br,0,none⟩ = some (.int .i64 0) := hr.cell rfl
 have z1 : w.cell? ⟨br,1,none⟩ = some (.slice none 0 0) := hr.cell rfl
 have g0 := hr.frozen 0
 have g1 := hr.frozen 1
 have lr := hr.lt
 clear hQ he hr
 conv => arg 2; whnf
 go_wp2_with fail
 exact HQ.out
theorem copy_d23 {s0 s1 s3 s4 s5 s6 s7 s8 s9 s11 s12 s13 s14 s15 s16 s17 s18 s19 s20 s21 s22 s23 s24 s25 s26 s27 s28 s29 s30 s31 s32 s33 s34 s35 s36 s37 s38 s39 s40 s41 s42 s43 s44 s45 s46 s47 s48 s49 s50 s51 s52 s53 s54 s55 s56 s57 s58 s59 s60 s61 s62 s63 s64 s65 s66 s67 s68 s69 s70 s71 s72 s73 s74 s75 s76 s77 s78 s79 s80 s81 s82 s83 s84 s85 s86 s87 s88 s89 s90 s91 s92 s93 s94 s95 s96 s97 s98 s99 s100 s101 s102 s103 s104 s105 s106 : Value} {b br : Nat} {c : Int} {a : Option Addr} {m cap : Nat} {w : World} {Q : Exit → Act → World → Prop} (he : Cells w b 36 [.int .i64 c, .slice a m cap]) (hr : Cells w br 36 errZero)
  (hQ : Q .normal ⟨#[s0,s1, .pointer (some ⟨br,0,none⟩),s3,s4,s5,s6,s7,s8,s9, .pointer (some ⟨b,0,none⟩),s11,s12,s13,s14,s15,s16,s17,s18,s19,s20,s21,s22,s23,s24,s25,s26,s27,s28,s29,s30,s31,s32,s33,s34,s35,s36,s37,s38,s39,s40,s41,s42,s43,s44,s45,s46,s47,s48,s49,s50,s51,s52,s53,s54,s55,s56,s57,s58,s59,s60,s61,s62,s63,s64,s65,s66,s67,s68,s69,s70,s71,s72,s73,s74,s75,s76,s77,s78,s79,s80,s81,s82,s83,s84,s85,s86,s87,s88,s89,s90,s91,s92,s93,s94,s95,s96,s97,s98,s99,s100,s101,s102,s103, .agg #[.int .i64 c, .slice a m cap],s105,s106], []⟩ ((w.setCell ⟨br,0,none⟩ (.int .i64 c)).setCell ⟨br,1,none⟩ (.slice a m cap))) : Code.wp Tryz.prog ((regionAt 23 docBody).getD .skip) Q ⟨#[s0,s1, .pointer (some ⟨br,0,none⟩),s3,s4,s5,s6,s7,s8,s9, .pointer (some ⟨b,0,none⟩),s11,s12,s13,s14,s15,s16,s17,s18,s19,s20,s21,s22,s23,s24,s25,s26,s27,s28,s29,s30,s31,s32,s33,s34,s35,s36,s37,s38,s39,s40,s41,s42,s43,s44,s45,s46,s47,s48,s49,s50,s51,s52,s53,s54,s55,s56,s57,s58,s59,s60,s61,s62,s63,s64,s65,s66,s67,s68,s69,s70,s71,s72,s73,s74,s75,s76,s77,s78,s79,s80,s81,s82,s83,s84,s85,s86,s87,s88,s89,s90,s91,s92,s93,s94,s95,s96,s97,s98,s99,s100,s101,s102,s103,s104,s105,s106], []⟩ w := by
 have HQ := Lib.hid hQ
 have y0 : w.cell? ⟨b,0,none⟩ = some (.int .i64 c) := he.cell rfl
 have y1 : w.cell? ⟨b,1,none⟩ = some (.slice a m cap) := he.cell rfl
 have z0 : w.cell? ⟨br,0,none⟩ = some (.int .i64 0) := hr.cell rfl
 have z1 : w.cell? ⟨br,1,none⟩ = some (.slice none 0 0) := hr.cell rfl
 have g0 := hr.frozen 0
 have g1 := hr.frozen 1
 have lr := hr.lt
 clear hQ he hr
 conv => arg 2; whnf
 go_wp2_with fail
 exact HQ.out
theorem zero_d25 {s0 s1 s3 s4 s5 s6 s7 s8 s9 s10 s11 s12 s13 s14 s15 s16 s17 s18 s19 s20 s21 s22 s23 s24 s25 s26 s27 s28 s29 s30 s31 s32 s33 s34 s35 s36 s37 s38 s39 s40 s41 s42 s43 s44 s45 s46 s47 s48 s49 s50 s51 s52 s53 s54 s55 s56 s57 s58 s59 s60 s61 s62 s63 s64 s65 s66 s67 s68 s69 s70 s71 s72 s73 s74 s75 s76 s77 s78 s79 s80 s81 s82 s83 s84 s85 s86 s87 s88 s89 s90 s91 s92 s93 s94 s95 s96 s97 s98 s99 s100 s101 s102 s103 s104 s105 s106 : Value} {br : Nat} {w : World} {Q : Exit → Act → World → Prop} (hr : Cells w br 36 errZero)
  (hQ : Q .normal ⟨#[s0,s1, .pointer (some ⟨br,0,none⟩),s3,s4,s5,s6,s7,s8,s9,s10,s11,s12,s13,s14,s15,s16,s17,s18,s19,s20,s21,s22,s23,s24,s25,s26,s27,s28,s29,s30,s31,s32,s33,s34,s35,s36,s37,s38,s39,s40,s41,s42,s43,s44,s45,s46,s47,s48,s49,s50,s51,s52,s53,s54,s55,s56,s57,s58,s59,s60,s61,s62,s63,s64,s65,s66,s67,s68,s69,s70,s71,s72,s73,s74,s75,s76,s77,s78,s79,s80,s81,s82,s83,s84,s85,s86,s87,s88,s89,s90,s91,s92,s93,s94,s95,s96,s97,s98,s99,s100,s101,s102,s103,s104,s105, .agg #[.int .i64 0, .slice none 0 0]], []⟩ ((w.setCell ⟨br,0,none⟩ (.int .i64 0)).setCell ⟨br,1,none⟩ (.slice none 0 0))) : Code.wp Tryz.prog ((regionAt 25 docBody).getD .skip) Q ⟨#[s0,s1, .pointer (some ⟨br,0,none⟩),s3,s4,s5,s6,s7,s8,s9,s10,s11,s12,s13,s14,s15,s16,s17,s18,s19,s20,s21,s22,s23,s24,s25,s26,s27,s28,s29,s30,s31,s32,s33,s34,s35,s36,s37,s38,s39,s40,s41,s42,s43,s44,s45,s46,s47,s48,s49,s50,s51,s52,s53,s54,s55,s56,s57,s58,s59,s60,s61,s62,s63,s64,s65,s66,s67,s68,s69,s70,s71,s72,s73,s74,s75,s76,s77,s78,s79,s80,s81,s82,s83,s84,s85,s86,s87,s88,s89,s90,s91,s92,s93,s94,s95,s96,s97,s98,s99,s100,s101,s102,s103,s104,s105,s106], []⟩ w := by
 have HQ := Lib.hid hQ
 have z0 : w.cell? ⟨br,0,none⟩ = some (.int .i64 0) := hr.cell rfl
 have z1 : w.cell? ⟨br,1,none⟩ = some (.slice none 0 0) := hr.cell rfl
 have g0 := hr.frozen 0
 have g1 := hr.frozen 1
 have lr := hr.lt
 clear hQ hr
 conv => arg 2; whnf
 go_wp2_with fail
 exact HQ.out
theorem doc_links {s0 s3 s4 s5 s6 s7 s9 s10 s11 s12 s13 s14 s15 s16 s17 s18 s19 s20 s21 s22 s23 s24 s25 s26 s27 s28 s29 s30 s31 s32 s33 s34 s35 s36 s37 s38 s39 s40 s41 s42 s43 s44 s45 s46 s47 s48 s49 s50 s51 s52 s53 s54 s55 s56 s57 s58 s59 s60 s61 s62 s63 s64 s65 s66 s67 s68 s69 s70 s71 s72 s73 s74 s75 s76 s77 s78 s79 s80 s81 s82 s83 s84 s85 s86 s87 s88 s89 s90 s91 s92 s93 s94 s95 s96 s97 s98 s99 s100 s101 s102 s103 s104 s105 s106 : Value} {A : HA} {h : HierD} {w wx : World} {ra : Option Addr} {rc : Nat} {E : EV} (k : DK A h w wx) (see : HSee w A h) (u : FirstsOk h.node.length h.upF h.up.length) (d : FirstsOk h.node.length h.dnF h.dn.length) (hn : h.node.length ≤ 65536) (htot : h.up.length + h.dn.length ≤ 1048576) (sr : See wx ra rc i64Cells 1 (ranksL h))
  (hE : E = linksGo h.node.length h.up.length (endsOf h) (endsOf h).length) : Code.wp Tryz.prog (tailAt 8 docBody) (bodyPost Tryz.prog Tryz.f24 (ErrNew E w)) ⟨#[s0, .pointer (some ⟨w.heap.size,0,none⟩), .pointer (some ⟨(w.heap.size + 1),0,none⟩),s3,s4,s5,s6,s7, .slice ra (ranksL h).length rc,s9,s10,s11,s12,s13,s14,s15,s16,s17,s18,s19,s20,s21,s22,s23,s24,s25,s26,s27,s28,s29,s30,s31,s32,s33,s34,s35,s36,s37,s38,s39,s40,s41,s42,s43,s44,s45,s46,s47,s48,s49,s50,s51,s52,s53,s54,s55,s56,s57,s58,s59,s60,s61,s62,s63,s64,s65,s66,s67,s68,s69,s70,s71,s72,s73,s74,s75,s76,s77,s78,s79,s80,s81,s82,s83,s84,s85,s86,s87,s88,s89,s90,s91,s92,s93,s94,s95,s96,s97,s98,s99,s100,s101,s102,s103,s104,s105,s106], []⟩ wx := by
 have hlen := endsOf_length u d
 have hrl : (ranksL h).length = (endsOf h).length := by unfold ranksL; simp
 have K := Lib.hid k
 have SEE := Lib.hid see
 have SR := Lib.hid sr
 have UOK := Lib.hid u
 have DOK := Lib.hid d
 have HE := Lib.hid hE
 have HLEN := Lib.hid hlen
 have HRL := Lib.hid hrl
 have hr63 : (ranksL h).length ≤ 1048576 := by omega
 clear k see sr u d hE hlen hrl
 conv => arg 2; whnf
 apply wp_seq_k
 intro KK hK
 have HKK := Lib.hid hK
 clear hK
 go_wp2_with fail
 go_loopg [95] (ranksL h).length (fun g vi wr => ∃ k : Nat,vi = .int .i64 k ∧ k ≤ (ranksL h).length ∧ g = (ranksL h).length - k ∧ linksGo h.node.length h.up.length (endsOf h) k = .nil ∧ DK A h w wr ∧ Below wx.heap.size wx wr)
 case atStart => exact ⟨0,rfl,Nat.zero_le _,rfl,rfl,K.out,Below.refl _ _⟩
 case round =>
  obtain ⟨k,rfl,hk,hg,hl,hd,hb⟩ := hrel
  obtain ⟨wo,rfl⟩ : ∃ wo : World,wo = wr := ⟨_,rfl⟩
  have HG := Lib.hid hg
  have HL := Lib.hid hl
  have HD := Lib.hid hd
  have HB := Lib.hid hb
  clear hg hl hd hb
  by_cases hlt : k < (ranksL h).length
  ·obtain ⟨k0,k1,k2,k3,k4⟩ := hier_five HD.out.x
   go_wp2_with fail
   refine (rlinkerr_any A h k ra rc _ (SEE.out.below HD.out.b) (SR.out.below HB.out) UOK.out DOK.out htot (by have := HLEN.out; have := HRL.out; omega) hn).mono ?_
   rintro e w1 ⟨v,rfl,hv,hb⟩
   obtain ⟨uc,ua,un,ucap,rfl⟩ := hv.form
   have HD1 := Lib.hid ((HD.out.below hb).below ((Below.refl _ _).alloc (Nat.le_refl _) (.cells #[.int .i64 uc, .slice ua un ucap] 36)))
   have HB1 := Lib.hid ((HB.out.trans (hb.mono HB.out.size)).alloc (Nat.le_trans HB.out.size hb.size) (.cells #[.int .i64 uc, .slice ua un ucap] 36))
   have HV1 := Lib.hid (hv.below ((Below.refl _ _).alloc (Nat.le_refl _) (.cells #[.int .i64 uc, .slice ua un ucap] 36)))
   have HC1 := Lib.hid (Cells.new w1 36 [.int .i64 uc, .slice ua un ucap])
   clear HD HB hb hv k0 k1 k2 k3 k4
   go_wp2_with fail
   refine (bad_any _ (linkErrD h k) _ HV1.out (linkErr_pos h k)).mono ?_
   rintro e w2 ⟨rfl,hb⟩
   have HD := Lib.hid (HD1.out.below hb)
   have HB := Lib.hid (HB1.out.trans (hb.mono HB1.out.size))
   have HV := Lib.hid (HV1.out.below hb)
   have HC := Lib.hid (HC1.out.below hb HC1.out.lt)
   clear HD1 HB1 HV1 HC1 hb
   cases hnil : (linkErrD h k).isNil
   ·have HER := Lib.hid (show E = linkErrD h k by
     rw [HE.out]
     exact linksGo_stop (k := k) (by have := HRL.out; omega) HL.out rfl (fun e => by rw [e] at hnil; simp [EV.isNil] at hnil))
    clear HE hnil
    go_upto_region 23 with fail
    change Code.wp _ ((regionAt 23 docBody).getD .skip) _ _ _
    refine copy_d23 HC.out HD.out.r ?_
    go_wp2_with fail
    refine bodyPost_ret (results_e rfl _ _ (w.heap.size + 1) 36 [.int .i64 uc, .slice ua un ucap] _ rfl ((HD.out.r.set 0 _).set 1 _) Tryz.underlying36 rfl (by rw [Tryz.sizeErr]; rfl)) rfl ?_
    rw [HER.out]
    exact ⟨_,rfl,HV.out.put HD.out.r _ _,(HD.out.b.setCell (p := ⟨w.heap.size + 1,0,none⟩) (by simp) _).setCell (p := ⟨w.heap.size + 1,1,none⟩) (by simp) _⟩
   ·have HN := Lib.hid (EV.isNil_iff.1 hnil)
    clear hnil
    go_wp2_with fail
    go_roundg ((ranksL h).length - (k + 1))
    case measure => rw [HG.out]; omega
    case rel =>
     refine ⟨k + 1,by go_num,by omega,rfl, ?_,HD.out,HB.out⟩
     unfold linksGo
     rw [HL.out]
     exact HN.out
  ·obtain rfl : k = (ranksL h).length := by omega
   have HER := Lib.hid (show E = .nil by rw [HE.out, ← HRL.out]; exact HL.out)
   clear HE
   go_wp2_with fail
   refine HKK.out _ _ ?_
   conv => arg 2; whnf
   go_upto_region 25 with fail
   change Code.wp _ ((regionAt 25 docBody).getD .skip) _ _ _
   refine zero_d25 HD.out.r ?_
   go_wp2_with fail
   refine bodyPost_ret (results_e rfl _ _ (w.heap.size + 1) 36 [.int .i64 0, .slice none 0 0] _ rfl ((HD.out.r.set 0 _).set 1 _) Tryz.underlying36 rfl (by rw [Tryz.sizeErr]; rfl)) rfl ?_
   rw [HER.out]
   exact ⟨_,rfl,rfl,(HD.out.b.setCell (p := ⟨w.heap.size + 1,0,none⟩) (by simp) _).setCell (p := ⟨w.heap.size + 1,1,none⟩) (by simp) _⟩
theorem doc_ranks {s0 s3 s4 s5 s6 s7 s8 s9 s10 s11 s12 s13 s14 s15 s16 s17 s18 s19 s20 s21 s22 s23 s24 s25 s26 s27 s28 s29 s30 s31 s32 s33 s34 s35 s36 s37 s38 s39 s40 s41 s42 s43 s44 s45 s46 s47 s48 s49 s50 s51 s52 s53 s54 s55 s56 s57 s58 s59 s60 s61 s62 s63 s64 s65 s66 s67 s68 s69 s70 s71 s72 s73 s74 s75 s76 s77 s78 s79 s80 s81 s82 s83 s84 s85 s86 s87 s88 s89 s90 s91 s92 s93 s94 s95 s96 s97 s98 s99 s100 s101 s102 s103 s104 s105 s106 : Value} {A : HA} {h : HierD} {w wx : World} {E : EV} (k : DK A h w wx) (see : HSee w A h) (u : FirstsOk h.node.length h.upF h.up.length) (d : FirstsOk h.node.length h.dnF h.dn.length) (hn : h.node.length ≤ 65536) (htot : h.up.length + h.dn.length ≤ 1048576)
  (hE : E = linksGo h.node.length h.up.length (endsOf h) (endsOf h).length) : Code.wp Tryz.prog (tailAt 7 docBody) (bodyPost Tryz.prog Tryz.f24 (ErrNew E w)) ⟨#[s0, .pointer (some ⟨w.heap.size,0,none⟩), .pointer (some ⟨(w.heap.size + 1),0,none⟩),s3,s4,s5,s6,s7,s8,s9,s10,s11,s12,s13,s14,s15,s16,s17,s18,s19,s20,s21,s22,s23,s24,s25,s26,s27,s28,s29,s30,s31,s32,s33,s34,s35,s36,s37,s38,s39,s40,s41,s42,s43,s44,s45,s46,s47,s48,s49,s50,s51,s52,s53,s54,s55,s56,s57,s58,s59,s60,s61,s62,s63,s64,s65,s66,s67,s68,s69,s70,s71,s72,s73,s74,s75,s76,s77,s78,s79,s80,s81,s82,s83,s84,s85,s86,s87,s88,s89,s90,s91,s92,s93,s94,s95,s96,s97,s98,s99,s100,s101,s102,s103,s104,s105,s106], []⟩ wx := by
 have K := Lib.hid k
 have SEE := Lib.hid see
 have UOK := Lib.hid u
 have DOK := Lib.hid d
 have HE := Lib.hid hE
 obtain ⟨k0,k1,k2,k3,k4⟩ := hier_five k.x
 clear k see u d hE
 conv => arg 2; whnf
 apply wp_seq_k
 intro KK hK
 have HKK := Lib.hid hK
 clear hK
 go_wp2_with fail
 refine (rranks_any A h _ (SEE.out.below K.out.b) UOK.out DOK.out hn htot).mono ?_
 rintro e w1 ⟨ra,rc,rfl,hs,hb⟩
 have HS := Lib.hid hs
 have K1 := Lib.hid (K.out.below hb)
 clear hs hb K k0 k1 k2 k3 k4
 go_wp2_with fail
 refine HKK.out _ _ ?_
 change Code.wp _ (tailAt 8 docBody) _ _ _
 exact doc_links K1.out SEE.out UOK.out DOK.out hn htot HS.out HE.out
end Go.Proofs.YtchhbgckonpedaaGreatDoor
/- The reference's look at a hierarchy: the loop over the nodes. -/
namespace Go.Proofs.YtchhbgckonpedaaGreatDoor
open Go.ChangeShapes Go.WideShapes Go.ChangeAt Go.RowKit Go.Joins Go.Deep
def boolsOf (s : List Nat) (n : Nat) : List Value := (List.range n).map fun v => .bool (decide (v ∈ s))
theorem boolsOf_get (s : List Nat) (n v : Nat) (h : v < n) : (boolsOf s n)[v]? = some (.bool (decide (v ∈ s))) := by
 simp [boolsOf,h]
theorem boolsOf_set (s : List Nat) (n v : Nat) (h : v < n) : (boolsOf s n).set v (.bool true) = boolsOf (s ++ [v]) n := by
 apply List.ext_getElem?
 intro j
 rw [List.getElem?_set]
 simp only [boolsOf,List.getElem?_map,List.length_map,List.length_range]
 by_cases hj : v = j
 ·subst hj
  rw [if_pos rfl,if_pos h]
  simp [h]
 ·rw [if_neg hj]
  rcases Nat.lt_or_ge j n with h1 | h1
  ·simp only [List.getElem?_range h1,Option.map_some,List.mem_append,List.mem_singleton]
   have : ¬ j = v := fun e => hj e.symm
   simp [this]
  ·rw [List.getElem?_eq_none (by simp; omega)]; rfl
theorem bools_made (n : Nat) : madeCells (Value.bool false).cells (n * 1) = (boolsOf [] n).toArray := by
 have e := madeCells_eq [Value.bool false] n (by simp)
 have h : ((List.replicate n ()).flatMap fun _ => [Value.bool false]) = boolsOf [] n := by
  apply List.ext_getElem?
  intro j
  have hg := flat_get (f := fun (_ : Unit) => [Value.bool false]) (sz := 1) (fun _ => rfl) (List.replicate n ()) j 0 (by omega)
  rw [Nat.mul_one,Nat.add_zero] at hg
  rw [hg]
  rcases Nat.lt_or_ge j n with h1 | h1
  ·rw [boolsOf_get [] n j h1]; simp [h1]
  ·rw [List.getElem?_eq_none (l := List.replicate n ()) (by simpa using h1),List.getElem?_eq_none (l := boolsOf [] n) (by simpa [boolsOf] using h1)]; rfl
 rw [h] at e
 exact e
theorem Tryz.infoBool : (Tryz.prog.info? 4).map (fun i => (i.zero,i.size,i.bytes)) = some (some (.bool false),1,1) := by kernel_rfl
theorem DK.set {A : HA} {h : HierD} {w wx : World} (k : DK A h w wx) {bs j : Nat} {v : Value} (h1 : w.heap.size ≠ bs) (h2 : w.heap.size + 1 ≠ bs) (h3 : w.heap.size ≤ bs) : DK A h w (wx.setCell ⟨bs,j,none⟩ v) :=
 ⟨k.x.other (a := ⟨bs,j,none⟩) h1 _,k.r.other (a := ⟨bs,j,none⟩) h2 _,k.b.setCell (p := ⟨bs,j,none⟩) h3 _⟩
theorem doc_order {s0 s4 s6 s7 s8 s9 s10 s11 s12 s13 s14 s15 s16 s17 s18 s19 s20 s21 s22 s23 s24 s25 s26 s27 s28 s29 s30 s31 s32 s33 s34 s35 s36 s37 s38 s39 s40 s41 s42 s43 s44 s45 s46 s47 s48 s49 s50 s51 s52 s53 s54 s55 s56 s57 s58 s59 s60 s61 s62 s63 s64 s65 s66 s67 s68 s69 s70 s71 s72 s73 s74 s75 s76 s77 s78 s79 s80 s81 s82 s83 s84 s85 s86 s87 s88 s89 s90 s91 s92 s93 s94 s95 s96 s97 s98 s99 s100 s101 s102 s103 s104 s105 s106 : Value} {A : HA} {h : HierD} {w wx : World} {bs : Nat} {E : EV} (k : DK A h w wx) (see : HSee w A h) (u : FirstsOk h.node.length h.upF h.up.length) (d : FirstsOk h.node.length h.dnF h.dn.length) (hn : h.node.length ≤ 65536) (htot : h.up.length + h.dn.length ≤ 1048576) (hbs : w.heap.size + 1 < bs) (hc : Cells wx bs 4 (boolsOf [] h.node.length))
  (hE1 : orderErr h.node = .nil → E = linksGo h.node.length h.up.length (endsOf h) (endsOf h).length) (hE2 : orderErr h.node ≠ .nil → E = orderErr h.node) : Code.wp Tryz.prog (tailAt 6 docBody) (bodyPost Tryz.prog Tryz.f24 (ErrNew E w)) ⟨#[s0, .pointer (some ⟨w.heap.size,0,none⟩), .pointer (some ⟨(w.heap.size + 1),0,none⟩), .int .i64 (h.node.length : Nat),s4, .slice (some ⟨bs,0,none⟩) h.node.length h.node.length,s6,s7,s8,s9,s10,s11,s12,s13,s14,s15,s16,s17,s18,s19,s20,s21,s22,s23,s24,s25,s26,s27,s28,s29,s30,s31,s32,s33,s34,s35,s36,s37,s38,s39,s40,s41,s42,s43,s44,s45,s46,s47,s48,s49,s50,s51,s52,s53,s54,s55,s56,s57,s58,s59,s60,s61,s62,s63,s64,s65,s66,s67,s68,s69,s70,s71,s72,s73,s74,s75,s76,s77,s78,s79,s80,s81,s82,s83,s84,s85,s86,s87,s88,s89,s90,s91,s92,s93,s94,s95,s96,s97,s98,s99,s100,s101,s102,s103,s104,s105,s106], []⟩ wx := by
 have K := Lib.hid k
 have SEE := Lib.hid see
 have UOK := Lib.hid u
 have DOK := Lib.hid d
 have HE1 := Lib.hid hE1
 have HE2 := Lib.hid hE2
 have HC := Lib.hid hc
 obtain ⟨k0,k1,k2,k3,k4⟩ := hier_five k.x
 clear k see u d hE1 hE2 hc
 conv => arg 2; whnf
 apply wp_seq_k
 intro KK hK
 have HKK := Lib.hid hK
 clear hK
 go_wp2_with fail
 clear k0 k1 k2 k3 k4
 go_loopg [68] h.node.length (fun g vi wr => ∃ k : Nat,vi = .int .i64 k ∧ k ≤ h.node.length ∧ g = h.node.length - k ∧ orderGo h.node k = .nil ∧ (∀ x ∈ h.node.take k,x < h.node.length) ∧ Cells wr bs 4 (boolsOf (h.node.take k) h.node.length) ∧ DK A h w wr)
 case atStart => exact ⟨0,rfl,Nat.zero_le _,rfl,rfl,by simp,HC.out,K.out⟩
 case round =>
  obtain ⟨k,rfl,hk,hg,ho,hlt,hcs,hd⟩ := hrel
  obtain ⟨wo,rfl⟩ : ∃ wo : World,wo = wr := ⟨_,rfl⟩
  have HG := Lib.hid hg
  have HN := Lib.hid ho
  have HLT := Lib.hid hlt
  have HCS := Lib.hid hcs
  have HD := Lib.hid hd
  have hsz := hcs.lt
  clear hg ho hlt hcs hd
  by_cases hkl : k < h.node.length
  ·obtain ⟨x,hx⟩ : ∃ x,h.node[k]? = some x := ⟨_,List.getElem?_eq_getElem (by omega)⟩
   obtain ⟨b,o,ea,cc⟩ := SEE.out.node.cell k x hx
   have c0 := ck HD.out.b (cc 0 _ rfl)
   rw [Nat.mul_one,Nat.add_zero] at c0
   have hx32 : x < 4294967296 := SEE.out.bn x (List.mem_of_getElem? hx)
   have hgx : h.node.getD k 0 = x := by rw [List.getD_eq_getElem?_getD,hx]; rfl
   have htk : h.node.take (k + 1) = h.node.take k ++ [x] := by rw [List.take_add_one,hx]; rfl
   have v1 : IntKind.u64.wrap (x : Int) = (x : Int) := IntWalk.u64_in _ (by omega)
   have v2 : IntKind.u64.wrap (h.node.length : Int) = (h.node.length : Int) := IntWalk.u64_in _ (by omega)
   have EA := Lib.hid ea
   have HGX := Lib.hid hgx
   have HTK := Lib.hid htk
   clear hgx hx cc ea htk
   rw [EA.out]
   by_cases hbad : h.node.length ≤ x ∨ x ∈ h.node.take k
   ·have hfe : orderErr h.node = .at 3 k 20 := orderGo_stop hkl HN.out (by rw [HGX.out]; exact hbad)
    have HER := Lib.hid (show E = .at 3 k 20 by rw [HE2.out (by rw [hfe]; simp),hfe])
    clear hfe
    by_cases hd1 : h.node.length ≤ x
    ·have hd2 : decide (h.node.length ≤ x) = true := by simpa using hd1
     clear hbad hd1 HE1 HE2
     go_wp2_with fail
     refine (e_any 20 _).mono ?_
     rintro e w1 ⟨v,rfl,hv,hb⟩
     obtain rfl : v = _ := hv
     have HD1 := Lib.hid (HD.out.below hb)
     clear hb HD
     go_wp2_with fail
     refine (rat_any 3 k 20 _).mono ?_
     rintro e w2 ⟨v,rfl,hv,hb⟩
     obtain ⟨uc,ua,un,ucap,rfl⟩ := hv.form
     have HD2 := Lib.hid (HD1.out.below hb)
     have HV := Lib.hid hv
     clear hb hv HD1
     have z0 : w2.cell? ⟨w.heap.size + 1,0,none⟩ = some (.int .i64 0) := HD2.out.r.cell rfl
     have z1 : w2.cell? ⟨w.heap.size + 1,1,none⟩ = some (.slice none 0 0) := HD2.out.r.cell rfl
     have g0 := HD2.out.r.frozen 0
     have g1 := HD2.out.r.frozen 1
     have lr := HD2.out.r.lt
     go_wp2
     refine bodyPost_ret (results_e rfl _ _ (w.heap.size + 1) 36 [.int .i64 uc, .slice ua un ucap] _ rfl ((HD2.out.r.set 0 _).set 1 _) Tryz.underlying36 rfl (by rw [Tryz.sizeErr]; rfl)) rfl ?_
     rw [HER.out]
     exact ⟨_,rfl,HV.out.put HD2.out.r _ _,(HD2.out.b.setCell (p := ⟨w.heap.size + 1,0,none⟩) (by simp) _).setCell (p := ⟨w.heap.size + 1,1,none⟩) (by simp) _⟩
    ·have hd2 : decide (h.node.length ≤ x) = false := by simpa using hd1
     have hin : x ∈ h.node.take k := hbad.resolve_left hd1
     have hxl : x < h.node.length := by omega
     have hm := HCS.out.cell (boolsOf_get (h.node.take k) h.node.length x hxl)
     rw [decide_eq_true hin] at hm
     clear hbad hd1 HE1 HE2 hin
     go_wp2_with fail
     refine (e_any 20 _).mono ?_
     rintro e w1 ⟨v,rfl,hv,hb⟩
     obtain rfl : v = _ := hv
     have HD1 := Lib.hid (HD.out.below hb)
     clear hb HD
     go_wp2_with fail
     refine (rat_any 3 k 20 _).mono ?_
     rintro e w2 ⟨v,rfl,hv,hb⟩
     obtain ⟨uc,ua,un,ucap,rfl⟩ := hv.form
     have HD2 := Lib.hid (HD1.out.below hb)
     have HV := Lib.hid hv
     clear hb hv HD1
     have z0 : w2.cell? ⟨w.heap.size + 1,0,none⟩ = some (.int .i64 0) := HD2.out.r.cell rfl
     have z1 : w2.cell? ⟨w.heap.size + 1,1,none⟩ = some (.slice none 0 0) := HD2.out.r.cell rfl
     have g0 := HD2.out.r.frozen 0
     have g1 := HD2.out.r.frozen 1
     have lr := HD2.out.r.lt
     go_wp2
     refine bodyPost_ret (results_e rfl _ _ (w.heap.size + 1) 36 [.int .i64 uc, .slice ua un ucap] _ rfl ((HD2.out.r.set 0 _).set 1 _) Tryz.underlying36 rfl (by rw [Tryz.sizeErr]; rfl)) rfl ?_
     rw [HER.out]
     exact ⟨_,rfl,HV.out.put HD2.out.r _ _,(HD2.out.b.setCell (p := ⟨w.heap.size + 1,0,none⟩) (by simp) _).setCell (p := ⟨w.heap.size + 1,1,none⟩) (by simp) _⟩
   ·have hd1 : ¬ h.node.length ≤ x := fun e => hbad (.inl e)
    have hin : ¬ x ∈ h.node.take k := fun e => hbad (.inr e)
    have hd2 : decide (h.node.length ≤ x) = false := by simpa using hd1
    have hxl : x < h.node.length := by omega
    have hm := HCS.out.cell (boolsOf_get (h.node.take k) h.node.length x hxl)
    rw [decide_eq_false hin] at hm
    have hf := HCS.out.frozen x
    have HM2 := Lib.hid (HCS.out.set x (.bool true))
    have HB1 := Lib.hid hd1
    have HB2 := Lib.hid hin
    clear hbad hd1 hin
    go_wp2_with fail
    rw [← EA.out]
    go_roundg (h.node.length - (k + 1))
    case measure => rw [HG.out]; omega
    case rel =>
     refine ⟨k + 1,by go_num,by omega,rfl, ?_, ?_, ?_,HD.out.set (by omega) (by omega) (by omega)⟩
     ·unfold orderGo
      rw [HN.out]
      simp only
      rw [if_neg (by rw [HGX.out]; have := HB1.out; have := HB2.out; simp [*])]
     ·intro y hy
      rw [HTK.out,List.mem_append,List.mem_singleton] at hy
      rcases hy with hy | rfl
      ·exact HLT.out y hy
      ·exact hxl
     ·rw [HTK.out, ← boolsOf_set _ _ _ hxl]
      exact HM2.out
  ·obtain rfl : k = h.node.length := by omega
   have HER := Lib.hid (HE1.out HN.out)
   clear HE1 HE2
   go_wp2_with fail
   refine HKK.out _ _ ?_
   change Code.wp _ (tailAt 7 docBody) _ _ _
   exact doc_ranks HD.out SEE.out UOK.out DOK.out hn htot HER.out
theorem doc_make {s0 s4 s5 s6 s7 s8 s9 s10 s11 s12 s13 s14 s15 s16 s17 s18 s19 s20 s21 s22 s23 s24 s25 s26 s27 s28 s29 s30 s31 s32 s33 s34 s35 s36 s37 s38 s39 s40 s41 s42 s43 s44 s45 s46 s47 s48 s49 s50 s51 s52 s53 s54 s55 s56 s57 s58 s59 s60 s61 s62 s63 s64 s65 s66 s67 s68 s69 s70 s71 s72 s73 s74 s75 s76 s77 s78 s79 s80 s81 s82 s83 s84 s85 s86 s87 s88 s89 s90 s91 s92 s93 s94 s95 s96 s97 s98 s99 s100 s101 s102 s103 s104 s105 s106 : Value} {A : HA} {h : HierD} {w wx : World} {E : EV} (k : DK A h w wx) (see : HSee w A h) (u : FirstsOk h.node.length h.upF h.up.length) (d : FirstsOk h.node.length h.dnF h.dn.length) (hn : h.node.length ≤ 65536) (htot : h.up.length + h.dn.length ≤ 1048576)
  (hE1 : orderErr h.node = .nil → E = linksGo h.node.length h.up.length (endsOf h) (endsOf h).length) (hE2 : orderErr h.node ≠ .nil → E = orderErr h.node) : Code.wp Tryz.prog (tailAt 5 docBody) (bodyPost Tryz.prog Tryz.f24 (ErrNew E w)) ⟨#[s0, .pointer (some ⟨w.heap.size,0,none⟩), .pointer (some ⟨(w.heap.size + 1),0,none⟩), .int .i64 (h.node.length : Nat),s4,s5,s6,s7,s8,s9,s10,s11,s12,s13,s14,s15,s16,s17,s18,s19,s20,s21,s22,s23,s24,s25,s26,s27,s28,s29,s30,s31,s32,s33,s34,s35,s36,s37,s38,s39,s40,s41,s42,s43,s44,s45,s46,s47,s48,s49,s50,s51,s52,s53,s54,s55,s56,s57,s58,s59,s60,s61,s62,s63,s64,s65,s66,s67,s68,s69,s70,s71,s72,s73,s74,s75,s76,s77,s78,s79,s80,s81,s82,s83,s84,s85,s86,s87,s88,s89,s90,s91,s92,s93,s94,s95,s96,s97,s98,s99,s100,s101,s102,s103,s104,s105,s106], []⟩ wx := by
 have hmk := run_make_n (P := Tryz.prog) 105 4 (.bool false) 1 1 Tryz.underlying105 Tryz.infoBool .i64 .i64 h.node.length (by omega) (by omega)
 rw [bools_made] at hmk
 have K := Lib.hid k
 have SEE := Lib.hid see
 have UOK := Lib.hid u
 have DOK := Lib.hid d
 have HE1 := Lib.hid hE1
 have HE2 := Lib.hid hE2
 clear k see u d hE1 hE2
 conv => arg 2; whnf
 apply wp_seq_k
 intro KK hK
 have HKK := Lib.hid hK
 clear hK
 go_wp2_with fail
 refine HKK.out _ _ ?_
 change Code.wp _ (tailAt 6 docBody) _ _ _
 exact doc_order (K.out.below ((Below.refl _ _).alloc (Nat.le_refl _) _)) SEE.out UOK.out DOK.out hn htot K.out.r.lt (Cells.new wx 4 (boolsOf [] h.node.length)) HE1.out HE2.out
end Go.Proofs.YtchhbgckonpedaaGreatDoor
