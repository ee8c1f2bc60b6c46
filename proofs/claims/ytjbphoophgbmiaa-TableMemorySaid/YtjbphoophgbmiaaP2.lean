/- The first of two errors. -/
import Derived.Test.YtjbphoophgbmiaaRefE
import Derived.Test.YtjbphoophgbmiaaP1
import Derived.Test.YtjbphoophgbmiaaRefHb
import Derived.Test.YtjbphoophgbmiaaRefF
import Derived.Test.YtjbphoophgbmiaaRefI
import Derived.Deep.RegionHeld3
namespace Go.Proofs.Ytjbphoophgbmiaa
open Go.ChangeShapes Go.WideShapes Go.ChangeAt Go.RowKit Go.Joins Go.Deep

set_option maxRecDepth 100000 in
set_option maxHeartbeats 2000000 in
theorem rfirst_any (b : Nat) {E : EV} {c1 c2 : Int} {a1 a2 : Option Addr} {n1 k1 n2 k2 : Nat} {x1 x2 : EV} (w : World) (hc : Cells w b 51 [.int .i64 c1, .slice a1 n1 k1, .int .i64 c2, .slice a2 n2 k2])
    (h1 : ErrV w (.agg #[.int .i64 c1, .slice a1 n1 k1]) x1) (h2 : ErrV w (.agg #[.int .i64 c2, .slice a2 n2 k2]) x2) (p1 : x1.pos) (p2 : x2.pos) (hE : E = if x1.isNil = true then x2 else x1) :
    Calls Try.prog 41 #[.slice (some ⟨b, 0, none⟩) 2 2] w (ErrNew E w) := by
  have d0 : w.cell? ⟨b, 0, none⟩ = some (.int .i64 c1) := hc.cell rfl
  have d1 : w.cell? ⟨b, 1, none⟩ = some (.slice a1 n1 k1) := hc.cell rfl
  have d2 : w.cell? ⟨b, 2, none⟩ = some (.int .i64 c2) := hc.cell rfl
  have d3 : w.cell? ⟨b, 3, none⟩ = some (.slice a2 n2 k2) := hc.cell rfl
  have lb := hc.lt
  have HR := Lib.hid (Cells.new w 51 errZero)
  have H1 := Lib.hid h1
  have H2 := Lib.hid h2
  have P1 := Lib.hid p1
  have P2 := Lib.hid p2
  have HC := Lib.hid hc
  have HE := Lib.hid hE
  clear hc h1 h2 p1 p2 hE
  go_enter Try.func41, Try.ntmps41
  go_wp2_with fail
  refine wp_loop_rounds 3 ?_
  rw [rounds_succ]
  go_wp2_with fail
  have hB2 := ((Below.refl w.heap.size w).alloc (Nat.le_refl _) (.cells errZero.toArray 51)).alloc (by simp) (.cells #[.int .i64 c1, .slice a1 n1 k1] 51)
  have hr2 := HR.out.alloc (.cells #[.int .i64 c1, .slice a1 n1 k1] 51)
  have hc2 := (HC.out.alloc (.cells errZero.toArray 51)).alloc (.cells #[.int .i64 c1, .slice a1 n1 k1] 51)
  have he2 : Cells ((w.alloc (.cells errZero.toArray 51)).alloc (.cells #[.int .i64 c1, .slice a1 n1 k1] 51)) (w.heap.size + 1) 51 [.int .i64 c1, .slice a1 n1 k1] := cells_at (by simp) _ _
  refine (bad_any _ x1 _ (H1.out.below hB2) P1.out).mono ?_
  rintro e w1 ⟨rfl, hb⟩
  have HR1 := Lib.hid (hr2.below hb hr2.lt)
  have HC1 := Lib.hid (hc2.below hb hc2.lt)
  have HE1 := Lib.hid (he2.below hb he2.lt)
  have HB1 := Lib.hid (hB2.trans (hb.mono hB2.size))
  clear hB2 hr2 hc2 he2 hb d0 d1 d2 d3 HR HC
  cases hn : x1.isNil
  · have HE := Lib.hid (show E = x1 by rw [HE.out, if_neg (by rw [hn]; simp)])
    clear hn
    have y0 : w1.cell? ⟨w.heap.size + 1, 0, none⟩ = some (.int .i64 c1) := HE1.out.cell rfl
    have y1 : w1.cell? ⟨w.heap.size + 1, 1, none⟩ = some (.slice a1 n1 k1) := HE1.out.cell rfl
    have z0 : w1.cell? ⟨w.heap.size, 0, none⟩ = some (.int .i64 0) := HR1.out.cell rfl
    have z1 : w1.cell? ⟨w.heap.size, 1, none⟩ = some (.slice none 0 0) := HR1.out.cell rfl
    have g0 := HR1.out.frozen 0
    have g1 := HR1.out.frozen 1
    have lr := HR1.out.lt
    go_wp2
    refine bodyPost_ret (results_e rfl _ _ w.heap.size 51 [.int .i64 c1, .slice a1 n1 k1] _ rfl ((HR1.out.set 0 _).set 1 _) Try.underlying51 rfl (by rw [Try.sizeErr]; rfl)) rfl ?_
    rw [HE.out]
    exact ⟨_, rfl, (H1.out.below HB1.out).put HR1.out _ _, (HB1.out.setCell (p := ⟨w.heap.size, 0, none⟩) (Nat.le_refl _) _).setCell (p := ⟨w.heap.size, 1, none⟩) (Nat.le_refl _) _⟩
  · have HE := Lib.hid (show E = x2 by rw [HE.out, if_pos hn])
    clear hn
    have d0 : w1.cell? ⟨b, 0, none⟩ = some (.int .i64 c1) := HC1.out.cell rfl
    have d1 : w1.cell? ⟨b, 1, none⟩ = some (.slice a1 n1 k1) := HC1.out.cell rfl
    have d2 : w1.cell? ⟨b, 2, none⟩ = some (.int .i64 c2) := HC1.out.cell rfl
    have d3 : w1.cell? ⟨b, 3, none⟩ = some (.slice a2 n2 k2) := HC1.out.cell rfl
    go_wp2_with fail
    rw [rounds_succ]
    go_wp2_with fail
    have hB2 := HB1.out.alloc HB1.out.size (.cells #[.int .i64 c2, .slice a2 n2 k2] 51)
    have hr2 := HR1.out.alloc (.cells #[.int .i64 c2, .slice a2 n2 k2] 51)
    have he2 := Cells.new w1 51 [.int .i64 c2, .slice a2 n2 k2]
    refine (bad_any _ x2 _ (H2.out.below hB2) P2.out).mono ?_
    rintro e w2 ⟨rfl, hb⟩
    have HR2 := Lib.hid (hr2.below hb hr2.lt)
    have HE2 := Lib.hid (he2.below hb he2.lt)
    have HB2 := Lib.hid (hB2.trans (hb.mono hB2.size))
    clear hB2 hr2 he2 hb d0 d1 d2 d3 HR1 HC1
    cases hn : x2.isNil
    · clear hn
      have y0 : w2.cell? ⟨w1.heap.size, 0, none⟩ = some (.int .i64 c2) := HE2.out.cell rfl
      have y1 : w2.cell? ⟨w1.heap.size, 1, none⟩ = some (.slice a2 n2 k2) := HE2.out.cell rfl
      have z0 : w2.cell? ⟨w.heap.size, 0, none⟩ = some (.int .i64 0) := HR2.out.cell rfl
      have z1 : w2.cell? ⟨w.heap.size, 1, none⟩ = some (.slice none 0 0) := HR2.out.cell rfl
      have g0 := HR2.out.frozen 0
      have g1 := HR2.out.frozen 1
      have lr := HR2.out.lt
      go_wp2
      refine bodyPost_ret (results_e rfl _ _ w.heap.size 51 [.int .i64 c2, .slice a2 n2 k2] _ rfl ((HR2.out.set 0 _).set 1 _) Try.underlying51 rfl (by rw [Try.sizeErr]; rfl)) rfl ?_
      rw [HE.out]
      exact ⟨_, rfl, (H2.out.below HB2.out).put HR2.out _ _, (HB2.out.setCell (p := ⟨w.heap.size, 0, none⟩) (Nat.le_refl _) _).setCell (p := ⟨w.heap.size, 1, none⟩) (Nat.le_refl _) _⟩
    · have hx := EV.isNil_iff.1 hn
      have HE := Lib.hid (show E = .nil by rw [HE.out, hx])
      clear hn hx
      have z0 : w2.cell? ⟨w.heap.size, 0, none⟩ = some (.int .i64 0) := HR2.out.cell rfl
      have z1 : w2.cell? ⟨w.heap.size, 1, none⟩ = some (.slice none 0 0) := HR2.out.cell rfl
      have g0 := HR2.out.frozen 0
      have g1 := HR2.out.frozen 1
      have lr := HR2.out.lt
      go_wp2_with fail
      rw [rounds_succ]
      go_wp2
      refine bodyPost_ret (results_e rfl _ _ w.heap.size 51 [.int .i64 0, .slice none 0 0] _ rfl ((HR2.out.set 0 _).set 1 _) Try.underlying51 rfl (by rw [Try.sizeErr]; rfl)) rfl ?_
      rw [HE.out]
      exact ⟨_, rfl, rfl, (HB2.out.setCell (p := ⟨w.heap.size, 0, none⟩) (Nat.le_refl _) _).setCell (p := ⟨w.heap.size, 1, none⟩) (Nat.le_refl _) _⟩
end Go.Proofs.Ytjbphoophgbmiaa

/- The reference's look at a hierarchy: the copies of an error into the result; the loop over the links. -/
namespace Go.Proofs.Ytjbphoophgbmiaa
open Go.ChangeShapes Go.WideShapes Go.ChangeAt Go.RowKit Go.Joins Go.Deep

noncomputable def docBody : Code := Try.f38.body.getD .skip
/-- What has been laid and is kept. -/
structure DK (A : HA) (h : HierD) (w wx : World) : Prop where
  x : Cells wx w.heap.size 25 (hierCells A h)
  r : Cells wx (w.heap.size + 1) 51 errZero
  b : Below w.heap.size w wx
theorem DK.below {A : HA} {h : HierD} {w wx wy : World} (k : DK A h w wx) (o : Below wx.heap.size wx wy) : DK A h w wy := ⟨k.x.below o k.x.lt, k.r.below o k.r.lt, k.b.trans (o.mono k.b.size)⟩
theorem linkErr_pos (h : HierD) (i : Nat) : (linkErrD h i).pos := by
  unfold linkErrD
  split
  · simp [EV.pos]
  · split <;> simp [EV.pos]

set_option linter.unusedSimpArgs false in
set_option maxRecDepth 100000 in
set_option maxHeartbeats 8000000 in
theorem copy_d8 {s0 s1 s3 s5 s6 s7 s8 s9 s10 s11 s12 s13 s14 s15 s16 s17 s18 s19 s20 s21 s22 s23 s24 s25 s26 s27 s28 s29 s30 s31 s32 s33 s34 s35 s36 s37 s38 s39 s40 s41 s42 s43 s44 s45 s46 s47 s48 s49 s50 s51 s52 s53 s54 s55 s56 s57 s58 s59 s60 s61 s62 s63 s64 s65 s66 s67 s68 s69 s70 s71 s72 s73 s74 s75 s76 s77 s78 s79 s80 s81 s82 s83 s84 s85 s86 s87 s88 s89 s90 s91 s92 s93 s94 s95 s96 s97 s98 s99 s100 s101 s102 s103 s104 s105 s106 : Value} {b br : Nat} {c : Int} {a : Option Addr} {m cap : Nat} {w : World} {Q : Exit → Act → World → Prop} (he : Cells w b 51 [.int .i64 c, .slice a m cap]) (hr : Cells w br 51 errZero)
    (hQ : Q .normal ⟨#[s0, s1, .pointer (some ⟨br, 0, none⟩), s3, .pointer (some ⟨b, 0, none⟩), s5, s6, s7, s8, s9, s10, s11, s12, s13, s14, s15, s16, s17, s18, s19, s20, s21, s22, s23, s24, s25, s26, s27, s28, s29, s30, s31, s32, s33, s34, s35, s36, s37, s38, s39, s40, s41, s42, s43, s44, s45, s46, s47, s48, s49, s50, s51, s52, s53, s54, s55, s56, s57, s58, s59, s60, s61, .agg #[.int .i64 c, .slice a m cap], s63, s64, s65, s66, s67, s68, s69, s70, s71, s72, s73, s74, s75, s76, s77, s78, s79, s80, s81, s82, s83, s84, s85, s86, s87, s88, s89, s90, s91, s92, s93, s94, s95, s96, s97, s98, s99, s100, s101, s102, s103, s104, s105, s106], []⟩ ((w.setCell ⟨br, 0, none⟩ (.int .i64 c)).setCell ⟨br, 1, none⟩ (.slice a m cap))) : Code.wp Try.prog ((regionAt 8 docBody).getD .skip) Q ⟨#[s0, s1, .pointer (some ⟨br, 0, none⟩), s3, .pointer (some ⟨b, 0, none⟩), s5, s6, s7, s8, s9, s10, s11, s12, s13, s14, s15, s16, s17, s18, s19, s20, s21, s22, s23, s24, s25, s26, s27, s28, s29, s30, s31, s32, s33, s34, s35, s36, s37, s38, s39, s40, s41, s42, s43, s44, s45, s46, s47, s48, s49, s50, s51, s52, s53, s54, s55, s56, s57, s58, s59, s60, s61, s62, s63, s64, s65, s66, s67, s68, s69, s70, s71, s72, s73, s74, s75, s76, s77, s78, s79, s80, s81, s82, s83, s84, s85, s86, s87, s88, s89, s90, s91, s92, s93, s94, s95, s96, s97, s98, s99, s100, s101, s102, s103, s104, s105, s106], []⟩ w := by
  have HQ := Lib.hid hQ
  have y0 : w.cell? ⟨b, 0, none⟩ = some (.int .i64 c) := he.cell rfl
  have y1 : w.cell? ⟨b, 1, none⟩ = some (.slice a m cap) := he.cell rfl
  have z0 : w.cell? ⟨br, 0, none⟩ = some (.int .i64 0) := hr.cell rfl
  have z1 : w.cell? ⟨br, 1, none⟩ = some (.slice none 0 0) := hr.cell rfl
  have g0 := hr.frozen 0
  have g1 := hr.frozen 1
  have lr := hr.lt
  clear hQ he hr
  conv => arg 2; whnf
  go_wp2_with fail
  exact HQ.out

set_option linter.unusedSimpArgs false in
set_option maxRecDepth 100000 in
set_option maxHeartbeats 8000000 in
theorem copy_d23 {s0 s1 s3 s4 s5 s6 s7 s8 s9 s11 s12 s13 s14 s15 s16 s17 s18 s19 s20 s21 s22 s23 s24 s25 s26 s27 s28 s29 s30 s31 s32 s33 s34 s35 s36 s37 s38 s39 s40 s41 s42 s43 s44 s45 s46 s47 s48 s49 s50 s51 s52 s53 s54 s55 s56 s57 s58 s59 s60 s61 s62 s63 s64 s65 s66 s67 s68 s69 s70 s71 s72 s73 s74 s75 s76 s77 s78 s79 s80 s81 s82 s83 s84 s85 s86 s87 s88 s89 s90 s91 s92 s93 s94 s95 s96 s97 s98 s99 s100 s101 s102 s103 s104 s105 s106 : Value} {b br : Nat} {c : Int} {a : Option Addr} {m cap : Nat} {w : World} {Q : Exit → Act → World → Prop} (he : Cells w b 51 [.int .i64 c, .slice a m cap]) (hr : Cells w br 51 errZero)
    (hQ : Q .normal ⟨#[s0, s1, .pointer (some ⟨br, 0, none⟩), s3, s4, s5, s6, s7, s8, s9, .pointer (some ⟨b, 0, none⟩), s11, s12, s13, s14, s15, s16, s17, s18, s19, s20, s21, s22, s23, s24, s25, s26, s27, s28, s29, s30, s31, s32, s33, s34, s35, s36, s37, s38, s39, s40, s41, s42, s43, s44, s45, s46, s47, s48, s49, s50, s51, s52, s53, s54, s55, s56, s57, s58, s59, s60, s61, s62, s63, s64, s65, s66, s67, s68, s69, s70, s71, s72, s73, s74, s75, s76, s77, s78, s79, s80, s81, s82, s83, s84, s85, s86, s87, s88, s89, s90, s91, s92, s93, s94, s95, s96, s97, s98, s99, s100, s101, s102, s103, .agg #[.int .i64 c, .slice a m cap], s105, s106], []⟩ ((w.setCell ⟨br, 0, none⟩ (.int .i64 c)).setCell ⟨br, 1, none⟩ (.slice a m cap))) : Code.wp Try.prog ((regionAt 23 docBody).getD .skip) Q ⟨#[s0, s1, .pointer (some ⟨br, 0, none⟩), s3, s4, s5, s6, s7, s8, s9, .pointer (some ⟨b, 0, none⟩), s11, s12, s13, s14, s15, s16, s17, s18, s19, s20, s21, s22, s23, s24, s25, s26, s27, s28, s29, s30, s31, s32, s33, s34, s35, s36, s37, s38, s39, s40, s41, s42, s43, s44, s45, s46, s47, s48, s49, s50, s51, s52, s53, s54, s55, s56, s57, s58, s59, s60, s61, s62, s63, s64, s65, s66, s67, s68, s69, s70, s71, s72, s73, s74, s75, s76, s77, s78, s79, s80, s81, s82, s83, s84, s85, s86, s87, s88, s89, s90, s91, s92, s93, s94, s95, s96, s97, s98, s99, s100, s101, s102, s103, s104, s105, s106], []⟩ w := by
  have HQ := Lib.hid hQ
  have y0 : w.cell? ⟨b, 0, none⟩ = some (.int .i64 c) := he.cell rfl
  have y1 : w.cell? ⟨b, 1, none⟩ = some (.slice a m cap) := he.cell rfl
  have z0 : w.cell? ⟨br, 0, none⟩ = some (.int .i64 0) := hr.cell rfl
  have z1 : w.cell? ⟨br, 1, none⟩ = some (.slice none 0 0) := hr.cell rfl
  have g0 := hr.frozen 0
  have g1 := hr.frozen 1
  have lr := hr.lt
  clear hQ he hr
  conv => arg 2; whnf
  go_wp2_with fail
  exact HQ.out

set_option linter.unusedSimpArgs false in
set_option maxRecDepth 100000 in
set_option maxHeartbeats 8000000 in
theorem zero_d25 {s0 s1 s3 s4 s5 s6 s7 s8 s9 s10 s11 s12 s13 s14 s15 s16 s17 s18 s19 s20 s21 s22 s23 s24 s25 s26 s27 s28 s29 s30 s31 s32 s33 s34 s35 s36 s37 s38 s39 s40 s41 s42 s43 s44 s45 s46 s47 s48 s49 s50 s51 s52 s53 s54 s55 s56 s57 s58 s59 s60 s61 s62 s63 s64 s65 s66 s67 s68 s69 s70 s71 s72 s73 s74 s75 s76 s77 s78 s79 s80 s81 s82 s83 s84 s85 s86 s87 s88 s89 s90 s91 s92 s93 s94 s95 s96 s97 s98 s99 s100 s101 s102 s103 s104 s105 s106 : Value} {br : Nat} {w : World} {Q : Exit → Act → World → Prop} (hr : Cells w br 51 errZero)
    (hQ : Q .normal ⟨#[s0, s1, .pointer (some ⟨br, 0, none⟩), s3, s4, s5, s6, s7, s8, s9, s10, s11, s12, s13, s14, s15, s16, s17, s18, s19, s20, s21, s22, s23, s24, s25, s26, s27, s28, s29, s30, s31, s32, s33, s34, s35, s36, s37, s38, s39, s40, s41, s42, s43, s44, s45, s46, s47, s48, s49, s50, s51, s52, s53, s54, s55, s56, s57, s58, s59, s60, s61, s62, s63, s64, s65, s66, s67, s68, s69, s70, s71, s72, s73, s74, s75, s76, s77, s78, s79, s80, s81, s82, s83, s84, s85, s86, s87, s88, s89, s90, s91, s92, s93, s94, s95, s96, s97, s98, s99, s100, s101, s102, s103, s104, s105, .agg #[.int .i64 0, .slice none 0 0]], []⟩ ((w.setCell ⟨br, 0, none⟩ (.int .i64 0)).setCell ⟨br, 1, none⟩ (.slice none 0 0))) : Code.wp Try.prog ((regionAt 25 docBody).getD .skip) Q ⟨#[s0, s1, .pointer (some ⟨br, 0, none⟩), s3, s4, s5, s6, s7, s8, s9, s10, s11, s12, s13, s14, s15, s16, s17, s18, s19, s20, s21, s22, s23, s24, s25, s26, s27, s28, s29, s30, s31, s32, s33, s34, s35, s36, s37, s38, s39, s40, s41, s42, s43, s44, s45, s46, s47, s48, s49, s50, s51, s52, s53, s54, s55, s56, s57, s58, s59, s60, s61, s62, s63, s64, s65, s66, s67, s68, s69, s70, s71, s72, s73, s74, s75, s76, s77, s78, s79, s80, s81, s82, s83, s84, s85, s86, s87, s88, s89, s90, s91, s92, s93, s94, s95, s96, s97, s98, s99, s100, s101, s102, s103, s104, s105, s106], []⟩ w := by
  have HQ := Lib.hid hQ
  have z0 : w.cell? ⟨br, 0, none⟩ = some (.int .i64 0) := hr.cell rfl
  have z1 : w.cell? ⟨br, 1, none⟩ = some (.slice none 0 0) := hr.cell rfl
  have g0 := hr.frozen 0
  have g1 := hr.frozen 1
  have lr := hr.lt
  clear hQ hr
  conv => arg 2; whnf
  go_wp2_with fail
  exact HQ.out

set_option linter.unusedSimpArgs false in
set_option maxRecDepth 100000 in
set_option maxHeartbeats 8000000 in
theorem doc_links {s0 s3 s4 s5 s6 s7 s9 s10 s11 s12 s13 s14 s15 s16 s17 s18 s19 s20 s21 s22 s23 s24 s25 s26 s27 s28 s29 s30 s31 s32 s33 s34 s35 s36 s37 s38 s39 s40 s41 s42 s43 s44 s45 s46 s47 s48 s49 s50 s51 s52 s53 s54 s55 s56 s57 s58 s59 s60 s61 s62 s63 s64 s65 s66 s67 s68 s69 s70 s71 s72 s73 s74 s75 s76 s77 s78 s79 s80 s81 s82 s83 s84 s85 s86 s87 s88 s89 s90 s91 s92 s93 s94 s95 s96 s97 s98 s99 s100 s101 s102 s103 s104 s105 s106 : Value} {A : HA} {h : HierD} {w wx : World} {ra : Option Addr} {rc : Nat} {E : EV} (k : DK A h w wx) (see : HSee w A h) (u : FirstsOk h.node.length h.upF h.up.length) (d : FirstsOk h.node.length h.dnF h.dn.length) (hn : h.node.length ≤ 65536) (htot : h.up.length + h.dn.length ≤ 1048576) (sr : See wx ra rc i64Cells 1 (ranksL h))
    (hE : E = linksGo h.node.length h.up.length (endsOf h) (endsOf h).length) : Code.wp Try.prog (tailAt 8 docBody) (bodyPost Try.prog Try.f38 (ErrNew E w)) ⟨#[s0, .pointer (some ⟨w.heap.size, 0, none⟩), .pointer (some ⟨(w.heap.size + 1), 0, none⟩), s3, s4, s5, s6, s7, .slice ra (ranksL h).length rc, s9, s10, s11, s12, s13, s14, s15, s16, s17, s18, s19, s20, s21, s22, s23, s24, s25, s26, s27, s28, s29, s30, s31, s32, s33, s34, s35, s36, s37, s38, s39, s40, s41, s42, s43, s44, s45, s46, s47, s48, s49, s50, s51, s52, s53, s54, s55, s56, s57, s58, s59, s60, s61, s62, s63, s64, s65, s66, s67, s68, s69, s70, s71, s72, s73, s74, s75, s76, s77, s78, s79, s80, s81, s82, s83, s84, s85, s86, s87, s88, s89, s90, s91, s92, s93, s94, s95, s96, s97, s98, s99, s100, s101, s102, s103, s104, s105, s106], []⟩ wx := by
  have hlen := endsOf_length u d
  have hrl : (ranksL h).length = (endsOf h).length := by unfold ranksL; simp
  have K := Lib.hid k
  have SEE := Lib.hid see
  have SR := Lib.hid sr
  have UOK := Lib.hid u
  have DOK := Lib.hid d
  have HE := Lib.hid hE
  have HLEN := Lib.hid hlen
  have HRL := Lib.hid hrl
  have hr63 : (ranksL h).length ≤ 1048576 := by omega
  clear k see sr u d hE hlen hrl
  conv => arg 2; whnf
  apply wp_seq_k
  intro KK hK
  have HKK := Lib.hid hK
  clear hK
  go_wp2_with fail
  go_loopg [95] (ranksL h).length (fun g vi wr => ∃ k : Nat, vi = .int .i64 k ∧ k ≤ (ranksL h).length ∧ g = (ranksL h).length - k ∧ linksGo h.node.length h.up.length (endsOf h) k = .nil ∧ DK A h w wr ∧ Below wx.heap.size wx wr)
  case atStart => exact ⟨0, rfl, Nat.zero_le _, rfl, rfl, K.out, Below.refl _ _⟩
  case round =>
    obtain ⟨k, rfl, hk, hg, hl, hd, hb⟩ := hrel
    obtain ⟨wo, rfl⟩ : ∃ wo : World, wo = wr := ⟨_, rfl⟩
    have HG := Lib.hid hg
    have HL := Lib.hid hl
    have HD := Lib.hid hd
    have HB := Lib.hid hb
    clear hg hl hd hb
    by_cases hlt : k < (ranksL h).length
    · obtain ⟨k0, k1, k2, k3, k4⟩ := hier_five HD.out.x
      go_wp2_with fail
      refine (rlinkerr_any A h k ra rc _ (SEE.out.below HD.out.b) (SR.out.below HB.out) UOK.out DOK.out htot (by have := HLEN.out; have := HRL.out; omega) hn).mono ?_
      rintro e w1 ⟨v, rfl, hv, hb⟩
      obtain ⟨uc, ua, un, ucap, rfl⟩ := hv.form
      have HD1 := Lib.hid ((HD.out.below hb).below ((Below.refl _ _).alloc (Nat.le_refl _) (.cells #[.int .i64 uc, .slice ua un ucap] 51)))
      have HB1 := Lib.hid ((HB.out.trans (hb.mono HB.out.size)).alloc (Nat.le_trans HB.out.size hb.size) (.cells #[.int .i64 uc, .slice ua un ucap] 51))
      have HV1 := Lib.hid (hv.below ((Below.refl _ _).alloc (Nat.le_refl _) (.cells #[.int .i64 uc, .slice ua un ucap] 51)))
      have HC1 := Lib.hid (Cells.new w1 51 [.int .i64 uc, .slice ua un ucap])
      clear HD HB hb hv k0 k1 k2 k3 k4
      go_wp2_with fail
      refine (bad_any _ (linkErrD h k) _ HV1.out (linkErr_pos h k)).mono ?_
      rintro e w2 ⟨rfl, hb⟩
      have HD := Lib.hid (HD1.out.below hb)
      have HB := Lib.hid (HB1.out.trans (hb.mono HB1.out.size))
      have HV := Lib.hid (HV1.out.below hb)
      have HC := Lib.hid (HC1.out.below hb HC1.out.lt)
      clear HD1 HB1 HV1 HC1 hb
      cases hnil : (linkErrD h k).isNil
      · have HER := Lib.hid (show E = linkErrD h k by
          rw [HE.out]
          exact linksGo_stop (k := k) (by have := HRL.out; omega) HL.out rfl (fun e => by rw [e] at hnil; simp [EV.isNil] at hnil))
        clear HE hnil
        go_upto_region 23 with fail
        change Code.wp _ ((regionAt 23 docBody).getD .skip) _ _ _
        refine copy_d23 HC.out HD.out.r ?_
        go_wp2_with fail
        refine bodyPost_ret (results_e rfl _ _ (w.heap.size + 1) 51 [.int .i64 uc, .slice ua un ucap] _ rfl ((HD.out.r.set 0 _).set 1 _) Try.underlying51 rfl (by rw [Try.sizeErr]; rfl)) rfl ?_
        rw [HER.out]
        exact ⟨_, rfl, HV.out.put HD.out.r _ _, (HD.out.b.setCell (p := ⟨w.heap.size + 1, 0, none⟩) (by simp) _).setCell (p := ⟨w.heap.size + 1, 1, none⟩) (by simp) _⟩
      · have HN := Lib.hid (EV.isNil_iff.1 hnil)
        clear hnil
        go_wp2_with fail
        go_roundg ((ranksL h).length - (k + 1))
        case measure => rw [HG.out]; omega
        case rel =>
          refine ⟨k + 1, by go_num, by omega, rfl, ?_, HD.out, HB.out⟩
          unfold linksGo
          rw [HL.out]
          exact HN.out
    · obtain rfl : k = (ranksL h).length := by omega
      have HER := Lib.hid (show E = .nil by rw [HE.out, ← HRL.out]; exact HL.out)
      clear HE
      go_wp2_with fail
      refine HKK.out _ _ ?_
      conv => arg 2; whnf
      go_upto_region 25 with fail
      change Code.wp _ ((regionAt 25 docBody).getD .skip) _ _ _
      refine zero_d25 HD.out.r ?_
      go_wp2_with fail
      refine bodyPost_ret (results_e rfl _ _ (w.heap.size + 1) 51 [.int .i64 0, .slice none 0 0] _ rfl ((HD.out.r.set 0 _).set 1 _) Try.underlying51 rfl (by rw [Try.sizeErr]; rfl)) rfl ?_
      rw [HER.out]
      exact ⟨_, rfl, rfl, (HD.out.b.setCell (p := ⟨w.heap.size + 1, 0, none⟩) (by simp) _).setCell (p := ⟨w.heap.size + 1, 1, none⟩) (by simp) _⟩


set_option linter.unusedSimpArgs false in
set_option maxRecDepth 100000 in
set_option maxHeartbeats 8000000 in
theorem doc_ranks {s0 s3 s4 s5 s6 s7 s8 s9 s10 s11 s12 s13 s14 s15 s16 s17 s18 s19 s20 s21 s22 s23 s24 s25 s26 s27 s28 s29 s30 s31 s32 s33 s34 s35 s36 s37 s38 s39 s40 s41 s42 s43 s44 s45 s46 s47 s48 s49 s50 s51 s52 s53 s54 s55 s56 s57 s58 s59 s60 s61 s62 s63 s64 s65 s66 s67 s68 s69 s70 s71 s72 s73 s74 s75 s76 s77 s78 s79 s80 s81 s82 s83 s84 s85 s86 s87 s88 s89 s90 s91 s92 s93 s94 s95 s96 s97 s98 s99 s100 s101 s102 s103 s104 s105 s106 : Value} {A : HA} {h : HierD} {w wx : World} {E : EV} (k : DK A h w wx) (see : HSee w A h) (u : FirstsOk h.node.length h.upF h.up.length) (d : FirstsOk h.node.length h.dnF h.dn.length) (hn : h.node.length ≤ 65536) (htot : h.up.length + h.dn.length ≤ 1048576)
    (hE : E = linksGo h.node.length h.up.length (endsOf h) (endsOf h).length) : Code.wp Try.prog (tailAt 7 docBody) (bodyPost Try.prog Try.f38 (ErrNew E w)) ⟨#[s0, .pointer (some ⟨w.heap.size, 0, none⟩), .pointer (some ⟨(w.heap.size + 1), 0, none⟩), s3, s4, s5, s6, s7, s8, s9, s10, s11, s12, s13, s14, s15, s16, s17, s18, s19, s20, s21, s22, s23, s24, s25, s26, s27, s28, s29, s30, s31, s32, s33, s34, s35, s36, s37, s38, s39, s40, s41, s42, s43, s44, s45, s46, s47, s48, s49, s50, s51, s52, s53, s54, s55, s56, s57, s58, s59, s60, s61, s62, s63, s64, s65, s66, s67, s68, s69, s70, s71, s72, s73, s74, s75, s76, s77, s78, s79, s80, s81, s82, s83, s84, s85, s86, s87, s88, s89, s90, s91, s92, s93, s94, s95, s96, s97, s98, s99, s100, s101, s102, s103, s104, s105, s106], []⟩ wx := by
  have K := Lib.hid k
  have SEE := Lib.hid see
  have UOK := Lib.hid u
  have DOK := Lib.hid d
  have HE := Lib.hid hE
  obtain ⟨k0, k1, k2, k3, k4⟩ := hier_five k.x
  clear k see u d hE
  conv => arg 2; whnf
  apply wp_seq_k
  intro KK hK
  have HKK := Lib.hid hK
  clear hK
  go_wp2_with fail
  refine (rranks_any A h _ (SEE.out.below K.out.b) UOK.out DOK.out hn htot).mono ?_
  rintro e w1 ⟨ra, rc, rfl, hs, hb⟩
  have HS := Lib.hid hs
  have K1 := Lib.hid (K.out.below hb)
  clear hs hb K k0 k1 k2 k3 k4
  go_wp2_with fail
  refine HKK.out _ _ ?_
  change Code.wp _ (tailAt 8 docBody) _ _ _
  exact doc_links K1.out SEE.out UOK.out DOK.out hn htot HS.out HE.out
end Go.Proofs.Ytjbphoophgbmiaa

/- The reference's look at a hierarchy: the loop over the nodes. -/
namespace Go.Proofs.Ytjbphoophgbmiaa
open Go.ChangeShapes Go.WideShapes Go.ChangeAt Go.RowKit Go.Joins Go.Deep

def boolsOf (s : List Nat) (n : Nat) : List Value := (List.range n).map fun v => .bool (decide (v ∈ s))
theorem boolsOf_get (s : List Nat) (n v : Nat) (h : v < n) : (boolsOf s n)[v]? = some (.bool (decide (v ∈ s))) := by
  simp [boolsOf, h]
theorem boolsOf_set (s : List Nat) (n v : Nat) (h : v < n) : (boolsOf s n).set v (.bool true) = boolsOf (s ++ [v]) n := by
  apply List.ext_getElem?
  intro j
  rw [List.getElem?_set]
  simp only [boolsOf, List.getElem?_map, List.length_map, List.length_range]
  by_cases hj : v = j
  · subst hj
    rw [if_pos rfl, if_pos h]
    simp [h]
  · rw [if_neg hj]
    rcases Nat.lt_or_ge j n with h1 | h1
    · simp only [List.getElem?_range h1, Option.map_some, List.mem_append, List.mem_singleton]
      have : ¬ j = v := fun e => hj e.symm
      simp [this]
    · rw [List.getElem?_eq_none (by simp; omega)]; rfl
theorem bools_made (n : Nat) : madeCells (Value.bool false).cells (n * 1) = (boolsOf [] n).toArray := by
  have e := madeCells_eq [Value.bool false] n (by simp)
  have h : ((List.replicate n ()).flatMap fun _ => [Value.bool false]) = boolsOf [] n := by
    apply List.ext_getElem?
    intro j
    have hg := flat_get (f := fun (_ : Unit) => [Value.bool false]) (sz := 1) (fun _ => rfl) (List.replicate n ()) j 0 (by omega)
    rw [Nat.mul_one, Nat.add_zero] at hg
    rw [hg]
    rcases Nat.lt_or_ge j n with h1 | h1
    · rw [boolsOf_get [] n j h1]; simp [h1]
    · rw [List.getElem?_eq_none (l := List.replicate n ()) (by simpa using h1), List.getElem?_eq_none (l := boolsOf [] n) (by simpa [boolsOf] using h1)]; rfl
  rw [h] at e
  exact e
theorem Try.infoBool : (Try.prog.info? 4).map (fun i => (i.zero, i.size, i.bytes)) = some (some (.bool false), 1, 1) := by kernel_rfl
theorem DK.set {A : HA} {h : HierD} {w wx : World} (k : DK A h w wx) {bs j : Nat} {v : Value} (h1 : w.heap.size ≠ bs) (h2 : w.heap.size + 1 ≠ bs) (h3 : w.heap.size ≤ bs) : DK A h w (wx.setCell ⟨bs, j, none⟩ v) :=
  ⟨k.x.other (a := ⟨bs, j, none⟩) h1 _, k.r.other (a := ⟨bs, j, none⟩) h2 _, k.b.setCell (p := ⟨bs, j, none⟩) h3 _⟩

set_option linter.unusedSimpArgs false in
set_option maxRecDepth 100000 in
set_option maxHeartbeats 8000000 in
theorem doc_order {s0 s4 s6 s7 s8 s9 s10 s11 s12 s13 s14 s15 s16 s17 s18 s19 s20 s21 s22 s23 s24 s25 s26 s27 s28 s29 s30 s31 s32 s33 s34 s35 s36 s37 s38 s39 s40 s41 s42 s43 s44 s45 s46 s47 s48 s49 s50 s51 s52 s53 s54 s55 s56 s57 s58 s59 s60 s61 s62 s63 s64 s65 s66 s67 s68 s69 s70 s71 s72 s73 s74 s75 s76 s77 s78 s79 s80 s81 s82 s83 s84 s85 s86 s87 s88 s89 s90 s91 s92 s93 s94 s95 s96 s97 s98 s99 s100 s101 s102 s103 s104 s105 s106 : Value} {A : HA} {h : HierD} {w wx : World} {bs : Nat} {E : EV} (k : DK A h w wx) (see : HSee w A h) (u : FirstsOk h.node.length h.upF h.up.length) (d : FirstsOk h.node.length h.dnF h.dn.length) (hn : h.node.length ≤ 65536) (htot : h.up.length + h.dn.length ≤ 1048576) (hbs : w.heap.size + 1 < bs) (hc : Cells wx bs 4 (boolsOf [] h.node.length))
    (hE1 : orderErr h.node = .nil → E = linksGo h.node.length h.up.length (endsOf h) (endsOf h).length) (hE2 : orderErr h.node ≠ .nil → E = orderErr h.node) : Code.wp Try.prog (tailAt 6 docBody) (bodyPost Try.prog Try.f38 (ErrNew E w)) ⟨#[s0, .pointer (some ⟨w.heap.size, 0, none⟩), .pointer (some ⟨(w.heap.size + 1), 0, none⟩), .int .i64 (h.node.length : Nat), s4, .slice (some ⟨bs, 0, none⟩) h.node.length h.node.length, s6, s7, s8, s9, s10, s11, s12, s13, s14, s15, s16, s17, s18, s19, s20, s21, s22, s23, s24, s25, s26, s27, s28, s29, s30, s31, s32, s33, s34, s35, s36, s37, s38, s39, s40, s41, s42, s43, s44, s45, s46, s47, s48, s49, s50, s51, s52, s53, s54, s55, s56, s57, s58, s59, s60, s61, s62, s63, s64, s65, s66, s67, s68, s69, s70, s71, s72, s73, s74, s75, s76, s77, s78, s79, s80, s81, s82, s83, s84, s85, s86, s87, s88, s89, s90, s91, s92, s93, s94, s95, s96, s97, s98, s99, s100, s101, s102, s103, s104, s105, s106], []⟩ wx := by
  have K := Lib.hid k
  have SEE := Lib.hid see
  have UOK := Lib.hid u
  have DOK := Lib.hid d
  have HE1 := Lib.hid hE1
  have HE2 := Lib.hid hE2
  have HC := Lib.hid hc
  obtain ⟨k0, k1, k2, k3, k4⟩ := hier_five k.x
  clear k see u d hE1 hE2 hc
  conv => arg 2; whnf
  apply wp_seq_k
  intro KK hK
  have HKK := Lib.hid hK
  clear hK
  go_wp2_with fail
  clear k0 k1 k2 k3 k4
  go_loopg [68] h.node.length (fun g vi wr => ∃ k : Nat, vi = .int .i64 k ∧ k ≤ h.node.length ∧ g = h.node.length - k ∧ orderGo h.node k = .nil ∧ (∀ x ∈ h.node.take k, x < h.node.length) ∧ Cells wr bs 4 (boolsOf (h.node.take k) h.node.length) ∧ DK A h w wr)
  case atStart => exact ⟨0, rfl, Nat.zero_le _, rfl, rfl, by simp, HC.out, K.out⟩
  case round =>
    obtain ⟨k, rfl, hk, hg, ho, hlt, hcs, hd⟩ := hrel
    obtain ⟨wo, rfl⟩ : ∃ wo : World, wo = wr := ⟨_, rfl⟩
    have HG := Lib.hid hg
    have HN := Lib.hid ho
    have HLT := Lib.hid hlt
    have HCS := Lib.hid hcs
    have HD := Lib.hid hd
    have hsz := hcs.lt
    clear hg ho hlt hcs hd
    by_cases hkl : k < h.node.length
    · obtain ⟨x, hx⟩ : ∃ x, h.node[k]? = some x := ⟨_, List.getElem?_eq_getElem (by omega)⟩
      obtain ⟨b, o, ea, cc⟩ := SEE.out.node.cell k x hx
      have c0 := ck HD.out.b (cc 0 _ rfl)
      rw [Nat.mul_one, Nat.add_zero] at c0
      have hx32 : x < 4294967296 := SEE.out.bn x (List.mem_of_getElem? hx)
      have hgx : h.node.getD k 0 = x := by rw [List.getD_eq_getElem?_getD, hx]; rfl
      have htk : h.node.take (k + 1) = h.node.take k ++ [x] := by rw [List.take_add_one, hx]; rfl
      have v1 : IntKind.u64.wrap (x : Int) = (x : Int) := IntWalk.u64_in _ (by omega)
      have v2 : IntKind.u64.wrap (h.node.length : Int) = (h.node.length : Int) := IntWalk.u64_in _ (by omega)
      have EA := Lib.hid ea
      have HGX := Lib.hid hgx
      have HTK := Lib.hid htk
      clear hgx hx cc ea htk
      rw [EA.out]
      by_cases hbad : h.node.length ≤ x ∨ x ∈ h.node.take k
      · have hfe : orderErr h.node = .at 3 k 20 := orderGo_stop hkl HN.out (by rw [HGX.out]; exact hbad)
        have HER := Lib.hid (show E = .at 3 k 20 by rw [HE2.out (by rw [hfe]; simp), hfe])
        clear hfe
        by_cases hd1 : h.node.length ≤ x
        · have hd2 : decide (h.node.length ≤ x) = true := by simpa using hd1
          clear hbad hd1 HE1 HE2
          go_wp2_with fail
          refine (e_any 20 _).mono ?_
          rintro e w1 ⟨v, rfl, hv, hb⟩
          obtain rfl : v = _ := hv
          have HD1 := Lib.hid (HD.out.below hb)
          clear hb HD
          go_wp2_with fail
          refine (rat_any 3 k 20 _).mono ?_
          rintro e w2 ⟨v, rfl, hv, hb⟩
          obtain ⟨uc, ua, un, ucap, rfl⟩ := hv.form
          have HD2 := Lib.hid (HD1.out.below hb)
          have HV := Lib.hid hv
          clear hb hv HD1
          have z0 : w2.cell? ⟨w.heap.size + 1, 0, none⟩ = some (.int .i64 0) := HD2.out.r.cell rfl
          have z1 : w2.cell? ⟨w.heap.size + 1, 1, none⟩ = some (.slice none 0 0) := HD2.out.r.cell rfl
          have g0 := HD2.out.r.frozen 0
          have g1 := HD2.out.r.frozen 1
          have lr := HD2.out.r.lt
          go_wp2
          refine bodyPost_ret (results_e rfl _ _ (w.heap.size + 1) 51 [.int .i64 uc, .slice ua un ucap] _ rfl ((HD2.out.r.set 0 _).set 1 _) Try.underlying51 rfl (by rw [Try.sizeErr]; rfl)) rfl ?_
          rw [HER.out]
          exact ⟨_, rfl, HV.out.put HD2.out.r _ _, (HD2.out.b.setCell (p := ⟨w.heap.size + 1, 0, none⟩) (by simp) _).setCell (p := ⟨w.heap.size + 1, 1, none⟩) (by simp) _⟩
        · have hd2 : decide (h.node.length ≤ x) = false := by simpa using hd1
          have hin : x ∈ h.node.take k := hbad.resolve_left hd1
          have hxl : x < h.node.length := by omega
          have hm := HCS.out.cell (boolsOf_get (h.node.take k) h.node.length x hxl)
          rw [decide_eq_true hin] at hm
          clear hbad hd1 HE1 HE2 hin
          go_wp2_with fail
          refine (e_any 20 _).mono ?_
          rintro e w1 ⟨v, rfl, hv, hb⟩
          obtain rfl : v = _ := hv
          have HD1 := Lib.hid (HD.out.below hb)
          clear hb HD
          go_wp2_with fail
          refine (rat_any 3 k 20 _).mono ?_
          rintro e w2 ⟨v, rfl, hv, hb⟩
          obtain ⟨uc, ua, un, ucap, rfl⟩ := hv.form
          have HD2 := Lib.hid (HD1.out.below hb)
          have HV := Lib.hid hv
          clear hb hv HD1
          have z0 : w2.cell? ⟨w.heap.size + 1, 0, none⟩ = some (.int .i64 0) := HD2.out.r.cell rfl
          have z1 : w2.cell? ⟨w.heap.size + 1, 1, none⟩ = some (.slice none 0 0) := HD2.out.r.cell rfl
          have g0 := HD2.out.r.frozen 0
          have g1 := HD2.out.r.frozen 1
          have lr := HD2.out.r.lt
          go_wp2
          refine bodyPost_ret (results_e rfl _ _ (w.heap.size + 1) 51 [.int .i64 uc, .slice ua un ucap] _ rfl ((HD2.out.r.set 0 _).set 1 _) Try.underlying51 rfl (by rw [Try.sizeErr]; rfl)) rfl ?_
          rw [HER.out]
          exact ⟨_, rfl, HV.out.put HD2.out.r _ _, (HD2.out.b.setCell (p := ⟨w.heap.size + 1, 0, none⟩) (by simp) _).setCell (p := ⟨w.heap.size + 1, 1, none⟩) (by simp) _⟩
      · have hd1 : ¬ h.node.length ≤ x := fun e => hbad (.inl e)
        have hin : ¬ x ∈ h.node.take k := fun e => hbad (.inr e)
        have hd2 : decide (h.node.length ≤ x) = false := by simpa using hd1
        have hxl : x < h.node.length := by omega
        have hm := HCS.out.cell (boolsOf_get (h.node.take k) h.node.length x hxl)
        rw [decide_eq_false hin] at hm
        have hf := HCS.out.frozen x
        have HM2 := Lib.hid (HCS.out.set x (.bool true))
        have HB1 := Lib.hid hd1
        have HB2 := Lib.hid hin
        clear hbad hd1 hin
        go_wp2_with fail
        rw [← EA.out]
        go_roundg (h.node.length - (k + 1))
        case measure => rw [HG.out]; omega
        case rel =>
          refine ⟨k + 1, by go_num, by omega, rfl, ?_, ?_, ?_, HD.out.set (by omega) (by omega) (by omega)⟩
          · unfold orderGo
            rw [HN.out]
            simp only
            rw [if_neg (by rw [HGX.out]; have := HB1.out; have := HB2.out; simp [*])]
          · intro y hy
            rw [HTK.out, List.mem_append, List.mem_singleton] at hy
            rcases hy with hy | rfl
            · exact HLT.out y hy
            · exact hxl
          · rw [HTK.out, ← boolsOf_set _ _ _ hxl]
            exact HM2.out
    · obtain rfl : k = h.node.length := by omega
      have HER := Lib.hid (HE1.out HN.out)
      clear HE1 HE2
      go_wp2_with fail
      refine HKK.out _ _ ?_
      change Code.wp _ (tailAt 7 docBody) _ _ _
      exact doc_ranks HD.out SEE.out UOK.out DOK.out hn htot HER.out

set_option linter.unusedSimpArgs false in
set_option maxRecDepth 100000 in
set_option maxHeartbeats 8000000 in
theorem doc_make {s0 s4 s5 s6 s7 s8 s9 s10 s11 s12 s13 s14 s15 s16 s17 s18 s19 s20 s21 s22 s23 s24 s25 s26 s27 s28 s29 s30 s31 s32 s33 s34 s35 s36 s37 s38 s39 s40 s41 s42 s43 s44 s45 s46 s47 s48 s49 s50 s51 s52 s53 s54 s55 s56 s57 s58 s59 s60 s61 s62 s63 s64 s65 s66 s67 s68 s69 s70 s71 s72 s73 s74 s75 s76 s77 s78 s79 s80 s81 s82 s83 s84 s85 s86 s87 s88 s89 s90 s91 s92 s93 s94 s95 s96 s97 s98 s99 s100 s101 s102 s103 s104 s105 s106 : Value} {A : HA} {h : HierD} {w wx : World} {E : EV} (k : DK A h w wx) (see : HSee w A h) (u : FirstsOk h.node.length h.upF h.up.length) (d : FirstsOk h.node.length h.dnF h.dn.length) (hn : h.node.length ≤ 65536) (htot : h.up.length + h.dn.length ≤ 1048576)
    (hE1 : orderErr h.node = .nil → E = linksGo h.node.length h.up.length (endsOf h) (endsOf h).length) (hE2 : orderErr h.node ≠ .nil → E = orderErr h.node) : Code.wp Try.prog (tailAt 5 docBody) (bodyPost Try.prog Try.f38 (ErrNew E w)) ⟨#[s0, .pointer (some ⟨w.heap.size, 0, none⟩), .pointer (some ⟨(w.heap.size + 1), 0, none⟩), .int .i64 (h.node.length : Nat), s4, s5, s6, s7, s8, s9, s10, s11, s12, s13, s14, s15, s16, s17, s18, s19, s20, s21, s22, s23, s24, s25, s26, s27, s28, s29, s30, s31, s32, s33, s34, s35, s36, s37, s38, s39, s40, s41, s42, s43, s44, s45, s46, s47, s48, s49, s50, s51, s52, s53, s54, s55, s56, s57, s58, s59, s60, s61, s62, s63, s64, s65, s66, s67, s68, s69, s70, s71, s72, s73, s74, s75, s76, s77, s78, s79, s80, s81, s82, s83, s84, s85, s86, s87, s88, s89, s90, s91, s92, s93, s94, s95, s96, s97, s98, s99, s100, s101, s102, s103, s104, s105, s106], []⟩ wx := by
  have hmk := run_make_n (P := Try.prog) 113 4 (.bool false) 1 1 Try.underlying113 Try.infoBool .i64 .i64 h.node.length (by omega) (by omega)
  rw [bools_made] at hmk
  have K := Lib.hid k
  have SEE := Lib.hid see
  have UOK := Lib.hid u
  have DOK := Lib.hid d
  have HE1 := Lib.hid hE1
  have HE2 := Lib.hid hE2
  clear k see u d hE1 hE2
  conv => arg 2; whnf
  apply wp_seq_k
  intro KK hK
  have HKK := Lib.hid hK
  clear hK
  go_wp2_with fail
  refine HKK.out _ _ ?_
  change Code.wp _ (tailAt 6 docBody) _ _ _
  exact doc_order (K.out.below ((Below.refl _ _).alloc (Nat.le_refl _) _)) SEE.out UOK.out DOK.out hn htot K.out.r.lt (Cells.new wx 4 (boolsOf [] h.node.length)) HE1.out HE2.out
end Go.Proofs.Ytjbphoophgbmiaa

/- The reference's look at a hierarchy: the firsts. -/
namespace Go.Proofs.Ytjbphoophgbmiaa
open Go.ChangeShapes Go.WideShapes Go.ChangeAt Go.RowKit Go.Joins Go.Deep

set_option linter.unusedSimpArgs false in
set_option maxRecDepth 100000 in
set_option maxHeartbeats 8000000 in
theorem doc_bad {s0 s5 s6 s7 s8 s9 s10 s11 s12 s13 s14 s15 s16 s17 s18 s19 s20 s21 s22 s23 s24 s25 s26 s27 s28 s29 s30 s31 s32 s33 s34 s35 s36 s37 s38 s39 s40 s41 s42 s43 s44 s45 s46 s47 s48 s49 s50 s51 s52 s53 s54 s55 s56 s57 s58 s59 s60 s61 s62 s63 s64 s65 s66 s67 s68 s69 s70 s71 s72 s73 s74 s75 s76 s77 s78 s79 s80 s81 s82 s83 s84 s85 s86 s87 s88 s89 s90 s91 s92 s93 s94 s95 s96 s97 s98 s99 s100 s101 s102 s103 s104 s105 s106 : Value} {A : HA} {h : HierD} {w wx : World} {b4 : Nat} {uc : Int} {ua : Option Addr} {un ucap : Nat} {x E : EV} (k : DK A h w wx) (see : HSee w A h) (fits : Fits h) (hc : Cells wx b4 51 [.int .i64 uc, .slice ua un ucap]) (hv : ErrV wx (.agg [.int .i64 uc, .slice ua un ucap].toArray) x) (hp : x.pos)
    (hE0 : x ≠ .nil → E = x) (hE1 : x = .nil → FirstsOk h.node.length h.upF h.up.length ∧ FirstsOk h.node.length h.dnF h.dn.length ∧ (orderErr h.node = .nil → E = linksGo h.node.length h.up.length (endsOf h) (endsOf h).length) ∧ (orderErr h.node ≠ .nil → E = orderErr h.node)) : Code.wp Try.prog (tailAt 4 docBody) (bodyPost Try.prog Try.f38 (ErrNew E w)) ⟨#[s0, .pointer (some ⟨w.heap.size, 0, none⟩), .pointer (some ⟨(w.heap.size + 1), 0, none⟩), .int .i64 (h.node.length : Nat), .pointer (some ⟨b4, 0, none⟩), s5, s6, s7, s8, s9, s10, s11, s12, s13, s14, s15, s16, s17, s18, s19, s20, s21, s22, s23, s24, s25, s26, s27, s28, s29, s30, s31, s32, s33, s34, s35, s36, s37, s38, s39, s40, s41, s42, s43, s44, s45, s46, s47, s48, s49, s50, s51, s52, s53, s54, s55, s56, s57, s58, s59, s60, s61, s62, s63, s64, s65, s66, s67, s68, s69, s70, s71, s72, s73, s74, s75, s76, s77, s78, s79, s80, s81, s82, s83, s84, s85, s86, s87, s88, s89, s90, s91, s92, s93, s94, s95, s96, s97, s98, s99, s100, s101, s102, s103, s104, s105, s106], []⟩ wx := by
  have K := Lib.hid k
  have SEE := Lib.hid see
  have FITS := Lib.hid fits
  have HE0 := Lib.hid hE0
  have HE1 := Lib.hid hE1
  have HP := Lib.hid hp
  have HV := Lib.hid hv
  have HC := Lib.hid hc
  have y0 : wx.cell? ⟨b4, 0, none⟩ = some (.int .i64 uc) := hc.cell rfl
  have y1 : wx.cell? ⟨b4, 1, none⟩ = some (.slice ua un ucap) := hc.cell rfl
  clear k see fits hE0 hE1 hp hv hc
  conv => arg 2; whnf
  apply wp_seq_k
  intro KK hK
  have HKK := Lib.hid hK
  clear hK
  go_wp2_with fail
  refine (bad_any _ x _ HV.out HP.out).mono ?_
  rintro e w2 ⟨rfl, hb⟩
  have K2 := Lib.hid (K.out.below hb)
  have HV2 := Lib.hid (HV.out.below hb)
  have HC2 := Lib.hid (HC.out.below hb HC.out.lt)
  clear K HV HC hb y0 y1
  cases hnil : x.isNil
  · have HER := Lib.hid (HE0.out (fun e => by rw [e] at hnil; simp [EV.isNil] at hnil))
    clear HE0 HE1 hnil
    go_upto_region 8 with fail
    change Code.wp _ ((regionAt 8 docBody).getD .skip) _ _ _
    refine copy_d8 HC2.out K2.out.r ?_
    go_wp2_with fail
    refine bodyPost_ret (results_e rfl _ _ (w.heap.size + 1) 51 [.int .i64 uc, .slice ua un ucap] _ rfl ((K2.out.r.set 0 _).set 1 _) Try.underlying51 rfl (by rw [Try.sizeErr]; rfl)) rfl ?_
    rw [HER.out]
    exact ⟨_, rfl, HV2.out.put K2.out.r _ _, (K2.out.b.setCell (p := ⟨w.heap.size + 1, 0, none⟩) (by simp) _).setCell (p := ⟨w.heap.size + 1, 1, none⟩) (by simp) _⟩
  · obtain ⟨hu, hd, e1, e2⟩ := HE1.out (EV.isNil_iff.1 hnil)
    have UOK := Lib.hid hu
    have DOK := Lib.hid hd
    have EE1 := Lib.hid e1
    have EE2 := Lib.hid e2
    clear HE0 HE1 hu hd e1 e2 hnil
    go_wp2_with fail
    refine HKK.out _ _ ?_
    change Code.wp _ (tailAt 5 docBody) _ _ _
    exact doc_make K2.out SEE.out UOK.out DOK.out FITS.out.n (FITS.out.total SEE.out UOK.out DOK.out) EE1.out EE2.out

noncomputable def ops6 : Array Oper := regionOps (regionAt 6 docBody)
noncomputable def check6 (dA dB dS dF d1 : Bool) : Bool :=
  (dB && !dA) || (dS && !dB) || (dF && !dS) || (dA && dB && dS && dF && d1) ||
    (let r := Region.ready .any ops6 #[true, true, true, true, true, true, dA, true, true, true, true, true, true, dB, dS, dF, d1, false]
     (!r.isEmpty) && r.all fun i => (i == 6 && !dA) || (i == 13 && dA && !dB) || (i == 14 && dB && !dS) || (i == 15 && dS && !dF) || (i == 16 && !d1))
set_option maxRecDepth 100000 in
theorem checked6 : ∀ dA dB dS dF d1 : Bool, check6 dA dB dS dF d1 = true := by decide +kernel
theorem ready6 (dA dB dS dF d1 : Bool) (h1 : dB = true → dA = true) (h2 : dS = true → dB = true) (h3 : dF = true → dS = true) (h4 : (dA && dB && dS && dF && d1) = false) :
    Region.ready .any ops6 #[true, true, true, true, true, true, dA, true, true, true, true, true, true, dB, dS, dF, d1, false] ≠ [] ∧ ∀ i ∈ Region.ready .any ops6 #[true, true, true, true, true, true, dA, true, true, true, true, true, true, dB, dS, dF, d1, false],
      (i = 6 ∧ dA = false) ∨ (i = 13 ∧ dA = true ∧ dB = false) ∨ (i = 14 ∧ dB = true ∧ dS = false) ∨ (i = 15 ∧ dS = true ∧ dF = false) ∨ (i = 16 ∧ d1 = false) := by
  have h := checked6 dA dB dS dF d1
  unfold check6 at h
  have e1 : (dB && !dA) = false := by cases dA <;> cases dB <;> simp_all
  have e2 : (dS && !dB) = false := by cases dB <;> cases dS <;> simp_all
  have e3 : (dF && !dS) = false := by cases dS <;> cases dF <;> simp_all
  rw [e1, e2, e3, h4] at h
  generalize Region.ready .any ops6 #[true, true, true, true, true, true, dA, true, true, true, true, true, true, dB, dS, dF, d1, false] = r at h ⊢
  simp only [Bool.false_or, Bool.and_eq_true, Bool.not_eq_true', List.all_eq_true, Bool.or_eq_true, beq_iff_eq] at h
  refine ⟨fun e => by rw [e] at h; simp at h, fun i hi => ?_⟩
  have := h.2 i hi
  rcases this with (((h | h) | h) | h) | h
  · exact .inl h
  · exact .inr (.inl ⟨h.1.1, h.1.2, h.2⟩)
  · exact .inr (.inr (.inl ⟨h.1.1, h.1.2, h.2⟩))
  · exact .inr (.inr (.inr (.inl ⟨h.1.1, h.1.2, h.2⟩)))
  · exact .inr (.inr (.inr (.inr h)))
def TwoErrs (v : Value) (x1 x2 : EV) (W : World) : Prop := ∃ (b : Nat) (c1 c2 : Int) (a1 a2 : Option Addr) (n1 k1 n2 k2 : Nat), v = .slice (some ⟨b, 0, none⟩) 2 2 ∧ Cells W b 51 [.int .i64 c1, .slice a1 n1 k1, .int .i64 c2, .slice a2 n2 k2] ∧ ErrV W (.agg #[.int .i64 c1, .slice a1 n1 k1]) x1 ∧ ErrV W (.agg #[.int .i64 c2, .slice a2 n2 k2]) x2
theorem TwoErrs.below {v : Value} {x1 x2 : EV} {W W' : World} (t : TwoErrs v x1 x2 W) (o : Below W.heap.size W W') : TwoErrs v x1 x2 W' := by
  obtain ⟨b, c1, c2, a1, a2, n1, k1, n2, k2, e, hc, h1, h2⟩ := t
  exact ⟨b, c1, c2, a1, a2, n1, k1, n2, k2, e, hc.below o hc.lt, h1.below o, h2.below o⟩
def I6 (s0 s5 s6 s7 s8 s9 s10 s11 s12 s13 s14 s15 s16 s17 s18 s19 s20 s21 s22 s23 s24 s25 s26 s27 s28 s29 s30 s31 s32 s33 s34 s35 s36 s37 s38 s39 s40 s41 s42 s43 s60 s61 s62 s63 s64 s65 s66 s67 s68 s69 s70 s71 s72 s73 s74 s75 s76 s77 s78 s79 s80 s81 s82 s83 s84 s85 s86 s87 s88 s89 s90 s91 s92 s93 s94 s95 s96 s97 s98 s99 s100 s101 s102 s103 s104 s105 s106 : Value) (A : HA) (h : HierD) (w : World) (x1 x2 x : EV) (n : Nat) (L : Array Bool) (a : Act) (w' : World) : Prop :=
  ∃ (dA dB dS dF d1 : Bool) (vA vB vS vF v1 : Value) (b4 : Nat), n + (cnt dA + cnt dB + cnt dS + cnt dF + cnt d1) = 6 ∧ L = #[true, true, true, true, true, true, dA, true, true, true, true, true, true, dB, dS, dF, d1, false] ∧
    a = ⟨#[s0, .pointer (some ⟨w.heap.size, 0, none⟩), .pointer (some ⟨(w.heap.size + 1), 0, none⟩), .int .i64 (h.node.length : Nat), v1, s5, s6, s7, s8, s9, s10, s11, s12, s13, s14, s15, s16, s17, s18, s19, s20, s21, s22, s23, s24, s25, s26, s27, s28, s29, s30, s31, s32, s33, s34, s35, s36, s37, s38, s39, s40, s41, s42, s43, .pointer (some ⟨w.heap.size, 1, none⟩), .slice A.a1 h.upF.length A.c1, .int .i64 (h.node.length : Nat), .pointer (some ⟨w.heap.size, 2, none⟩), .slice A.a2 h.up.length A.c2, .int .i64 (h.up.length : Nat), vA, .pointer (some ⟨w.heap.size, 3, none⟩), .slice A.a3 h.dnF.length A.c3, .int .i64 (h.node.length : Nat), .pointer (some ⟨w.heap.size, 4, none⟩), .slice A.a4 h.dn.length A.c4, .int .i64 (h.dn.length : Nat), vB, vS, vF, s60, s61, s62, s63, s64, s65, s66, s67, s68, s69, s70, s71, s72, s73, s74, s75, s76, s77, s78, s79, s80, s81, s82, s83, s84, s85, s86, s87, s88, s89, s90, s91, s92, s93, s94, s95, s96, s97, s98, s99, s100, s101, s102, s103, s104, s105, s106], []⟩ ∧ (dB = true → dA = true) ∧ (dS = true → dB = true) ∧ (dF = true → dS = true) ∧
    (dA = true → ErrV w' vA x1) ∧ (dB = true → ErrV w' vB x2) ∧ (dS = true → TwoErrs vS x1 x2 w') ∧ (dF = true → ErrV w' vF x) ∧
    (d1 = true → v1 = .pointer (some ⟨b4, 0, none⟩) ∧ Cells w' b4 51 errZero ∧ w.heap.size + 1 < b4) ∧ DK A h w w'

set_option linter.unusedSimpArgs false in
set_option maxRecDepth 100000 in
set_option maxHeartbeats 8000000 in
theorem reg6 (s0 s4 s5 s6 s7 s8 s9 s10 s11 s12 s13 s14 s15 s16 s17 s18 s19 s20 s21 s22 s23 s24 s25 s26 s27 s28 s29 s30 s31 s32 s33 s34 s35 s36 s37 s38 s39 s40 s41 s42 s43 s44 s45 s46 s47 s48 s49 s50 s51 s52 s53 s54 s55 s56 s57 s58 s59 s60 s61 s62 s63 s64 s65 s66 s67 s68 s69 s70 s71 s72 s73 s74 s75 s76 s77 s78 s79 s80 s81 s82 s83 s84 s85 s86 s87 s88 s89 s90 s91 s92 s93 s94 s95 s96 s97 s98 s99 s100 s101 s102 s103 s104 s105 s106 : Value) {A : HA} {h : HierD} {w wx : World} {x1 x2 x : EV} (Q : Exit → Act → World → Prop) (k : DK A h w wx)
    (hQp : ∀ c (a : Act) (t : Option Tmp) (v : Value) w', Q (.panic c) (a.put t v) w' → Q (.panic c) a w')
    (hA : ∀ w', Below w.heap.size w w' → Calls Try.prog 54 #[.slice A.a1 h.upF.length A.c1, .int .i64 (h.node.length : Nat), .int .i64 (h.up.length : Nat)] w' (ErrNew x1 w'))
    (hB : ∀ w', Below w.heap.size w w' → Calls Try.prog 54 #[.slice A.a3 h.dnF.length A.c3, .int .i64 (h.node.length : Nat), .int .i64 (h.dn.length : Nat)] w' (ErrNew x2 w'))
    (hF : ∀ v w', TwoErrs v x1 x2 w' → Calls Try.prog 41 #[v] w' (ErrNew x w'))
    (hQ : ∀ (b4 : Nat) (uc : Int) (ua : Option Addr) (un ucap : Nat) (t44 t45 t46 t47 t48 t49 t50 t51 t52 t53 t54 t55 t56 t57 t58 t59 : Value) (w' : World), Cells w' b4 51 [.int .i64 uc, .slice ua un ucap] → ErrV w' (.agg [.int .i64 uc, .slice ua un ucap].toArray) x → DK A h w w' → Q .normal ⟨#[s0, .pointer (some ⟨w.heap.size, 0, none⟩), .pointer (some ⟨(w.heap.size + 1), 0, none⟩), .int .i64 (h.node.length : Nat), .pointer (some ⟨b4, 0, none⟩), s5, s6, s7, s8, s9, s10, s11, s12, s13, s14, s15, s16, s17, s18, s19, s20, s21, s22, s23, s24, s25, s26, s27, s28, s29, s30, s31, s32, s33, s34, s35, s36, s37, s38, s39, s40, s41, s42, s43, t44, t45, t46, t47, t48, t49, t50, t51, t52, t53, t54, t55, t56, t57, t58, t59, s60, s61, s62, s63, s64, s65, s66, s67, s68, s69, s70, s71, s72, s73, s74, s75, s76, s77, s78, s79, s80, s81, s82, s83, s84, s85, s86, s87, s88, s89, s90, s91, s92, s93, s94, s95, s96, s97, s98, s99, s100, s101, s102, s103, s104, s105, s106], []⟩ w') :
    Code.wp Try.prog ((regionAt 6 docBody).getD .skip) Q ⟨#[s0, .pointer (some ⟨w.heap.size, 0, none⟩), .pointer (some ⟨(w.heap.size + 1), 0, none⟩), .int .i64 (h.node.length : Nat), s4, s5, s6, s7, s8, s9, s10, s11, s12, s13, s14, s15, s16, s17, s18, s19, s20, s21, s22, s23, s24, s25, s26, s27, s28, s29, s30, s31, s32, s33, s34, s35, s36, s37, s38, s39, s40, s41, s42, s43, s44, s45, s46, s47, s48, s49, s50, s51, s52, s53, s54, s55, s56, s57, s58, s59, s60, s61, s62, s63, s64, s65, s66, s67, s68, s69, s70, s71, s72, s73, s74, s75, s76, s77, s78, s79, s80, s81, s82, s83, s84, s85, s86, s87, s88, s89, s90, s91, s92, s93, s94, s95, s96, s97, s98, s99, s100, s101, s102, s103, s104, s105, s106], []⟩ wx := by
  have HQ := Lib.hid hQ
  have HQP := Lib.hid hQp
  have HA := Lib.hid hA
  have HB := Lib.hid hB
  have HF := Lib.hid hF
  clear hQ hQp hA hB hF
  conv => arg 2; whnf
  refine wp_region_held_drew (S := fun W => DK A h w W) (by kernel_rfl) (k.below (Below.refl _ _).drew) (fun hHeld => ?_)
  simp only [List.size_toArray, List.length_cons, List.length_nil, Nat.reduceAdd, Array.replicate_succ, Array.replicate_zero, List.push_toArray, List.nil_append, List.cons_append]
  clear k
  refine wpAnyH_take (i := 0) (oi := { dst := some 44, op := Op.fieldAddr 25 (Operand.tmp 1) 1, type := 0, pos := "ref.go:115", after := #[], guard := none }) (v := .pointer (some ⟨w.heap.size, 1, none⟩)) rfl (by kernel_rfl) (by kernel_rfl) (by kernel_rfl) (fun c a w' => HQP.out c a _ _ w') (Or.inl ⟨by rfl, ?_⟩) hHeld ?_
  · intro W hSw
    try dsimp only at hSw
    obtain ⟨m0, m1, m2, m3, m4⟩ := hier_five hSw.x
    clear hSw hHeld
    go_simp
  simp only [Act.put, List.setIfInBounds_toArray, List.set_cons_zero, List.set_cons_succ]
  refine wpAnyH_take (i := 1) (oi := { dst := some 45, op := Op.load 22 (Operand.tmp 44), type := 22, pos := "ref.go:115", after := #[{ on := 0, ground := Ground.data }], guard := none }) (v := .slice A.a1 h.upF.length A.c1) rfl (by kernel_rfl) (by kernel_rfl) (by kernel_rfl) (fun c a w' => HQP.out c a _ _ w') (Or.inl ⟨by rfl, ?_⟩) hHeld ?_
  · intro W hSw
    try dsimp only at hSw
    obtain ⟨m0, m1, m2, m3, m4⟩ := hier_five hSw.x
    clear hSw hHeld
    go_simp
  simp only [Act.put, List.setIfInBounds_toArray, List.set_cons_zero, List.set_cons_succ]
  refine wpAnyH_take (i := 2) (oi := { dst := some 46, op := Op.move (Operand.tmp 3), type := 3, pos := "ref.go:115", after := #[], guard := none }) (v := .int .i64 (h.node.length : Nat)) rfl (by kernel_rfl) (by kernel_rfl) (by kernel_rfl) (fun c a w' => HQP.out c a _ _ w') (Or.inl ⟨by rfl, ?_⟩) hHeld ?_
  · intro W hSw
    try dsimp only at hSw
    obtain ⟨m0, m1, m2, m3, m4⟩ := hier_five hSw.x
    clear hSw hHeld
    go_simp
  simp only [Act.put, List.setIfInBounds_toArray, List.set_cons_zero, List.set_cons_succ]
  refine wpAnyH_take (i := 3) (oi := { dst := some 47, op := Op.fieldAddr 25 (Operand.tmp 1) 2, type := 0, pos := "ref.go:115", after := #[], guard := none }) (v := .pointer (some ⟨w.heap.size, 2, none⟩)) rfl (by kernel_rfl) (by kernel_rfl) (by kernel_rfl) (fun c a w' => HQP.out c a _ _ w') (Or.inl ⟨by rfl, ?_⟩) hHeld ?_
  · intro W hSw
    try dsimp only at hSw
    obtain ⟨m0, m1, m2, m3, m4⟩ := hier_five hSw.x
    clear hSw hHeld
    go_simp
  simp only [Act.put, List.setIfInBounds_toArray, List.set_cons_zero, List.set_cons_succ]
  refine wpAnyH_take (i := 4) (oi := { dst := some 48, op := Op.load 23 (Operand.tmp 47), type := 23, pos := "ref.go:115", after := #[{ on := 3, ground := Ground.data }], guard := none }) (v := .slice A.a2 h.up.length A.c2) rfl (by kernel_rfl) (by kernel_rfl) (by kernel_rfl) (fun c a w' => HQP.out c a _ _ w') (Or.inl ⟨by rfl, ?_⟩) hHeld ?_
  · intro W hSw
    try dsimp only at hSw
    obtain ⟨m0, m1, m2, m3, m4⟩ := hier_five hSw.x
    clear hSw hHeld
    go_simp
  simp only [Act.put, List.setIfInBounds_toArray, List.set_cons_zero, List.set_cons_succ]
  refine wpAnyH_take (i := 5) (oi := { dst := some 49, op := Op.call { callee := Callee.builtin Builtin.len, args := #[Operand.tmp 48], argTypes := #[23] }, type := 3, pos := "ref.go:115", after := #[{ on := 4, ground := Ground.data }], guard := none }) (v := .int .i64 (h.up.length : Nat)) rfl (by kernel_rfl) (by kernel_rfl) (by kernel_rfl) (fun c a w' => HQP.out c a _ _ w') (Or.inl ⟨by rfl, ?_⟩) hHeld ?_
  · intro W hSw
    try dsimp only at hSw
    obtain ⟨m0, m1, m2, m3, m4⟩ := hier_five hSw.x
    clear hSw hHeld
    go_simp
  simp only [Act.put, List.setIfInBounds_toArray, List.set_cons_zero, List.set_cons_succ]
  refine wpAnyH_take (i := 7) (oi := { dst := some 51, op := Op.fieldAddr 25 (Operand.tmp 1) 3, type := 0, pos := "ref.go:115", after := #[], guard := none }) (v := .pointer (some ⟨w.heap.size, 3, none⟩)) rfl (by kernel_rfl) (by kernel_rfl) (by kernel_rfl) (fun c a w' => HQP.out c a _ _ w') (Or.inl ⟨by rfl, ?_⟩) hHeld ?_
  · intro W hSw
    try dsimp only at hSw
    obtain ⟨m0, m1, m2, m3, m4⟩ := hier_five hSw.x
    clear hSw hHeld
    go_simp
  simp only [Act.put, List.setIfInBounds_toArray, List.set_cons_zero, List.set_cons_succ]
  refine wpAnyH_take (i := 8) (oi := { dst := some 52, op := Op.load 22 (Operand.tmp 51), type := 22, pos := "ref.go:115", after := #[{ on := 7, ground := Ground.data }], guard := none }) (v := .slice A.a3 h.dnF.length A.c3) rfl (by kernel_rfl) (by kernel_rfl) (by kernel_rfl) (fun c a w' => HQP.out c a _ _ w') (Or.inl ⟨by rfl, ?_⟩) hHeld ?_
  · intro W hSw
    try dsimp only at hSw
    obtain ⟨m0, m1, m2, m3, m4⟩ := hier_five hSw.x
    clear hSw hHeld
    go_simp
  simp only [Act.put, List.setIfInBounds_toArray, List.set_cons_zero, List.set_cons_succ]
  refine wpAnyH_take (i := 9) (oi := { dst := some 53, op := Op.move (Operand.tmp 3), type := 3, pos := "ref.go:115", after := #[], guard := none }) (v := .int .i64 (h.node.length : Nat)) rfl (by kernel_rfl) (by kernel_rfl) (by kernel_rfl) (fun c a w' => HQP.out c a _ _ w') (Or.inl ⟨by rfl, ?_⟩) hHeld ?_
  · intro W hSw
    try dsimp only at hSw
    obtain ⟨m0, m1, m2, m3, m4⟩ := hier_five hSw.x
    clear hSw hHeld
    go_simp
  simp only [Act.put, List.setIfInBounds_toArray, List.set_cons_zero, List.set_cons_succ]
  refine wpAnyH_take (i := 10) (oi := { dst := some 54, op := Op.fieldAddr 25 (Operand.tmp 1) 4, type := 0, pos := "ref.go:115", after := #[], guard := none }) (v := .pointer (some ⟨w.heap.size, 4, none⟩)) rfl (by kernel_rfl) (by kernel_rfl) (by kernel_rfl) (fun c a w' => HQP.out c a _ _ w') (Or.inl ⟨by rfl, ?_⟩) hHeld ?_
  · intro W hSw
    try dsimp only at hSw
    obtain ⟨m0, m1, m2, m3, m4⟩ := hier_five hSw.x
    clear hSw hHeld
    go_simp
  simp only [Act.put, List.setIfInBounds_toArray, List.set_cons_zero, List.set_cons_succ]
  refine wpAnyH_take (i := 11) (oi := { dst := some 55, op := Op.load 23 (Operand.tmp 54), type := 23, pos := "ref.go:115", after := #[{ on := 10, ground := Ground.data }], guard := none }) (v := .slice A.a4 h.dn.length A.c4) rfl (by kernel_rfl) (by kernel_rfl) (by kernel_rfl) (fun c a w' => HQP.out c a _ _ w') (Or.inl ⟨by rfl, ?_⟩) hHeld ?_
  · intro W hSw
    try dsimp only at hSw
    obtain ⟨m0, m1, m2, m3, m4⟩ := hier_five hSw.x
    clear hSw hHeld
    go_simp
  simp only [Act.put, List.setIfInBounds_toArray, List.set_cons_zero, List.set_cons_succ]
  refine wpAnyH_take (i := 12) (oi := { dst := some 56, op := Op.call { callee := Callee.builtin Builtin.len, args := #[Operand.tmp 55], argTypes := #[23] }, type := 3, pos := "ref.go:115", after := #[{ on := 11, ground := Ground.data }], guard := none }) (v := .int .i64 (h.dn.length : Nat)) rfl (by kernel_rfl) (by kernel_rfl) (by kernel_rfl) (fun c a w' => HQP.out c a _ _ w') (Or.inl ⟨by rfl, ?_⟩) hHeld ?_
  · intro W hSw
    try dsimp only at hSw
    obtain ⟨m0, m1, m2, m3, m4⟩ := hier_five hSw.x
    clear hSw hHeld
    go_simp
  simp only [Act.put, List.setIfInBounds_toArray, List.set_cons_zero, List.set_cons_succ]
  refine wpAnyH_inv (I6 s0 s5 s6 s7 s8 s9 s10 s11 s12 s13 s14 s15 s16 s17 s18 s19 s20 s21 s22 s23 s24 s25 s26 s27 s28 s29 s30 s31 s32 s33 s34 s35 s36 s37 s38 s39 s40 s41 s42 s43 s60 s61 s62 s63 s64 s65 s66 s67 s68 s69 s70 s71 s72 s73 s74 s75 s76 s77 s78 s79 s80 s81 s82 s83 s84 s85 s86 s87 s88 s89 s90 s91 s92 s93 s94 s95 s96 s97 s98 s99 s100 s101 s102 s103 s104 s105 s106 A h w x1 x2 x) ?_ 6 _ _ _ ⟨false, false, false, false, false, s50, s57, s58, s59, s4, 0, rfl, rfl, rfl, by simp, by simp, by simp, by simp, by simp, by simp, by simp, by simp, hHeld⟩
  clear hHeld
  intro n L a w' hI
  obtain ⟨dA, dB, dS, dF, d1, vA, vB, vS, vF, v1, b4, hn, rfl, rfl, hBA, hSB, hFS, eA, eB, eS, eF, e1, hk⟩ := hI
  by_cases hall : (dA && dB && dS && dF && d1) = true
  · left
    simp only [Bool.and_eq_true] at hall
    obtain ⟨⟨⟨⟨rfl, rfl⟩, rfl⟩, rfl⟩, rfl⟩ := hall
    have hvF := eF rfl
    obtain ⟨rfl, hc, l1⟩ := e1 rfl
    obtain ⟨uc, ua, un, ucap, rfl⟩ := hvF.form
    obtain rfl : n = 1 := by have : cnt true = 1 := rfl; omega
    clear hn hBA hSB hFS eA eB eS eF e1
    have HC := Lib.hid hc
    have HK := Lib.hid hk
    have HV := Lib.hid hvF
    have g0 := hc.frozen 0
    have g1 := hc.frozen 1
    have y0 := hc.cell (i := 0) rfl
    have y1 := hc.cell (i := 1) rfl
    have ltc := hc.lt
    clear hc hk hvF
    refine wpAnyH_ready (rs := [17]) (by kernel_rfl) (by simp) (AllReadyH.cons (o := { dst := none, op := Op.store 51 (Operand.tmp 4) (Operand.tmp 59), type := 0, pos := "ref.go:115", after := #[{ on := 16, ground := Ground.data }, { on := 15, ground := Ground.data }, { on := 15, ground := Ground.chain }, { on := 0, ground := Ground.phase }, { on := 1, ground := Ground.phase }, { on := 2, ground := Ground.phase }, { on := 3, ground := Ground.phase }, { on := 4, ground := Ground.phase }, { on := 5, ground := Ground.phase }, { on := 6, ground := Ground.phase }, { on := 7, ground := Ground.phase }, { on := 8, ground := Ground.phase }, { on := 9, ground := Ground.phase }, { on := 10, ground := Ground.phase }, { on := 11, ground := Ground.phase }, { on := 12, ground := Ground.phase }, { on := 13, ground := Ground.phase }, { on := 14, ground := Ground.phase }, { on := 15, ground := Ground.phase }, { on := 16, ground := Ground.phase }], guard := none }) rfl (fun K hK => ?_) AllReadyH.nil)
    go_simp
    refine hK.out _ _ ((HK.out.set (by omega) (by omega) (by omega)).set (by omega) (by omega) (by omega)) (fun hHeld => ?_)
    try simp only [Act.put, List.setIfInBounds_toArray, List.set_cons_zero, List.set_cons_succ]
    refine wpAnyH_done (by kernel_rfl) ?_ _
    exact HQ.out _ _ _ _ _ _ _ _ _ _ _ _ _ _ _ _ _ _ _ _ _ _ ((HC.out.set 0 _).set 1 _) (HV.out.put HC.out _ _) hHeld
  · right
    have hall' : (dA && dB && dS && dF && d1) = false := by simpa using hall
    obtain ⟨hne, hrd⟩ := ready6 dA dB dS dF d1 hBA hSB hFS hall'
    have hc1 : ∀ d, cnt d ≤ 1 := fun d => by cases d <;> simp [cnt]
    have q1 := hc1 dA
    have q2 := hc1 dB
    have q3 := hc1 dS
    have q4 := hc1 dF
    have q5 := hc1 d1
    have ct : cnt true = 1 := rfl
    have cf : cnt false = 0 := rfl
    obtain ⟨m, rfl⟩ : ∃ m, n = m + 1 := ⟨n - 1, by omega⟩
    refine ⟨m, rfl, hne, fun i hi => ?_⟩
    have HN := Lib.hid hn
    have HI := Lib.hid (And.intro hBA (And.intro hSB (And.intro hFS (And.intro eA (And.intro eB (And.intro eS (And.intro eF e1)))))))
    have HK1 := Lib.hid hk
    have hrd' := hrd i hi
    clear hn hBA hSB hFS eA eB eS eF e1 hk hrd hi hne hall hall' hc1 q1 q2 q3 q4 q5
    rcases hrd' with ⟨rfl, rfl⟩ | ⟨rfl, rfl, rfl⟩ | ⟨rfl, rfl, rfl⟩ | ⟨rfl, rfl, rfl⟩ | ⟨rfl, rfl⟩
    · refine wpOp_step (o := { dst := some 50, op := Op.call { callee := Callee.value (Operand.func 54), args := #[Operand.tmp 45, Operand.tmp 46, Operand.tmp 49], argTypes := #[22, 3, 3] }, type := 51, pos := "ref.go:115", after := #[{ on := 1, ground := Ground.data }, { on := 2, ground := Ground.data }, { on := 5, ground := Ground.data }], guard := none }) rfl (fun K hK => ?_)
      have HK := Lib.hid hK
      clear hK
      obtain ⟨hBA, hSB, hFS, eA, eB, eS, eF, e1⟩ := HI.out
      clear eA eB eS eF e1 hBA hSB hFS
      go_simp
      refine (HA.out _ HK1.out.b).mono ?_
      rintro e w1 ⟨v, rfl, hv, ho⟩
      go_wp2_with fail
      obtain ⟨hBA, hSB, hFS, eA, eB, eS, eF, e1⟩ := HI.out
      have hn := HN.out
      have hk := HK1.out.below ho
      refine HK.out _ _ ⟨hk, true, dB, dS, dF, d1, _, vB, vS, vF, v1, b4, ?_, rfl, rfl, ?_, ?_, ?_, fun _ => hv, fun h => (eB (by first | exact h | trivial)).below ho, fun h => (eS (by first | exact h | trivial)).below ho, fun h => (eF (by first | exact h | trivial)).below ho, fun h => ⟨(e1 h).1, (e1 h).2.1.below ho (e1 h).2.1.lt, (e1 h).2.2⟩, hk⟩
      · omega
      all_goals simp_all
    · refine wpOp_step (o := { dst := some 57, op := Op.call { callee := Callee.value (Operand.func 54), args := #[Operand.tmp 52, Operand.tmp 53, Operand.tmp 56], argTypes := #[22, 3, 3] }, type := 51, pos := "ref.go:115", after := #[{ on := 8, ground := Ground.data }, { on := 9, ground := Ground.data }, { on := 12, ground := Ground.data }, { on := 6, ground := Ground.chain }], guard := none }) rfl (fun K hK => ?_)
      have HK := Lib.hid hK
      clear hK
      obtain ⟨hBA, hSB, hFS, eA, eB, eS, eF, e1⟩ := HI.out
      clear eA eB eS eF e1 hBA hSB hFS
      go_simp
      refine (HB.out _ HK1.out.b).mono ?_
      rintro e w1 ⟨v, rfl, hv, ho⟩
      go_wp2_with fail
      obtain ⟨hBA, hSB, hFS, eA, eB, eS, eF, e1⟩ := HI.out
      have hn := HN.out
      have hk := HK1.out.below ho
      refine HK.out _ _ ⟨hk, true, true, dS, dF, d1, vA, _, vS, vF, v1, b4, ?_, rfl, rfl, ?_, ?_, ?_, fun h => (eA (by first | exact h | trivial)).below ho, fun _ => hv, fun h => (eS (by first | exact h | trivial)).below ho, fun h => (eF (by first | exact h | trivial)).below ho, fun h => ⟨(e1 h).1, (e1 h).2.1.below ho (e1 h).2.1.lt, (e1 h).2.2⟩, hk⟩
      · omega
      all_goals simp_all
    · refine wpOp_step (o := { dst := some 58, op := Op.buildSlice 88 2 #[(0, Operand.tmp 50), (1, Operand.tmp 57)], type := 88, pos := "ref.go:115", after := #[{ on := 6, ground := Ground.data }, { on := 13, ground := Ground.data }], guard := none }) rfl (fun K hK => ?_)
      have HK := Lib.hid hK
      clear hK
      obtain ⟨hBA, hSB, hFS, eA, eB, eS, eF, e1⟩ := HI.out
      have f1 := eA (hBA rfl)
      have f2 := eB rfl
      obtain ⟨c1, a1, n1, k1, rfl⟩ := f1.form
      obtain ⟨c2, a2, n2, k2, rfl⟩ := f2.form
      have F1 := Lib.hid f1
      have F2 := Lib.hid f2
      clear eA eB eS eF e1 hBA hSB hFS f1 f2
      go_simp
      obtain ⟨hBA, hSB, hFS, eA, eB, eS, eF, e1⟩ := HI.out
      have ho := (Below.refl w'.heap.size w').alloc (Nat.le_refl _) (.cells #[.int .i64 c1, .slice a1 n1 k1, .int .i64 c2, .slice a2 n2 k2] 51)
      have htwo : TwoErrs (.slice (some ⟨w'.heap.size, 0, none⟩) 2 2) x1 x2 (w'.alloc (.cells #[.int .i64 c1, .slice a1 n1 k1, .int .i64 c2, .slice a2 n2 k2] 51)) := ⟨_, _, _, _, _, _, _, _, _, rfl, Cells.new w' 51 [.int .i64 c1, .slice a1 n1 k1, .int .i64 c2, .slice a2 n2 k2], F1.out.below ho, F2.out.below ho⟩
      have hn := HN.out
      have hk := HK1.out.below ho
      refine HK.out _ _ ⟨hk, dA, true, true, dF, d1, _, _, _, vF, v1, b4, ?_, rfl, rfl, ?_, ?_, ?_, fun h => (eA (by first | exact h | trivial)).below ho, fun h => (eB (by first | exact h | trivial)).below ho, fun _ => htwo, fun h => (eF (by first | exact h | trivial)).below ho, fun h => ⟨(e1 h).1, (e1 h).2.1.below ho (e1 h).2.1.lt, (e1 h).2.2⟩, hk⟩
      · omega
      all_goals simp_all
    · refine wpOp_step (o := { dst := some 59, op := Op.call { callee := Callee.value (Operand.func 41), args := #[Operand.tmp 58], argTypes := #[88] }, type := 51, pos := "ref.go:115", after := #[{ on := 14, ground := Ground.data }, { on := 13, ground := Ground.chain }], guard := none }) rfl (fun K hK => ?_)
      have HK := Lib.hid hK
      clear hK
      obtain ⟨hBA, hSB, hFS, eA, eB, eS, eF, e1⟩ := HI.out
      clear eA eB eS eF e1 hBA hSB hFS
      go_simp
      refine (HF.out _ _ (HI.out.2.2.2.2.2.1 rfl)).mono ?_
      rintro e w1 ⟨v, rfl, hv, ho⟩
      go_wp2_with fail
      obtain ⟨hBA, hSB, hFS, eA, eB, eS, eF, e1⟩ := HI.out
      have hn := HN.out
      have hk := HK1.out.below ho
      refine HK.out _ _ ⟨hk, dA, dB, true, true, d1, vA, vB, vS, _, v1, b4, ?_, rfl, rfl, ?_, ?_, ?_, fun h => (eA (by first | exact h | trivial)).below ho, fun h => (eB (by first | exact h | trivial)).below ho, fun h => (eS (by first | exact h | trivial)).below ho, fun _ => hv, fun h => ⟨(e1 h).1, (e1 h).2.1.below ho (e1 h).2.1.lt, (e1 h).2.2⟩, hk⟩
      · omega
      all_goals simp_all
    · refine wpOp_step (o := { dst := some 4, op := Op.alloc 51, type := 0, pos := "ref.go:115", after := #[], guard := none }) rfl (fun K hK => ?_)
      have HK := Lib.hid hK
      clear hK
      obtain ⟨hBA, hSB, hFS, eA, eB, eS, eF, e1⟩ := HI.out
      clear eA eB eS eF e1 hBA hSB hFS
      go_simp
      obtain ⟨hBA, hSB, hFS, eA, eB, eS, eF, e1⟩ := HI.out
      have ho := (Below.refl w'.heap.size w').alloc (Nat.le_refl _) (.cells #[.int .i64 0, .slice none 0 0] 51)
      have hn := HN.out
      have hk := HK1.out.below ho
      refine HK.out _ _ ⟨hk, dA, dB, dS, dF, true, vA, vB, vS, vF, _, w'.heap.size, ?_, rfl, rfl, ?_, ?_, ?_, fun h => (eA (by first | exact h | trivial)).below ho, fun h => (eB (by first | exact h | trivial)).below ho, fun h => (eS (by first | exact h | trivial)).below ho, fun h => (eF (by first | exact h | trivial)).below ho, fun _ => ⟨rfl, Cells.new w' 51 errZero, HK1.out.r.lt⟩, hk⟩
      · omega
      all_goals simp_all
end Go.Proofs.Ytjbphoophgbmiaa

/- The reference's look at a hierarchy: the whole. -/
namespace Go.Proofs.Ytjbphoophgbmiaa
open Go.ChangeShapes Go.WideShapes Go.ChangeAt Go.RowKit Go.Joins Go.Deep

theorem firstsGo_pos (l : List Nat) : ∀ k, (firstsGo l k).pos := by
  intro k
  induction k with
  | zero => simp [firstsGo, EV.pos]
  | succ k ih =>
    unfold firstsGo
    split
    · split <;> simp [EV.pos]
    · exact ih
theorem firstsErr_pos (l : List Nat) (n : Nat) : (firstsErr l n).pos := by
  unfold firstsErr
  split
  · simp [EV.pos]
  · split
    · split <;> simp [EV.pos]
    · exact firstsGo_pos _ _
set_option linter.unusedSimpArgs false in
set_option maxRecDepth 100000 in
set_option maxHeartbeats 8000000 in
theorem doc_firsts {s0 s4 s5 s6 s7 s8 s9 s10 s11 s12 s13 s14 s15 s16 s17 s18 s19 s20 s21 s22 s23 s24 s25 s26 s27 s28 s29 s30 s31 s32 s33 s34 s35 s36 s37 s38 s39 s40 s41 s42 s43 s44 s45 s46 s47 s48 s49 s50 s51 s52 s53 s54 s55 s56 s57 s58 s59 s60 s61 s62 s63 s64 s65 s66 s67 s68 s69 s70 s71 s72 s73 s74 s75 s76 s77 s78 s79 s80 s81 s82 s83 s84 s85 s86 s87 s88 s89 s90 s91 s92 s93 s94 s95 s96 s97 s98 s99 s100 s101 s102 s103 s104 s105 s106 : Value} {A : HA} {h : HierD} {w wx : World} {E : EV} (k : DK A h w wx) (see : HSee w A h) (fits : Fits h) (hk1 : h.up.length ≤ 140737488355328) (hk2 : h.dn.length ≤ 140737488355328)
    (hE : E = checkErr h) : Code.wp Try.prog (tailAt 3 docBody) (bodyPost Try.prog Try.f38 (ErrNew E w)) ⟨#[s0, .pointer (some ⟨w.heap.size, 0, none⟩), .pointer (some ⟨(w.heap.size + 1), 0, none⟩), .int .i64 (h.node.length : Nat), s4, s5, s6, s7, s8, s9, s10, s11, s12, s13, s14, s15, s16, s17, s18, s19, s20, s21, s22, s23, s24, s25, s26, s27, s28, s29, s30, s31, s32, s33, s34, s35, s36, s37, s38, s39, s40, s41, s42, s43, s44, s45, s46, s47, s48, s49, s50, s51, s52, s53, s54, s55, s56, s57, s58, s59, s60, s61, s62, s63, s64, s65, s66, s67, s68, s69, s70, s71, s72, s73, s74, s75, s76, s77, s78, s79, s80, s81, s82, s83, s84, s85, s86, s87, s88, s89, s90, s91, s92, s93, s94, s95, s96, s97, s98, s99, s100, s101, s102, s103, s104, s105, s106], []⟩ wx := by
  conv => arg 2; whnf
  apply wp_seq_k
  intro KK hK
  change Code.wp _ ((regionAt 6 docBody).getD .skip) _ _ _
  refine reg6 _ _ _ _ _ _ _ _ _ _ _ _ _ _ _ _ _ _ _ _ _ _ _ _ _ _ _ _ _ _ _ _ _ _ _ _ _ _ _ _ _ _ _ _ _ _ _ _ _ _ _ _ _ _ _ _ _ _ _ _ _ _ _ _ _ _ _ _ _ _ _ _ _ _ _ _ _ _ _ _ _ _ _ _ _ _ _ _ _ _ _ _ _ _ _ _ _ _ _ _ _ _ _ _ (x1 := firstsErr h.upF h.up.length) (x2 := firstsErr h.dnF h.dn.length) (x := if (firstsErr h.upF h.up.length).isNil = true then firstsErr h.dnF h.dn.length else firstsErr h.upF h.up.length) _ k (fun _ _ t _ _ hq => by cases t <;> exact hq) ?_ ?_ ?_ ?_
  · intro w' hb
    exact rfirsts_any h.upF A.a1 A.c1 h.node.length h.up.length w' (see.upF.below hb) see.bu fits.u fits.n hk1
  · intro w' hb
    exact rfirsts_any h.dnF A.a3 A.c3 h.node.length h.dn.length w' (see.dnF.below hb) see.bd fits.d fits.n hk2
  · intro v w' t
    obtain ⟨b, c1, c2, a1, a2, n1, k1, n2, k2, rfl, hc, h1, h2⟩ := t
    exact rfirst_any b w' hc h1 h2 (firstsErr_pos _ _) (firstsErr_pos _ _) rfl
  · intro b4 uc ua un ucap t44 t45 t46 t47 t48 t49 t50 t51 t52 t53 t54 t55 t56 t57 t58 t59 w' hc hv hd
    try dsimp only [Exit.then]
    refine hK _ _ ?_
    change Code.wp _ (tailAt 4 docBody) _ _ _
    have hpos : (if (firstsErr h.upF h.up.length).isNil = true then firstsErr h.dnF h.dn.length else firstsErr h.upF h.up.length).pos := by split <;> exact firstsErr_pos _ _
    refine doc_bad hd see fits hc hv hpos ?_ ?_
    · intro hne
      rw [hE, fits.err]
      cases e1 : firstsErr h.upF h.up.length with
      | nil =>
        simp only [e1, EV.isNil, if_true] at hne ⊢
        cases e2 : firstsErr h.dnF h.dn.length with
        | nil => exact absurd e2 hne
        | code n => rfl
        | «at» a b c => rfl
      | code n => simp only [EV.isNil]; rfl
      | «at» a b c => simp only [EV.isNil]; rfl
    · intro he
      have e1 : firstsErr h.upF h.up.length = .nil := by
        cases e1 : firstsErr h.upF h.up.length with
        | nil => rfl
        | code n => rw [e1] at he; simp [EV.isNil] at he
        | «at» a b c => rw [e1] at he; simp [EV.isNil] at he
      rw [e1] at he
      simp only [EV.isNil, if_true] at he
      refine ⟨firsts_nil fits.u e1, firsts_nil fits.d he, fun e3 => ?_, fun e3 => ?_⟩
      · rw [hE, fits.err, e1, he, e3]
      · rw [hE, fits.err, e1, he]
        cases e4 : orderErr h.node with
        | nil => exact absurd e4 e3
        | code n => rfl
        | «at» a b c => rfl

set_option linter.unusedSimpArgs false in
set_option maxRecDepth 100000 in
set_option maxHeartbeats 8000000 in
theorem doc_switch {s0 s4 s5 s6 s7 s8 s9 s10 s11 s12 s13 s14 s15 s16 s17 s18 s19 s20 s21 s22 s23 s24 s25 s26 s27 s28 s29 s30 s31 s32 s33 s34 s35 s36 s37 s38 s39 s40 s41 s42 s43 s44 s45 s46 s47 s48 s49 s50 s51 s52 s53 s54 s55 s56 s57 s58 s59 s60 s61 s62 s63 s64 s65 s66 s67 s68 s69 s70 s71 s72 s73 s74 s75 s76 s77 s78 s79 s80 s81 s82 s83 s84 s85 s86 s87 s88 s89 s90 s91 s92 s93 s94 s95 s96 s97 s98 s99 s100 s101 s102 s103 s104 s105 s106 : Value} {A : HA} {h : HierD} {w wx : World} {E : EV} (k : DK A h w wx) (see : HSee w A h) (hk1 : h.up.length ≤ 140737488355328) (hk2 : h.dn.length ≤ 140737488355328) (hn64 : h.node.length ≤ 140737488355328)
    (hE : E = checkErr h) : Code.wp Try.prog (tailAt 2 docBody) (bodyPost Try.prog Try.f38 (ErrNew E w)) ⟨#[s0, .pointer (some ⟨w.heap.size, 0, none⟩), .pointer (some ⟨(w.heap.size + 1), 0, none⟩), .int .i64 (h.node.length : Nat), s4, s5, s6, s7, s8, s9, s10, s11, s12, s13, s14, s15, s16, s17, s18, s19, s20, s21, s22, s23, s24, s25, s26, s27, s28, s29, s30, s31, s32, s33, s34, s35, s36, s37, s38, s39, s40, s41, s42, s43, s44, s45, s46, s47, s48, s49, s50, s51, s52, s53, s54, s55, s56, s57, s58, s59, s60, s61, s62, s63, s64, s65, s66, s67, s68, s69, s70, s71, s72, s73, s74, s75, s76, s77, s78, s79, s80, s81, s82, s83, s84, s85, s86, s87, s88, s89, s90, s91, s92, s93, s94, s95, s96, s97, s98, s99, s100, s101, s102, s103, s104, s105, s106], []⟩ wx := by
  have K := Lib.hid k
  have SEE := Lib.hid see
  have HE := Lib.hid hE
  obtain ⟨k0, k1, k2, k3, k4⟩ := hier_five k.x
  clear k see hE
  conv => arg 2; whnf
  apply wp_seq_k
  intro KK hK
  have HKK := Lib.hid hK
  clear hK
  by_cases h1 : 65536 < h.node.length
  · have hd : decide (65536 < h.node.length) = true := by simpa using h1
    have hd' : decide ((65536 : Int) < (h.node.length : Int)) = true := by simp; omega
    have HER := Lib.hid (show E = .code 9 by rw [HE.out]; unfold checkErr; rw [if_pos (.inl h1)])
    clear h1 HE
    go_wp2_with fail
    refine (e_any 9 _).mono ?_
    rintro e w1 ⟨v, rfl, hv, hb⟩
    obtain rfl : v = _ := hv
    have K1 := Lib.hid (K.out.below hb)
    clear hb k0 k1 k2 k3 k4
    have z0 : w1.cell? ⟨w.heap.size + 1, 0, none⟩ = some (.int .i64 0) := K1.out.r.cell rfl
    have z1 : w1.cell? ⟨w.heap.size + 1, 1, none⟩ = some (.slice none 0 0) := K1.out.r.cell rfl
    have g0 := K1.out.r.frozen 0
    have g1 := K1.out.r.frozen 1
    have lr := K1.out.r.lt
    go_wp2
    refine bodyPost_ret (results_e rfl _ _ (w.heap.size + 1) 51 [.int .i64 9, .slice none 0 0] _ rfl ((K1.out.r.set 0 _).set 1 _) Try.underlying51 rfl (by rw [Try.sizeErr]; rfl)) rfl ?_
    rw [HER.out]
    exact ⟨_, rfl, rfl, (K1.out.b.setCell (p := ⟨w.heap.size + 1, 0, none⟩) (by simp) _).setCell (p := ⟨w.heap.size + 1, 1, none⟩) (by simp) _⟩
  have hd : decide (65536 < h.node.length) = false := by simpa using h1
  have hd' : decide ((65536 : Int) < (h.node.length : Int)) = false := by simp; omega
  have hwe : wrap64 ((h.up.length : Int) + (h.dn.length : Int)) = (h.up.length : Int) + (h.dn.length : Int) := IntWalk.wrap64_in _ (by omega)
  by_cases h2 : 1048576 < wrap64 ((h.up.length : Int) + (h.dn.length : Int))
  · have hd2 : decide ((1048576 : Int) < (h.up.length : Int) + (h.dn.length : Int)) = true := by rw [hwe] at h2; simpa using h2
    have HER := Lib.hid (show E = .code 9 by rw [HE.out]; unfold checkErr; rw [if_pos (.inr h2)])
    clear h1 h2 hwe HE
    go_wp2_with fail
    refine (e_any 9 _).mono ?_
    rintro e w1 ⟨v, rfl, hv, hb⟩
    obtain rfl : v = _ := hv
    have K1 := Lib.hid (K.out.below hb)
    clear hb k0 k1 k2 k3 k4
    have z0 : w1.cell? ⟨w.heap.size + 1, 0, none⟩ = some (.int .i64 0) := K1.out.r.cell rfl
    have z1 : w1.cell? ⟨w.heap.size + 1, 1, none⟩ = some (.slice none 0 0) := K1.out.r.cell rfl
    have g0 := K1.out.r.frozen 0
    have g1 := K1.out.r.frozen 1
    have lr := K1.out.r.lt
    go_wp2
    refine bodyPost_ret (results_e rfl _ _ (w.heap.size + 1) 51 [.int .i64 9, .slice none 0 0] _ rfl ((K1.out.r.set 0 _).set 1 _) Try.underlying51 rfl (by rw [Try.sizeErr]; rfl)) rfl ?_
    rw [HER.out]
    exact ⟨_, rfl, rfl, (K1.out.b.setCell (p := ⟨w.heap.size + 1, 0, none⟩) (by simp) _).setCell (p := ⟨w.heap.size + 1, 1, none⟩) (by simp) _⟩
  have hd2 : decide ((1048576 : Int) < (h.up.length : Int) + (h.dn.length : Int)) = false := by rw [hwe] at h2; simpa using h2
  by_cases h3 : h.upF.length = h.node.length + 1
  case neg =>
    have g1 : ((h.upF.length : Int) != (h.node.length : Int) + 1) = true := by simp; omega
    have HER := Lib.hid (show E = .code 14 by rw [HE.out]; unfold checkErr; rw [if_neg (by omega), if_pos (.inl h3)])
    clear h1 h2 h3 hwe HE
    go_wp2_with fail
    refine (e_any 14 _).mono ?_
    rintro e w1 ⟨v, rfl, hv, hb⟩
    obtain rfl : v = _ := hv
    have K1 := Lib.hid (K.out.below hb)
    clear hb k0 k1 k2 k3 k4
    have z0 : w1.cell? ⟨w.heap.size + 1, 0, none⟩ = some (.int .i64 0) := K1.out.r.cell rfl
    have z1 : w1.cell? ⟨w.heap.size + 1, 1, none⟩ = some (.slice none 0 0) := K1.out.r.cell rfl
    have g0 := K1.out.r.frozen 0
    have g1 := K1.out.r.frozen 1
    have lr := K1.out.r.lt
    go_wp2
    refine bodyPost_ret (results_e rfl _ _ (w.heap.size + 1) 51 [.int .i64 14, .slice none 0 0] _ rfl ((K1.out.r.set 0 _).set 1 _) Try.underlying51 rfl (by rw [Try.sizeErr]; rfl)) rfl ?_
    rw [HER.out]
    exact ⟨_, rfl, rfl, (K1.out.b.setCell (p := ⟨w.heap.size + 1, 0, none⟩) (by simp) _).setCell (p := ⟨w.heap.size + 1, 1, none⟩) (by simp) _⟩
  have g1 : ((h.upF.length : Int) != (h.node.length : Int) + 1) = false := by simp; omega
  by_cases h4 : h.dnF.length = h.node.length + 1
  case neg =>
    have g2 : ((h.dnF.length : Int) != (h.node.length : Int) + 1) = true := by simp; omega
    have HER := Lib.hid (show E = .code 14 by rw [HE.out]; unfold checkErr; rw [if_neg (by omega), if_pos (.inr h4)])
    clear h1 h2 h3 h4 hwe HE
    go_wp2_with fail
    refine (e_any 14 _).mono ?_
    rintro e w1 ⟨v, rfl, hv, hb⟩
    obtain rfl : v = _ := hv
    have K1 := Lib.hid (K.out.below hb)
    clear hb k0 k1 k2 k3 k4
    have z0 : w1.cell? ⟨w.heap.size + 1, 0, none⟩ = some (.int .i64 0) := K1.out.r.cell rfl
    have z1 : w1.cell? ⟨w.heap.size + 1, 1, none⟩ = some (.slice none 0 0) := K1.out.r.cell rfl
    have g0 := K1.out.r.frozen 0
    have g1 := K1.out.r.frozen 1
    have lr := K1.out.r.lt
    go_wp2
    refine bodyPost_ret (results_e rfl _ _ (w.heap.size + 1) 51 [.int .i64 14, .slice none 0 0] _ rfl ((K1.out.r.set 0 _).set 1 _) Try.underlying51 rfl (by rw [Try.sizeErr]; rfl)) rfl ?_
    rw [HER.out]
    exact ⟨_, rfl, rfl, (K1.out.b.setCell (p := ⟨w.heap.size + 1, 0, none⟩) (by simp) _).setCell (p := ⟨w.heap.size + 1, 1, none⟩) (by simp) _⟩
  have g2 : ((h.dnF.length : Int) != (h.node.length : Int) + 1) = false := by simp; omega
  have FITS := Lib.hid (show Fits h from ⟨by omega, by omega, h3, h4⟩)
  clear h1 h2 h3 h4 hwe
  go_wp2_with fail
  refine HKK.out _ _ ?_
  change Code.wp _ (tailAt 3 docBody) _ _ _
  exact doc_firsts K.out SEE.out FITS.out hk1 hk2 HE.out

set_option linter.unusedSimpArgs false in
set_option maxRecDepth 100000 in
set_option maxHeartbeats 8000000 in
/-- **The reference's Check.** -/
theorem rdoccheck_any (A : HA) (h : HierD) (w : World) (see : HSee w A h) (hk1 : h.up.length ≤ 140737488355328) (hk2 : h.dn.length ≤ 140737488355328) (hn64 : h.node.length ≤ 140737488355328) :
    Calls Try.prog 38 #[hierVal A h] w (ErrNew (checkErr h) w) := by
  have SEE := Lib.hid see
  have hb0 := ((Below.refl w.heap.size w).alloc (Nat.le_refl _) (.cells (hierCells A h).toArray 25)).alloc (by simp) (.cells errZero.toArray 51)
  have K := Lib.hid (DK.mk (A := A) (h := h) ((Cells.new w 25 (hierCells A h)).alloc (.cells errZero.toArray 51)) (cells_at (by simp) 51 errZero) hb0)
  clear see hb0
  unfold hierVal
  obtain ⟨E, hE⟩ : ∃ E, E = checkErr h := ⟨_, rfl⟩
  rw [← hE]
  have HE := Lib.hid hE
  clear hE
  go_enter Try.func38, Try.ntmps38
  apply wp_seq_k
  intro K1 hK
  have HK1 := Lib.hid hK
  clear hK
  go_wp2_with fail
  obtain ⟨wz, hwz⟩ : ∃ wz, (w.alloc (.cells (hierCells A h).toArray 25)).alloc (.cells errZero.toArray 51) = wz := ⟨_, rfl⟩
  have K2 := K.out
  rw [hwz] at K2
  try rw [show (w.alloc (.cells #[.slice A.a0 h.node.length A.c0, .slice A.a1 h.upF.length A.c1, .slice A.a2 h.up.length A.c2, .slice A.a3 h.dnF.length A.c3, .slice A.a4 h.dn.length A.c4] 25)).alloc (.cells #[.int .i64 0, .slice none 0 0] 51) = wz from hwz]
  have K3 := Lib.hid K2
  obtain ⟨k0, k1, k2, k3, k4⟩ := hier_five K2.x
  clear K2 hwz K
  refine HK1.out _ _ ?_
  apply wp_seq_k
  intro K4 hK
  have HK4 := Lib.hid hK
  clear hK
  go_wp2_with fail
  refine HK4.out _ _ ?_
  change Code.wp _ (tailAt 2 docBody) _ _ _
  exact doc_switch K3.out SEE.out hk1 hk2 hn64 HE.out
end Go.Proofs.Ytjbphoophgbmiaa

/- The reference's look at two nodes. -/
namespace Go.Proofs.Ytjbphoophgbmiaa
open Go.ChangeShapes Go.WideShapes Go.ChangeAt Go.RowKit Go.Joins Go.Deep

end Go.Proofs.Ytjbphoophgbmiaa

/- The reference's Meet: the end, the loop over the ranks. -/
namespace Go.Proofs.Ytjbphoophgbmiaa
open Go.ChangeShapes Go.WideShapes Go.ChangeAt Go.RowKit Go.Joins Go.Deep

/-- Three results, the last of which lies in a block of its own. -/
theorem results_tte {P : Program} {fn : Func} {p q r : Tmp} {ty : TypeId} (h : fn.results = #[.tmp p, .tmp q, .cell r ty]) (tmps : Array Value) (w : World) (g : Nat) (t : TypeId) (cs : List Value) (d : TypeDesc)
    (hp : tmps.getD r undef = .pointer (some ⟨g, 0, none⟩)) (hg : Cells w g t cs)
    (hu : P.underlying ty = some d) (hd : (match d with | .struct _ | .array _ _ => true | _ => false) = true) (hi : (P.info? ty).map (·.size) = some cs.length) :
    (results fn tmps).run P w = .ok (.tuple #[tmps.getD p undef, tmps.getD q undef, .agg cs.toArray]) w := by
  have hp' : tmps[r]?.getD undef = .pointer (some ⟨g, 0, none⟩) := by simpa using hp
  have hr := run_loadVar_row (P := P) w g t ty cs.toArray (0, 0) d hg hu hd (by simpa using hi)
  simp [results, h, hp', asAddr, hr]
theorem meetTo_none {D E : Nat → Option Int} {k : Nat} (h : D k = none ∨ E k = none) : meetTo D E (k + 1) = meetTo D E k :=
  meetTo_skip (m := k) 1 (fun q h1 h2 => by have e : q = k := by omega
                                            subst e; exact h)
noncomputable def meetBody : Code := Try.f58.body.getD .skip
def RMeetNew (h : HierD) (s t : Int) (w : World) (e : Ending) (w' : World) : Prop :=
  ∃ (r : Nat) (d : Int) (x : EV) (v : Value), e = .returned (.tuple #[.int .i64 (r : Nat), .int .u64 d, v]) ∧ ErrV w' v x ∧ MeetIs h s t r d x ∧ Below w.heap.size w w'

set_option linter.unusedSimpArgs false in
set_option maxRecDepth 100000 in
set_option maxHeartbeats 8000000 in
theorem meet_end {s0 s1 s2 s3 s4 s5 s6 s7 s9 s10 s13 s14 s15 s16 s17 s18 s19 s20 s21 s22 s23 s24 s25 s26 s27 s28 s29 s30 s31 s32 s33 s34 s35 s36 s37 s38 s39 s40 s41 s42 s43 s44 s45 s46 s47 s48 s49 s50 s51 s52 s53 s54 s55 s56 s57 s58 s59 s60 s61 s62 s63 s64 s65 s66 s67 s68 s69 s70 s71 : Value} {h : HierD} {s t : Int} {w wx : World} {r : Nat} {d : Int} (hr : Cells wx (w.heap.size + 1) 51 errZero) (hb : Below w.heap.size w wx)
    (hw : d ≠ 18446744073709551615 → MeetIs h s t r d .nil) (hn : d = 18446744073709551615 → MeetIs h s t 0 0 (.code 16)) : Code.wp Try.prog (tailAt 4 meetBody) (bodyPost Try.prog Try.f58 (RMeetNew h s t w)) ⟨#[s0, s1, s2, s3, s4, s5, s6, s7, .pointer (some ⟨(w.heap.size + 1), 0, none⟩), s9, s10, .int .u64 d, .int .i64 (r : Nat), s13, s14, s15, s16, s17, s18, s19, s20, s21, s22, s23, s24, s25, s26, s27, s28, s29, s30, s31, s32, s33, s34, s35, s36, s37, s38, s39, s40, s41, s42, s43, s44, s45, s46, s47, s48, s49, s50, s51, s52, s53, s54, s55, s56, s57, s58, s59, s60, s61, s62, s63, s64, s65, s66, s67, s68, s69, s70, s71], []⟩ wx := by
  have HR := Lib.hid hr
  have HB := Lib.hid hb
  have HW := Lib.hid hw
  have HN := Lib.hid hn
  clear hr hb hw hn
  conv => arg 2; whnf
  by_cases hd : d = 18446744073709551615
  · have e1 : (d == 18446744073709551615) = true := by simp [hd]
    have HM := Lib.hid (HN.out hd)
    clear hd HN HW
    go_wp2_with fail
    refine (e_any 16 _).mono ?_
    rintro e w1 ⟨v, rfl, hv, hb⟩
    obtain rfl : v = _ := hv
    have HR1 := Lib.hid (HR.out.below hb HR.out.lt)
    have HB1 := Lib.hid (HB.out.trans (hb.mono HB.out.size))
    clear hb HR HB
    have z0 : w1.cell? ⟨w.heap.size + 1, 0, none⟩ = some (.int .i64 0) := HR1.out.cell rfl
    have z1 : w1.cell? ⟨w.heap.size + 1, 1, none⟩ = some (.slice none 0 0) := HR1.out.cell rfl
    have g0 := HR1.out.frozen 0
    have g1 := HR1.out.frozen 1
    have lr := HR1.out.lt
    go_wp2
    refine bodyPost_ret (results_tte rfl _ _ (w.heap.size + 1) 51 [.int .i64 16, .slice none 0 0] _ rfl ((HR1.out.set 0 _).set 1 _) Try.underlying51 rfl (by rw [Try.sizeErr]; rfl)) rfl ?_
    exact ⟨0, 0, .code 16, _, rfl, rfl, HM.out, (HB1.out.setCell (p := ⟨w.heap.size + 1, 0, none⟩) (by simp) _).setCell (p := ⟨w.heap.size + 1, 1, none⟩) (by simp) _⟩
  · have e1 : (d == 18446744073709551615) = false := by simp [hd]
    have HM := Lib.hid (HW.out hd)
    clear hd HN HW
    have z0 : wx.cell? ⟨w.heap.size + 1, 0, none⟩ = some (.int .i64 0) := HR.out.cell rfl
    have z1 : wx.cell? ⟨w.heap.size + 1, 1, none⟩ = some (.slice none 0 0) := HR.out.cell rfl
    have g0 := HR.out.frozen 0
    have g1 := HR.out.frozen 1
    have lr := HR.out.lt
    go_wp2
    refine bodyPost_ret (results_tte rfl _ _ (w.heap.size + 1) 51 [.int .i64 0, .slice none 0 0] _ rfl ((HR.out.set 0 _).set 1 _) Try.underlying51 rfl (by rw [Try.sizeErr]; rfl)) rfl ?_
    exact ⟨r, d, .nil, _, rfl, rfl, HM.out, (HB.out.setCell (p := ⟨w.heap.size + 1, 0, none⟩) (by simp) _).setCell (p := ⟨w.heap.size + 1, 1, none⟩) (by simp) _⟩

set_option linter.unusedSimpArgs false in
set_option maxRecDepth 100000 in
set_option maxHeartbeats 8000000 in
theorem meet_loop {s0 s1 s2 s3 s4 s5 s6 s7 s11 s12 s13 s14 s15 s16 s17 s18 s19 s20 s21 s22 s23 s24 s25 s26 s27 s28 s29 s30 s31 s32 s33 s34 s35 s36 s37 s38 s39 s40 s41 s42 s43 s44 s45 s46 s47 s48 s49 s50 s51 s52 s53 s54 s55 s56 s57 s58 s59 s60 s61 s62 s63 s64 s65 s66 s67 s68 s69 s70 s71 : Value} {h : HierD} {s t : Int} {w wx : World} {ba bb : Nat} {D E : Nat → Option Int} (hr : Cells wx (w.heap.size + 1) 51 errZero) (hb : Below w.heap.size w wx)
    (ca : Cells wx ba 33 (distCells h.node.length D)) (cb : Cells wx bb 33 (distCells h.node.length E)) (hn : h.node.length ≤ 65536)
    (hD : ∀ r e, D r = some e → 0 ≤ e ∧ e ≤ r * 140737488355328) (hE : ∀ r e, E r = some e → 0 ≤ e ∧ e ≤ r * 140737488355328)
    (hw : ∀ r d, meetTo D E h.node.length = (r, d) → d ≠ 18446744073709551615 → MeetIs h s t r d .nil) (hnn : (meetTo D E h.node.length).2 = 18446744073709551615 → MeetIs h s t 0 0 (.code 16)) : Code.wp Try.prog (tailAt 2 meetBody) (bodyPost Try.prog Try.f58 (RMeetNew h s t w)) ⟨#[s0, s1, s2, s3, s4, s5, s6, s7, .pointer (some ⟨(w.heap.size + 1), 0, none⟩), .slice (some ⟨ba, 0, none⟩) h.node.length h.node.length, .slice (some ⟨bb, 0, none⟩) h.node.length h.node.length, s11, s12, s13, s14, s15, s16, s17, s18, s19, s20, s21, s22, s23, s24, s25, s26, s27, s28, s29, s30, s31, s32, s33, s34, s35, s36, s37, s38, s39, s40, s41, s42, s43, s44, s45, s46, s47, s48, s49, s50, s51, s52, s53, s54, s55, s56, s57, s58, s59, s60, s61, s62, s63, s64, s65, s66, s67, s68, s69, s70, s71], []⟩ wx := by
  have HR := Lib.hid hr
  have HB := Lib.hid hb
  have HW := Lib.hid hw
  have HN := Lib.hid hnn
  have HD := Lib.hid hD
  have HE := Lib.hid hE
  have CA := Lib.hid ca
  have CB := Lib.hid cb
  clear hr hb hw hnn hD hE ca cb
  conv => arg 2; whnf
  apply wp_seq_k
  intro K0 hK0
  have HK0 := Lib.hid hK0
  clear hK0
  go_wp2_with fail
  refine HK0.out _ _ ?_
  apply wp_seq_k
  intro KK hK
  have HKK := Lib.hid hK
  clear hK HK0
  go_wp2_with fail
  go_loopg [27, 11, 12] h.node.length (fun g vi v11 v12 wr => ∃ k : Nat, vi = .int .i64 k ∧ k ≤ h.node.length ∧ g = h.node.length - k ∧ v11 = .int .u64 (meetTo D E k).2 ∧ v12 = .int .i64 ((meetTo D E k).1 : Nat) ∧ Below wx.heap.size wx wr)
  case atStart => exact ⟨0, rfl, Nat.zero_le _, rfl, rfl, rfl, Below.refl _ _⟩
  case round =>
    obtain ⟨k, rfl, hk, hg, h11, h12, hbl⟩ := hrel
    obtain ⟨wo, rfl⟩ : ∃ wo : World, wo = wr := ⟨_, rfl⟩
    have hbd := meetTo_bnd (fun r d e => (HD.out r d e).1) (fun r d e => (HE.out r d e).1) k
    obtain ⟨⟨q, b⟩, hq⟩ : ∃ p, meetTo D E k = p := ⟨_, rfl⟩
    rw [hq] at h11 h12 hbd
    simp only at h11 h12 hbd
    subst h11 h12
    obtain ⟨hb1, hb2, hb3⟩ := hbd
    have HQ := Lib.hid hq
    have HG := Lib.hid hg
    have HBL := Lib.hid hbl
    clear hq hg hbl
    by_cases hlt : k < h.node.length
    · have a0 : wo.cell? ⟨ba, k, none⟩ = some (.int .u64 (farOf (D k))) := ck HBL.out (CA.out.cell (distCells_get hlt))
      have b0 : wo.cell? ⟨bb, k, none⟩ = some (.int .u64 (farOf (E k))) := ck HBL.out (CB.out.cell (distCells_get hlt))
      cases hDk : D k with
      | none =>
        have HST := Lib.hid (show meetTo D E (k + 1) = (q, b) from (meetTo_none (.inl hDk)).trans HQ.out)
        rw [hDk] at a0
        simp only [farOf] at a0
        clear hDk b0
        go_wp2_with fail
        go_quiet (fail)
        go_wp2_with fail
        go_roundg (h.node.length - (k + 1))
        case measure => rw [HG.out]; omega
        case rel => exact ⟨k + 1, by go_num, by omega, rfl, by rw [HST.out], by rw [HST.out], below_drewN HBL.out _⟩
      | some x =>
        have hx := HD.out k x hDk
        rw [hDk] at a0
        simp only [farOf] at a0
        have e1 : (x != 18446744073709551615) = true := by simp; omega
        cases hEk : E k with
        | none =>
          have HST := Lib.hid (show meetTo D E (k + 1) = (q, b) from (meetTo_none (.inr hEk)).trans HQ.out)
          rw [hEk] at b0
          simp only [farOf] at b0
          clear hDk hEk hx
          go_wp2_with fail
          go_quiet (fail)
          go_wp2_with fail
          go_roundg (h.node.length - (k + 1))
          case measure => rw [HG.out]; omega
          case rel => exact ⟨k + 1, by go_num, by omega, rfl, by rw [HST.out], by rw [HST.out], below_drewN HBL.out _⟩
        | some y =>
          have hy := HE.out k y hEk
          rw [hEk] at b0
          simp only [farOf] at b0
          have e2 : (y != 18446744073709551615) = true := by simp; omega
          have u1 : IntKind.u64.wrap (x + y) = x + y := IntWalk.u64_in _ (by omega)
          have hst := meetTo_step hDk hEk
          rw [HQ.out] at hst
          simp only at hst
          by_cases hl : x + y < b
          · have e3 : decide (x + y < b) = true := by simpa using hl
            rw [if_pos hl] at hst
            have HST := Lib.hid hst
            clear hDk hEk hx hy hst hl
            go_wp2_with fail
            go_quiet (fail)
            have a1 : (wo.drewN nq).cell? ⟨ba, k, none⟩ = some (.int .u64 x) := by simpa using a0
            have b1 : (wo.drewN nq).cell? ⟨bb, k, none⟩ = some (.int .u64 y) := by simpa using b0
            obtain ⟨wz, hwz⟩ : ∃ wz, wo.drewN nq = wz := ⟨_, rfl⟩
            have HBZ := Lib.hid (show Below wx.heap.size wx wz by rw [← hwz]; exact below_drewN HBL.out _)
            rw [hwz] at a1 b1 ⊢
            clear hwz a0 b0 HBL
            go_wp2_with fail
            go_quiet (fail)
            go_wp2_with fail
            go_roundg (h.node.length - (k + 1))
            case measure => rw [HG.out]; omega
            case rel => exact ⟨k + 1, by go_num, by omega, rfl, by rw [HST.out], by rw [HST.out], below_drewN HBZ.out _⟩
          · have e3 : decide (x + y < b) = false := by simpa using hl
            rw [if_neg hl] at hst
            have HST := Lib.hid hst
            clear hDk hEk hx hy hst hl
            go_wp2_with fail
            go_quiet (fail)
            go_wp2_with fail
            go_roundg (h.node.length - (k + 1))
            case measure => rw [HG.out]; omega
            case rel => exact ⟨k + 1, by go_num, by omega, rfl, by rw [HST.out], by rw [HST.out], below_drewN HBL.out _⟩
    · obtain rfl : k = h.node.length := by omega
      go_wp2_with fail
      refine HKK.out _ _ ?_
      change Code.wp _ (tailAt 4 meetBody) _ _ _
      exact meet_end (HR.out.below HBL.out HR.out.lt) (HB.out.trans (HBL.out.mono HB.out.size)) (HW.out q b HQ.out) (fun e => HN.out (by rw [HQ.out]; exact e))
end Go.Proofs.Ytjbphoophgbmiaa

/- The reference's Meet and DocMeet. -/
namespace Go.Proofs.Ytjbphoophgbmiaa
open Go.ChangeShapes Go.WideShapes Go.ChangeAt Go.RowKit Go.Joins Go.Deep

theorem rrank_lit (A : HA) (h : HierD) (v : Nat) (w : World) (see : HSee w A h) (hv : v ∈ h.node) (hn : h.node.length ≤ 65536) : Calls Try.prog 68 #[.agg #[.slice A.a0 h.node.length A.c0, .slice A.a1 h.upF.length A.c1, .slice A.a2 h.up.length A.c2, .slice A.a3 h.dnF.length A.c3, .slice A.a4 h.dn.length A.c4], .int .i64 v] w (IntIs (h.node.idxOf v) w) := rrank_any A h v w see hv hn
theorem rdists_lit (A : HA) (h : HierD) (s : Nat) (w : World) (see : HSee w A h) (u : FirstsOk h.node.length h.upF h.up.length) (ok : HalfOk h.node.length h.upF h.up) (hn : h.node.length ≤ 65536) (hu : h.up.length ≤ 1048576) (hs : s < h.node.length) :
    Calls Try.prog 67 #[.agg #[.slice A.a0 h.node.length A.c0, .slice A.a1 h.upF.length A.c1, .slice A.a2 h.up.length A.c2, .slice A.a3 h.dnF.length A.c3, .slice A.a4 h.dn.length A.c4], .int .i64 s] w (DistNew h.node.length (distsK h.upF h.up s h.node.length) w) := rdists_any A h s w see u ok hn hu hs
theorem rturn_lit (A : HA) (h : HierD) (w : World) (see : HSee w A h) (hr : Reach5 h) (htot : h.up.length + h.dn.length ≤ 1048576) : Calls Try.prog 69 #[.agg #[.slice A.a0 h.node.length A.c0, .slice A.a1 h.upF.length A.c1, .slice A.a2 h.up.length A.c2, .slice A.a3 h.dnF.length A.c3, .slice A.a4 h.dn.length A.c4]] w (HierNew (turnD h) w) := rturn_any A h w see hr htot
theorem rdists_turn (A : HA) (h : HierD) (s : Nat) (w : World) (see : HSee w A (turnD h)) (u : FirstsOk (turnD h).node.length (turnD h).upF (turnD h).up.length) (ok : HalfOk (turnD h).node.length (turnD h).upF (turnD h).up) (hn : h.node.length ≤ 65536) (hu : h.dn.length ≤ 1048576) (hs : s < h.node.length) :
    Calls Try.prog 67 #[hierVal A (turnD h), .int .i64 s] w (DistNew h.node.length (distsK h.dnF (h.dn.map (turnLink h.up.length h.dn.length)) s h.node.length) w) := rdists_any A (turnD h) s w see u ok hn (by simpa [turnD] using hu) hs
set_option linter.unusedSimpArgs false in
set_option maxRecDepth 100000 in
set_option maxHeartbeats 8000000 in
theorem meet_calls {s0 s4 s5 s6 s7 s9 s10 s11 s12 s13 s14 s15 s16 s17 s18 s19 s20 s21 s22 s23 s24 s25 s26 s27 s28 s29 s30 s31 s32 s33 s34 s35 s36 s37 s38 s39 s40 s41 s42 s43 s44 s45 s46 s47 s48 s49 s50 s51 s52 s53 s54 s55 s56 s57 s58 s59 s60 s61 s62 s63 s64 s65 s66 s67 s68 s69 s70 s71 : Value} {A : HA} {h : HierD} {s t : Nat} {w wx : World} (k : DK A h w wx) (see : HSee w A h) (hc : checkErr h = .nil) (htot : h.up.length + h.dn.length ≤ 1048576) (hs : s < h.node.length) (ht : t < h.node.length) :
    Code.wp Try.prog (tailAt 1 meetBody) (bodyPost Try.prog Try.f58 (RMeetNew h s t w)) ⟨#[s0, .int .i64 (s : Nat), .int .i64 (t : Nat), .pointer (some ⟨w.heap.size, 0, none⟩), s4, s5, s6, s7, .pointer (some ⟨(w.heap.size + 1), 0, none⟩), s9, s10, s11, s12, s13, s14, s15, s16, s17, s18, s19, s20, s21, s22, s23, s24, s25, s26, s27, s28, s29, s30, s31, s32, s33, s34, s35, s36, s37, s38, s39, s40, s41, s42, s43, s44, s45, s46, s47, s48, s49, s50, s51, s52, s53, s54, s55, s56, s57, s58, s59, s60, s61, s62, s63, s64, s65, s66, s67, s68, s69, s70, s71], []⟩ wx := by
  have hp := checkErr_parts hc
  have hcT := turn_ok hc htot
  have hpT := checkErr_parts hcT
  have hn := hp.1.n
  have ord := order_nil hp.2.2.2.1
  have u := firsts_nil hp.1.u hp.2.1
  have uT := firsts_nil hpT.1.u hpT.2.1
  have ok := half_up hc
  have okT := half_up hcT
  have okD := half_dn hc
  have hms := ord.mem s hs
  have hmt := ord.mem t ht
  have his : h.node.idxOf s < h.node.length := List.idxOf_lt_length_of_mem hms
  have hit : h.node.idxOf t < h.node.length := List.idxOf_lt_length_of_mem hmt
  have hreach : Reach5 h := ⟨by omega, by have := hp.1.u; omega, by omega, by have := hp.1.d; omega, by omega⟩
  have hkk : nodesErr h.node.length (s : Nat) (t : Nat) = .nil := nodesErr_nil.2 ⟨⟨by omega, by omega⟩, by omega, by omega⟩
  have hu20 : h.up.length ≤ 1048576 := by omega
  have hd20 : h.dn.length ≤ 1048576 := by omega
  have K := Lib.hid k
  have SEE := Lib.hid see
  have HC := Lib.hid hc
  have HKN := Lib.hid hkk
  have UOK := Lib.hid u
  have UT := Lib.hid uT
  have OK := Lib.hid ok
  have OKT := Lib.hid okT
  have OKD := Lib.hid okD
  have HMS := Lib.hid hms
  have HMT := Lib.hid hmt
  have HRE := Lib.hid hreach
  obtain ⟨is, hie⟩ : ∃ is, h.node.idxOf s = is := ⟨_, rfl⟩
  obtain ⟨it, hje⟩ : ∃ it, h.node.idxOf t = it := ⟨_, rfl⟩
  rw [hie] at his
  rw [hje] at hit
  have HIE := Lib.hid hie
  have HJE := Lib.hid hje
  obtain ⟨k0, k1, k2, k3, k4⟩ := hier_five k.x
  clear k see hc hkk u uT ok okT okD hms hmt hreach hp hpT hcT ord hie hje
  conv => arg 2; whnf
  apply wp_seq_k
  intro KK hK
  have HKK := Lib.hid hK
  clear hK
  go_region_held3 (fun W => W.cell? ⟨w.heap.size, 0, none⟩ = some (.slice A.a0 h.node.length A.c0) ∧ W.cell? ⟨w.heap.size, 1, none⟩ = some (.slice A.a1 h.upF.length A.c1) ∧ W.cell? ⟨w.heap.size, 2, none⟩ = some (.slice A.a2 h.up.length A.c2) ∧ W.cell? ⟨w.heap.size, 3, none⟩ = some (.slice A.a3 h.dnF.length A.c3) ∧ W.cell? ⟨w.heap.size, 4, none⟩ = some (.slice A.a4 h.dn.length A.c4)) (go_keep)
    (first
    | (go_at_call 68; (with_reducible refine (rrank_lit A h s _ ?_ HMS.out hn).mono ?_); exact (SEE.out.below K.out.b.drew); rintro e w1 ⟨rfl, h1⟩; rw [HIE.out]; (have a0 := ck h1 k0); (have a1 := ck h1 k1); (have a2 := ck h1 k2); (have a3 := ck h1 k3); (have a4 := ck h1 k4))
    | (go_at_call 67; (with_reducible refine (rdists_lit A h is _ ?_ UOK.out OK.out hn hu20 his).mono ?_); exact (SEE.out.below (K.out.b.drew.trans (h1.mono K.out.b.size))); rintro e w2 ⟨ba, rfl, ca, la, h2⟩; (have b0 := ck h2 a0); (have b1 := ck h2 a1); (have b2 := ck h2 a2); (have b3 := ck h2 a3); (have b4 := ck h2 a4))
    | (go_at_call 69; (with_reducible refine (rturn_lit A h _ ?_ HRE.out htot).mono ?_); exact (SEE.out.below ((K.out.b.drew.trans (h1.mono K.out.b.size)).trans (h2.mono (K.out.b.drew.trans (h1.mono K.out.b.size)).size))); rintro e w3 ⟨A', rfl, see3, form3, h3⟩; (have c0 := ck h3 b0); (have c1 := ck h3 b1); (have c2 := ck h3 b2); (have c3 := ck h3 b3); (have c4 := ck h3 b4); (have S3 := Lib.hid see3); (have CA := Lib.hid (ca.below h3 ca.lt)); clear see3 ca form3)
    | (go_at_call 68; (with_reducible refine (rrank_lit A h t _ ?_ HMT.out hn).mono ?_); exact (SEE.out.below (((K.out.b.drew.trans (h1.mono K.out.b.size)).trans (h2.mono (K.out.b.drew.trans (h1.mono K.out.b.size)).size)).trans (h3.mono ((K.out.b.drew.trans (h1.mono K.out.b.size)).trans (h2.mono (K.out.b.drew.trans (h1.mono K.out.b.size)).size)).size))); rintro e w4 ⟨rfl, h4⟩; rw [HJE.out]; (have d0 := ck h4 c0); (have d1 := ck h4 c1); (have d2 := ck h4 c2); (have d3 := ck h4 c3); (have d4 := ck h4 c4))
    | (go_at_call 67; (with_reducible refine (rdists_turn A' h it _ ?_ UT.out OKT.out hn hd20 hit).mono ?_); exact (S3.out.below h4); rintro e w5 ⟨bb, rfl, cb, lb, h5⟩; (have e0 := ck h5 d0); (have e1 := ck h5 d1); (have e2 := ck h5 d2); (have e3 := ck h5 d3); (have e4 := ck h5 d4); (have CB := Lib.hid cb); clear cb))
  try dsimp only [Exit.then]
  refine HKK.out _ _ ?_
  change Code.wp _ (tailAt 2 meetBody) _ _ _
  have ka := (K.out.below (Below.refl _ _).drew).below h1
  have kb := ka.below h2
  have kc := kb.below h3
  have kd := (kc.below h4).below h5
  have hDI := dists_isD OK.out his
  have hEI := dists_isD OKT.out (show it < (turnD h).node.length from hit)
  have hEI2 : IsD h.node.length h.dnF h.dn it (distsK h.dnF (h.dn.map (turnLink h.up.length h.dn.length)) it h.node.length) := (IsD.turn (turnLink h.up.length h.dn.length) (fun _ => rfl) (fun _ => rfl)).1 hEI
  have hDI' := hDI
  have hEI' := hEI2
  rw [← HIE.out] at hDI'
  rw [← HJE.out] at hEI'
  refine meet_loop kd.r kd.b ((CA.out.below h4 CA.out.lt).below h5 (CA.out.below h4 CA.out.lt).lt) CB.out hn (hDI.bnd OK.out) (hEI2.bnd OKD.out) (fun r d hm hd => ?_) (fun hd => ?_)
  · rw [HIE.out] at hDI'
    rw [HJE.out] at hEI'
    exact .walk _ _ r d HC.out HKN.out (by rw [Int.toNat_natCast, HIE.out]; exact hDI) (by rw [Int.toNat_natCast, HJE.out]; exact hEI2) hm hd
  · exact .none _ _ HC.out HKN.out (by rw [Int.toNat_natCast, HIE.out]; exact hDI) (by rw [Int.toNat_natCast, HJE.out]; exact hEI2) hd
set_option linter.unusedSimpArgs false in
set_option maxRecDepth 100000 in
set_option maxHeartbeats 8000000 in
/-- **The reference's Meet.** -/
theorem rmeet_any (A : HA) (h : HierD) (s t : Nat) (w : World) (see : HSee w A h) (hc : checkErr h = .nil) (htot : h.up.length + h.dn.length ≤ 1048576) (hs : s < h.node.length) (ht : t < h.node.length) :
    Calls Try.prog 58 #[hierVal A h, .int .i64 (s : Nat), .int .i64 (t : Nat)] w (RMeetNew h s t w) := by
  have SEE := Lib.hid see
  have HC := Lib.hid hc
  have hb0 := ((Below.refl w.heap.size w).alloc (Nat.le_refl _) (.cells (hierCells A h).toArray 25)).alloc (by simp) (.cells errZero.toArray 51)
  have K := Lib.hid (DK.mk (A := A) (h := h) ((Cells.new w 25 (hierCells A h)).alloc (.cells errZero.toArray 51)) (cells_at (by simp) 51 errZero) hb0)
  clear see hb0 hc
  unfold hierVal
  go_enter Try.func58, Try.ntmps58
  apply wp_seq_k
  intro K1 hK
  have HK1 := Lib.hid hK
  clear hK
  go_wp2_with fail
  refine HK1.out _ _ ?_
  change Code.wp _ (tailAt 1 meetBody) _ _ _
  exact meet_calls K.out SEE.out HC.out htot hs ht
end Go.Proofs.Ytjbphoophgbmiaa

/- The reference's DocMeet. -/
namespace Go.Proofs.Ytjbphoophgbmiaa
open Go.ChangeShapes Go.WideShapes Go.ChangeAt Go.RowKit Go.Joins Go.Deep

theorem nodesErr_pos (n : Nat) (s t : Int) : (nodesErr n s t).pos := by
  unfold nodesErr
  split
  · simp [EV.pos]
  · split <;> simp [EV.pos]
theorem linksGo_pos (n ups : Nat) (all : List EndD) : ∀ k, (linksGo n ups all k).pos := by
  intro k
  induction k with
  | zero => simp [linksGo, EV.pos]
  | succ k ih =>
    unfold linksGo
    split
    · split
      · simp [EV.pos]
      · split <;> simp [EV.pos]
    · exact ih
theorem orderGo_pos (l : List Nat) : ∀ k, (orderGo l k).pos := by
  intro k
  induction k with
  | zero => simp [orderGo, EV.pos]
  | succ k ih =>
    unfold orderGo
    split
    · split <;> simp [EV.pos]
    · exact ih
theorem checkErr_pos (h : HierD) : (checkErr h).pos := by
  unfold checkErr
  split
  · simp [EV.pos]
  · split
    · simp [EV.pos]
    · split
      · split
        · split
          · exact linksGo_pos _ _ _ _
          · exact orderGo_pos _ _
        · exact firstsErr_pos _ _
      · exact firstsErr_pos _ _

end Go.Proofs.Ytjbphoophgbmiaa
