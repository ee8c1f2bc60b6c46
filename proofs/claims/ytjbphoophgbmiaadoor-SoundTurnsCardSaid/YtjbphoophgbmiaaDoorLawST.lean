/- The law SoundTurns: its walk. -/
import Derived.Test.YtjbphoophgbmiaaDoorLaw16
import Derived.Test.YtjbphoophgbmiaaDoorTurn4
namespace Go.Proofs.YtjbphoophgbmiaaDoor
open Go.ChangeShapes Go.WideShapes Go.ChangeAt Go.RowKit Go.Joins Go.Deep

noncomputable def turnsBody : Code := Tryd.f6.body.getD .skip
/-- What has been laid and is kept. -/
structure TK (A B : HA) (h : HierD) (w : World) (b9 : Nat) (wx : World) : Prop where
  x : Cells wx w.heap.size 25 (hierCells A h)
  y : Cells wx b9 25 (hierCells B (turnD h))
  s : HSee wx B (turnD h)
  b : Below w.heap.size w wx
theorem TK.below {A B : HA} {h : HierD} {w wx wy : World} {b9 : Nat} (k : TK A B h w b9 wx) (o : Below wx.heap.size wx wy) : TK A B h w b9 wy := ⟨k.x.below o k.x.lt, k.y.below o k.y.lt, k.s.below o, k.b.trans (o.mono k.b.size)⟩
theorem ErrIs.form {w : World} {v : Value} {x : EV} (h : ErrIs w v x) : (x = .nil ∧ v = .nilIface) ∨ (x ≠ .nil ∧ ∃ t u, v = .iface t u) := by
  by_cases hx : x = .nil
  · exact .inl ⟨hx, h.nilv hx⟩
  · exact .inr ⟨hx, h.iface hx⟩
set_option linter.unusedSimpArgs false in
set_option maxRecDepth 100000 in
set_option maxHeartbeats 8000000 in
theorem turns_asks {s0 s5 s6 s7 s8 s10 s11 s12 s13 s14 s15 s16 s17 s18 s19 s20 s21 s22 s23 s24 s25 s26 s27 s28 s29 s30 s31 s32 s33 s34 s35 s36 s37 s38 s39 s40 s41 s42 s43 s44 s45 s46 s47 s48 s49 s50 s51 s52 s53 s54 s55 s56 s57 s58 s59 s60 s61 : Value} {A B : HA} {h : HierD} {r s t : Int} {w wx : World} {b9 : Nat} (k : TK A B h w b9 wx) (see : HSee w A h) (hc : checkErr h = .nil) (hct : checkErr (turnD h) = .nil) : Code.wp Tryd.prog (tailAt 6 turnsBody) (bodyPost Tryd.prog Tryd.f6 (BoolIs true w)) ⟨#[s0, .int .i64 r, .int .i64 s, .int .i64 t, .pointer (some ⟨w.heap.size, 0, none⟩), s5, s6, s7, s8, .pointer (some ⟨b9, 0, none⟩), s10, s11, s12, s13, s14, s15, s16, s17, s18, s19, s20, s21, s22, s23, s24, s25, s26, s27, s28, s29, s30, s31, s32, s33, s34, s35, s36, s37, s38, s39, s40, s41, s42, s43, s44, s45, s46, s47, s48, s49, s50, s51, s52, s53, s54, s55, s56, s57, s58, s59, s60, s61], []⟩ wx := by
  have K := Lib.hid k
  have SEE := Lib.hid see
  have HC := Lib.hid hc
  have HCT := Lib.hid hct
  obtain ⟨k0, k1, k2, k3, k4⟩ := hier_five k.x
  clear k see hc hct
  conv => arg 2; whnf
  apply wp_seq_k
  intro K0 hK
  have HK0 := Lib.hid hK
  clear hK
  go_wp2_with fail
  refine (above_any A h r s t _ (SEE.out.below K.out.b)).mono ?_
  rintro e w1 ⟨d, v, x, rfl, hv, hm, hb⟩
  have K1 := Lib.hid (K.out.below hb)
  have HM := Lib.hid hm
  have HV := Lib.hid hv
  obtain ⟨j0, j1, j2, j3, j4⟩ := hier_five K1.out.y
  clear hb hm hv K k0 k1 k2 k3 k4
  go_wp2_with fail
  refine HK0.out _ _ ?_
  clear HK0
  apply wp_seq_k
  intro K2 hK
  have HK2 := Lib.hid hK
  clear hK
  go_wp2_with fail
  refine (above_any B (turnD h) r t s _ K1.out.s).mono ?_
  rintro e w2 ⟨d2, v2, x2, rfl, hv2, hm2, hb⟩
  obtain ⟨rfl, hxx⟩ := HM.out.turned HC.out HCT.out hm2
  have HB2 := Lib.hid (K1.out.b.trans (hb.mono K1.out.b.size))
  have h1 := (HV.out.below hb).form
  have h2 := hv2.form
  clear hb hm2 hv2 K1 HV HM j0 j1 j2 j3 j4
  rcases h1 with ⟨hx, rfl⟩ | ⟨hx, t1, u1, rfl⟩
  · obtain rfl : v2 = .nilIface := by
      rcases h2 with ⟨-, e⟩ | ⟨hx2, -⟩
      · exact e
      · exact absurd (hxx.1 hx) hx2
    clear h2 hxx hx
    go_wp2_with fail
    refine HK2.out _ _ ?_
    conv => arg 2; whnf
    go_wp2_with fail
    go_quiet (fail)
    go_wp2
    go_returns
    exact ⟨rfl, below_drewN HB2.out _⟩
  · obtain ⟨t2, u2, rfl⟩ : ∃ t2 u2, v2 = .iface t2 u2 := by
      rcases h2 with ⟨hx2, -⟩ | ⟨-, e⟩
      · exact absurd (hxx.2 hx2) hx
      · exact e
    clear h2 hxx hx
    go_wp2_with fail
    refine HK2.out _ _ ?_
    conv => arg 2; whnf
    go_wp2_with fail
    go_quiet (fail)
    go_wp2
    go_returns
    exact ⟨rfl, below_drewN HB2.out _⟩
def GoodS (h : HierD) : Prop := checkErr h = .nil ∧ ∀ r, r < h.node.length → HoldsD h r
def NilNew (w : World) (e : Ending) (w' : World) : Prop := e = .returned .nilIface ∧ Below w.heap.size w w'
def SomeNew (w : World) (e : Ending) (w' : World) : Prop := ∃ t u, e = .returned (.iface t u) ∧ Below w.heap.size w w'
theorem scheck_good (A : HA) (h : HierD) (w : World) (see : HSee w A h) (hg : GoodS h) : Calls Tryd.prog 17 #[.agg #[.slice A.a0 h.node.length A.c0, .slice A.a1 h.upF.length A.c1, .slice A.a2 h.up.length A.c2, .slice A.a3 h.dnF.length A.c3, .slice A.a4 h.dn.length A.c4]] w (NilNew w) := (scheck_any A h w see).mono (by
  rintro e w1 ⟨v, x, rfl, hv, hm, hb⟩
  exact ⟨by rw [hv.nilv (hm.nil_iff.2 hg)], hb⟩)
theorem scheck_bad (A : HA) (h : HierD) (w : World) (see : HSee w A h) (hg : ¬ GoodS h) : Calls Tryd.prog 17 #[.agg #[.slice A.a0 h.node.length A.c0, .slice A.a1 h.upF.length A.c1, .slice A.a2 h.up.length A.c2, .slice A.a3 h.dnF.length A.c3, .slice A.a4 h.dn.length A.c4]] w (SomeNew w) := (scheck_any A h w see).mono (by
  rintro e w1 ⟨v, x, rfl, hv, hm, hb⟩
  obtain ⟨t, u, rfl⟩ := hv.iface (fun hx => hg (hm.nil_iff.1 hx))
  exact ⟨t, u, rfl, hb⟩)
theorem scheck_goodT (B : HA) (h : HierD) (w : World) (see : HSee w B (turnD h)) (hg : GoodS (turnD h)) : Calls Tryd.prog 17 #[.agg #[.slice B.a0 (turnD h).node.length B.c0, .slice B.a1 (turnD h).upF.length B.c1, .slice B.a2 (turnD h).up.length B.c2, .slice B.a3 (turnD h).dnF.length B.c3, .slice B.a4 (turnD h).dn.length B.c4]] w (NilNew w) := scheck_good B (turnD h) w see hg
theorem scheck_badT (B : HA) (h : HierD) (w : World) (see : HSee w B (turnD h)) (hg : ¬ GoodS (turnD h)) : Calls Tryd.prog 17 #[.agg #[.slice B.a0 (turnD h).node.length B.c0, .slice B.a1 (turnD h).upF.length B.c1, .slice B.a2 (turnD h).up.length B.c2, .slice B.a3 (turnD h).dnF.length B.c3, .slice B.a4 (turnD h).dn.length B.c4]] w (SomeNew w) := scheck_bad B (turnD h) w see hg
theorem GoodS.turned {h : HierD} (hc : checkErr h = .nil) (hct : checkErr (turnD h) = .nil) : GoodS (turnD h) ↔ GoodS h :=
  ⟨fun g => ⟨hc, fun r hr => (holds_turn hc hr).1 (g.2 r hr)⟩, fun g => ⟨hct, fun r hr => (holds_turn hc hr).2 (g.2 r hr)⟩⟩
set_option linter.unusedSimpArgs false in
set_option maxRecDepth 100000 in
set_option maxHeartbeats 8000000 in
theorem turns_good {s0 s5 s6 s7 s8 s10 s11 s12 s13 s14 s15 s16 s17 s18 s19 s20 s21 s22 s23 s24 s25 s26 s27 s28 s29 s30 s31 s32 s33 s34 s35 s36 s37 s38 s39 s40 s41 s42 s43 s44 s45 s46 s47 s48 s49 s50 s51 s52 s53 s54 s55 s56 s57 s58 s59 s60 s61 : Value} {A B : HA} {h : HierD} {r s t : Int} {w wx : World} {b9 : Nat} (k : TK A B h w b9 wx) (see : HSee w A h) (hc : checkErr h = .nil) (hct : checkErr (turnD h) = .nil) (hg : GoodS h) : Code.wp Tryd.prog (tailAt 5 turnsBody) (bodyPost Tryd.prog Tryd.f6 (BoolIs true w)) ⟨#[s0, .int .i64 r, .int .i64 s, .int .i64 t, .pointer (some ⟨w.heap.size, 0, none⟩), s5, s6, s7, s8, .pointer (some ⟨b9, 0, none⟩), s10, s11, s12, s13, s14, s15, s16, s17, s18, s19, s20, s21, s22, s23, s24, s25, s26, s27, s28, s29, s30, s31, s32, s33, s34, s35, s36, s37, s38, s39, s40, s41, s42, s43, s44, s45, s46, s47, s48, s49, s50, s51, s52, s53, s54, s55, s56, s57, s58, s59, s60, s61], []⟩ wx := by
  have K := Lib.hid k
  have SEE := Lib.hid see
  have HC := Lib.hid hc
  have HCT := Lib.hid hct
  have HG := Lib.hid hg
  have HGT : RowKit.Hid (GoodS (turnD h)) := Lib.hid ((GoodS.turned hc hct).2 hg)
  obtain ⟨k0, k1, k2, k3, k4⟩ := hier_five k.x
  obtain ⟨j0, j1, j2, j3, j4⟩ := hier_five k.y
  clear k see hc hct hg
  conv => arg 2; whnf
  apply wp_seq_k
  intro KK hK
  have HKK := Lib.hid hK
  clear hK
  go_upto_region 8 with fail
  go_region_held3 (fun W => W.cell? ⟨w.heap.size, 0, none⟩ = some (.slice A.a0 h.node.length A.c0) ∧ W.cell? ⟨w.heap.size, 1, none⟩ = some (.slice A.a1 h.upF.length A.c1) ∧ W.cell? ⟨w.heap.size, 2, none⟩ = some (.slice A.a2 h.up.length A.c2) ∧ W.cell? ⟨w.heap.size, 3, none⟩ = some (.slice A.a3 h.dnF.length A.c3) ∧ W.cell? ⟨w.heap.size, 4, none⟩ = some (.slice A.a4 h.dn.length A.c4) ∧ W.cell? ⟨b9, 0, none⟩ = some (.slice B.a0 (turnD h).node.length B.c0) ∧ W.cell? ⟨b9, 1, none⟩ = some (.slice B.a1 (turnD h).upF.length B.c1) ∧ W.cell? ⟨b9, 2, none⟩ = some (.slice B.a2 (turnD h).up.length B.c2) ∧ W.cell? ⟨b9, 3, none⟩ = some (.slice B.a3 (turnD h).dnF.length B.c3) ∧ W.cell? ⟨b9, 4, none⟩ = some (.slice B.a4 (turnD h).dn.length B.c4)) (go_keep)
    (first
    | (go_at_call 17; (with_reducible refine (scheck_good A h _ (SEE.out.below K.out.b.drew) HG.out).mono ?_); rintro e w1 ⟨rfl, hb⟩; (have a0 := ck hb k0); (have a1 := ck hb k1); (have a2 := ck hb k2); (have a3 := ck hb k3); (have a4 := ck hb k4); (have c0 := ck hb j0); (have c1 := ck hb j1); (have c2 := ck hb j2); (have c3 := ck hb j3); (have c4 := ck hb j4); (have K1 := Lib.hid ((K.out.below (Below.refl _ _).drew).below hb)))
    | (go_at_call 17; (with_reducible refine (scheck_goodT B h _ K1.out.s HGT.out).mono ?_); rintro e w2 ⟨rfl, hb2⟩; (have d0 := ck hb2 a0); (have d1 := ck hb2 a1); (have d2 := ck hb2 a2); (have d3 := ck hb2 a3); (have d4 := ck hb2 a4); (have f0 := ck hb2 c0); (have f1 := ck hb2 c1); (have f2 := ck hb2 c2); (have f3 := ck hb2 c3); (have f4 := ck hb2 c4); (have K2 := Lib.hid (K1.out.below hb2))))
  go_wp2_with fail
  refine HKK.out _ _ ?_
  clear HKK
  change Code.wp _ (tailAt 6 turnsBody) _ _ _
  exact turns_asks K2.out SEE.out HC.out HCT.out
set_option linter.unusedSimpArgs false in
set_option maxRecDepth 100000 in
set_option maxHeartbeats 8000000 in
theorem turns_bad {s0 s5 s6 s7 s8 s10 s11 s12 s13 s14 s15 s16 s17 s18 s19 s20 s21 s22 s23 s24 s25 s26 s27 s28 s29 s30 s31 s32 s33 s34 s35 s36 s37 s38 s39 s40 s41 s42 s43 s44 s45 s46 s47 s48 s49 s50 s51 s52 s53 s54 s55 s56 s57 s58 s59 s60 s61 : Value} {A B : HA} {h : HierD} {r s t : Int} {w wx : World} {b9 : Nat} (k : TK A B h w b9 wx) (see : HSee w A h) (hc : checkErr h = .nil) (hct : checkErr (turnD h) = .nil) (hg : ¬ GoodS h) : Code.wp Tryd.prog (tailAt 5 turnsBody) (bodyPost Tryd.prog Tryd.f6 (BoolIs true w)) ⟨#[s0, .int .i64 r, .int .i64 s, .int .i64 t, .pointer (some ⟨w.heap.size, 0, none⟩), s5, s6, s7, s8, .pointer (some ⟨b9, 0, none⟩), s10, s11, s12, s13, s14, s15, s16, s17, s18, s19, s20, s21, s22, s23, s24, s25, s26, s27, s28, s29, s30, s31, s32, s33, s34, s35, s36, s37, s38, s39, s40, s41, s42, s43, s44, s45, s46, s47, s48, s49, s50, s51, s52, s53, s54, s55, s56, s57, s58, s59, s60, s61], []⟩ wx := by
  have K := Lib.hid k
  have SEE := Lib.hid see
  have HC := Lib.hid hc
  have HCT := Lib.hid hct
  have HG := Lib.hid hg
  have HGT : RowKit.Hid (¬ GoodS (turnD h)) := Lib.hid (fun g => hg ((GoodS.turned hc hct).1 g))
  obtain ⟨k0, k1, k2, k3, k4⟩ := hier_five k.x
  obtain ⟨j0, j1, j2, j3, j4⟩ := hier_five k.y
  clear k see hc hct hg
  conv => arg 2; whnf
  apply wp_seq_k
  intro KK hK
  have HKK := Lib.hid hK
  clear hK
  go_upto_region 8 with fail
  go_region_held3 (fun W => W.cell? ⟨w.heap.size, 0, none⟩ = some (.slice A.a0 h.node.length A.c0) ∧ W.cell? ⟨w.heap.size, 1, none⟩ = some (.slice A.a1 h.upF.length A.c1) ∧ W.cell? ⟨w.heap.size, 2, none⟩ = some (.slice A.a2 h.up.length A.c2) ∧ W.cell? ⟨w.heap.size, 3, none⟩ = some (.slice A.a3 h.dnF.length A.c3) ∧ W.cell? ⟨w.heap.size, 4, none⟩ = some (.slice A.a4 h.dn.length A.c4) ∧ W.cell? ⟨b9, 0, none⟩ = some (.slice B.a0 (turnD h).node.length B.c0) ∧ W.cell? ⟨b9, 1, none⟩ = some (.slice B.a1 (turnD h).upF.length B.c1) ∧ W.cell? ⟨b9, 2, none⟩ = some (.slice B.a2 (turnD h).up.length B.c2) ∧ W.cell? ⟨b9, 3, none⟩ = some (.slice B.a3 (turnD h).dnF.length B.c3) ∧ W.cell? ⟨b9, 4, none⟩ = some (.slice B.a4 (turnD h).dn.length B.c4)) (go_keep)
    (first
    | (go_at_call 17; (with_reducible refine (scheck_bad A h _ (SEE.out.below K.out.b.drew) HG.out).mono ?_); rintro e w1 ⟨t1, u1, rfl, hb⟩; (have a0 := ck hb k0); (have a1 := ck hb k1); (have a2 := ck hb k2); (have a3 := ck hb k3); (have a4 := ck hb k4); (have c0 := ck hb j0); (have c1 := ck hb j1); (have c2 := ck hb j2); (have c3 := ck hb j3); (have c4 := ck hb j4); (have K1 := Lib.hid ((K.out.below (Below.refl _ _).drew).below hb)))
    | (go_at_call 17; (with_reducible refine (scheck_badT B h _ K1.out.s HGT.out).mono ?_); rintro e w2 ⟨t2, u2, rfl, hb2⟩; (have d0 := ck hb2 a0); (have d1 := ck hb2 a1); (have d2 := ck hb2 a2); (have d3 := ck hb2 a3); (have d4 := ck hb2 a4); (have f0 := ck hb2 c0); (have f1 := ck hb2 c1); (have f2 := ck hb2 c2); (have f3 := ck hb2 c3); (have f4 := ck hb2 c4); (have K2 := Lib.hid (K1.out.below hb2))))
  go_wp2_with fail
  refine HKK.out _ _ ?_
  clear HKK
  change Code.wp _ (tailAt 6 turnsBody) _ _ _
  exact turns_asks K2.out SEE.out HC.out HCT.out
set_option linter.unusedSimpArgs false in
set_option maxRecDepth 100000 in
set_option maxHeartbeats 8000000 in
theorem turns_fail {s0 s5 s6 s7 s8 s11 s12 s13 s14 s15 s16 s17 s18 s19 s20 s21 s22 s23 s24 s25 s26 s27 s28 s29 s30 s31 s32 s33 s34 s35 s36 s37 s38 s39 s40 s41 s42 s43 s44 s45 s46 s47 s48 s49 s50 s51 s52 s53 s54 s55 s56 s57 s58 s59 s60 s61 : Value} {A : HA} {h : HierD} {r s t : Int} {w wx : World} {b9 : Nat} {t1 : TypeId} {u1 : Value} (k : Cells wx w.heap.size 25 (hierCells A h)) (hb : Below w.heap.size w wx) (see : HSee w A h) (hc : checkErr h ≠ .nil) : Code.wp Tryd.prog (tailAt 4 turnsBody) (bodyPost Tryd.prog Tryd.f6 (BoolIs true w)) ⟨#[s0, .int .i64 r, .int .i64 s, .int .i64 t, .pointer (some ⟨w.heap.size, 0, none⟩), s5, s6, s7, s8, .pointer (some ⟨b9, 0, none⟩), .iface t1 u1, s11, s12, s13, s14, s15, s16, s17, s18, s19, s20, s21, s22, s23, s24, s25, s26, s27, s28, s29, s30, s31, s32, s33, s34, s35, s36, s37, s38, s39, s40, s41, s42, s43, s44, s45, s46, s47, s48, s49, s50, s51, s52, s53, s54, s55, s56, s57, s58, s59, s60, s61], []⟩ wx := by
  have SEE := Lib.hid see
  have HB := Lib.hid hb
  have HC := Lib.hid (fun g : GoodS h => hc g.1)
  obtain ⟨k0, k1, k2, k3, k4⟩ := hier_five k
  clear k see hc hb
  conv => arg 2; whnf
  go_wp2_with fail
  refine (scheck_bad A h _ (SEE.out.below HB.out) HC.out).mono ?_
  rintro e w1 ⟨t2, u2, rfl, hb⟩
  have HB1 := Lib.hid (HB.out.trans (hb.mono HB.out.size))
  clear hb
  go_wp2
  go_returns
  exact ⟨rfl, HB1.out⟩
set_option linter.unusedSimpArgs false in
set_option maxRecDepth 100000 in
set_option maxHeartbeats 8000000 in
theorem turns_ok {s0 s5 s6 s7 s8 s11 s12 s13 s14 s15 s16 s17 s18 s19 s20 s21 s22 s23 s24 s25 s26 s27 s28 s29 s30 s31 s32 s33 s34 s35 s36 s37 s38 s39 s40 s41 s42 s43 s44 s45 s46 s47 s48 s49 s50 s51 s52 s53 s54 s55 s56 s57 s58 s59 s60 s61 : Value} {A B : HA} {h : HierD} {r s t : Int} {w wx : World} {b9 : Nat} (k : TK A B h w b9 wx) (see : HSee w A h) (hc : checkErr h = .nil) (hct : checkErr (turnD h) = .nil) : Code.wp Tryd.prog (tailAt 4 turnsBody) (bodyPost Tryd.prog Tryd.f6 (BoolIs true w)) ⟨#[s0, .int .i64 r, .int .i64 s, .int .i64 t, .pointer (some ⟨w.heap.size, 0, none⟩), s5, s6, s7, s8, .pointer (some ⟨b9, 0, none⟩), .nilIface, s11, s12, s13, s14, s15, s16, s17, s18, s19, s20, s21, s22, s23, s24, s25, s26, s27, s28, s29, s30, s31, s32, s33, s34, s35, s36, s37, s38, s39, s40, s41, s42, s43, s44, s45, s46, s47, s48, s49, s50, s51, s52, s53, s54, s55, s56, s57, s58, s59, s60, s61], []⟩ wx := by
  have K := Lib.hid k
  have SEE := Lib.hid see
  have HC := Lib.hid hc
  have HCT := Lib.hid hct
  clear k see hc hct
  conv => arg 2; whnf
  apply wp_seq_k
  intro KK hK
  have HKK := Lib.hid hK
  clear hK
  go_wp2_with fail
  refine HKK.out _ _ ?_
  change Code.wp _ (tailAt 5 turnsBody) _ _ _
  by_cases hg : GoodS h
  · exact turns_good K.out SEE.out HC.out HCT.out hg
  · exact turns_bad K.out SEE.out HC.out HCT.out hg
set_option linter.unusedSimpArgs false in
set_option maxRecDepth 100000 in
set_option maxHeartbeats 8000000 in
theorem turns_turn {s0 s5 s6 s7 s8 s9 s10 s11 s12 s13 s14 s15 s16 s17 s18 s19 s20 s21 s22 s23 s24 s25 s26 s27 s28 s29 s30 s31 s32 s33 s34 s35 s36 s37 s38 s39 s40 s41 s42 s43 s44 s45 s46 s47 s48 s49 s50 s51 s52 s53 s54 s55 s56 s57 s58 s59 s60 s61 : Value} {A : HA} {h : HierD} {r s t : Int} {w wx : World} (k : Cells wx w.heap.size 25 (hierCells A h)) (hb : Below w.heap.size w wx) (see : HSee w A h) (form : HForm A) : Code.wp Tryd.prog (tailAt 3 turnsBody) (bodyPost Tryd.prog Tryd.f6 (BoolIs true w)) ⟨#[s0, .int .i64 r, .int .i64 s, .int .i64 t, .pointer (some ⟨w.heap.size, 0, none⟩), s5, s6, s7, s8, s9, s10, s11, s12, s13, s14, s15, s16, s17, s18, s19, s20, s21, s22, s23, s24, s25, s26, s27, s28, s29, s30, s31, s32, s33, s34, s35, s36, s37, s38, s39, s40, s41, s42, s43, s44, s45, s46, s47, s48, s49, s50, s51, s52, s53, s54, s55, s56, s57, s58, s59, s60, s61], []⟩ wx := by
  have SEE := Lib.hid see
  have HB := Lib.hid hb
  have HX := Lib.hid k
  have HF := Lib.hid form
  obtain ⟨k0, k1, k2, k3, k4⟩ := hier_five k
  clear k see hb form
  conv => arg 2; whnf
  apply wp_seq_k
  intro KK hK
  have HKK := Lib.hid hK
  clear hK
  go_wp2_with fail
  refine (turn_any A h _ (SEE.out.below HB.out) HF.out).mono ?_
  rintro e w1 (⟨v, rfl, hv, hc, hb⟩ | ⟨B, rfl, hc, hs, -, hb⟩)
  · have HX1 := Lib.hid ((HX.out.below hb HX.out.lt).alloc (.cells (hierCells ⟨none, none, none, none, none, 0, 0, 0, 0, 0⟩ ⟨[], [], [], [], []⟩).toArray 25))
    have HB1 := Lib.hid ((HB.out.trans (hb.mono HB.out.size)).alloc (HB.out.trans (hb.mono HB.out.size)).size (.cells (hierCells ⟨none, none, none, none, none, 0, 0, 0, 0, 0⟩ ⟨[], [], [], [], []⟩).toArray 25))
    have HC := Lib.hid hc
    obtain ⟨t1, u1, rfl⟩ := hv.iface hc
    clear hb hc hv HX HB k0 k1 k2 k3 k4
    unfold zeroHier
    go_wp2_with fail
    refine HKK.out _ _ ?_
    change Code.wp _ (tailAt 4 turnsBody) _ _ _
    exact turns_fail HX1.out HB1.out SEE.out HC.out
  · have HX1 := Lib.hid ((HX.out.below hb HX.out.lt).alloc (.cells (hierCells B (turnD h)).toArray 25))
    have HY1 := Lib.hid (Cells.new w1 25 (hierCells B (turnD h)))
    have HB1 := Lib.hid ((HB.out.trans (hb.mono HB.out.size)).alloc (HB.out.trans (hb.mono HB.out.size)).size (.cells (hierCells B (turnD h)).toArray 25))
    have HS1 := Lib.hid (hs.below ((Below.refl w1.heap.size w1).alloc (Nat.le_refl _) (.cells (hierCells B (turnD h)).toArray 25)))
    have HC := Lib.hid hc
    clear hb hc hs HX HB k0 k1 k2 k3 k4
    unfold hierVal
    go_wp2_with fail
    refine HKK.out _ _ ?_
    change Code.wp _ (tailAt 4 turnsBody) _ _ _
    exact turns_ok ⟨HX1.out, HY1.out, HS1.out, HB1.out⟩ SEE.out HC.out (turn_ok HC.out (by
      obtain ⟨f, e1, e2, -, -⟩ := checkErr_parts HC.out
      exact f.total SEE.out (firsts_nil f.u e1) (firsts_nil f.d e2)))
set_option linter.unusedSimpArgs false in
set_option maxRecDepth 100000 in
set_option maxHeartbeats 8000000 in
theorem turns_few {s0 s5 s6 s7 s8 s9 s10 s11 s12 s13 s14 s15 s16 s17 s18 s19 s20 s21 s22 s23 s24 s25 s26 s27 s28 s29 s30 s31 s32 s33 s34 s35 s36 s37 s38 s39 s40 s41 s42 s43 s44 s45 s46 s47 s48 s49 s50 s51 s52 s53 s54 s55 s56 s57 s58 s59 s60 s61 : Value} {A : HA} {h : HierD} {r s t : Int} {w wx : World} (k : Cells wx w.heap.size 25 (hierCells A h)) (hb : Below w.heap.size w wx) (see : HSee w A h) (form : HForm A) : Code.wp Tryd.prog (tailAt 2 turnsBody) (bodyPost Tryd.prog Tryd.f6 (BoolIs true w)) ⟨#[s0, .int .i64 r, .int .i64 s, .int .i64 t, .pointer (some ⟨w.heap.size, 0, none⟩), s5, s6, s7, s8, s9, s10, s11, s12, s13, s14, s15, s16, s17, s18, s19, s20, s21, s22, s23, s24, s25, s26, s27, s28, s29, s30, s31, s32, s33, s34, s35, s36, s37, s38, s39, s40, s41, s42, s43, s44, s45, s46, s47, s48, s49, s50, s51, s52, s53, s54, s55, s56, s57, s58, s59, s60, s61], []⟩ wx := by
  have SEE := Lib.hid see
  have HB := Lib.hid hb
  have HX := Lib.hid k
  have HF := Lib.hid form
  obtain ⟨k0, k1, k2, k3, k4⟩ := hier_five k
  clear k see hb form
  conv => arg 2; whnf
  apply wp_seq_k
  intro KK hK
  have HKK := Lib.hid hK
  clear hK
  go_wp2_with fail
  refine (few_any A h _).mono ?_
  rintro e w1 ⟨c, rfl, hb⟩
  have HX1 := Lib.hid (HX.out.below hb HX.out.lt)
  have HB1 := Lib.hid (HB.out.trans (hb.mono HB.out.size))
  clear hb HX HB k0 k1 k2 k3 k4
  cases c
  · go_wp2
    go_returns
    exact ⟨rfl, HB1.out⟩
  · go_wp2_with fail
    refine HKK.out _ _ ?_
    change Code.wp _ (tailAt 3 turnsBody) _ _ _
    exact turns_turn HX1.out HB1.out SEE.out HF.out
set_option linter.unusedSimpArgs false in
set_option maxRecDepth 100000 in
set_option maxHeartbeats 8000000 in
theorem turns_awake {s0 s5 s6 s7 s8 s9 s10 s11 s12 s13 s14 s15 s16 s17 s18 s19 s20 s21 s22 s23 s24 s25 s26 s27 s28 s29 s30 s31 s32 s33 s34 s35 s36 s37 s38 s39 s40 s41 s42 s43 s44 s45 s46 s47 s48 s49 s50 s51 s52 s53 s54 s55 s56 s57 s58 s59 s60 s61 : Value} {A : HA} {h : HierD} {r s t : Int} {w wx : World} (k : Cells wx w.heap.size 25 (hierCells A h)) (hb : Below w.heap.size w wx) (see : HSee w A h) (form : HForm A) (hg : EVar wx) : Code.wp Tryd.prog (tailAt 1 turnsBody) (bodyPost Tryd.prog Tryd.f6 (BoolIs true w)) ⟨#[s0, .int .i64 r, .int .i64 s, .int .i64 t, .pointer (some ⟨w.heap.size, 0, none⟩), s5, s6, s7, s8, s9, s10, s11, s12, s13, s14, s15, s16, s17, s18, s19, s20, s21, s22, s23, s24, s25, s26, s27, s28, s29, s30, s31, s32, s33, s34, s35, s36, s37, s38, s39, s40, s41, s42, s43, s44, s45, s46, s47, s48, s49, s50, s51, s52, s53, s54, s55, s56, s57, s58, s59, s60, s61], []⟩ wx := by
  have SEE := Lib.hid see
  have HB := Lib.hid hb
  have HX := Lib.hid k
  have HF := Lib.hid form
  have HG := Lib.hid hg
  clear k see hb form hg
  conv => arg 2; whnf
  apply wp_seq_k
  intro KK hK
  have HKK := Lib.hid hK
  clear hK
  go_wp2_with fail
  refine (awake16_any _ HG.out).mono ?_
  rintro e w1 ⟨rfl, hb⟩
  have HX1 := Lib.hid (HX.out.below hb HX.out.lt)
  have HB1 := Lib.hid (HB.out.trans (hb.mono HB.out.size))
  clear hb HX HB
  go_wp2_with fail
  refine HKK.out _ _ ?_
  change Code.wp _ (tailAt 2 turnsBody) _ _ _
  exact turns_few HX1.out HB1.out SEE.out HF.out
set_option linter.unusedSimpArgs false in
set_option maxRecDepth 100000 in
set_option maxHeartbeats 8000000 in
theorem soundTurns_any (A : HA) (h : HierD) (r s t : Int) (w : World) (hg : EVar w) (see : HSee w A h) (form : HForm A) : Calls Tryd.prog 6 #[hierVal A h, .int .i64 r, .int .i64 s, .int .i64 t] w (BoolIs true w) := by
  have HX := Lib.hid (Cells.new w 25 (hierCells A h))
  have HB := Lib.hid ((Below.refl w.heap.size w).alloc (Nat.le_refl _) (.cells (hierCells A h).toArray 25))
  have SEE := Lib.hid see
  have HF := Lib.hid form
  have HG := Lib.hid (hg.below HB.out)
  clear see form hg
  unfold hierVal
  go_enter Tryd.func6, Tryd.ntmps6
  apply wp_seq_k
  intro KK hK
  have HKK := Lib.hid hK
  clear hK
  go_wp2_with fail
  refine HKK.out _ _ ?_
  change Code.wp _ (tailAt 1 turnsBody) _ _ _
  exact turns_awake HX.out HB.out SEE.out HF.out HG.out
end Go.Proofs.YtjbphoophgbmiaaDoor
