/- The law UnpackLinks: its walk. -/
import Derived.Test.YtchhbgckonpedaaGreatDoorU4
import Derived.Test.YtchhbgckonpedaaGreatDoorM7
import Derived.Test.YtchhbgckonpedaaGreatDoorM8
namespace Go.Proofs.YtchhbgckonpedaaGreatDoor
open Go.ChangeShapes Go.WideShapes Go.ChangeAt Go.RowKit Go.Joins Go.Deep

set_option maxRecDepth 100000 in
theorem great22_any (A : HA) (h : HierD) (w : World) : Calls Tryz.prog 10 #[hierVal A h] w (BoolNew w) := by
  unfold hierVal
  go_enter Tryz.func10, Tryz.ntmps10
  go_wp2_with fail
  refine (count_any A h _).mono ?_
  rintro e w1 ⟨c, rfl, -, hb⟩
  have hbx1 := (Cells.new w 25 (hierCells A h)).below hb (by simp)
  have HB1 := Lib.hid (((Below.refl w.heap.size w).alloc (Nat.le_refl _) _).trans (hb.mono (by simp)))
  obtain ⟨k0, k1, k2, k3, k4⟩ := hier_five hbx1
  clear hb hbx1
  by_cases hd : 2000 < c
  · have d1 : decide (2000 < c) = true := by simpa using hd
    clear hd
    go_wp2_with fail
    refine (count_any A h _).mono ?_
    rintro e w2 ⟨c2, rfl, -, hb⟩
    have HB2 := Lib.hid (HB1.out.trans (hb.mono HB1.out.size))
    clear hb k0 k1 k2 k3 k4
    go_wp2
    go_returns
    exact ⟨_, rfl, HB2.out⟩
  · have d1 : decide (2000 < c) = false := by simpa using hd
    clear hd
    go_wp2
    go_returns
    exact ⟨_, rfl, HB1.out⟩

/-- The hierarchy's block, and what has been made besides. -/
structure UX (A : HA) (h : HierD) (w wx : World) : Prop where
  x : Cells wx w.heap.size 25 (hierCells A h)
  b : Below w.heap.size w wx
theorem UX.below {A : HA} {h : HierD} {w wx wy : World} (k : UX A h w wx) (o : Below wx.heap.size wx wy) : UX A h w wy := ⟨k.x.below o k.x.lt, k.b.trans (o.mono k.b.size)⟩
/-- An error of the document's in a block of its own. -/
structure UF (bf : Nat) (c : Int) (a : Option Addr) (n cap : Nat) (x : EV) (wx : World) : Prop where
  f : Cells wx bf 36 [.int .i64 c, .slice a n cap]
  v : ErrV wx (.agg #[.int .i64 c, .slice a n cap]) x
theorem UF.below {bf : Nat} {c : Int} {a : Option Addr} {n cap : Nat} {x : EV} {wx wy : World} (k : UF bf c a n cap x wx) (o : Below wx.heap.size wx wy) : UF bf c a n cap x wy := ⟨k.f.below o k.f.lt, k.v.below o⟩
theorem ErrIs.put22 {w : World} {x : EV} {B : Nat} {l : List Value} {v : Value} (h : ErrIs w v x) (hc : Cells w B 36 l) (a b : Value) : ErrIs ((w.setCell ⟨B, 0, none⟩ a).setCell ⟨B, 1, none⟩ b) v x := by
  cases x with
  | nil => exact h
  | code n => exact h
  | «at» k i n =>
    obtain ⟨g, e, hg⟩ := h
    have hne : g ≠ B := by
      rintro rfl
      have := (show w.heap[g]? = _ from hg).symm.trans hc
      simp at this
    exact ⟨g, e, (hg.other (a := ⟨B, 0, none⟩) hne _).other (a := ⟨B, 1, none⟩) hne _⟩
theorem nodesRes_pos {h : HierD} {i : Int} : (nodesRes h i).2.pos := by
  unfold nodesRes
  split
  · trivial
  · exact linksRes_pos

set_option linter.unusedSimpArgs false in
set_option maxRecDepth 100000 in
set_option maxHeartbeats 8000000 in
theorem unpackLinks_any (A : HA) (h : HierD) (i : Int) (w : World) (hg : EVar w) (see : HSee w A h) (hr : Reach5 h) (hi64 : i ≤ 9223372036854775807) :
    Calls Tryz.prog 3 #[hierVal A h, .int .i64 i] w (BoolIs true w) := by
  have hk1 : h.up.length ≤ 140737488355328 := by have := hr.up; omega
  have hk2 : h.dn.length ≤ 140737488355328 := by have := hr.dn; omega
  have hn64 : h.node.length ≤ 140737488355328 := by have := hr.n; omega
  have hk : h.up.length + h.dn.length ≤ 281474976710656 := by omega
  have HG := Lib.hid hg
  have SEE := Lib.hid see
  have HRE := Lib.hid hr
  have K0 := Lib.hid (UX.mk (A := A) (h := h) (w := w) (Cells.new w 25 (hierCells A h)) ((Below.refl w.heap.size w).alloc (Nat.le_refl _) (.cells (hierCells A h).toArray 25)))
  clear hg see hr
  unfold hierVal
  go_enter Tryz.func3, Tryz.ntmps3
  go_wp2_with fail
  refine (awake22_any _).mono ?_
  rintro e w1 ⟨rfl, hb⟩
  have K1 := Lib.hid (K0.out.below hb)
  obtain ⟨k0, k1, k2, k3, k4⟩ := hier_five K1.out.x
  clear hb K0
  go_wp2_with fail
  refine (great22_any A h _).mono ?_
  rintro e w2 ⟨b, rfl, hb⟩
  have K2 := Lib.hid (K1.out.below hb)
  clear hb K1 k0 k1 k2 k3 k4
  cases b
  case true =>
    go_wp2
    go_returns
    exact ⟨rfl, K2.out.b⟩
  case false =>
    obtain ⟨k0, k1, k2, k3, k4⟩ := hier_five K2.out.x
    go_wp2_with fail
    refine (twin_any A h _ (SEE.out.below K2.out.b) HRE.out).mono ?_
    rintro e w3 ⟨A3, rfl, see3, -, hb⟩
    have K3 := Lib.hid (K2.out.below hb)
    have S3 := Lib.hid see3
    clear hb K2 see3 k0 k1 k2 k3 k4
    go_wp2_with fail
    refine (ulinks_any A3 h i _ S3.out hk hi64).mono ?_
    rintro e w4 ⟨ao, cap, v, rfl, hv, hn, hb⟩
    have K4 := Lib.hid (K3.out.below hb)
    have HV4 := Lib.hid hv
    have HL4 := Lib.hid hn.see.1
    obtain ⟨k0, k1, k2, k3, k4⟩ := hier_five K4.out.x
    clear hb K3 S3 hv hn
    go_wp2_with fail
    refine (rdoclinks_any A h i _ (SEE.out.below K4.out.b) hk1 hk2 hn64 hi64).mono ?_
    rintro e w5 ⟨ao2, cap2, v2, rfl, hv, hn, hb⟩
    obtain ⟨uc, ua, un, ucap, rfl⟩ := hv.form
    have ho := (Below.refl w5.heap.size w5).alloc (Nat.le_refl _) (.cells #[.int .i64 uc, .slice ua un ucap] 36)
    have K5 := Lib.hid ((K4.out.below hb).below ho)
    have F5 := Lib.hid (UF.mk (Cells.new w5 36 [.int .i64 uc, .slice ua un ucap]) (hv.below ho))
    have HV5 := Lib.hid ((HV4.out.below hb).below ho)
    have HL5 := Lib.hid ((HL4.out.below hb).below ho)
    have HM5 := Lib.hid (hn.see.1.below ho)
    have BF := Lib.hid (show w.heap.size ≤ w5.heap.size from (K4.out.below hb).b.size)
    obtain ⟨bf, hbf⟩ : ∃ bf, w5.heap.size = bf := ⟨_, rfl⟩
    rw [hbf] at BF
    rw [hbf] at F5
    obtain ⟨wz, hwz⟩ : ∃ wz, w5.alloc (.cells #[.int .i64 uc, .slice ua un ucap] 36) = wz := ⟨_, rfl⟩
    rw [hwz] at K5 F5 HV5 HL5 HM5
    clear hb ho hv hn K4 HV4 HL4 k0 k1 k2 k3 k4
    go_wp2_with fail
    try rw [hwz]
    try rw [hbf]
    refine (samenats_any (linksRes h i).1 ao ao2 _ _ cap cap2 _ rfl rfl HL5.out HM5.out).mono ?_
    rintro e w6 ⟨rfl, hb⟩
    have K6 := Lib.hid (K5.out.below hb)
    have F6 := Lib.hid (F5.out.below hb)
    have HV6 := Lib.hid (HV5.out.below hb)
    have y0 : w6.cell? ⟨bf, 0, none⟩ = some (.int .i64 uc) := F6.out.f.cell rfl
    have y1 : w6.cell? ⟨bf, 1, none⟩ = some (.slice ua un ucap) := F6.out.f.cell rfl
    clear hb hbf hwz K5 F5 HV5 HL5 HM5
    go_wp2_with fail
    refine (same_any (linksRes h i).2 _ _ _ linksRes_pos (HG.out.below K6.out.b) HV6.out F6.out.v).mono ?_
    rintro e w7 ⟨rfl, hb⟩
    have K7 := Lib.hid (K6.out.below hb)
    have F7 := Lib.hid (F6.out.below hb)
    obtain ⟨k0, k1, k2, k3, k4⟩ := hier_five K7.out.x
    clear hb y0 y1 K6 F6 HV6
    go_wp2_with fail
    refine (twin_any A h _ (SEE.out.below K7.out.b) HRE.out).mono ?_
    rintro e w8 ⟨A8, rfl, see8, -, hb⟩
    have K8 := Lib.hid (K7.out.below hb)
    have F8 := Lib.hid (F7.out.below hb)
    have S8 := Lib.hid see8
    clear hb K7 F7 see8 k0 k1 k2 k3 k4
    go_wp2_with fail
    refine (ucount_any A8 h i _ S8.out hk hi64).mono ?_
    rintro e w9 ⟨v9, rfl, hv, hb⟩
    have K9 := Lib.hid (K8.out.below hb)
    have F9 := Lib.hid (F8.out.below hb)
    have HV9 := Lib.hid hv
    have y0 : w9.cell? ⟨bf, 0, none⟩ = some (.int .i64 uc) := F9.out.f.cell rfl
    have y1 : w9.cell? ⟨bf, 1, none⟩ = some (.slice ua un ucap) := F9.out.f.cell rfl
    have dn : (((linksRes h i).1.length : Int) != ((linksRes h i).1.length : Int)) = false := by simp
    clear hb K8 F8 S8 hv
    go_wp2_with fail
    refine (same_any (linksRes h i).2 _ _ _ linksRes_pos (HG.out.below K9.out.b) HV9.out F9.out.v).mono ?_
    rintro e w10 ⟨rfl, hb⟩
    have K10 := Lib.hid (K9.out.below hb)
    have F10 := Lib.hid (F9.out.below hb)
    obtain ⟨k0, k1, k2, k3, k4⟩ := hier_five K10.out.x
    clear hb y0 y1 K9 F9 HV9
    go_wp2_with fail
    refine (twin_any A h _ (SEE.out.below K10.out.b) HRE.out).mono ?_
    rintro e w11 ⟨A11, rfl, see11, -, hb⟩
    have K11 := Lib.hid (K10.out.below hb)
    have F11 := Lib.hid (F10.out.below hb)
    have S11 := Lib.hid see11
    clear hb K10 F10 see11 k0 k1 k2 k3 k4
    go_wp2_with fail
    refine (unodesOf_any A11 h i _ S11.out hk hi64).mono ?_
    rintro e w12 ⟨ao12, cap12, v12, rfl, hv, hn, hb⟩
    have K12 := Lib.hid (K11.out.below hb)
    have F12 := Lib.hid (F11.out.below hb)
    have HV12 := Lib.hid hv
    have HL12 := Lib.hid hn
    have zf := F11.out.f.lt
    obtain ⟨k0, k1, k2, k3, k4⟩ := hier_five K12.out.x
    clear hb K11 F11 S11 hv hn
    go_wp2_with fail
    refine (rdocnodes_any A h i _ (SEE.out.below K12.out.b) hk1 hk2 hn64 hi64).mono ?_
    rintro e w13 ⟨ao13, cap13, v13, rfl, hv, hn, hb⟩
    obtain ⟨tc, ta, tn, tcap, rfl⟩ := hv.form
    have K13 := Lib.hid (K12.out.below hb)
    have F13 := Lib.hid (F12.out.below hb)
    have HV13 := Lib.hid (HV12.out.below hb)
    have HL13 := Lib.hid (HL12.out.below hb)
    have HM13 := Lib.hid hn
    have hz12 := K12.out.b.size
    have zf2 := F12.out.f.lt
    have HVV := Lib.hid hv
    have y0 : w13.cell? ⟨bf, 0, none⟩ = some (.int .i64 uc) := F13.out.f.cell rfl
    have y1 : w13.cell? ⟨bf, 1, none⟩ = some (.slice ua un ucap) := F13.out.f.cell rfl
    have g0 := F13.out.f.frozen 0
    have g1 := F13.out.f.frozen 1
    have lf := F13.out.f.lt
    clear hb hv hn K12 F12 HV12 HL12 k0 k1 k2 k3 k4
    go_wp2_with fail
    have HV14 := Lib.hid (HV13.out.put22 F13.out.f (.int .i64 tc) (.slice ta tn tcap))
    have HE14 := Lib.hid (HVV.out.put F13.out.f (.int .i64 tc) (.slice ta tn tcap))
    have HC14 := Lib.hid ((F13.out.f.set 0 (.int .i64 tc)).set 1 (.slice ta tn tcap))
    have hO14 : Only [bf] w13 ((w13.setCell ⟨bf, 0, none⟩ (.int .i64 tc)).setCell ⟨bf, 1, none⟩ (.slice ta tn tcap)) := ((Only.refl [bf] w13).setCell (p := ⟨bf, 0, none⟩) (.inl (by simp)) _).setCell (p := ⟨bf, 1, none⟩) (.inl (by simp)) _
    have HL14 := Lib.hid (HL13.out.kept hO14 (fun q hq => by have := HL13.out.new q hq; simp; omega)).see.1
    have HM14 := Lib.hid (HM13.out.kept hO14 (fun q hq => by have := HM13.out.new q hq; simp; omega)).see.1
    have hb14 : Below w.heap.size w ((w13.setCell ⟨bf, 0, none⟩ (.int .i64 tc)).setCell ⟨bf, 1, none⟩ (.slice ta tn tcap)) := (K13.out.b.setCell (p := ⟨bf, 0, none⟩) BF.out _).setCell (p := ⟨bf, 1, none⟩) BF.out _
    obtain ⟨w14, hw14⟩ : ∃ w14, (w13.setCell ⟨bf, 0, none⟩ (.int .i64 tc)).setCell ⟨bf, 1, none⟩ (.slice ta tn tcap) = w14 := ⟨_, rfl⟩
    rw [hw14] at HV14 HE14 HC14 HL14 HM14 hb14 ⊢
    have HB14 := Lib.hid hb14
    clear hw14 hO14 hb14 y0 y1 g0 g1 K13 F13 HV13 HL13 HM13 HVV
    refine (samenats_any (nodesRes h i).1 ao12 ao13 _ _ cap12 cap13 _ rfl rfl HL14.out HM14.out).mono ?_
    rintro e w15 ⟨rfl, hb⟩
    have HC15 := Lib.hid (HC14.out.below hb HC14.out.lt)
    have HV15 := Lib.hid (HV14.out.below hb)
    have HE15 := Lib.hid (HE14.out.below hb)
    have HB15 := Lib.hid (HB14.out.trans (hb.mono HB14.out.size))
    have y0 : w15.cell? ⟨bf, 0, none⟩ = some (.int .i64 tc) := HC15.out.cell rfl
    have y1 : w15.cell? ⟨bf, 1, none⟩ = some (.slice ta tn tcap) := HC15.out.cell rfl
    clear hb HC14 HV14 HE14 HB14 HL14 HM14
    go_wp2_with fail
    refine (same_any (nodesRes h i).2 _ _ _ nodesRes_pos (HG.out.below HB15.out) HV15.out HE15.out).mono ?_
    rintro e w16 ⟨rfl, hb⟩
    have HB16 := Lib.hid (HB15.out.trans (hb.mono HB15.out.size))
    clear hb y0 y1 HC15 HV15 HE15 HB15
    go_wp2
    go_returns
    exact ⟨rfl, HB16.out⟩
end Go.Proofs.YtchhbgckonpedaaGreatDoor
