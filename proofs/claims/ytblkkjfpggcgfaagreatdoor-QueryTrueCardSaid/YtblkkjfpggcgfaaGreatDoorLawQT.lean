/- The law QueryTrue: its walk. -/
import Derived.Test.YtblkkjfpggcgfaaGreatDoorSMatA
namespace Go.Proofs.YtblkkjfpggcgfaaGreatDoor
open Go.ChangeShapes Go.WideShapes Go.ChangeAt Go.RowKit Go.Joins Go.Deep

noncomputable def qtBody : Code := Tryz.f3.body.getD .skip

/-- A hierarchy in a local of its own. -/
structure HLX (A : HA) (h : HierD) (w wx : World) : Prop where
  x : Cells wx w.heap.size 25 (hierCells A h)
  b : Below w.heap.size w wx
  s : HSee wx A h
theorem HLX.below {A : HA} {h : HierD} {w wx wy : World} (k : HLX A h w wx) (o : Below wx.heap.size wx wy) : HLX A h w wy := ⟨k.x.below o k.x.lt, k.b.trans (o.mono k.b.size), k.s.below o⟩
structure QX (A : HA) (h : HierD) (ao : Option Addr) (cap : Nat) (ps : List Nat) (D : Nat → Nat → Option Int) (w wx : World) : Prop where
  k : HLX A h w wx
  m : MatSee h.node.length ao cap ps D wx
theorem QX.below {A : HA} {h : HierD} {ao : Option Addr} {cap : Nat} {ps : List Nat} {D : Nat → Nat → Option Int} {w wx wy : World} (q : QX A h ao cap ps D w wx) (o : Below wx.heap.size wx wy) : QX A h ao cap ps D w wy := ⟨q.k.below o, q.m.below o⟩
theorem QX.row {A : HA} {h : HierD} {ao : Option Addr} {cap : Nat} {ps : List Nat} {D : Nat → Nat → Option Int} {w wx : World} (q : QX A h ao cap ps D w wx) {s x : Nat} (hx : ps[s]? = some x) : ∃ b o, ao = some ⟨b, o, none⟩ ∧ wx.cell? ⟨b, o + s, none⟩ = some (.slice (some ⟨x, 0, none⟩) h.node.length h.node.length) := by
  obtain ⟨b, o, e, hc⟩ := q.m.see.cell s x hx
  have := hc 0 _ rfl
  rw [Nat.mul_one, Nat.add_zero] at this
  exact ⟨b, o, e, this⟩
/-- What the law knows of the answers. -/
structure QTF (h : HierD) (D : Nat → Nat → Option Int) (rb : Bool) : Prop where
  tr : ∀ (s t r : Nat) (d : Int) (x : EV), s < h.node.length → t < h.node.length → MeetIs h (s : Int) (t : Int) r d x → TrueIs h t (D s) d x
  rb : rb = true → ∀ r, r < h.node.length → HoldsD h r
  n : h.node.length ≤ 14
theorem meet_unform {h : HierD} {s t : Int} {r : Nat} {d : Int} {x : EV} (hc : checkErr h ≠ .nil) (m : MeetIs h s t r d x) : x ≠ .nil := by
  cases m with
  | form e => exact hc
  | nodes e k => exact absurd e hc
  | walk D E r d e k => exact absurd e hc
  | none D E e k => exact absurd e hc
def Few21 (h : HierD) (w : World) (e : Ending) (w' : World) : Prop := ∃ b : Bool, e = .returned (.bool b) ∧ (b = true → h.node.length ≤ 14 ∧ h.up.length + h.dn.length ≤ 400) ∧ Below w.heap.size w w'
set_option linter.unusedSimpArgs false in
set_option maxRecDepth 100000 in
set_option maxHeartbeats 8000000 in
theorem few21_any (A : HA) (h : HierD) (w : World) (hk : h.up.length + h.dn.length ≤ 281474976710656) : Calls Tryz.prog 5 #[hierVal A h] w (Few21 h w) := by
  unfold hierVal
  go_enter Tryz.func5, Tryz.ntmps5
  by_cases hd : h.node.length ≤ 14
  · have d1 : decide (h.node.length ≤ 14) = true := by simpa using hd
    have d2 : decide ((h.node.length : Int) ≤ 14) = true := by simp; omega
    have HN := Lib.hid hd
    clear hd
    go_wp2_with fail
    refine (count_any A h _).mono ?_
    rintro e w1 ⟨c, rfl, hc, hb⟩
    rw [IntWalk.wrap64_in _ (by omega)] at hc
    have HC := Lib.hid hc
    have HB1 := Lib.hid (((Below.refl w.heap.size w).alloc (Nat.le_refl _) _).trans (hb.mono (by simp)))
    clear hb hc
    go_wp2
    go_returns
    refine ⟨_, rfl, fun h1 => ⟨HN.out, ?_⟩, HB1.out⟩
    have := HC.out
    simp only [decide_eq_true_eq] at h1
    omega
  · have d1 : decide (h.node.length ≤ 14) = false := by simpa using hd
    have d2 : decide ((h.node.length : Int) ≤ 14) = false := by simp; omega
    clear hd
    go_wp2
    go_returns
    exact ⟨_, rfl, fun h1 => (by cases h1), by go_grown⟩

set_option linter.unusedSimpArgs false in
set_option maxRecDepth 100000 in
set_option maxHeartbeats 8000000 in
theorem qt_loops {s0 s2 s3 s4 s5 s6 s7 s8 s10 s11 s12 s14 s15 s16 s17 s18 s19 s20 s21 s22 s23 s24 s25 s26 s27 s28 s29 s30 s31 s32 s33 s34 s35 s36 s37 s38 s39 s40 s41 s42 s43 s44 s45 s46 s47 s48 s49 s50 s51 s52 s53 s54 s55 s56 s57 s58 s59 s60 s61 s62 s63 s64 s65 s66 s67 s68 s69 s70 s71 s72 s73 s74 s75 s76 s77 s78 s79 s80 s81 s82 s83 s84 s85 s86 s87 s88 s89 s90 s91 s92 s93 s94 s95 s96 s97 s98 s99 s100 s101 s102 s103 s104 s105 s106 s107 s108 s109 s110 s111 s112 s113 s114 s115 s116 s117 s118 s119 s120 s121 s122 s123 s124 s125 s126 s127 s128 s129 s130 s131 s132 s133 s134 s135 s136 : Value} {A : HA} {h : HierD} {ao : Option Addr} {cap : Nat} {ps : List Nat} {D : Nat → Nat → Option Int} {w wx : World} {rb : Bool} (hg : EVar w) (hq : QX A h ao cap ps D w wx) (hf : QTF h D rb) : Code.wp Tryz.prog (tailAt 10 qtBody) (bodyPost Tryz.prog Tryz.f3 (BoolIs true w)) ⟨#[s0, .pointer (some ⟨w.heap.size, 0, none⟩), s2, s3, s4, s5, s6, s7, s8, .slice ao h.node.length cap, s10, s11, s12, .bool rb, s14, s15, s16, s17, s18, s19, s20, s21, s22, s23, s24, s25, s26, s27, s28, s29, s30, s31, s32, s33, s34, s35, s36, s37, s38, s39, s40, s41, s42, s43, s44, s45, s46, s47, s48, s49, s50, s51, s52, s53, s54, s55, s56, s57, s58, s59, s60, s61, s62, s63, s64, s65, s66, s67, s68, s69, s70, s71, s72, s73, s74, s75, s76, s77, s78, s79, s80, s81, s82, s83, s84, s85, s86, s87, s88, s89, s90, s91, s92, s93, s94, s95, s96, s97, s98, s99, s100, s101, s102, s103, s104, s105, s106, s107, s108, s109, s110, s111, s112, s113, s114, s115, s116, s117, s118, s119, s120, s121, s122, s123, s124, s125, s126, s127, s128, s129, s130, s131, s132, s133, s134, s135, s136], []⟩ wx := by
  have HG := Lib.hid hg
  have HQ0 := Lib.hid hq
  have HF := Lib.hid hf
  have hn14 := hf.n
  clear hg hq hf
  conv => arg 2; whnf
  apply wp_seq_k
  intro KL hK
  have HKL := Lib.hid hK
  clear hK
  go_wp2_with fail
  go_loopg [78] h.node.length (fun g vi wr => ∃ s : Nat, vi = .int .i64 (s : Int) ∧ s ≤ h.node.length ∧ g = h.node.length - s ∧ QX A h ao cap ps D w wr)
  case atStart => exact ⟨0, rfl, Nat.zero_le _, rfl, HQ0.out⟩
  case round =>
    obtain ⟨s, rfl, hs, hgm, hq⟩ := hrel
    obtain ⟨wo, rfl⟩ : ∃ wo, wo = wr := ⟨_, rfl⟩
    have HQ := Lib.hid hq
    have HG1 := Lib.hid hgm
    clear hq hgm HQ0
    by_cases hsl : s < h.node.length
    · obtain ⟨x, hx⟩ : ∃ x, ps[s]? = some x := ⟨_, List.getElem?_eq_getElem (by rw [HQ.out.m.len]; exact hsl)⟩
      have HX := Lib.hid hx
      clear hx
      go_wp2_with fail
      go_loopg [83] h.node.length (fun gg vt wr => ∃ t : Nat, vt = .int .i64 (t : Int) ∧ t ≤ h.node.length ∧ gg = h.node.length - t ∧ QX A h ao cap ps D w wr)
      case atStart => exact ⟨0, rfl, Nat.zero_le _, rfl, HQ.out⟩
      case round =>
        obtain ⟨t, rfl, ht, hgm, hq⟩ := hrel
        have HQ2 := Lib.hid hq
        have HG2 := Lib.hid hgm
        clear hq hgm HQ
        by_cases htl : t < h.node.length
        · obtain ⟨k0, k1, k2, k3, k4⟩ := hier_five HQ2.out.k.x
          go_wp2_with fail
          refine (distance_any A h s t _ HQ2.out.k.s (by omega) (by omega)).mono ?_
          rintro e w3 ⟨r, d, xv, v, rfl, hv, hm, hb⟩
          have TI := Lib.hid (HF.out.tr s t r d xv hsl htl hm)
          have HV := Lib.hid hv
          have HQ3 := Lib.hid (HQ2.out.below hb)
          clear hb hv hm HQ2 k0 k1 k2 k3 k4
          cases hnil : xv.isNil with
          | true =>
            obtain rfl := EV.isNil_iff.1 hnil
            have hvn := HV.out.nilv rfl
            subst hvn
            obtain ⟨bm, om, ea, m0⟩ := HQ3.out.row HX.out
            have m1 := (HQ3.out.m.r s x HX.out).cell (rowF_full (D := D s) htl)
            obtain ⟨m, hm1, hm2⟩ := TI.out.le rfl
            rw [hm1] at m1
            simp only [farOf] at m1
            have EA := Lib.hid ea
            rw [ea]
            have cm := HQ3.out.m.see.hcap
            have cx := HQ3.out.m.see.hmax
            rw [HQ3.out.m.len] at cm
            have q1 : decide (d < m) = false := by simp; omega
            have TE := Lib.hid (fun h2 => TI.out.eq rfl h2)
            clear hnil ea hm2 TI HV
            cases rb with
            | false =>
              clear TE hm1
              go_wp2_with fail
              rw [← EA.out]
              go_roundg (h.node.length - (t + 1))
              case measure => rw [HG2.out]; omega
              case rel => exact ⟨t + 1, by go_num, by omega, rfl, HQ3.out⟩
            | true =>
              have hdm := TE.out (HF.out.rb rfl)
              rw [hm1] at hdm
              simp only [Option.some.injEq] at hdm
              subst hdm
              clear TE hm1
              go_wp2_with fail
              rw [← EA.out]
              go_roundg (h.node.length - (t + 1))
              case measure => rw [HG2.out]; omega
              case rel => exact ⟨t + 1, by go_num, by omega, rfl, HQ3.out⟩
          | false =>
            have hxn : xv ≠ .nil := fun e => by rw [e] at hnil; cases hnil
            obtain ⟨hx16, hnone⟩ := TI.out.none hxn
            subst hx16
            obtain ⟨t1, u1, rfl⟩ := HV.out.iface hxn
            have HNO := Lib.hid hnone
            clear hnil hxn hnone TI
            go_wp2_with fail
            refine (e_any 16 _).mono ?_
            rintro e w4 ⟨vx, rfl, hvx, hb⟩
            obtain rfl : vx = .agg #[.int .i64 16, .slice none 0 0] := hvx
            have HQ4 := Lib.hid (HQ3.out.below hb)
            have HV4 := Lib.hid (HV.out.below hb)
            clear hb HQ3 HV
            go_wp2_with fail
            refine (same_any (.code 16) _ _ _ ⟨by decide, by decide⟩ (HG.out.below HQ4.out.k.b) HV4.out rfl).mono ?_
            rintro e w5 ⟨rfl, hb⟩
            have HQ3 := Lib.hid (HQ4.out.below hb)
            clear hb HQ4 HV4
            obtain ⟨bm, om, ea, m0⟩ := HQ3.out.row HX.out
            have m1 := (HQ3.out.m.r s x HX.out).cell (rowF_full (D := D s) htl)
            have EA := Lib.hid ea
            rw [ea]
            have cm := HQ3.out.m.see.hcap
            have cx := HQ3.out.m.see.hmax
            rw [HQ3.out.m.len] at cm
            clear ea
            cases rb with
            | false =>
              clear HNO
              go_wp2_with fail
              rw [← EA.out]
              go_roundg (h.node.length - (t + 1))
              case measure => rw [HG2.out]; omega
              case rel => exact ⟨t + 1, by go_num, by omega, rfl, HQ3.out⟩
            | true =>
              rw [HNO.out (HF.out.rb rfl)] at m1
              simp only [farOf] at m1
              clear HNO
              go_wp2_with fail
              rw [← EA.out]
              go_roundg (h.node.length - (t + 1))
              case measure => rw [HG2.out]; omega
              case rel => exact ⟨t + 1, by go_num, by omega, rfl, HQ3.out⟩
        · obtain rfl : t = h.node.length := by omega
          go_wp2_with fail
          go_roundg (h.node.length - (s + 1))
          case measure => rw [HG1.out]; omega
          case rel => exact ⟨s + 1, by go_num, by omega, rfl, HQ2.out⟩
    · obtain rfl : s = h.node.length := by omega
      go_wp2_with fail
      refine HKL.out _ _ ?_
      go_wp2
      go_returns
      exact ⟨rfl, HQ.out.k.b⟩

set_option linter.unusedSimpArgs false in
set_option maxRecDepth 100000 in
set_option maxHeartbeats 8000000 in
theorem qt_rows {s0 s2 s3 s4 s5 s6 s7 s8 s10 s11 s12 s13 s14 s15 s16 s17 s18 s19 s20 s21 s22 s23 s24 s25 s26 s27 s28 s29 s30 s31 s32 s33 s34 s35 s36 s37 s38 s39 s40 s41 s42 s43 s44 s45 s46 s47 s48 s49 s50 s51 s52 s53 s54 s55 s56 s57 s58 s59 s60 s61 s62 s63 s64 s65 s66 s67 s68 s69 s70 s71 s72 s73 s74 s75 s76 s77 s78 s79 s80 s81 s82 s83 s84 s85 s86 s87 s88 s89 s90 s91 s92 s93 s94 s95 s96 s97 s98 s99 s100 s101 s102 s103 s104 s105 s106 s107 s108 s109 s110 s111 s112 s113 s114 s115 s116 s117 s118 s119 s120 s121 s122 s123 s124 s125 s126 s127 s128 s129 s130 s131 s132 s133 s134 s135 s136 : Value} {A : HA} {h : HierD} {ao : Option Addr} {cap : Nat} {ps : List Nat} {D : Nat → Nat → Option Int} {w wx : World} (hg : EVar w) (hq : QX A h ao cap ps D w wx) (hf : ∀ rb : Bool, (rb = true → ∀ r, r < h.node.length → HoldsD h r) → QTF h D rb) (hn14 : h.node.length ≤ 14) : Code.wp Tryz.prog (tailAt 8 qtBody) (bodyPost Tryz.prog Tryz.f3 (BoolIs true w)) ⟨#[s0, .pointer (some ⟨w.heap.size, 0, none⟩), s2, s3, s4, s5, s6, s7, s8, .slice ao h.node.length cap, s10, s11, s12, s13, s14, s15, s16, s17, s18, s19, s20, s21, s22, s23, s24, s25, s26, s27, s28, s29, s30, s31, s32, s33, s34, s35, s36, s37, s38, s39, s40, s41, s42, s43, s44, s45, s46, s47, s48, s49, s50, s51, s52, s53, s54, s55, s56, s57, s58, s59, s60, s61, s62, s63, s64, s65, s66, s67, s68, s69, s70, s71, s72, s73, s74, s75, s76, s77, s78, s79, s80, s81, s82, s83, s84, s85, s86, s87, s88, s89, s90, s91, s92, s93, s94, s95, s96, s97, s98, s99, s100, s101, s102, s103, s104, s105, s106, s107, s108, s109, s110, s111, s112, s113, s114, s115, s116, s117, s118, s119, s120, s121, s122, s123, s124, s125, s126, s127, s128, s129, s130, s131, s132, s133, s134, s135, s136], []⟩ wx := by
  have HG := Lib.hid hg
  have HQ0 := Lib.hid hq
  have HF := Lib.hid hf
  clear hg hq hf
  conv => arg 2; whnf
  apply wp_seq_k
  intro KL hK
  have HKL := Lib.hid hK
  clear hK
  go_wp2_with fail
  go_loopg [63] h.node.length (fun g vi wr => ∃ s : Nat, vi = .int .i64 (s : Int) ∧ s ≤ h.node.length ∧ g = h.node.length - s ∧ QX A h ao cap ps D w wr)
  case atStart => exact ⟨0, rfl, Nat.zero_le _, rfl, HQ0.out⟩
  case round =>
    obtain ⟨s, rfl, hs, hgm, hq⟩ := hrel
    have HQ := Lib.hid hq
    have HG1 := Lib.hid hgm
    clear hq hgm HQ0
    by_cases hsl : s < h.node.length
    · obtain ⟨x, hx⟩ : ∃ x, ps[s]? = some x := ⟨_, List.getElem?_eq_getElem (by rw [HQ.out.m.len]; exact hsl)⟩
      obtain ⟨bm, om, ea, m0⟩ := HQ.out.row hx
      have EA := Lib.hid ea
      have cm := HQ.out.m.see.hcap
      have cx := HQ.out.m.see.hmax
      rw [HQ.out.m.len] at cm
      rw [ea]
      clear ea hx
      go_wp2_with fail
      rw [← EA.out]
      go_roundg (h.node.length - (s + 1))
      case measure => rw [HG1.out]; omega
      case rel => exact ⟨s + 1, by go_num, by omega, rfl, HQ.out⟩
    · obtain rfl : s = h.node.length := by omega
      go_wp2_with fail
      refine HKL.out _ _ ?_
      change Code.wp _ (tailAt 9 qtBody) _ _ _
      obtain ⟨k0, k1, k2, k3, k4⟩ := hier_five HQ.out.k.x
      clear HKL
      conv => arg 2; whnf
      apply wp_seq_k
      intro KM hK
      have HKM := Lib.hid hK
      clear hK
      go_wp2_with fail
      refine (scheck_any A h _ HQ.out.k.s).mono ?_
      rintro e w3 ⟨v, xv, rfl, hv, hsc, hb⟩
      have HQ3 := Lib.hid (HQ.out.below hb)
      cases hnil : xv.isNil with
      | true =>
        obtain rfl := EV.isNil_iff.1 hnil
        have hvn := hv.nilv rfl
        subst hvn
        have HSC := Lib.hid (hsc.nil_iff.1 rfl).2
        clear hb hv hsc hnil HQ k0 k1 k2 k3 k4
        go_wp2_with fail
        refine HKM.out _ _ ?_
        change Code.wp _ (tailAt 10 qtBody) _ _ _
        exact qt_loops HG.out HQ3.out (HF.out true fun _ => HSC.out)
      | false =>
        have hxn : xv ≠ .nil := fun e => by rw [e] at hnil; cases hnil
        obtain ⟨t1, u1, rfl⟩ := hv.iface hxn
        clear hb hv hsc hnil HQ k0 k1 k2 k3 k4
        go_wp2_with fail
        refine HKM.out _ _ ?_
        change Code.wp _ (tailAt 10 qtBody) _ _ _
        exact qt_loops HG.out HQ3.out (HF.out false fun e => (by cases e))

set_option linter.unusedSimpArgs false in
set_option maxRecDepth 100000 in
set_option maxHeartbeats 8000000 in
theorem qt_mid {s0 s2 s4 s5 s6 s7 s8 s9 s10 s11 s12 s13 s14 s15 s16 s17 s18 s19 s20 s21 s22 s23 s24 s25 s26 s27 s28 s29 s30 s31 s32 s33 s34 s35 s36 s37 s38 s39 s40 s41 s42 s43 s44 s45 s46 s47 s48 s49 s50 s51 s52 s53 s54 s55 s56 s57 s58 s59 s60 s61 s62 s63 s64 s65 s66 s67 s68 s69 s70 s71 s72 s73 s74 s75 s76 s77 s78 s79 s80 s81 s82 s83 s84 s85 s86 s87 s88 s89 s90 s91 s92 s93 s94 s95 s96 s97 s98 s99 s100 s101 s102 s103 s104 s105 s106 s107 s108 s109 s110 s111 s112 s113 s114 s115 s116 s117 s118 s119 s120 s121 s122 s123 s124 s125 s126 s127 s128 s129 s130 s131 s132 s133 s134 s135 s136 : Value} {A : HA} {h : HierD} {bg : Nat} {ga : Option Addr} {gc : Nat} {l : List AF} {w wx : World} (hg : EVar w) (k : HLX A h w wx) (hx : Cells wx bg 30 [.int .i64 (h.node.length : Int), .slice ga l.length gc]) (see : See wx ga gc arcCells 3 l) (hc : checkErr h = .nil) (hpm : l.Perm (arcsL h)) (hn14 : h.node.length ≤ 14) (hl : l.length ≤ 400) : Code.wp Tryz.prog (tailAt 5 qtBody) (bodyPost Tryz.prog Tryz.f3 (BoolIs true w)) ⟨#[s0, .pointer (some ⟨w.heap.size, 0, none⟩), s2, .pointer (some ⟨bg, 0, none⟩), s4, s5, s6, s7, s8, s9, s10, s11, s12, s13, s14, s15, s16, s17, s18, s19, s20, s21, s22, s23, s24, s25, s26, s27, s28, s29, s30, s31, s32, s33, s34, s35, s36, s37, s38, s39, s40, s41, s42, s43, s44, s45, s46, s47, s48, s49, s50, s51, s52, s53, s54, s55, s56, s57, s58, s59, s60, s61, s62, s63, s64, s65, s66, s67, s68, s69, s70, s71, s72, s73, s74, s75, s76, s77, s78, s79, s80, s81, s82, s83, s84, s85, s86, s87, s88, s89, s90, s91, s92, s93, s94, s95, s96, s97, s98, s99, s100, s101, s102, s103, s104, s105, s106, s107, s108, s109, s110, s111, s112, s113, s114, s115, s116, s117, s118, s119, s120, s121, s122, s123, s124, s125, s126, s127, s128, s129, s130, s131, s132, s133, s134, s135, s136], []⟩ wx := by
  have HG := Lib.hid hg
  have K := Lib.hid k
  have HC := Lib.hid hc
  have HP := Lib.hid hpm
  have SEE := Lib.hid see
  have HL := Lib.hid hl
  have g0 : wx.cell? ⟨bg, 0, none⟩ = some (.int .i64 (h.node.length : Int)) := hx.cell rfl
  have g1 : wx.cell? ⟨bg, 1, none⟩ = some (.slice ga l.length gc) := hx.cell rfl
  clear hg k hc hpm see hx hl
  conv => arg 2; whnf
  apply wp_seq_k
  intro K5 hK
  have HK5 := Lib.hid hK
  clear hK
  go_wp2_with fail
  refine (build_any h.node.length ga gc l _ SEE.out (by omega) (by have := HL.out; omega) ((arcs_clean HC.out).perm HP.out)).mono ?_
  rintro e w1 ⟨C, l', rfl, hp', ok, hcs, hb⟩
  have ho := (Below.refl w1.heap.size w1).alloc (Nat.le_refl _) (.cells #[.slice C.fa (h.node.length + 1) C.fc, .slice C.ta l'.length C.tc, .slice C.wa l'.length C.wc] 40)
  have K1 := Lib.hid ((K.out.below hb).below ho)
  have HX1 := Lib.hid (Cells.new w1 40 [.slice C.fa (h.node.length + 1) C.fc, .slice C.ta l'.length C.tc, .slice C.wa l'.length C.wc])
  have HS1 := Lib.hid (hcs.below ho)
  have HPL := Lib.hid (hp'.trans HP.out)
  have HLL := Lib.hid hp'.length_eq
  have OK := Lib.hid ok
  obtain ⟨bc, hbc⟩ : ∃ b, w1.heap.size = b := ⟨_, rfl⟩
  obtain ⟨wy, hwy⟩ : ∃ wy, w1.alloc (.cells #[.slice C.fa (h.node.length + 1) C.fc, .slice C.ta l'.length C.tc, .slice C.wa l'.length C.wc] 40) = wy := ⟨_, rfl⟩
  rw [hbc, hwy] at HX1
  rw [hwy] at K1 HS1
  have HBC := Lib.hid hbc
  have HWY := Lib.hid hwy
  clear hb ho hcs hp' ok hbc hwy g0 g1 K SEE HP
  unfold csrVal
  go_wp2_with fail
  refine HK5.out _ _ ?_
  change Code.wp _ (tailAt 6 qtBody) _ _ _
  rw [HWY.out, HBC.out]
  clear HK5 HWY HBC
  have x0 : wy.cell? ⟨bc, 0, none⟩ = some (.slice C.fa (h.node.length + 1) C.fc) := HX1.out.cell rfl
  have x1 : wy.cell? ⟨bc, 1, none⟩ = some (.slice C.ta l'.length C.tc) := HX1.out.cell rfl
  have x2 : wy.cell? ⟨bc, 2, none⟩ = some (.slice C.wa l'.length C.wc) := HX1.out.cell rfl
  conv => arg 2; whnf
  apply wp_seq_k
  intro K6 hK
  have HK6 := Lib.hid hK
  clear hK
  go_wp2_with fail
  refine (matrix_any C h.node.length l'.length l' _ OK.out HS1.out rfl (by omega)).mono ?_
  rintro e w2 ⟨ao, cap, ps, D, rfl, hm, hD, hbig, hb⟩
  have HQ := Lib.hid (QX.mk (K1.out.below hb) hm)
  have HF : Hid (∀ rb : Bool, (rb = true → ∀ r, r < h.node.length → HoldsD h r) → QTF h D rb) := Lib.hid fun rb hrb => ⟨fun s t r d x hs ht m => true_is HC.out HPL.out hs ht (hD s hs) (fun v m hv => by have := (hbig s hs v m hv).2; omega) m, hrb, hn14⟩
  clear hb hm hD hbig x0 x1 x2 K1 HX1 HS1
  go_wp2_with fail
  refine HK6.out _ _ ?_
  change Code.wp _ (tailAt 7 qtBody) _ _ _
  clear HK6
  obtain ⟨k0, k1, k2, k3, k4⟩ := hier_five HQ.out.k.x
  conv => arg 2; whnf
  apply wp_seq_k
  intro K7 hK
  have HK7 := Lib.hid hK
  clear hK
  go_wp2_with fail
  refine HK7.out _ _ ?_
  change Code.wp _ (tailAt 8 qtBody) _ _ _
  exact qt_rows HG.out HQ.out HF.out hn14

set_option linter.unusedSimpArgs false in
set_option maxRecDepth 100000 in
set_option maxHeartbeats 8000000 in
theorem queryTrue_any (A : HA) (h : HierD) (w : World) (hg : EVar w) (see : HSee w A h) (hr : Reach5 h) : Calls Tryz.prog 3 #[hierVal A h] w (BoolIs true w) := by
  have hk1 : h.up.length ≤ 140737488355328 := by have := hr.up; omega
  have hk2 : h.dn.length ≤ 140737488355328 := by have := hr.dn; omega
  have hk : h.up.length + h.dn.length ≤ 281474976710656 := by omega
  have HG := Lib.hid hg
  have K0 := Lib.hid (HLX.mk (A := A) (h := h) (w := w) (Cells.new w 25 (hierCells A h)) ((Below.refl w.heap.size w).alloc (Nat.le_refl _) (.cells (hierCells A h).toArray 25)) (see.below ((Below.refl w.heap.size w).alloc (Nat.le_refl _) _)))
  clear hg see hr
  unfold hierVal
  go_enter Tryz.func3, Tryz.ntmps3
  apply wp_seq_k
  intro Ka hK
  have HKa := Lib.hid hK
  clear hK
  go_wp2_with fail
  refine HKa.out _ _ ?_
  clear HKa
  apply wp_seq_k
  intro Kb hK
  have HKb := Lib.hid hK
  clear hK
  go_wp2_with fail
  refine (awake_any _).mono ?_
  rintro e w1 ⟨rfl, hb⟩
  have K1 := Lib.hid (K0.out.below hb)
  clear hb K0
  go_wp2_with fail
  refine HKb.out _ _ ?_
  clear HKb
  obtain ⟨k0, k1, k2, k3, k4⟩ := hier_five K1.out.x
  apply wp_seq_k
  intro Kc hK
  have HKc := Lib.hid hK
  clear hK
  go_wp2_with fail
  refine (few21_any A h _ hk).mono ?_
  rintro e w2 ⟨b, rfl, hf, hb⟩
  have K2 := Lib.hid (K1.out.below hb)
  clear hb K1 k0 k1 k2 k3 k4
  cases b with
  | false =>
    clear hf
    go_wp2
    go_returns
    exact ⟨rfl, K2.out.b⟩
  | true =>
    have HF := Lib.hid (hf rfl)
    clear hf
    obtain ⟨k0, k1, k2, k3, k4⟩ := hier_five K2.out.x
    go_wp2_with fail
    refine HKc.out _ _ ?_
    clear HKc
    apply wp_seq_k
    intro Kd hK
    have HKd := Lib.hid hK
    clear hK
    go_wp2_with fail
    refine (graph_any A h _ K2.out.s hk).mono ?_
    rintro e w3 (⟨v, rfl, hv, hne, hb⟩ | ⟨ga, gc, l, rfl, hc, hpm, -, ho, hb⟩)
    · obtain ⟨t1, u1, rfl⟩ := hv.iface hne
      have ho := (Below.refl w3.heap.size w3).alloc (Nat.le_refl _) (.cells #[.int .i64 0, .slice none 0 0] 30)
      have K3 := Lib.hid ((K2.out.below hb).below ho)
      have HNE := Lib.hid hne
      clear hb ho hv hne K2 k0 k1 k2 k3 k4
      go_wp2_with fail
      refine HKd.out _ _ ?_
      clear HKd
      obtain ⟨wy, hwy⟩ : ∃ wy, w3.alloc (.cells #[.int .i64 0, .slice none 0 0] 30) = wy := ⟨_, rfl⟩
      rw [hwy] at K3 ⊢
      clear hwy
      obtain ⟨k0, k1, k2, k3, k4⟩ := hier_five K3.out.x
      apply wp_seq_k
      intro Ke hK
      have HKe := Lib.hid hK
      clear hK
      go_wp2_with fail
      refine (distance_any A h 0 0 _ K3.out.s (by omega) (by omega)).mono ?_
      rintro e w4 ⟨r, d, x, v, rfl, hv, hm, hb⟩
      obtain ⟨t2, u2, rfl⟩ := hv.iface (meet_unform HNE.out hm)
      have K4 := Lib.hid (K3.out.below hb)
      clear hb hv hm K3 k0 k1 k2 k3 k4
      go_wp2
      go_returns
      exact ⟨rfl, K4.out.b⟩
    · have hoo := (Below.refl w3.heap.size w3).alloc (Nat.le_refl _) (.cells #[.int .i64 (h.node.length : Int), .slice ga l.length gc] 30)
      have K3 := Lib.hid ((K2.out.below hb).below hoo)
      have HX3 := Lib.hid (Cells.new w3 30 [.int .i64 (h.node.length : Int), .slice ga l.length gc])
      have HS3 := Lib.hid (ho.see.1.below hoo)
      have HC := Lib.hid hc
      have HP := Lib.hid hpm
      have HLE : Hid (l.length ≤ 400) := Lib.hid (by
        rw [hpm.length_eq]
        have h1 := arcsTo_len h (endsOf h).length
        rw [arcsTo_all, cnt_ends hc] at h1
        have h2 := HF.out.2
        unfold cntOf at h1
        omega)
      clear hb hoo ho hc hpm K2 k0 k1 k2 k3 k4
      go_wp2_with fail
      refine HKd.out _ _ ?_
      clear HKd
      obtain ⟨wy, hwy⟩ : ∃ wy, w3.alloc (.cells #[.int .i64 (h.node.length : Int), .slice ga l.length gc] 30) = wy := ⟨_, rfl⟩
      rw [hwy] at K3 HX3 HS3 ⊢
      clear hwy
      apply wp_seq_k
      intro Ke hK
      have HKe := Lib.hid hK
      clear hK
      go_wp2_with fail
      refine HKe.out _ _ ?_
      change Code.wp _ (tailAt 5 qtBody) _ _ _
      exact qt_mid HG.out K3.out HX3.out HS3.out HC.out HP.out HF.out.1 HLE.out
end Go.Proofs.YtblkkjfpggcgfaaGreatDoor
