/- sound.Check. -/
import Derived.Test.YtjbphoophgbmiaaDoorHoldsS
namespace Go.Proofs.YtjbphoophgbmiaaDoor
open Go.ChangeShapes Go.WideShapes Go.ChangeAt Go.RowKit Go.Joins Go.Deep

noncomputable def scheckBody : Code := Tryd.f17.body.getD .skip
/-- What sound.Check answers. -/
def SCheck (h : HierD) (x : EV) : Prop := (checkErr h ≠ .nil ∧ x = checkErr h) ∨ (checkErr h = .nil ∧ (∀ r, r < h.node.length → HoldsD h r) ∧ x = .nil) ∨
  (checkErr h = .nil ∧ ∃ r, r < h.node.length ∧ ¬ HoldsD h r ∧ (∀ q, q < r → HoldsD h q) ∧ x = .at 3 r 15)
def SCheckNew (h : HierD) (w : World) (e : Ending) (w' : World) : Prop := ∃ v x, e = .returned v ∧ ErrIs w' v x ∧ SCheck h x ∧ Below w.heap.size w w'
theorem weave_lit (A : HA) (h : HierD) (w : World) (see : HSee w A h) (u : FirstsOk h.node.length h.upF h.up.length) (d : FirstsOk h.node.length h.dnF h.dn.length) (ok : HalfOk h.node.length h.upF h.up) (okd : HalfOk h.node.length h.dnF h.dn) (hn : h.node.length ≤ 65536) (htot : h.up.length + h.dn.length ≤ 1048576) : Calls Tryd.prog 49 #[.agg #[.slice A.a0 h.node.length A.c0, .slice A.a1 h.upF.length A.c1, .slice A.a2 h.up.length A.c2, .slice A.a3 h.dnF.length A.c3, .slice A.a4 h.dn.length A.c4]] w (WeaveNew h w) := weave_any A h w see u d ok okd hn htot

set_option linter.unusedSimpArgs false in
set_option maxRecDepth 100000 in
set_option maxHeartbeats 8000000 in
theorem scheck_loop {s0 s2 s3 s5 s6 s7 s8 s9 s10 s11 s12 s13 s14 s15 s16 s17 s18 s19 s20 s21 s22 s23 s24 s25 s26 s27 : Value} {A : HA} {h : HierD} {w wx : World} {b4 bo base : Nat} {vs : Nat → Value} (see : HSee w A h) (hc : checkErr h = .nil) (htot : h.up.length + h.dn.length ≤ 1048576) (hb : Below w.heap.size w wx) (hx : Cells wx w.heap.size 25 (hierCells A h)) (h4 : Cells wx b4 92 [.slice (some ⟨bo, 0, none⟩) h.node.length h.node.length]) (wr : WRep base h.node.length (webD h) bo vs wx) :
    Code.wp Tryd.prog (tailAt 3 scheckBody) (bodyPost Tryd.prog Tryd.f17 (SCheckNew h w)) ⟨#[s0, .pointer (some ⟨w.heap.size, 0, none⟩), s2, s3, .pointer (some ⟨b4, 0, none⟩), s5, s6, s7, s8, s9, s10, s11, s12, s13, s14, s15, s16, s17, s18, s19, s20, s21, s22, s23, s24, s25, s26, s27], []⟩ wx := by
  have hp := checkErr_parts hc
  have hn := hp.1.n
  have u := firsts_nil hp.1.u hp.2.1
  have d := firsts_nil hp.1.d hp.2.2.1
  have ok := half_up hc
  have okd := half_dn hc
  have UOK := Lib.hid u
  have DOK := Lib.hid d
  have OKU := Lib.hid ok
  have OKD := Lib.hid okd
  have SEE := Lib.hid see
  have HC := Lib.hid hc
  clear hp u d ok okd see hc
  have HB0 := Lib.hid hb
  have HX0 := Lib.hid hx
  have H40 := Lib.hid h4
  have WR := Lib.hid wr
  obtain ⟨k0, k1, k2, k3, k4⟩ := hier_five hx
  clear hb hx h4 wr
  conv => arg 2; whnf
  apply wp_seq_k
  intro KK hK
  have HKK := Lib.hid hK
  clear hK
  go_wp2_with fail
  clear k0 k1 k2 k3 k4
  go_loopg [16] h.node.length (fun g vi wr => ∃ r : Nat, vi = .int .i64 r ∧ r ≤ h.node.length ∧ g = h.node.length - r ∧ (∀ q, q < r → HoldsD h q) ∧ Below wx.heap.size wx wr)
  case atStart => exact ⟨0, rfl, Nat.zero_le _, rfl, fun q hq => absurd hq (by omega), Below.refl _ _⟩
  case round =>
    obtain ⟨r, rfl, hrl, hg, hall, hbr⟩ := hrel
    obtain ⟨wo, rfl⟩ : ∃ wo : World, wo = wr := ⟨_, rfl⟩
    have HG := Lib.hid hg
    have HALL := Lib.hid hall
    have HBR := Lib.hid hbr
    have HB := Lib.hid (HB0.out.trans (hbr.mono HB0.out.size))
    have HX := Lib.hid (HX0.out.below hbr HX0.out.lt)
    have H4 := Lib.hid (H40.out.below hbr H40.out.lt)
    have WR2 := Lib.hid (WR.out.below hbr)
    clear hg hall hbr
    by_cases hrn : r < h.node.length
    · obtain ⟨k0, k1, k2, k3, k4⟩ := hier_five HX.out
      have q0 : wo.cell? ⟨b4, 0, none⟩ = some (.slice (some ⟨bo, 0, none⟩) h.node.length h.node.length) := H4.out.cell rfl
      go_wp2_with fail
      refine (holds_any A h r base bo vs _ (SEE.out.below HB.out) UOK.out DOK.out OKU.out OKD.out hn htot WR2.out hrn).mono ?_
      rintro e w1 ⟨b, rfl, hbi, hb1⟩
      have HBI := Lib.hid hbi
      have HB1 := Lib.hid hb1
      clear hbi hb1 k0 k1 k2 k3 k4 q0
      cases b
      · have hno : ¬ HoldsD h r := fun hh => by have := HBI.out.2 hh; cases this
        have HNO := Lib.hid hno
        clear hno
        go_wp2_with fail
        refine (at_any 3 r 15 _).mono ?_
        rintro e w2 ⟨v, rfl, hv, hb2⟩
        have HV := Lib.hid hv
        have HB2 := Lib.hid hb2
        clear hv hb2
        go_wp2
        go_returns
        exact ⟨v, .at 3 r 15, rfl, HV.out, .inr (.inr ⟨HC.out, r, hrn, HNO.out, HALL.out, rfl⟩), (HB.out.trans (HB1.out.mono HB.out.size)).trans (HB2.out.mono (HB.out.trans (HB1.out.mono HB.out.size)).size)⟩
      · have HOK := Lib.hid (HBI.out.1 rfl)
        go_wp2_with fail
        go_roundg (h.node.length - (r + 1))
        case measure => rw [HG.out]; omega
        case rel =>
          refine ⟨r + 1, by go_num, by omega, rfl, fun q hq => ?_, HBR.out.trans (HB1.out.mono HBR.out.size)⟩
          rcases Nat.lt_or_ge q r with c | c
          · exact HALL.out q c
          · obtain rfl : q = r := by omega
            exact HOK.out
    · obtain rfl : r = h.node.length := by omega
      go_wp2_with fail
      refine HKK.out _ _ ?_
      conv => arg 2; whnf
      go_wp2
      go_returns
      exact ⟨_, .nil, rfl, rfl, .inr (.inl ⟨HC.out, HALL.out, rfl⟩), HB.out⟩

set_option linter.unusedSimpArgs false in
set_option maxRecDepth 100000 in
set_option maxHeartbeats 8000000 in
theorem scheck_weave {s0 s2 s3 s4 s5 s6 s7 s8 s9 s10 s11 s12 s13 s14 s15 s16 s17 s18 s19 s20 s21 s22 s23 s24 s25 s26 s27 : Value} {A : HA} {h : HierD} {w wx : World} (see : HSee w A h) (hc : checkErr h = .nil) (htot : h.up.length + h.dn.length ≤ 1048576) (hb : Below w.heap.size w wx) (hx : Cells wx w.heap.size 25 (hierCells A h)) :
    Code.wp Tryd.prog (tailAt 2 scheckBody) (bodyPost Tryd.prog Tryd.f17 (SCheckNew h w)) ⟨#[s0, .pointer (some ⟨w.heap.size, 0, none⟩), s2, s3, s4, s5, s6, s7, s8, s9, s10, s11, s12, s13, s14, s15, s16, s17, s18, s19, s20, s21, s22, s23, s24, s25, s26, s27], []⟩ wx := by
  have hp := checkErr_parts hc
  have hn := hp.1.n
  have u := firsts_nil hp.1.u hp.2.1
  have d := firsts_nil hp.1.d hp.2.2.1
  have ok := half_up hc
  have okd := half_dn hc
  have UOK := Lib.hid u
  have DOK := Lib.hid d
  have OKU := Lib.hid ok
  have OKD := Lib.hid okd
  have SEE := Lib.hid see
  have HC := Lib.hid hc
  clear hp u d ok okd see hc
  have HB := Lib.hid hb
  have HX := Lib.hid hx
  obtain ⟨k0, k1, k2, k3, k4⟩ := hier_five hx
  clear hb hx
  conv => arg 2; whnf
  apply wp_seq_k
  intro KK hK
  have HKK := Lib.hid hK
  clear hK
  go_wp2_with fail
  refine (weave_lit A h _ (SEE.out.below HB.out) UOK.out DOK.out OKU.out OKD.out hn htot).mono ?_
  rintro e w1 ⟨bo, base, vs, rfl, hw, -, -, hb1⟩
  have ho := (Below.refl w1.heap.size w1).alloc (Nat.le_refl _) (.cells #[.slice (some ⟨bo, 0, none⟩) h.node.length h.node.length] 92)
  have HB1 := Lib.hid ((HB.out.trans (hb1.mono HB.out.size)).alloc (HB.out.trans (hb1.mono HB.out.size)).size (.cells #[.slice (some ⟨bo, 0, none⟩) h.node.length h.node.length] 92))
  have HX1 := Lib.hid ((HX.out.below hb1 HX.out.lt).alloc (.cells #[.slice (some ⟨bo, 0, none⟩) h.node.length h.node.length] 92))
  have HW1 := Lib.hid (hw.below ho)
  have H41 := Lib.hid (Cells.new w1 92 [.slice (some ⟨bo, 0, none⟩) h.node.length h.node.length])
  clear hb1 hw ho HB HX k0 k1 k2 k3 k4
  unfold webVal
  go_wp2_with fail
  refine HKK.out _ _ ?_
  change Code.wp _ (tailAt 3 scheckBody) _ _ _
  exact scheck_loop SEE.out HC.out htot HB1.out HX1.out H41.out HW1.out
set_option linter.unusedSimpArgs false in
set_option maxRecDepth 100000 in
set_option maxHeartbeats 8000000 in
/-- **sound.Check.** -/
theorem scheck_any (A : HA) (h : HierD) (w : World) (see : HSee w A h) : Calls Tryd.prog 17 #[hierVal A h] w (SCheckNew h w) := by
  have SEE := Lib.hid see
  have HX0 := Lib.hid (Cells.new w 25 (hierCells A h))
  have HB0 := Lib.hid ((Below.refl w.heap.size w).alloc (Nat.le_refl _) (.cells (hierCells A h).toArray 25))
  obtain ⟨k0, k1, k2, k3, k4⟩ := hier_five HX0.out
  clear see
  unfold hierVal
  go_enter Tryd.func17, Tryd.ntmps17
  apply wp_seq_k
  intro K0 hK
  have HK0 := Lib.hid hK
  clear hK
  go_wp2_with fail
  refine HK0.out _ _ ?_
  clear HK0
  apply wp_seq_k
  intro KK hK
  have HKK := Lib.hid hK
  clear hK
  go_wp2_with fail
  refine (hcheck_any A h _ (SEE.out.below HB0.out)).mono ?_
  rintro e w1 ⟨v, rfl, hv, hb⟩
  have HV := Lib.hid hv
  have HX := Lib.hid (HX0.out.below hb HX0.out.lt)
  have HB := Lib.hid (HB0.out.trans (hb.mono HB0.out.size))
  clear hv hb HX0 HB0 k0 k1 k2 k3 k4
  by_cases hc : checkErr h = .nil
  · obtain rfl := HV.out.nilv hc
    have hp := checkErr_parts hc
    have HT := Lib.hid (hp.1.total SEE.out (firsts_nil hp.1.u hp.2.1) (firsts_nil hp.1.d hp.2.2.1))
    have HC := Lib.hid hc
    clear hc hp
    go_wp2_with fail
    refine HKK.out _ _ ?_
    change Code.wp _ (tailAt 2 scheckBody) _ _ _
    exact scheck_weave SEE.out HC.out HT.out HB.out HX.out
  · obtain ⟨t1, v1, rfl⟩ := HV.out.iface hc
    have HC := Lib.hid hc
    clear hc
    go_wp2
    go_returns
    exact ⟨_, _, rfl, HV.out, .inl ⟨HC.out, rfl⟩, HB.out⟩
end Go.Proofs.YtjbphoophgbmiaaDoor
