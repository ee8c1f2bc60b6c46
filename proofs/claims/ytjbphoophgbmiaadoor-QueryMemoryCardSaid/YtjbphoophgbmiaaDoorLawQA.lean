/- What the form's own reach says of a hierarchy that comes in. -/
import Derived.Test.YtjbphoophgbmiaaDoorOpen
import Derived.Test.YtjbphoophgbmiaaDoorRefF
import Derived.Test.YtjbphoophgbmiaaDoorRefP
import Derived.Test.YtjbphoophgbmiaaDoorSame
namespace Go.Proofs.YtjbphoophgbmiaaDoor
open Go.ChangeShapes Go.WideShapes Go.ChangeAt Go.RowKit Go.Joins Go.Deep
section
variable {H : Type} {enc : TypeId × Value → H} {P : Program} {w : World}
theorem slice_weight {t e : TypeId} {ao : Option Addr} {k cap base n : Nat} {spare : Nat → Bool} {held : Bool} {y : DataW H × List MemPlace} {B : Nat} (ht : P.underlying t = some (.slice e)) (h : DataW.trod enc P w base spare held n t [.slice ao k cap] = some y)
    (hw : (y.1.weights P t).all (· ≤ B) = true) : k * P.bytesOf e ≤ B := by
  rcases DataW.trod_slice ht h with ⟨h1, -⟩ | ⟨a, len, cap2, elems, rest, m, -, h1, rfl, -, -, -, hl, -⟩
  · simp only [List.cons.injEq, and_true, Value.slice.injEq] at h1
    obtain ⟨-, rfl, -⟩ := h1
    simp
  · simp only [List.cons.injEq, and_true, Value.slice.injEq] at h1
    obtain ⟨-, rfl, -⟩ := h1
    simp only [DataW.weights, ht, List.all_cons, Bool.and_eq_true, decide_eq_true_eq, List.length_map] at hw
    refine Nat.le_trans ?_ hw.1
    exact Nat.mul_le_mul_right _ (by omega)
theorem hier_reach_of {u a b x l : TypeId} {A : HA} {D : HierD} {base : Nat} {spare : Nat → Bool} {held : Bool} {d : DataW H} {p : List MemPlace} (ht : HierType P u a b) (hta : P.underlying a = some (.slice x)) (htb : P.underlying b = some (.slice l)) (bx : P.bytesOf x = 4) (bl : P.bytesOf l = 24)
    (h : DataW.Trod enc P w base spare held u (hierVal A D) d p) (hw : (d.weights P u).all (· ≤ reachBytes) = true) : Reach5 D := by
  obtain ⟨hcs, hct, f0, f1, f2, f3, f4, hu, hone, t0, t1, t2, t3, t4⟩ := ht
  obtain ⟨fuel, hf⟩ := h
  obtain ⟨xs, n, _, hx, _, hlen, hg⟩ := DataW.trod_struct hu hf
  obtain ⟨o0, k0⟩ := hone_of hone 0 f0 rfl
  obtain ⟨o1, k1⟩ := hone_of hone 1 f1 rfl
  obtain ⟨o2, k2⟩ := hone_of hone 2 f2 rfl
  obtain ⟨o3, k3⟩ := hone_of hone 3 f3 rfl
  obtain ⟨o4, k4⟩ := hone_of hone 4 f4 rfl
  match xs, hlen with
  | [y0, y1, y2, y3, y4], _ =>
    have h0 : DataW.trod enc P w base spare held n f0.type [.slice A.a0 D.node.length A.c0] = some y0 := by simpa [hierVal, Value.cells, o0, k0] using hg 0 f0 rfl
    have h1 : DataW.trod enc P w base spare held n f1.type [.slice A.a1 D.upF.length A.c1] = some y1 := by simpa [hierVal, Value.cells, o1, k1] using hg 1 f1 rfl
    have h2 : DataW.trod enc P w base spare held n f2.type [.slice A.a2 D.up.length A.c2] = some y2 := by simpa [hierVal, Value.cells, o2, k2] using hg 2 f2 rfl
    have h3 : DataW.trod enc P w base spare held n f3.type [.slice A.a3 D.dnF.length A.c3] = some y3 := by simpa [hierVal, Value.cells, o3, k3] using hg 3 f3 rfl
    have h4 : DataW.trod enc P w base spare held n f4.type [.slice A.a4 D.dn.length A.c4] = some y4 := by simpa [hierVal, Value.cells, o4, k4] using hg 4 f4 rfl
    rw [t0] at h0; rw [t1] at h1; rw [t2] at h2; rw [t3] at h3; rw [t4] at h4
    simp only [Prod.mk.injEq] at hx
    obtain ⟨rfl, -⟩ := hx
    simp only [DataW.weights, hu, List.map_cons, List.map_nil, DataW.weightsEach, List.all_append, List.append_nil, Bool.and_eq_true, t0, t1, t2, t3, t4] at hw
    obtain ⟨w0, w1, w2, w3, w4⟩ := hw
    have r0 := slice_weight hta h0 w0
    have r1 := slice_weight hta h1 w1
    have r2 := slice_weight htb h2 w2
    have r3 := slice_weight hta h3 w3
    have r4 := slice_weight htb h4 w4
    rw [bx] at r0 r1 r3
    rw [bl] at r2 r4
    have hB : reachBytes ≤ 140737488355328 := by decide
    exact ⟨by omega, by omega, by omega, by omega, by omega⟩
theorem hier_reach {A : HA} {D : HierD} {base : Nat} {spare : Nat → Bool} {held : Bool} {d : DataW H} {p : List MemPlace}
    (h : DataW.Trod enc Tryd.prog w base spare held 25 (hierVal A D) d p) (hw : (d.weights Tryd.prog 25).all (· ≤ reachBytes) = true) : Reach5 D :=
  hier_reach_of Tryd.hierType Tryd.underlying22 Tryd.underlying23 (by kernel_rfl) (by kernel_rfl) h hw
end
end Go.Proofs.YtjbphoophgbmiaaDoor

/- The law QueryAsks: its walk. -/
namespace Go.Proofs.YtjbphoophgbmiaaDoor
open Go.ChangeShapes Go.WideShapes Go.ChangeAt Go.RowKit Go.Joins Go.Deep

theorem MeetIs.pos {h : HierD} {s t : Int} {r : Nat} {d : Int} {x : EV} (m : MeetIs h s t r d x) : x.pos := by
  cases m with
  | form e => exact checkErr_pos h
  | nodes e k => exact nodesErr_pos _ _ _
  | walk D E r d e k hD hE hm hd => simp [EV.pos]
  | none D E e k hD hE hd => simp [EV.pos]

set_option linter.unusedSimpArgs false in
set_option maxRecDepth 100000 in
set_option maxHeartbeats 8000000 in
theorem queryAsks_any (A : HA) (h : HierD) (s t : Int) (w : World) (hg : EVar w) (see : HSee w A h) (hr : Reach5 h) (hs64 : s ≤ 9223372036854775807) (ht64 : t ≤ 9223372036854775807) :
    Calls Tryd.prog 7 #[hierVal A h, .int .i64 s, .int .i64 t] w (BoolIs true w) := by
  have hk1 : h.up.length ≤ 140737488355328 := by have := hr.up; omega
  have hk2 : h.dn.length ≤ 140737488355328 := by have := hr.dn; omega
  have hn64 : h.node.length ≤ 140737488355328 := by have := hr.n; omega
  have HG := Lib.hid hg
  have SEE := Lib.hid see
  have HRE := Lib.hid hr
  have HX := Lib.hid (Cells.new w 25 (hierCells A h))
  have HB := Lib.hid ((Below.refl w.heap.size w).alloc (Nat.le_refl _) (.cells (hierCells A h).toArray 25))
  clear hg see hr
  unfold hierVal
  go_enter Tryd.func7, Tryd.ntmps7
  go_wp2_with fail
  refine (awake_any _).mono ?_
  rintro e w1 ⟨rfl, hb⟩
  have HX1 := Lib.hid (HX.out.below hb HX.out.lt)
  have HB1 := Lib.hid (HB.out.trans (hb.mono HB.out.size))
  obtain ⟨k0, k1, k2, k3, k4⟩ := hier_five HX1.out
  clear hb HX HB
  go_wp2_with fail
  refine (great_any A h _).mono ?_
  rintro e w2 ⟨b, rfl, hb⟩
  have HX2 := Lib.hid (HX1.out.below hb HX1.out.lt)
  have HB2 := Lib.hid (HB1.out.trans (hb.mono HB1.out.size))
  clear hb HX1 HB1 k0 k1 k2 k3 k4
  cases b
  case true =>
    go_wp2
    go_returns
    exact ⟨rfl, HB2.out⟩
  case false =>
    obtain ⟨k0, k1, k2, k3, k4⟩ := hier_five HX2.out
    go_wp2_with fail
    refine (rdocmeet_any A h s t _ (SEE.out.below HB2.out) hk1 hk2 hn64).mono ?_
    rintro e w3 ⟨r, d, x, v, rfl, hv, hm, hb⟩
    obtain ⟨uc, ua, un, ucap, rfl⟩ := hv.form
    have ho := (Below.refl w3.heap.size w3).alloc (Nat.le_refl _) (.cells #[.int .i64 uc, .slice ua un ucap] 30)
    have HX3 := Lib.hid ((HX2.out.below hb HX2.out.lt).alloc (.cells #[.int .i64 uc, .slice ua un ucap] 30))
    have HB3 := Lib.hid ((HB2.out.trans (hb.mono HB2.out.size)).trans (ho.mono (HB2.out.trans (hb.mono HB2.out.size)).size))
    have HV3 := Lib.hid (hv.below ho)
    have HC3 := Lib.hid (Cells.new w3 30 [.int .i64 uc, .slice ua un ucap])
    have HM := Lib.hid hm
    obtain ⟨b9, hb9⟩ : ∃ b9, w3.heap.size = b9 := ⟨_, rfl⟩
    rw [hb9] at HC3
    obtain ⟨wz, hwz⟩ : ∃ wz, w3.alloc (.cells #[.int .i64 uc, .slice ua un ucap] 30) = wz := ⟨_, rfl⟩
    rw [hwz] at HX3 HB3 HV3 HC3
    clear hv hm hb ho HX2 HB2 k0 k1 k2 k3 k4
    obtain ⟨k0, k1, k2, k3, k4⟩ := hier_five HX3.out
    go_wp2_with fail
    refine (twin_any A h _ (SEE.out.below HB3.out) HRE.out).mono ?_
    rintro e w4 ⟨A4, rfl, see4, -, hb⟩
    have S4 := Lib.hid see4
    clear see4 k0 k1 k2 k3 k4 hwz hb9
    have HX4 := Lib.hid (HX3.out.below hb HX3.out.lt)
    have HB4 := Lib.hid (HB3.out.trans (hb.mono HB3.out.size))
    have HV4 := Lib.hid (HV3.out.below hb)
    have HC4 := Lib.hid (HC3.out.below hb HC3.out.lt)
    clear hb HX3 HB3 HV3 HC3
    go_wp2_with fail
    refine (distance_any A4 h s t _ S4.out hs64 ht64).mono ?_
    rintro e w5 ⟨r4, d4, x4, v4, rfl, hv4, hm4, hb⟩
    obtain ⟨rfl, rfl, rfl⟩ := HM.out.same hm4
    have HI4 := Lib.hid hv4
    clear hv4 hm4 S4
    have HX5 := Lib.hid (HX4.out.below hb HX4.out.lt)
    have HB5 := Lib.hid (HB4.out.trans (hb.mono HB4.out.size))
    have HV5 := Lib.hid (HV4.out.below hb)
    have HC5 := Lib.hid (HC4.out.below hb HC4.out.lt)
    clear hb HX4 HB4 HV4 HC4
    have y0 : w5.cell? ⟨b9, 0, none⟩ = some (.int .i64 uc) := HC5.out.cell rfl
    have y1 : w5.cell? ⟨b9, 1, none⟩ = some (.slice ua un ucap) := HC5.out.cell rfl
    go_wp2_with fail
    refine (same_any x _ _ _ HM.out.pos (HG.out.below HB5.out) HI4.out HV5.out).mono ?_
    rintro e w6 ⟨rfl, hb⟩
    clear y0 y1 HI4
    have HX6 := Lib.hid (HX5.out.below hb HX5.out.lt)
    have HB6 := Lib.hid (HB5.out.trans (hb.mono HB5.out.size))
    have HV6 := Lib.hid (HV5.out.below hb)
    have HC6 := Lib.hid (HC5.out.below hb HC5.out.lt)
    clear hb HX5 HB5 HV5 HC5
    obtain ⟨k0, k1, k2, k3, k4⟩ := hier_five HX6.out
    go_wp2_with fail
    refine (twin_any A h _ (SEE.out.below HB6.out) HRE.out).mono ?_
    rintro e w7 ⟨A7, rfl, see7, -, hb⟩
    have S7 := Lib.hid see7
    clear see7 k0 k1 k2 k3 k4
    have HX7 := Lib.hid (HX6.out.below hb HX6.out.lt)
    have HB7 := Lib.hid (HB6.out.trans (hb.mono HB6.out.size))
    have HV7 := Lib.hid (HV6.out.below hb)
    have HC7 := Lib.hid (HC6.out.below hb HC6.out.lt)
    clear hb HX6 HB6 HV6 HC6
    go_wp2_with fail
    refine (qmeet_any A7 h s t _ S7.out hs64 ht64).mono ?_
    rintro e w8 ⟨r7, d7, x7, v7, rfl, hv7, hm7, hb⟩
    obtain ⟨rfl, rfl, rfl⟩ := HM.out.same hm7
    have HI7 := Lib.hid hv7
    clear hv7 hm7 S7
    have HX8 := Lib.hid (HX7.out.below hb HX7.out.lt)
    have HB8 := Lib.hid (HB7.out.trans (hb.mono HB7.out.size))
    have HV8 := Lib.hid (HV7.out.below hb)
    have HC8 := Lib.hid (HC7.out.below hb HC7.out.lt)
    clear hb HX7 HB7 HV7 HC7
    have y0 : w8.cell? ⟨b9, 0, none⟩ = some (.int .i64 uc) := HC8.out.cell rfl
    have y1 : w8.cell? ⟨b9, 1, none⟩ = some (.slice ua un ucap) := HC8.out.cell rfl
    go_wp2_with fail
    refine (same_any x _ _ _ HM.out.pos (HG.out.below HB8.out) HI7.out HV8.out).mono ?_
    rintro e w9 ⟨rfl, hb⟩
    clear y0 y1 HI7
    have HX9 := Lib.hid (HX8.out.below hb HX8.out.lt)
    have HB9 := Lib.hid (HB8.out.trans (hb.mono HB8.out.size))
    have HV9 := Lib.hid (HV8.out.below hb)
    have HC9 := Lib.hid (HC8.out.below hb HC8.out.lt)
    clear hb HX8 HB8 HV8 HC8
    go_wp2
    go_returns
    exact ⟨rfl, HB9.out⟩
end Go.Proofs.YtjbphoophgbmiaaDoor
