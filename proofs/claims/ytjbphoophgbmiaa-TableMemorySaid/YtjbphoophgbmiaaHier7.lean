/- hier's ends: the ways out ahead of its loop. -/
import Derived.Test.YtjbphoophgbmiaaHier6
namespace Go.Proofs.Ytjbphoophgbmiaa
open Go.ChangeShapes Go.WideShapes Go.ChangeAt Go.RowKit Go.Joins Go.Deep

def EndsPost (h : HierD) (w : World) (e : Ending) (w' : World) : Prop :=
  (∃ v, e = .returned (.tuple #[.slice none 0 0, v]) ∧ ErrIs w' v (checkErr h) ∧ checkErr h ≠ .nil ∧ Below w.heap.size w w') ∨
  (∃ ao cap, e = .returned (.tuple #[.slice ao (endsOf h).length cap, .nilIface]) ∧ checkErr h = .nil ∧ See w' ao cap endCells 7 (endsOf h) ∧ Below w.heap.size w w')
theorem EndsPost.bad {h : HierD} {w w' : World} {v : Value} {x : EV} (hc : checkErr h = x) (hx : x ≠ .nil) (hv : ErrIs w' v x) (hb : Below w.heap.size w w') : EndsPost h w (.returned (.tuple #[.slice none 0 0, v])) w' :=
  .inl ⟨v, rfl, by rw [hc]; exact hv, by rw [hc]; exact hx, hb⟩

set_option maxRecDepth 100000 in
set_option maxHeartbeats 2000000 in
theorem ends_limit1 (A : HA) (h : HierD) (w : World) (see : HSee w A h) (h1 : 65536 < h.node.length) : Calls Try.prog 26 #[hierVal A h] w (EndsPost h w) := by
  have hd : decide (65536 < h.node.length) = true := by simpa using h1
  have hc : checkErr h = .code 9 := by unfold checkErr; rw [if_pos (.inl h1)]
  have HC := Lib.hid hc
  have hl := Nat.le_trans see.node.hcap see.node.hmax
  clear see hc
  unfold hierVal
  go_enter Try.func26, Try.ntmps26
  go_wp2
  go_returns
  exact EndsPost.bad HC.out (by simp) rfl (by go_grown)

set_option maxRecDepth 100000 in
set_option maxHeartbeats 2000000 in
theorem ends_limit2 (A : HA) (h : HierD) (w : World) (h1 : h.node.length ≤ 65536) (h2 : 1048576 < wrap64 ((h.up.length : Int) + (h.dn.length : Int))) : Calls Try.prog 26 #[hierVal A h] w (EndsPost h w) := by
  have hd : decide (65536 < h.node.length) = false := by simpa using h1
  have hd2 : decide (1048576 < wrap64 ((h.up.length : Int) + (h.dn.length : Int))) = true := by simpa using h2
  have hc : checkErr h = .code 9 := by unfold checkErr; rw [if_pos (.inr h2)]
  have HC := Lib.hid hc
  clear hc
  unfold hierVal
  go_enter Try.func26, Try.ntmps26
  go_wp2
  go_returns
  exact EndsPost.bad HC.out (by simp) rfl (by go_grown)

set_option maxRecDepth 100000 in
set_option maxHeartbeats 2000000 in
theorem ends_shape1 (A : HA) (h : HierD) (w : World) (h1 : h.node.length ≤ 65536) (h2 : wrap64 ((h.up.length : Int) + (h.dn.length : Int)) ≤ 1048576) (h3 : h.upF.length ≠ h.node.length + 1 ∨ h.dnF.length ≠ h.node.length + 1) : Calls Try.prog 26 #[hierVal A h] w (EndsPost h w) := by
  have hd : decide (65536 < h.node.length) = false := by simpa using h1
  have hd2 : decide (1048576 < wrap64 ((h.up.length : Int) + (h.dn.length : Int))) = false := by simpa using h2
  have hc : checkErr h = .code 14 := by unfold checkErr; rw [if_neg (by omega), if_pos h3]
  have HC := Lib.hid hc
  clear hc
  unfold hierVal
  by_cases h4 : h.upF.length = h.node.length + 1
  · have h5 : h.dnF.length ≠ h.node.length + 1 := by omega
    have g1 : ((h.upF.length : Int) != (h.node.length : Int) + 1) = false := by simp; omega
    have g2 : ((h.dnF.length : Int) != (h.node.length : Int) + 1) = true := by simp; omega
    clear h3
    go_enter Try.func26, Try.ntmps26
    go_wp2
    go_returns
    exact EndsPost.bad HC.out (by simp) rfl (by go_grown)
  · have g1 : ((h.upF.length : Int) != (h.node.length : Int) + 1) = true := by simp; omega
    clear h3
    go_enter Try.func26, Try.ntmps26
    go_wp2
    go_returns
    exact EndsPost.bad HC.out (by simp) rfl (by go_grown)
theorem ErrIs.iface {w : World} {v : Value} {x : EV} (h : ErrIs w v x) (hx : x ≠ .nil) : ∃ t u, v = .iface t u := by
  cases x with
  | nil => exact absurd rfl hx
  | code n => exact ⟨_, _, h⟩
  | «at» k i n => obtain ⟨b, e, -⟩ := h; exact ⟨_, _, e⟩
theorem ErrIs.nilv {w : World} {v : Value} {x : EV} (h : ErrIs w v x) (hx : x = .nil) : v = .nilIface := by
  subst hx
  exact h

/-- What holds behind the first tests. -/
structure Fits (h : HierD) : Prop where
  n : h.node.length ≤ 65536
  s : wrap64 ((h.up.length : Int) + (h.dn.length : Int)) ≤ 1048576
  u : h.upF.length = h.node.length + 1
  d : h.dnF.length = h.node.length + 1
theorem Fits.err {h : HierD} (f : Fits h) : checkErr h = (match firstsErr h.upF h.up.length with | .nil => (match firstsErr h.dnF h.dn.length with | .nil => (match orderErr h.node with | .nil => linksGo h.node.length h.up.length (endsOf h) (endsOf h).length | e => e) | e => e) | e => e) := by
  unfold checkErr
  have h1 := f.n
  have h2 := f.s
  have h3 := f.u
  have h4 := f.d
  rw [if_neg (by omega), if_neg (by omega)]
  rfl

set_option maxRecDepth 100000 in
set_option maxHeartbeats 2000000 in
theorem ends_first1 (A : HA) (h : HierD) (w : World) (see : HSee w A h) (f : Fits h) (hx : firstsErr h.upF h.up.length ≠ .nil) : Calls Try.prog 26 #[hierVal A h] w (EndsPost h w) := by
  have h1 := f.n
  have F := Lib.hid f
  have hd : decide (65536 < h.node.length) = false := by simpa using h1
  have hd2 : decide (1048576 < wrap64 ((h.up.length : Int) + (h.dn.length : Int))) = false := by simpa using f.s
  have g1 : ((h.upF.length : Int) != (h.node.length : Int) + 1) = false := by simp; have := f.u; omega
  have g2 : ((h.dnF.length : Int) != (h.node.length : Int) + 1) = false := by simp; have := f.d; omega
  have hc : checkErr h = firstsErr h.upF h.up.length := by
    rw [f.err]
    cases e : firstsErr h.upF h.up.length <;> first | exact absurd e hx | rfl
  have HC := Lib.hid hc
  have SEE := Lib.hid see
  have HX := Lib.hid hx
  clear see hc f hx
  unfold hierVal
  go_enter Try.func26, Try.ntmps26
  go_wp2_with fail
  refine (firsts_any h.upF A.a1 A.c1 h.up.length _ (SEE.out.upF.alloc _) SEE.out.bu (by have := F.out.u; omega) (by have := F.out.u; omega)).mono ?_
  rintro e w1 ⟨v, rfl, hv, hb⟩
  obtain ⟨t, u, rfl⟩ := hv.iface HX.out
  have HV := Lib.hid hv
  have HB := Lib.hid (((Below.refl w.heap.size w).alloc (Nat.le_refl _) _).trans (hb.mono (by simp)))
  clear hv hb
  go_wp2
  go_returns
  exact EndsPost.bad HC.out HX.out HV.out HB.out

set_option maxRecDepth 100000 in
set_option maxHeartbeats 2000000 in
theorem ends_first2 (A : HA) (h : HierD) (w : World) (see : HSee w A h) (f : Fits h) (hx0 : firstsErr h.upF h.up.length = .nil) (hx : firstsErr h.dnF h.dn.length ≠ .nil) : Calls Try.prog 26 #[hierVal A h] w (EndsPost h w) := by
  have h1 := f.n
  have F := Lib.hid f
  have hd : decide (65536 < h.node.length) = false := by simpa using h1
  have hd2 : decide (1048576 < wrap64 ((h.up.length : Int) + (h.dn.length : Int))) = false := by simpa using f.s
  have g1 : ((h.upF.length : Int) != (h.node.length : Int) + 1) = false := by simp; have := f.u; omega
  have g2 : ((h.dnF.length : Int) != (h.node.length : Int) + 1) = false := by simp; have := f.d; omega
  have hc : checkErr h = firstsErr h.dnF h.dn.length := by
    rw [f.err, hx0]
    cases e : firstsErr h.dnF h.dn.length <;> first | exact absurd e hx | rfl
  have HC := Lib.hid hc
  have SEE := Lib.hid see
  have HX := Lib.hid hx
  have HX0 := Lib.hid hx0
  clear see hc f hx hx0
  unfold hierVal
  go_enter Try.func26, Try.ntmps26
  go_wp2_with fail
  refine (firsts_any h.upF A.a1 A.c1 h.up.length _ (SEE.out.upF.alloc _) SEE.out.bu (by have := F.out.u; omega) (by have := F.out.u; omega)).mono ?_
  rintro e w1 ⟨v, rfl, hv, hb⟩
  obtain rfl := hv.nilv HX0.out
  have hcs := (Cells.new w 25 (hierCells A h)).below hb (by simp)
  have c3 : w1.cell? ⟨w.heap.size, 3, none⟩ = some (.slice A.a3 h.dnF.length A.c3) := hcs.cell rfl
  have c4 : w1.cell? ⟨w.heap.size, 4, none⟩ = some (.slice A.a4 h.dn.length A.c4) := hcs.cell rfl
  have HB := Lib.hid (((Below.refl w.heap.size w).alloc (Nat.le_refl _) _).trans (hb.mono (by simp)))
  have hsz := hcs.lt
  clear hv hb hcs
  go_wp2_with fail
  refine (firsts_any h.dnF A.a3 A.c3 h.dn.length _ (SEE.out.dnF.below HB.out) SEE.out.bd (by have := F.out.d; omega) (by have := F.out.d; omega)).mono ?_
  rintro e w2 ⟨v, rfl, hv, hb⟩
  obtain ⟨t, u, rfl⟩ := hv.iface HX.out
  have HV := Lib.hid hv
  have HB2 := Lib.hid (HB.out.trans (hb.mono HB.out.size))
  clear hv hb
  go_wp2
  go_returns
  exact EndsPost.bad HC.out HX.out HV.out HB2.out

set_option maxRecDepth 100000 in
set_option maxHeartbeats 2000000 in
theorem ends_order (A : HA) (h : HierD) (w : World) (see : HSee w A h) (f : Fits h) (hx0 : firstsErr h.upF h.up.length = .nil) (hx1 : firstsErr h.dnF h.dn.length = .nil) (hx : orderErr h.node ≠ .nil) : Calls Try.prog 26 #[hierVal A h] w (EndsPost h w) := by
  have h1 := f.n
  have F := Lib.hid f
  have hd : decide (65536 < h.node.length) = false := by simpa using h1
  have hd2 : decide (1048576 < wrap64 ((h.up.length : Int) + (h.dn.length : Int))) = false := by simpa using f.s
  have g1 : ((h.upF.length : Int) != (h.node.length : Int) + 1) = false := by simp; have := f.u; omega
  have g2 : ((h.dnF.length : Int) != (h.node.length : Int) + 1) = false := by simp; have := f.d; omega
  have hc : checkErr h = orderErr h.node := by
    rw [f.err, hx0, hx1]
    cases e : orderErr h.node <;> first | exact absurd e hx | rfl
  have HC := Lib.hid hc
  have SEE := Lib.hid see
  have HX := Lib.hid hx
  have HX0 := Lib.hid hx0
  have HX1 := Lib.hid hx1
  clear see hc f hx hx0 hx1
  unfold hierVal
  go_enter Try.func26, Try.ntmps26
  go_wp2_with fail
  refine (firsts_any h.upF A.a1 A.c1 h.up.length _ (SEE.out.upF.alloc _) SEE.out.bu (by have := F.out.u; omega) (by have := F.out.u; omega)).mono ?_
  rintro e w1 ⟨v, rfl, hv, hb⟩
  obtain rfl := hv.nilv HX0.out
  have hcs := (Cells.new w 25 (hierCells A h)).below hb (by simp)
  have c3 : w1.cell? ⟨w.heap.size, 3, none⟩ = some (.slice A.a3 h.dnF.length A.c3) := hcs.cell rfl
  have c4 : w1.cell? ⟨w.heap.size, 4, none⟩ = some (.slice A.a4 h.dn.length A.c4) := hcs.cell rfl
  have HCS := Lib.hid hcs
  have HB := Lib.hid (((Below.refl w.heap.size w).alloc (Nat.le_refl _) _).trans (hb.mono (by simp)))
  have hsz := hcs.lt
  clear hv hb hcs
  go_wp2_with fail
  refine (firsts_any h.dnF A.a3 A.c3 h.dn.length _ (SEE.out.dnF.below HB.out) SEE.out.bd (by have := F.out.d; omega) (by have := F.out.d; omega)).mono ?_
  rintro e w2 ⟨v, rfl, hv, hb⟩
  obtain rfl := hv.nilv HX1.out
  have hcs2 := HCS.out.below hb hsz
  have c0 : w2.cell? ⟨w.heap.size, 0, none⟩ = some (.slice A.a0 h.node.length A.c0) := hcs2.cell rfl
  have HB2 := Lib.hid (HB.out.trans (hb.mono HB.out.size))
  have hsz2 := hcs2.lt
  clear hv hb hcs2 c3 c4
  go_wp2_with fail
  refine (order_any h.node A.a0 A.c0 _ (SEE.out.node.below HB2.out) SEE.out.bn (by omega)).mono ?_
  rintro e w3 ⟨v, rfl, hv, hb⟩
  obtain ⟨t, u, rfl⟩ := hv.iface HX.out
  have HV := Lib.hid hv
  have HB3 := Lib.hid (HB2.out.trans (hb.mono HB2.out.size))
  clear hv hb
  go_wp2
  go_returns
  exact EndsPost.bad HC.out HX.out HV.out HB3.out
end Go.Proofs.Ytjbphoophgbmiaa
