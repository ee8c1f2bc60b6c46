/- The contracts of climb's Up and Down, at a hierarchy in form. -/
import Derived.Test.YtjbphoophgbmiaaQueryP
namespace Go.Proofs.Ytjbphoophgbmiaa
open Go.ChangeShapes Go.WideShapes Go.ChangeAt Go.RowKit Go.Joins Go.Deep

set_option maxRecDepth 100000 in
theorem cup_any (A : HA) (h : HierD) (s : Nat) (w : World) (see : HSee w A h) (hc : checkErr h = .nil) (hs : s < h.node.length) :
    Calls Try.prog 51 #[hierVal A h, .int .i64 s] w (ClimbPost h.node.length h.upF h.up s w) := by
  have SEE := Lib.hid see
  have HC := Lib.hid hc
  have hs' : s < (upSide h).n := hs
  have hn := (checkErr_parts hc).1.n
  clear see hc
  unfold hierVal
  go_enter Try.func51, Try.ntmps51
  go_wp2_with fail
  refine (hcheck_any A h _ (SEE.out.below ((Below.refl _ _).alloc (Nat.le_refl _) _))).mono ?_
  rintro e w1 ⟨v, rfl, hv, hb⟩
  obtain rfl := hv.nilv HC.out
  have hcs := (Cells.new w 25 (hierCells A h)).below hb (by simp)
  have c0 : w1.cell? ⟨w.heap.size, 0, none⟩ = some (.slice A.a0 h.node.length A.c0) := hcs.cell rfl
  have c1 : w1.cell? ⟨w.heap.size, 1, none⟩ = some (.slice A.a1 h.upF.length A.c1) := hcs.cell rfl
  have c2 : w1.cell? ⟨w.heap.size, 2, none⟩ = some (.slice A.a2 h.up.length A.c2) := hcs.cell rfl
  have c3 : w1.cell? ⟨w.heap.size, 3, none⟩ = some (.slice A.a3 h.dnF.length A.c3) := hcs.cell rfl
  have c4 : w1.cell? ⟨w.heap.size, 4, none⟩ = some (.slice A.a4 h.dn.length A.c4) := hcs.cell rfl
  have HB := Lib.hid (((Below.refl w.heap.size w).alloc (Nat.le_refl _) _).trans (hb.mono (by simp)))
  have lb := hcs.lt
  clear hv hb hcs
  go_wp2_with fail
  have S1 := SEE.out.below HB.out
  refine (climb_any (upSide h) ⟨A.a1, A.a2, A.a3, A.a4, A.c1, A.c2, A.c3, A.c4⟩ s _ ⟨S1.upF, S1.up, S1.dnF, S1.dn, S1.bu, S1.bup, S1.bd, S1.bdn⟩ (side_up HC.out) hs').mono ?_
  rintro e w2 ⟨ao, cap, L, D, rfl, hown, hnew, hd, hm, hb2⟩
  have POST := Lib.hid (show ClimbPost h.node.length h.upF h.up s w (.returned (.tuple #[.slice ao L.length cap, .nilIface])) w2 from
    ⟨ao, cap, L, D, rfl, hown, (fun k hk => Nat.le_trans HB.out.size (hnew k hk)), hd, hm, HB.out.trans (hb2.mono HB.out.size)⟩)
  clear hown hnew hd hm hb2 S1
  go_wp2
  go_returns
  exact POST.out

set_option maxRecDepth 100000 in
theorem cdown_any (A : HA) (h : HierD) (s : Nat) (w : World) (see : HSee w A h) (hc : checkErr h = .nil) (hs : s < h.node.length) :
    Calls Try.prog 52 #[hierVal A h, .int .i64 s] w (ClimbPost h.node.length h.dnF h.dn s w) := by
  have SEE := Lib.hid see
  have HC := Lib.hid hc
  have hs' : s < (dnSide h).n := hs
  have hn := (checkErr_parts hc).1.n
  clear see hc
  unfold hierVal
  go_enter Try.func52, Try.ntmps52
  go_wp2_with fail
  refine (hcheck_any A h _ (SEE.out.below ((Below.refl _ _).alloc (Nat.le_refl _) _))).mono ?_
  rintro e w1 ⟨v, rfl, hv, hb⟩
  obtain rfl := hv.nilv HC.out
  have hcs := (Cells.new w 25 (hierCells A h)).below hb (by simp)
  have c0 : w1.cell? ⟨w.heap.size, 0, none⟩ = some (.slice A.a0 h.node.length A.c0) := hcs.cell rfl
  have c1 : w1.cell? ⟨w.heap.size, 1, none⟩ = some (.slice A.a1 h.upF.length A.c1) := hcs.cell rfl
  have c2 : w1.cell? ⟨w.heap.size, 2, none⟩ = some (.slice A.a2 h.up.length A.c2) := hcs.cell rfl
  have c3 : w1.cell? ⟨w.heap.size, 3, none⟩ = some (.slice A.a3 h.dnF.length A.c3) := hcs.cell rfl
  have c4 : w1.cell? ⟨w.heap.size, 4, none⟩ = some (.slice A.a4 h.dn.length A.c4) := hcs.cell rfl
  have HB := Lib.hid (((Below.refl w.heap.size w).alloc (Nat.le_refl _) _).trans (hb.mono (by simp)))
  have lb := hcs.lt
  clear hv hb hcs
  go_wp2_with fail
  have S1 := SEE.out.below HB.out
  refine (climb_any (dnSide h) ⟨A.a3, A.a4, A.a1, A.a2, A.c3, A.c4, A.c1, A.c2⟩ s _ ⟨S1.dnF, S1.dn, S1.upF, S1.up, S1.bd, S1.bdn, S1.bu, S1.bup⟩ (side_dn HC.out) hs').mono ?_
  rintro e w2 ⟨ao, cap, L, D, rfl, hown, hnew, hd, hm, hb2⟩
  have POST := Lib.hid (show ClimbPost h.node.length h.dnF h.dn s w (.returned (.tuple #[.slice ao L.length cap, .nilIface])) w2 from
    ⟨ao, cap, L, D, rfl, hown, (fun k hk => Nat.le_trans HB.out.size (hnew k hk)), hd, hm, HB.out.trans (hb2.mono HB.out.size)⟩)
  clear hown hnew hd hm hb2 S1
  go_wp2
  go_returns
  exact POST.out
end Go.Proofs.Ytjbphoophgbmiaa
