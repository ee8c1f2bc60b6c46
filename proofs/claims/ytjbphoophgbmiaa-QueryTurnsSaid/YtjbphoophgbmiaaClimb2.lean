/- The contracts of climb's stalled and climb. -/
import Derived.Test.YtjbphoophgbmiaaClimb1
namespace Go.Proofs.Ytjbphoophgbmiaa
open Go.ChangeShapes Go.WideShapes Go.ChangeAt Go.RowKit Go.Joins Go.Deep

def SomeBool (w : World) (e : Ending) (w' : World) : Prop := ∃ b : Bool, e = .returned (.bool b) ∧ Below w.heap.size w w'

set_option maxRecDepth 100000 in
theorem stalled_any (v : SideD) (A : SA) (sb cb r : Nat) (d : Int) (ds : List (Option Int)) (w : World) (see : SSee w A v) (ok : SideOk v) (hr : r < v.n) (hds : SRep w sb cb ds) (hdl : ds.length = v.n) :
    Calls Try.prog 73 #[.agg #[.int .i64 v.n, .slice A.a1 v.first.length A.c1, .slice A.a2 v.links.length A.c2, .slice A.a3 v.bfirst.length A.c3, .slice A.a4 v.back.length A.c4], .pointer (some ⟨sb, 0, none⟩), .int .i64 r, .int .u64 d] w (SomeBool w) := by
  have hn := ok.n
  have hfl := ok.bwd.len
  obtain ⟨lo, hlo⟩ : ∃ lo, v.bfirst[r]? = some lo := ⟨_, List.getElem?_eq_getElem (by omega)⟩
  obtain ⟨hi, hhi⟩ : ∃ hi, v.bfirst[r + 1]? = some hi := ⟨_, List.getElem?_eq_getElem (by omega)⟩
  have hlh : lo ≤ hi := by
    have := ok.bwd.mono r hr
    rw [getD_some hlo, getD_some hhi] at this
    exact this
  have hhl : hi ≤ v.back.length := by
    have := ok.bwd.last (r + 1) (by omega)
    rw [getD_some hhi] at this
    exact this
  have hseg : seg v.bfirst v.back r = (v.back.take hi).drop lo := by unfold seg; rw [getD_some hlo, getD_some hhi]
  have hhc : hi ≤ A.c4 := Nat.le_trans hhl see.back.hcap
  have hhi32 : hi < 4294967296 := see.b3 hi (List.mem_of_getElem? hhi)
  obtain ⟨b1, o1, ea1, cc1⟩ := see.bfirst.cell r lo hlo
  obtain ⟨b1', o1', ea1', cc2⟩ := see.bfirst.cell (r + 1) hi hhi
  rw [ea1] at ea1'
  simp only [Option.some.injEq, Addr.mk.injEq, and_true] at ea1'
  obtain ⟨rfl, rfl⟩ := ea1'
  have cl := cc1 0 _ rfl
  have ch := cc2 0 _ rfl
  rw [Nat.mul_one, Nat.add_zero] at cl ch
  have lb1 := block_lt cl
  have hil : r < v.bfirst.length := by omega
  have hil1 : r + 1 < v.bfirst.length := by omega
  have hsl := run_sub (P := Try.prog) 23 60 4 Try.underlying23 Try.sizeLink A.a4 v.back.length A.c4 lo hi .u32 .u32 hlh hhc
  have hLlen : ((v.back.take hi).drop lo).length = hi - lo := by simp; omega
  have hlinks : ∀ l ∈ (v.back.take hi).drop lo, l.to < v.n := fun l hl => (ok.bwd.up r hr l (by rw [hseg]; exact hl)).2.1
  have hSUB : ∀ W, Below w.heap.size w W → See W (slBase A.a4 lo A.c4 4) (A.c4 - lo) linkCells 4 ((v.back.take hi).drop lo) := fun W hW => (see.back.below hW).sub lo hi hhl
  have LL := Lib.hid hLlen
  have HLK := Lib.hid hlinks
  have HSUB := Lib.hid hSUB
  have HDS := Lib.hid hds
  have HDL := Lib.hid hdl
  rw [ea1]
  clear see ok hfl hlo hhi hseg cc1 cc2 hLlen hlinks hSUB hds hdl hhl ea1
  generalize (v.back.take hi).drop lo = L at *
  go_enter Try.func73, Try.ntmps73
  go_wp2_with fail
  go_quiet (fail)
  go_wp2_with fail
  go_loopg [28] (hi - lo) (fun g vj wr => ∃ j : Nat, vj = .int .i64 j ∧ j ≤ hi - lo ∧ g = hi - lo - j ∧ Below w.heap.size w wr)
  case atStart => exact ⟨0, rfl, Nat.zero_le _, rfl, below_drewN ((Below.refl _ _).alloc (Nat.le_refl _) _) _⟩
  case round =>
    obtain ⟨j, rfl, hj, hgj, hbl⟩ := hrel
    have HBL := Lib.hid hbl
    have HGJ := Lib.hid hgj
    clear hbl hgj
    by_cases hjl : j < hi - lo
    · obtain ⟨l, hl⟩ : ∃ l, L[j]? = some l := ⟨_, List.getElem?_eq_getElem (by rw [LL.out]; exact hjl)⟩
      have hlt := HLK.out l (List.mem_of_getElem? hl)
      obtain ⟨b2, o2, ea2, cc2⟩ := (HSUB.out wr HBL.out).cell j l hl
      have e0 := cc2 0 _ rfl
      have e1 := cc2 1 _ rfl
      have e2 := cc2 2 _ rfl
      have e3 := cc2 3 _ rfl
      rw [Nat.add_zero] at e0
      have lb2 := block_lt e0
      have hto : ds[l.to]? = some (ds.getD l.to none) := by
        have : l.to < ds.length := by rw [HDL.out]; exact hlt
        simp [List.getD_eq_getElem?_getD, List.getElem?_eq_getElem this]
      have EA := Lib.hid ea2
      have HB0 := HBL.out.size
      clear hl cc2 ea2
      rw [EA.out]
      generalize hxd : ds.getD l.to none = x at *
      have HTO := Lib.hid hto
      clear hto hxd
      cases x with
      | none =>
        go_wp2_with fail
        refine (stampGet_any l.to none _ ((HDS.out.below HBL.out).alloc _) HTO.out).mono ?_
        rintro e6 w6 ⟨rfl, hb6⟩
        simp only [getVal]
        have hB6 : Below w.heap.size w w6 := HBL.out.trans (((Below.refl wr.heap.size wr).alloc (Nat.le_refl _) _).trans (hb6.mono (by simp)) |>.mono HB0)
        have HB6 := Lib.hid hB6
        clear hb6 hB6
        go_wp2_with fail
        rw [← EA.out]
        go_roundg (hi - lo - (j + 1))
        case measure => rw [HGJ.out]; omega
        case rel => exact ⟨j + 1, by go_num, by omega, rfl, HB6.out⟩
      | some e =>
        go_wp2_with fail
        refine (stampGet_any l.to (some e) _ ((HDS.out.below HBL.out).alloc _) HTO.out).mono ?_
        rintro e6 w6 ⟨rfl, hb6⟩
        simp only [getVal]
        have hB6 : Below w.heap.size w w6 := HBL.out.trans (((Below.refl wr.heap.size wr).alloc (Nat.le_refl _) _).trans (hb6.mono (by simp)) |>.mono HB0)
        have q1 : w6.cell? ⟨wr.heap.size, 1, none⟩ = some (.int .u64 l.wt) := ((Cells.new wr 60 (linkCells l)).below hb6 (by simp)).cell rfl
        have HB6 := Lib.hid hB6
        clear hb6 hB6
        by_cases hc : IntKind.u64.wrap (e + l.wt) < d
        · have hc2 : decide (IntKind.u64.wrap (e + l.wt) < d) = true := by simpa using hc
          go_wp2
          go_returns
          exact ⟨true, rfl, HB6.out⟩
        · have hc2 : decide (IntKind.u64.wrap (e + l.wt) < d) = false := by simpa using hc
          go_wp2_with fail
          rw [← EA.out]
          go_roundg (hi - lo - (j + 1))
          case measure => rw [HGJ.out]; omega
          case rel => exact ⟨j + 1, by go_num, by omega, rfl, HB6.out⟩
    · obtain rfl : j = hi - lo := by omega
      go_wp2
      go_returns
      exact ⟨false, rfl, HBL.out⟩
end Go.Proofs.Ytjbphoophgbmiaa
