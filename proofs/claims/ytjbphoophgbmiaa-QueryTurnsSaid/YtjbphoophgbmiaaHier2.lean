/- The contracts of hier's firsts and order. -/
import Derived.Test.YtjbphoophgbmiaaHier1
namespace Go.Proofs.Ytjbphoophgbmiaa
open Go.ChangeShapes Go.WideShapes Go.ChangeAt Go.RowKit Go.Joins Go.Deep

theorem firstsGo_stop {l : List Nat} {k m : Nat} (hk : k < m) (h0 : firstsGo l k = .nil) (h : l.getD (k + 1) 0 < l.getD k 0) : firstsGo l m = .at 3 k 14 := by
  obtain ⟨j, rfl⟩ : ∃ j, m = k + 1 + j := ⟨m - (k + 1), by omega⟩
  clear hk
  induction j with
  | zero => unfold firstsGo; rw [h0]; simp only; rw [if_pos h]
  | succ j ih => rw [← Nat.add_assoc]; unfold firstsGo; rw [ih]

set_option maxRecDepth 100000 in
theorem firsts_any (l : List Nat) (ao : Option Addr) (cap links : Nat) (w : World) (see : See w ao cap u32Cells 1 l) (hb : ∀ x ∈ l, x < 4294967296) (h0 : 0 < l.length) (h1 : l.length ≤ 65537) :
    Calls Try.prog 45 #[.slice ao l.length cap, .int .i64 links] w (ErrPost (firstsErr l links) w) := by
  obtain ⟨x0, hx0⟩ : ∃ x0, l[0]? = some x0 := ⟨_, List.getElem?_eq_getElem h0⟩
  obtain ⟨b, o, rfl, lb, hcell⟩ := see_one (f := fun (n : Nat) => Value.int .u32 n) see h0
  have c0 := hcell 0 x0 hx0
  rw [Nat.add_zero] at c0
  have HC := Lib.hid hcell
  have HB := Lib.hid hb
  have hg0 : l.getD 0 0 = x0 := by rw [List.getD_eq_getElem?_getD, hx0]; rfl
  have HX0 := Lib.hid hx0
  have HG0 := Lib.hid hg0
  clear see hcell hb hx0 hg0
  by_cases hz : x0 = 0
  · have dz : decide ((x0 : Int) = 0) = true := by simpa using hz
    subst hz
    have hf : firstsErr l links = (match firstsGo l (l.length - 1) with | .nil => if l.getD (l.length - 1) 0 ≠ links then .code 14 else .nil | e => e) := by
      unfold firstsErr
      rw [if_neg (by rw [HG0.out]; simp)]
      cases firstsGo l (l.length - 1) <;> rfl
    have HF := Lib.hid hf
    clear hf
    go_enter Try.func45, Try.ntmps45
    go_wp2_with fail
    go_loopg [14] (l.length - 1) (fun g vi wr => ∃ k : Nat, vi = .int .i64 k ∧ k ≤ l.length - 1 ∧ g = l.length - 1 - k ∧ firstsGo l k = .nil ∧ Below w.heap.size w wr)
    case atStart => exact ⟨0, rfl, Nat.zero_le _, rfl, rfl, Below.refl _ _⟩
    case round =>
      obtain ⟨k, rfl, hk, hg, hn, hbl⟩ := hrel
      have HN := Lib.hid hn
      have HBL := Lib.hid hbl
      have HG := Lib.hid hg
      clear hn hbl hg
      by_cases hlt : k < l.length - 1
      · obtain ⟨x, hx⟩ : ∃ x, l[k]? = some x := ⟨_, List.getElem?_eq_getElem (by omega)⟩
        obtain ⟨y, hy⟩ : ∃ y, l[k + 1]? = some y := ⟨_, List.getElem?_eq_getElem (by omega)⟩
        have cx : wr.cell? ⟨b, o + k, none⟩ = some (.int .u32 x) := ck HBL.out (HC.out k x hx)
        have cy : wr.cell? ⟨b, o + (k + 1), none⟩ = some (.int .u32 y) := ck HBL.out (HC.out (k + 1) y hy)
        have hgx : l.getD k 0 = x := by rw [List.getD_eq_getElem?_getD, hx]; rfl
        have hgy : l.getD (k + 1) 0 = y := by rw [List.getD_eq_getElem?_getD, hy]; rfl
        have HGX := Lib.hid hgx
        have HGY := Lib.hid hgy
        clear hgx hgy hx hy
        by_cases hd : y < x
        · have hd2 : decide (y < x) = true := by simpa using hd
          go_wp2_with fail
          go_quiet (fail)
          go_wp2_with fail
          refine (at_any 3 k 14 _).mono ?_
          rintro e w1 ⟨v, rfl, hv, hb1⟩
          have hfe : firstsErr l links = .at 3 k 14 := by
            rw [HF.out, firstsGo_stop hlt HN.out (by rw [HGX.out, HGY.out]; exact hd)]
          have HFE := Lib.hid hfe
          have HV := Lib.hid hv
          have HB1 := Lib.hid hb1
          clear hfe hv hb1
          go_wp2
          go_returns
          rw [HFE.out]
          exact ⟨v, rfl, HV.out, HBL.out.trans ((below_drewN (Below.refl _ _) _).trans HB1.out |>.mono HBL.out.size)⟩
        · have hd2 : decide (y < x) = false := by simpa using hd
          go_wp2_with fail
          go_quiet (fail)
          go_wp2_with fail
          go_roundg (l.length - 1 - (k + 1))
          case measure => rw [HG.out]; omega
          case rel =>
            refine ⟨k + 1, by go_num, by omega, rfl, ?_, below_drewN HBL.out _⟩
            unfold firstsGo
            rw [HN.out]
            simp only
            rw [if_neg (by rw [HGX.out, HGY.out]; exact hd)]
      · obtain rfl : k = l.length - 1 := by omega
        obtain ⟨x, hx⟩ : ∃ x, l[l.length - 1]? = some x := ⟨_, List.getElem?_eq_getElem (by omega)⟩
        have cx : wr.cell? ⟨b, o + (l.length - 1), none⟩ = some (.int .u32 x) := ck HBL.out (HC.out _ x hx)
        have hgx : l.getD (l.length - 1) 0 = x := by rw [List.getD_eq_getElem?_getD, hx]; rfl
        have hx32 : x < 4294967296 := HB.out x (List.mem_of_getElem? hx)
        have HGX := Lib.hid hgx
        clear hgx hx
        by_cases hd : x = links
        · have hd2 : decide (x = links) = true := by simpa using hd
          have hfe : firstsErr l links = .nil := by rw [HF.out, HN.out]; simp only; rw [if_neg (by rw [HGX.out]; simpa using hd)]
          have HFE := Lib.hid hfe
          clear hfe
          go_wp2
          go_returns
          rw [HFE.out]
          exact ⟨_, rfl, rfl, HBL.out⟩
        · have hd2 : decide (x = links) = false := by simpa using hd
          have hfe : firstsErr l links = .code 14 := by rw [HF.out, HN.out]; simp only; rw [if_pos (by rw [HGX.out]; exact hd)]
          have HFE := Lib.hid hfe
          clear hfe
          go_wp2
          go_returns
          rw [HFE.out]
          exact ⟨_, rfl, rfl, HBL.out⟩
  · have dz : decide (x0 = 0) = false := by simpa using hz
    have hf : firstsErr l links = .code 14 := by unfold firstsErr; rw [if_pos (by rw [HG0.out]; exact hz)]
    rw [hf]
    clear hf
    go_enter Try.func45, Try.ntmps45
    go_wp2
    go_returns
    exact ⟨_, rfl, rfl, by go_grown⟩
end Go.Proofs.Ytjbphoophgbmiaa
