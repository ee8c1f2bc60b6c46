/- The contract of hier's order. -/
import Derived.Test.YtjbphoophgbmiaaHier2
namespace Go.Proofs.Ytjbphoophgbmiaa
open Go.ChangeShapes Go.WideShapes Go.ChangeAt Go.RowKit Go.Joins Go.Deep

theorem orderGo_stop {l : List Nat} {k m : Nat} (hk : k < m) (h0 : orderGo l k = .nil) (h : l.length ≤ l.getD k 0 ∨ l.getD k 0 ∈ l.take k) : orderGo l m = .at 3 k 20 := by
  obtain ⟨j, rfl⟩ : ∃ j, m = k + 1 + j := ⟨m - (k + 1), by omega⟩
  clear hk
  induction j with
  | zero => unfold orderGo; rw [h0]; simp only; rw [if_pos h]
  | succ j ih => rw [← Nat.add_assoc]; unfold orderGo; rw [ih]

def marksOf (s : List Nat) (n : Nat) : List Value := (List.range n).map fun v => .int .i64 (if v ∈ s then 1 else 0)
theorem marksOf_get (s : List Nat) (n v : Nat) (h : v < n) : (marksOf s n)[v]? = some (.int .i64 (if v ∈ s then 1 else 0)) := by
  simp [marksOf, h]
theorem marksOf_set (s : List Nat) (n v : Nat) (h : v < n) : (marksOf s n).set v (.int .i64 1) = marksOf (s ++ [v]) n := by
  apply List.ext_getElem?
  intro j
  rw [List.getElem?_set]
  simp only [marksOf, List.getElem?_map, List.length_map, List.length_range]
  by_cases hj : v = j
  · subst hj
    rw [if_pos rfl, if_pos h]
    simp [h]
  · rw [if_neg hj]
    rcases Nat.lt_or_ge j n with h1 | h1
    · simp only [List.getElem?_range h1, Option.map_some, List.mem_append, List.mem_singleton]
      have : ¬ j = v := fun e => hj e.symm
      simp [this]
    · rw [List.getElem?_eq_none (by simp; omega)]; rfl

theorem marks_made (n : Nat) : madeCells (Value.int .i64 0).cells (n * 1) = (marksOf [] n).toArray := by
  have e := madeCells_eq [Value.int .i64 0] n (by simp)
  have h : ((List.replicate n ()).flatMap fun _ => [Value.int .i64 0]) = marksOf [] n := by
    apply List.ext_getElem?
    intro j
    have hg := flat_get (f := fun (_ : Unit) => [Value.int .i64 0]) (sz := 1) (fun _ => rfl) (List.replicate n ()) j 0 (by omega)
    rw [Nat.mul_one, Nat.add_zero] at hg
    rw [hg]
    rcases Nat.lt_or_ge j n with h1 | h1
    · rw [marksOf_get [] n j h1]; simp [h1]
    · rw [List.getElem?_eq_none (l := List.replicate n ()) (by simpa using h1), List.getElem?_eq_none (l := marksOf [] n) (by simpa [marksOf] using h1)]; rfl
  rw [h] at e
  exact e

set_option maxRecDepth 100000 in
theorem order_any (l : List Nat) (ao : Option Addr) (cap : Nat) (w : World) (see : See w ao cap u32Cells 1 l) (hb : ∀ x ∈ l, x < 4294967296) (h1 : l.length ≤ 65536) :
    Calls Try.prog 46 #[.slice ao l.length cap] w (ErrPost (orderErr l) w) := by
  have hmk := run_make_n (P := Try.prog) 40 3 (.int .i64 0) 1 8 Try.underlying40 Try.infoInt .i64 .i64 l.length (by omega) (by omega)
  rw [marks_made] at hmk
  have HB := Lib.hid hb
  have SEE := Lib.hid see
  clear see hb
  go_enter Try.func46, Try.ntmps46
  go_wp2_with fail
  go_loopg [11] l.length (fun g vi wr => ∃ k : Nat, vi = .int .i64 k ∧ k ≤ l.length ∧ g = l.length - k ∧ orderGo l k = .nil ∧ (∀ x ∈ l.take k, x < l.length) ∧ Cells wr w.heap.size 3 (marksOf (l.take k) l.length) ∧ Below w.heap.size w wr)
  case atStart => exact ⟨0, rfl, Nat.zero_le _, rfl, rfl, by simp, Cells.new w 3 (marksOf [] l.length), (Below.refl _ _).alloc (Nat.le_refl _) _⟩
  case round =>
    obtain ⟨k, rfl, hk, hg, hn, hlt, hcs, hbl⟩ := hrel
    have HN := Lib.hid hn
    have HBL := Lib.hid hbl
    have HG := Lib.hid hg
    have HCS := Lib.hid hcs
    have HLT := Lib.hid hlt
    have hsz := hcs.lt
    clear hn hbl hg hcs hlt
    by_cases hkl : k < l.length
    · obtain ⟨x, hx⟩ : ∃ x, l[k]? = some x := ⟨_, List.getElem?_eq_getElem (by omega)⟩
      obtain ⟨b, o, ea, cc⟩ := SEE.out.cell k x hx
      have c0 := ck HBL.out (cc 0 _ rfl)
      rw [Nat.mul_one, Nat.add_zero] at c0
      have lb := block_lt c0
      have hx32 : x < 4294967296 := HB.out x (List.mem_of_getElem? hx)
      have hgx : l.getD k 0 = x := by rw [List.getD_eq_getElem?_getD, hx]; rfl
      have htk : l.take (k + 1) = l.take k ++ [x] := by rw [List.take_add_one, hx]; rfl
      have EA := Lib.hid ea
      have HGX := Lib.hid hgx
      have HTK := Lib.hid htk
      clear hgx hx cc ea htk
      rw [EA.out]
      by_cases hd : l.length ≤ x
      · have hd2 : decide (l.length ≤ x) = true := by simpa using hd
        go_wp2_with fail
        refine (at_any 3 k 20 _).mono ?_
        rintro e w1 ⟨v, rfl, hv, hb1⟩
        have hfe : orderErr l = .at 3 k 20 := orderGo_stop hkl HN.out (.inl (by rw [HGX.out]; exact hd))
        have HFE := Lib.hid hfe
        have HV := Lib.hid hv
        have HB1 := Lib.hid hb1
        clear hfe hv hb1
        go_wp2
        go_returns
        rw [HFE.out]
        exact ⟨v, rfl, HV.out, HBL.out.trans (HB1.out.mono HBL.out.size)⟩
      · have hd2 : decide (l.length ≤ x) = false := by simpa using hd
        have hxl : x < l.length := by omega
        have hm := HCS.out.cell (marksOf_get (l.take k) l.length x hxl)
        have hf := HCS.out.frozen x
        have HM2 := Lib.hid (HCS.out.set x (.int .i64 1))
        by_cases hin : x ∈ l.take k
        · rw [if_pos hin] at hm
          go_wp2_with fail
          refine (at_any 3 k 20 _).mono ?_
          rintro e w1 ⟨v, rfl, hv, hb1⟩
          have hfe : orderErr l = .at 3 k 20 := orderGo_stop hkl HN.out (.inr (by rw [HGX.out]; exact hin))
          have HFE := Lib.hid hfe
          have HV := Lib.hid hv
          have HB1 := Lib.hid hb1
          clear hfe hv hb1
          go_wp2
          go_returns
          rw [HFE.out]
          exact ⟨v, rfl, HV.out, HBL.out.trans (HB1.out.mono HBL.out.size)⟩
        · rw [if_neg hin] at hm
          go_wp2_with fail
          rw [← EA.out]
          go_roundg (l.length - (k + 1))
          case measure => rw [HG.out]; omega
          case rel =>
            refine ⟨k + 1, by go_num, by omega, rfl, ?_, ?_, ?_, HBL.out.setCell (p := ⟨w.heap.size, x, none⟩) (Nat.le_refl _) _⟩
            · unfold orderGo
              rw [HN.out]
              simp only
              rw [if_neg (by rw [HGX.out]; simp [hd, hin])]
            · intro y hy
              rw [HTK.out, List.mem_append, List.mem_singleton] at hy
              rcases hy with hy | rfl
              · exact HLT.out y hy
              · exact hxl
            · rw [HTK.out, ← marksOf_set _ _ _ hxl]
              exact HM2.out
    · obtain rfl : k = l.length := by omega
      go_wp2
      go_returns
      refine ⟨_, rfl, ?_, HBL.out⟩
      unfold orderErr
      rw [HN.out]
      rfl
end Go.Proofs.Ytjbphoophgbmiaa
