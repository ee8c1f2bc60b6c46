/- search.Matrix: the walk. -/
import Derived.Test.YtblkkjfpggcgfaaGreatDoorSMatR
namespace Go.Proofs.YtblkkjfpggcgfaaGreatDoor
open Go.ChangeShapes Go.WideShapes Go.ChangeAt Go.RowKit Go.Joins Go.Deep

def MatrixNew (n : Nat) (l : List AF) (w : World) (e : Ending) (w' : World) : Prop :=
  ∃ (ao : Option Addr) (cap : Nat) (ps : List Nat) (D : Nat → Nat → Option Int), e = .returned (.tuple #[.slice ao n cap, .nilIface]) ∧ MatSee n ao cap ps D w' ∧ (∀ s, s < n → IsS (webC l) (-1) s (D s)) ∧ (∀ s, s < n → ∀ v d, D s v = some d → 0 ≤ d ∧ d ≤ 65535 * 140737488355328) ∧ Below w.heap.size w w'
/-- Between the rounds. -/
structure MxI (n k base : Nat) (l : List AF) (vm : Value) (w2 wr : World) : Prop where
  ex : ∃ (ao : Option Addr) (cap : Nat) (ps : List Nat) (D : Nat → Nat → Option Int), vm = .slice ao k cap ∧ ps.length = k ∧ MatO base n ps D vm wr ∧ (∀ s, s < k → IsS (webC l) (-1) s (D s)) ∧ (∀ s, s < k → ∀ v d, D s v = some d → 0 ≤ d ∧ d ≤ 65535 * 140737488355328)
  b : Below base w2 wr
theorem ptrC_len (n : Nat) (x : Nat) : (ptrC n x).length = 1 := rfl
set_option linter.unusedSimpArgs false in
set_option maxRecDepth 100000 in
set_option maxHeartbeats 8000000 in
theorem matrix_any (C : CA) (n N : Nat) (l : List AF) (w : World) (ok : CsrOk n l) (see : CSee w C n l) (hN : l.length = N) (hn : n ≤ 1024) :
    Calls Tryz.prog 9 #[csrVal C n N] w (MatrixNew n l w) := by
  have HSN := Lib.hid (fun W => snodes_any C n N W (by omega))
  have HCK := Lib.hid (fun W s => ccheck_any C n l W ok s)
  rw [hN] at HCK
  unfold csrVal at HSN HCK
  have hz : (n : Int) * (n : Int) ≤ 1048576 := by
    have := Nat.mul_le_mul hn hn
    rw [← Int.natCast_mul]
    omega
  have hz0 : 0 ≤ (n : Int) * (n : Int) := by
    rw [← Int.natCast_mul]
    omega
  have cm := IntWalk.i64_in ((n : Int) * (n : Int)) (by omega)
  have q1 : decide (1048576 < (n : Int) * (n : Int)) = false := by simp only [decide_eq_false_iff_not]; omega
  have OK := Lib.hid ok
  have SEE := Lib.hid see
  have HN := Lib.hid hN
  have HX := Lib.hid (Cells.new w 40 [.slice C.fa (n + 1) C.fc, .slice C.ta N C.tc, .slice C.wa N C.wc])
  have HB := Lib.hid ((Below.refl w.heap.size w).alloc (Nat.le_refl _) (.cells #[.slice C.fa (n + 1) C.fc, .slice C.ta N C.tc, .slice C.wa N C.wc] 40))
  clear ok see hN hz hz0
  unfold csrVal
  go_enter Tryz.func9, Tryz.ntmps9
  go_wp2_with fail
  refine (HCK.out _ (SEE.out.below HB.out)).mono ?_
  rintro e w1 ⟨rfl, hb⟩
  have HX1 := Lib.hid (HX.out.below hb HX.out.lt)
  have HB1 := Lib.hid (HB.out.trans (hb.mono HB.out.size))
  have x0 : w1.cell? ⟨w.heap.size, 0, none⟩ = some (.slice C.fa (n + 1) C.fc) := HX1.out.cell rfl
  have x1 : w1.cell? ⟨w.heap.size, 1, none⟩ = some (.slice C.ta N C.tc) := HX1.out.cell rfl
  have x2 : w1.cell? ⟨w.heap.size, 2, none⟩ = some (.slice C.wa N C.wc) := HX1.out.cell rfl
  clear hb HX HB
  go_wp2_with fail
  refine (HSN.out _).mono ?_
  rintro e w2 ⟨rfl, hb⟩
  have HX2 := Lib.hid (HX1.out.below hb HX1.out.lt)
  have HB2 := Lib.hid (HB1.out.trans (hb.mono HB1.out.size))
  have hsz := HX2.out.lt
  clear hb x0 x1 x2 HX1 HB1
  go_wp2_with fail
  go_loopg [6, 21] n (fun g vm vi wr => ∃ k : Nat, vi = .int .i64 (k : Int) ∧ k ≤ n ∧ g = n - k ∧ MxI n k (w.heap.size + 1) l vm w2 wr)
  case atStart => exact ⟨0, rfl, Nat.zero_le _, rfl, ⟨none, 0, [], fun _ _ => none, rfl, rfl, MatO.nil _ _ _ _, fun s hs => absurd hs (Nat.not_lt_zero _), fun s hs => absurd hs (Nat.not_lt_zero _)⟩, Below.refl _ _⟩
  case round =>
    obtain ⟨k, rfl, hk, hg, ⟨⟨ao, cap, ps, D, rfl, hps, hm, hD, hbig⟩, hbl⟩⟩ := hrel
    have HM := Lib.hid hm
    have HD := Lib.hid hD
    have HBIG := Lib.hid hbig
    have HBL := Lib.hid hbl
    have HG := Lib.hid hg
    have HP := Lib.hid hps
    clear hm hD hbig hbl hg hps
    by_cases hkn : k < n
    · go_upto_region 11 with fail
      change Code.wp _ ((regionAt 11 smBody).getD .skip) _ _ _
      refine mat_app (HX2.out.below HBL.out (Nat.lt_succ_self _)) OK.out (SEE.out.below (HB2.out.trans (HBL.out.mono (Nat.le_succ _)))) HN.out hkn hn HP.out HM.out (by have := HBL.out.size; omega) (Nat.lt_succ_self _) (fun _ _ t _ _ hq => by cases t <;> exact hq) ?_
      intro ao5 cap5 w5 x Dk t24 t25 t26 t27 t28 t29 t30 t31 hm5 hS5 hb5 ho5
      have HI : Hid (MxI n (k + 1) (w.heap.size + 1) l (.slice ao5 (k + 1) cap5) w2 w5) := Lib.hid ⟨⟨ao5, cap5, ps ++ [x], fun s => if s = k then Dk else D s, rfl, by rw [List.length_append, HP.out]; rfl, hm5, fun s hs => by
        by_cases e : s = k
        · subst e; simp only [if_true]; exact hS5
        · simp only [e, if_false]; exact HD.out s (by omega), fun s hs v d hv => by
        by_cases e : s = k
        · subst e; simp only [if_true] at hv; exact hb5 v d hv
        · simp only [e, if_false] at hv; exact HBIG.out s (by omega) v d hv⟩, HBL.out.trans ho5⟩
      clear hm5 hS5 hb5 ho5
      go_wp2_with fail
      go_roundg (n - (k + 1))
      case measure => rw [HG.out]; omega
      case rel => exact ⟨k + 1, by go_num, by omega, rfl, HI.out⟩
    · obtain rfl : k = n := by omega
      go_wp2
      go_returns
      refine ⟨ao, cap, ps, D, rfl, ⟨?_, HP.out, HM.out.r⟩, HD.out, HBIG.out, HB2.out.trans (HBL.out.mono (Nat.le_succ _))⟩
      have := HM.out.o
      rw [HP.out] at this
      exact (See.of_own (ptrC_len k) this (by omega)).1
end Go.Proofs.YtblkkjfpggcgfaaGreatDoor
