/- table's check; fault.First. -/
import Derived.Test.YtjbphoophgbmiaaIntL
import Derived.Test.YtjbphoophgbmiaaQuery4
namespace Go.Proofs.Ytjbphoophgbmiaa
open Go.ChangeShapes Go.WideShapes Go.ChangeAt Go.RowKit Go.Joins Go.Deep

/-- The error of a list of nodes, their places counted from a number on. -/
def listErr (n : Nat) : List Int → Nat → EV
  | [], _ => .nil
  | v :: l, k => if v < 0 ∨ (n : Int) ≤ v then .at 3 (k : Int) 7 else listErr n l (k + 1)
theorem listErr_cons_bad {n : Nat} {v : Int} {l : List Int} {k : Nat} (h : v < 0 ∨ (n : Int) ≤ v) : listErr n (v :: l) k = .at 3 (k : Int) 7 := by unfold listErr; rw [if_pos h]
theorem listErr_cons_ok {n : Nat} {v : Int} {l : List Int} {k : Nat} (h : ¬ (v < 0 ∨ (n : Int) ≤ v)) : listErr n (v :: l) k = listErr n l (k + 1) := by conv => lhs; unfold listErr; rw [if_neg h]
theorem listErr_drop {n : Nat} {l : List Int} {k i : Nat} {v : Int} (hv : l[i]? = some v) (h : ¬ (v < 0 ∨ (n : Int) ≤ v)) : listErr n (l.drop i) (k + i) = listErr n (l.drop (i + 1)) (k + (i + 1)) := by
  obtain ⟨hl, e⟩ := List.getElem?_eq_some_iff.1 hv
  rw [List.drop_eq_getElem_cons hl, e, listErr_cons_ok h, Nat.add_assoc]
theorem listErr_stop {n : Nat} {l : List Int} {k i : Nat} {v : Int} (hv : l[i]? = some v) (h : v < 0 ∨ (n : Int) ≤ v) : listErr n (l.drop i) (k + i) = .at 3 ((k + i : Nat) : Int) 7 := by
  obtain ⟨hl, e⟩ := List.getElem?_eq_some_iff.1 hv
  rw [List.drop_eq_getElem_cons hl, e, listErr_cons_bad h]
theorem listErr_nil {n : Nat} : ∀ {l : List Int} {k : Nat}, listErr n l k = .nil → ∀ v ∈ l, 0 ≤ v ∧ v < n := by
  intro l
  induction l with
  | nil => intro k _ v hv; cases hv
  | cons x l ih =>
    intro k h v hv
    by_cases hx : x < 0 ∨ (n : Int) ≤ x
    · rw [listErr_cons_bad hx] at h; cases h
    · rw [listErr_cons_ok hx] at h
      rcases List.mem_cons.1 hv with rfl | hv
      · omega
      · exact ih h v hv
theorem listErr_pos {n : Nat} {l : List Int} {k : Nat} : listErr n l k = .nil ∨ ∃ i : Nat, listErr n l k = .at 3 (i : Int) 7 ∧ i < k + l.length := by
  induction l generalizing k with
  | nil => exact .inl rfl
  | cons x l ih =>
    by_cases hx : x < 0 ∨ (n : Int) ≤ x
    · rw [listErr_cons_bad hx]; exact .inr ⟨k, rfl, by simp⟩
    · rw [listErr_cons_ok hx]
      rcases ih (k := k + 1) with h | ⟨i, h, hi⟩
      · exact .inl h
      · exact .inr ⟨i, h, by simp only [List.length_cons]; omega⟩

set_option maxRecDepth 100000 in
set_option maxHeartbeats 4000000 in
/-- **table's check.** -/
theorem tcheck_any (l : List Int) (la : Option Addr) (lc n k : Nat) (w : World) (sl : See w la lc memInt 1 l) (hk : k ≤ 140737488355328) (hl : l.length ≤ 140737488355328) (hx : ∀ x ∈ l, x ≤ 9223372036854775807) :
    Calls Try.prog 33 #[.slice la l.length lc, .int .i64 (n : Int), .int .i64 (k : Int)] w (ErrPost (listErr n l k) w) := by
  have SL := Lib.hid sl
  have HX := Lib.hid hx
  clear sl hx
  go_enter Try.func33, Try.ntmps33
  go_wp2_with fail
  go_loopg [11] l.length (fun g vi wr => ∃ i : Nat, vi = .int .i64 (i : Int) ∧ i ≤ l.length ∧ g = l.length - i ∧ listErr n l k = listErr n (l.drop i) (k + i) ∧ wr = w)
  case atStart => exact ⟨0, rfl, Nat.zero_le _, rfl, rfl, rfl⟩
  case round =>
    obtain ⟨i, rfl, hi, hg, he, rfl⟩ := hrel
    have HG := Lib.hid hg
    have HE := Lib.hid he
    clear hg he
    by_cases hil : i < l.length
    · obtain ⟨v, hv⟩ : ∃ v, l[i]? = some v := ⟨_, List.getElem?_eq_getElem hil⟩
      obtain ⟨b, o, ea, cc⟩ := SL.out.cell i v hv
      have e0 := cc 0 _ rfl
      rw [Nat.add_zero, Nat.mul_one] at e0
      have EA := Lib.hid ea
      have HV := Lib.hid hv
      have hv64 := HX.out v (List.mem_of_getElem? hv)
      clear cc ea hv
      rw [EA.out]
      by_cases hb : v < 0 ∨ (n : Int) ≤ v
      · have hs := listErr_stop (k := k) HV.out hb
        have HS := Lib.hid (HE.out.trans hs)
        have hadd : IntKind.i64.wrap ((k : Int) + (i : Int)) = ((k + i : Nat) : Int) := by rw [IntWalk.i64_in _ (by omega)]; omega
        clear hs
        by_cases h0 : v < 0
        · have t1 : decide (v < 0) = true := by simpa using h0
          go_wp2_with fail
          have ha := at_any 3 ((k + i : Nat) : Int) 7 wr
          unfold errV at ha
          rw [Int.natCast_add] at ha
          refine ha.mono ?_
          rintro e w1 ⟨u, rfl, hu, hbl⟩
          have HU := Lib.hid hu
          have HB := Lib.hid hbl
          clear hu hbl
          go_wp2
          go_returns
          exact ⟨u, rfl, by rw [HS.out, Int.natCast_add]; exact HU.out, HB.out⟩
        · have t1 : decide (v < 0) = false := by simpa using h0
          have t2 : decide ((n : Int) ≤ v) = true := by simp only [decide_eq_true_eq]; omega
          clear hb
          go_wp2_with fail
          have ha := at_any 3 ((k + i : Nat) : Int) 7 wr
          unfold errV at ha
          rw [Int.natCast_add] at ha
          refine ha.mono ?_
          rintro e w1 ⟨u, rfl, hu, hbl⟩
          have HU := Lib.hid hu
          have HB := Lib.hid hbl
          clear hu hbl
          go_wp2
          go_returns
          exact ⟨u, rfl, by rw [HS.out, Int.natCast_add]; exact HU.out, HB.out⟩
      · have t1 : decide (v < 0) = false := by simp only [decide_eq_false_iff_not]; omega
        have t2 : decide ((n : Int) ≤ v) = false := by simp only [decide_eq_false_iff_not]; omega
        have HN := Lib.hid (HE.out.trans (listErr_drop HV.out hb))
        clear hb
        go_wp2_with fail
        rw [← EA.out]
        go_roundg (l.length - (i + 1))
        case measure => rw [HG.out]; omega
        case rel => exact ⟨i + 1, by go_num, by omega, rfl, HN.out, rfl⟩
    · obtain rfl : i = l.length := by omega
      go_wp2
      go_returns
      exact ⟨.nilIface, rfl, by rw [HE.out, List.drop_length]; rfl, Below.refl _ _⟩
/-- Of two errors the first that is one. -/
def firstOf (x y : EV) : EV := if x = .nil then y else x
def FirstIs (x y : EV) (w : World) (e : Ending) (w' : World) : Prop := ∃ z, e = .returned z ∧ ErrIs w' z (firstOf x y) ∧ w' = w
set_option maxRecDepth 100000 in
set_option maxHeartbeats 4000000 in
/-- **fault.First**, of two. -/
theorem first_any (v u : Value) (x y : EV) (b cap : Nat) (w : World) (hv : ErrIs w v x) (hu : ErrIs w u y) (c0 : w.cell? ⟨b, 0, none⟩ = some v) (c1 : w.cell? ⟨b, 1, none⟩ = some u) :
    Calls Try.prog 32 #[.slice (some ⟨b, 0, none⟩) 2 cap] w (FirstIs x y w) := by
  have HV := Lib.hid hv
  have HU := Lib.hid hu
  clear hv hu
  by_cases hx : x = .nil
  · have hv2 := HV.out.nilv hx
    subst hv2
    have HX := Lib.hid hx
    clear hx
    by_cases hy : y = .nil
    · have hu2 := HU.out.nilv hy
      subst hu2
      have HF := Lib.hid (show firstOf x y = .nil by unfold firstOf; rw [if_pos HX.out, hy])
      clear hy
      go_enter Try.func32, Try.ntmps32
      go_wp2_with fail
      refine wp_loop_rounds 3 ?_
      rw [rounds_succ]
      go_wp2_with fail
      rw [rounds_succ]
      go_wp2_with fail
      rw [rounds_succ]
      go_wp2
      go_returns
      exact ⟨.nilIface, rfl, by rw [HF.out]; rfl, rfl⟩
    · obtain ⟨t1, v1, rfl⟩ := HU.out.iface hy
      have HF := Lib.hid (show firstOf x y = y by unfold firstOf; rw [if_pos HX.out])
      clear hy
      go_enter Try.func32, Try.ntmps32
      go_wp2_with fail
      refine wp_loop_rounds 2 ?_
      rw [rounds_succ]
      go_wp2_with fail
      rw [rounds_succ]
      go_wp2
      go_returns
      exact ⟨_, rfl, by rw [HF.out]; exact HU.out, rfl⟩
  · obtain ⟨t1, v1, rfl⟩ := HV.out.iface hx
    have HF := Lib.hid (show firstOf x y = x by unfold firstOf; rw [if_neg hx])
    clear hx
    go_enter Try.func32, Try.ntmps32
    go_wp2_with fail
    refine wp_loop_rounds 1 ?_
    rw [rounds_succ]
    go_wp2
    go_returns
    exact ⟨_, rfl, by rw [HF.out]; exact HV.out, rfl⟩
end Go.Proofs.Ytjbphoophgbmiaa
