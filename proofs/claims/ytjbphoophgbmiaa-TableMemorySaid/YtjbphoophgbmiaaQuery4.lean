/- The contracts of query's Distance and Meet. -/
import Derived.Test.YtjbphoophgbmiaaQuery3
namespace Go.Proofs.Ytjbphoophgbmiaa
open Go.ChangeShapes Go.WideShapes Go.ChangeAt Go.RowKit Go.Joins Go.Deep

/-- **query's meet.** -/
theorem meet_any (A : HA) (h : HierD) (s t : Int) (w : World) (see : HSee w A h) (hs64 : s ≤ 9223372036854775807) (ht64 : t ≤ 9223372036854775807) : Calls Try.prog 27 #[hierVal A h, .int .i64 s, .int .i64 t] w (MeetPost h s t w) := by
  by_cases hc : checkErr h = .nil
  · by_cases hk : nodesErr h.node.length s t = .nil
    · have hr : (0 ≤ s ∧ s < h.node.length) ∧ 0 ≤ t ∧ t < h.node.length := by
        unfold nodesErr at hk
        split at hk
        · cases hk
        split at hk
        · cases hk
        omega
      obtain ⟨a, rfl⟩ : ∃ a : Nat, s = a := ⟨s.toNat, by omega⟩
      obtain ⟨b, rfl⟩ : ∃ b : Nat, t = b := ⟨t.toNat, by omega⟩
      exact meet_walk A h a b w see hc (by omega) (by omega)
    · exact meet_nodes A h s t w see hc hk hs64 ht64
  · exact meet_form A h s t w see hc

def DistPost (h : HierD) (s t : Int) (w : World) (e : Ending) (w' : World) : Prop :=
  ∃ r d x v, e = .returned (.tuple #[.int .u64 d, v]) ∧ ErrIs w' v x ∧ MeetIs h s t r d x ∧ Below w.heap.size w w'
def RankPost (h : HierD) (s t : Int) (w : World) (e : Ending) (w' : World) : Prop :=
  ∃ (r : Nat) (d : Int) (x : EV) (v : Value), e = .returned (.tuple #[.int .i64 (r : Int), v]) ∧ ErrIs w' v x ∧ MeetIs h s t r d x ∧ Below w.heap.size w w'

set_option maxRecDepth 100000 in
theorem distance_any (A : HA) (h : HierD) (s t : Int) (w : World) (see : HSee w A h) (hs64 : s ≤ 9223372036854775807) (ht64 : t ≤ 9223372036854775807) : Calls Try.prog 10 #[hierVal A h, .int .i64 s, .int .i64 t] w (DistPost h s t w) := by
  have SEE := Lib.hid see
  clear see
  unfold hierVal
  go_enter Try.func10, Try.ntmps10
  go_wp2_with fail
  refine (meet_any A h s t _ (SEE.out.below ((Below.refl _ _).alloc (Nat.le_refl _) _)) hs64 ht64).mono ?_
  rintro e w1 ⟨r, d, x, v, rfl, hv, hm, hb⟩
  unfold bestVal
  have HV := Lib.hid hv
  have HM := Lib.hid hm
  have HB := Lib.hid (((Below.refl w.heap.size w).alloc (Nat.le_refl _) _).trans (hb.mono (by simp)))
  clear hv hm hb
  go_wp2
  go_returns
  exact ⟨r, d, x, _, rfl, HV.out.alloc _, HM.out, HB.out.alloc HB.out.size _⟩

set_option maxRecDepth 100000 in
theorem qmeet_any (A : HA) (h : HierD) (s t : Int) (w : World) (see : HSee w A h) (hs64 : s ≤ 9223372036854775807) (ht64 : t ≤ 9223372036854775807) : Calls Try.prog 11 #[hierVal A h, .int .i64 s, .int .i64 t] w (RankPost h s t w) := by
  have SEE := Lib.hid see
  clear see
  unfold hierVal
  go_enter Try.func11, Try.ntmps11
  go_wp2_with fail
  refine (meet_any A h s t _ (SEE.out.below ((Below.refl _ _).alloc (Nat.le_refl _) _)) hs64 ht64).mono ?_
  rintro e w1 ⟨r, d, x, v, rfl, hv, hm, hb⟩
  unfold bestVal
  have HV := Lib.hid hv
  have HM := Lib.hid hm
  have HB := Lib.hid (((Below.refl w.heap.size w).alloc (Nat.le_refl _) _).trans (hb.mono (by simp)))
  clear hv hm hb
  go_wp2
  go_returns
  exact ⟨r, d, x, _, rfl, HV.out.alloc _, HM.out, HB.out.alloc HB.out.size _⟩
end Go.Proofs.Ytjbphoophgbmiaa
