/- The contracts of Turn's two closures. -/
import Derived.Test.YtjbphoophgbmiaaQuery4
import Derived.Test.YtjbphoophgbmiaaTurnQ
namespace Go.Proofs.Ytjbphoophgbmiaa
open Go.ChangeShapes Go.WideShapes Go.ChangeAt Go.RowKit Go.Joins Go.Deep

set_option maxRecDepth 100000 in
theorem child_any (ups downs i b5 b6 : Nat) (w : World) (h5 : w.cell? ⟨b5, 0, none⟩ = some (.int .u32 ups)) (h6 : w.cell? ⟨b6, 0, none⟩ = some (.int .u32 downs)) (hi : i < 4294967296) (hu : i < ups → i + downs < 4294967296) :
    Calls Try.prog 23 #[.int .u32 i, .pointer (some ⟨b5, 0, none⟩), .pointer (some ⟨b6, 0, none⟩)] w fun e w' => e = .returned (.int .u32 (childOf ups downs i : Nat)) ∧ w' = w := by
  by_cases h1 : i = 4294967295
  · have d1 : ((i : Int) == 4294967295) = true := by simp; omega
    have hc : childOf ups downs i = i := by unfold childOf; rw [if_pos h1]
    rw [hc]
    clear hc h1 hu
    go_enter Try.func23, Try.ntmps23
    go_wp2
    go_returns
    exact ⟨by first | rfl | (congr 1; congr 1; simp at d1; omega), rfl⟩
  · have d1 : ((i : Int) == 4294967295) = false := by simp; omega
    by_cases h2 : i < ups
    · have d2 : decide (i < ups) = true := by simpa using h2
      have hc : childOf ups downs i = i + downs := by unfold childOf; rw [if_neg h1, if_pos h2]
      have hb := hu h2
      rw [hc]
      clear hc h1 hu
      go_enter Try.func23, Try.ntmps23
      go_wp2
      go_returns
      refine ⟨ret_int ?_, rfl⟩
      first | omega | (show IntKind.u32.wrap _ = _; rw [IntWalk.u32_in _ (by omega) (by omega)]; omega)
    · have d2 : decide (i < ups) = false := by simpa using h2
      have hc : childOf ups downs i = i - ups := by unfold childOf; rw [if_neg h1, if_neg h2]
      rw [hc]
      clear hc h1 hu
      go_enter Try.func23, Try.ntmps23
      go_wp2
      go_returns
      refine ⟨ret_int ?_, rfl⟩
      first | omega | (show IntKind.u32.wrap _ = _; rw [IntWalk.u32_in _ (by omega) (by omega)]; omega)
end Go.Proofs.Ytjbphoophgbmiaa
