/- TableTurns holds: in the hierarchy turned about the table is turned about; rows and columns asked one by one, or doubled, are the same, whatever hierarchy (of up to 14 nodes) and lists (of up to 12) come in. No condition. -/
import Derived.Test.YtjbphoophgbmiaaLawTT
import Derived.Test.YtjbphoophgbmiaaPlain
import Derived.Test.YtjbphoophgbmiaaOpen
import Derived.Test.YtjbphoophgbmiaaIntL
namespace Go.Proofs.Ytjbphoophgbmiaa
open Go.ChangeShapes Go.WideShapes Go.ChangeAt Go.RowKit Go.Joins Go.Deep

set_option maxRecDepth 100000 in
theorem tableTurns_lifted (os : Os) (started : os.Started) (H : Type) (enc : TypeId × Value → H) :
    ReturnsInHanded {} Try.checked os 5 .any (Rows.tableTurnsSpec.pre6 enc Try.prog Try.f5 Rows.tableTurnsRow.domain false) (Rows.tableTurnsSpec.post enc Try.prog Try.f5 false true false false) := by
  refine returnsInHanded_of_change_sized (C := Try.checked) Try.own started (by kernel_rfl) Try.func5
    (ChangeSpec.witness6 (enc := enc) (C := Try.checked) false ⟨#[], #[.agg #[.slice none 0 0, .slice none 0 0, .slice none 0 0, .slice none 0 0, .slice none 0 0], .slice none 0 0, .slice none 0 0], []⟩ 8 (by kernel_rfl) (by kernel_rfl) (by kernel_rfl) (by kernel_rfl)) ?_
  intro W base args ds gs before hval0 hW hcnd hsz _
  have hval : ∀ (j : Nat) t v, Try.f5.params[j]? = some t → args[j]? = some v → Value.okWide Try.prog W .any base t v := hval0
  have hW' := hW
  obtain ⟨p, q, hA0, hV, rfl, hfz, hnd⟩ := hW
  have hA : DataW.TrodAll enc Try.prog W 0 (fun _ => true) true Try.f5.params.toList args.toList ds p := hA0
  rw [Try.params5] at hA hval hsz
  obtain ⟨v0, v1, v2, d0, d1, d2, p0, p1, p2, rfl, rfl, rfl, h0, h1, h2⟩ := trodAll_three hA
  obtain ⟨rfl, rfl⟩ := trodVars_none hV
  obtain ⟨A, h, rfl, see, form⟩ := open_hier (hval 0 25 v0 rfl rfl) h0
  obtain ⟨ra, rc, rl, rfl, rs, rw⟩ := open_intlist Try.underlying40 Try.underlying3 (by kernel_rfl) (hval 1 40 v1 rfl rfl) h1
  obtain ⟨ca, cc, cl, rfl, cs, cw⟩ := open_intlist Try.underlying40 Try.underlying3 (by kernel_rfl) (hval 2 40 v2 rfl rfl) h2
  refine (tableTurns_any A h rl cl ra ca rc cc W see form rs cs ⟨(fun x hx => (wf64 (rw x hx)).2), (fun x hx => (wf64 (cw x hx)).2)⟩).mono fun e W' ⟨he, hg⟩ => ?_
  subst he
  exact ⟨_, rfl, law_post Try.laid (by rw [Try.params5]; intro t ht; simp at ht; rcases ht with rfl | rfl; exact readHier; exact readInts) hW' rfl (tb := 4) (by kernel_rfl) Try.underlying4 rfl hg⟩

/-- TableTurns. -/
theorem tableTurns_holds : Rows.TableTurnsSaid :=
  OpenClaim.holds_of_wide 5 Try.f5 rfl rfl rfl rfl rfl rfl rfl ⟨rfl, rfl, rfl, rfl, rfl⟩ rfl rfl rfl rfl rfl (by kernel_rfl) Try.func5 (by kernel_rfl)
    (of_decide_eq_true (by kernel_rfl)) (by unfold Func.isWrapper; first | (rw [if_pos (by decide +kernel)]; kernel_rfl) | (rw [if_neg (by decide +kernel)]; exact ⟨rfl, rfl⟩))
    (fun os started H enc _ => tableTurns_lifted os started H enc)
#print axioms tableTurns_holds
end Go.Proofs.Ytjbphoophgbmiaa
