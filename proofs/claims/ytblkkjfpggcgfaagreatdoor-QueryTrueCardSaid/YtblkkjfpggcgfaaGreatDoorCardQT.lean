/- QueryTrue holds: in a true hierarchy each distance is that of its graph, by plain search, and there is no walk just where there is none; in any hierarchy in form it is no less, whatever hierarchy comes in. The package variable errors.errorType is tied to the program's text by the card. -/
import Derived.Test.YtblkkjfpggcgfaaGreatDoorLawQT
namespace Go.Proofs.YtblkkjfpggcgfaaGreatDoor
open Go.ChangeShapes Go.WideShapes Go.ChangeAt Go.RowKit Go.Joins Go.Deep

set_option maxRecDepth 100000 in
theorem queryTrue_lifted (os : Os) (started : os.Started) (H : Type) (enc : TypeId × Value → H) :
    ReturnsInHanded {} Tryz.checked os 3 .any (fun w args => (Rows.queryTrueSpec.pre enc Tryz.prog Tryz.f3 [] false w args ∧ laidMetH Tryz.prog [("errors.errorType", Rows.laid_errors_errorType)] w) ∧ sizedMet enc Tryz.prog Tryz.f3 (OpenSpec.ofChange Rows.queryTrueSpec) false w args)
      (Rows.queryTrueSpec.post enc Tryz.prog Tryz.f3 false true false false) := by
  refine returnsInHanded_of_change_and (C := Tryz.checked) (X := fun w _ => laidMetH Tryz.prog [("errors.errorType", Rows.laid_errors_errorType)] w) (fun _ _ _ hh h => h.of_heap hh) Tryz.own started (by kernel_rfl) Tryz.func3
    (ChangeSpec.witness_at (enc := enc) (C := Tryz.checked) (os := os) (X := fun w _ => laidMetH Tryz.prog [("errors.errorType", Rows.laid_errors_errorType)] w) false (laidWorld os) #[.agg #[.slice none 0 0, .slice none 0 0, .slice none 0 0, .slice none 0 0, .slice none 0 0]] 8 rfl (by kernel_rfl) (by kernel_rfl) (by kernel_rfl) (by kernel_rfl) (by kernel_rfl) (laidWorld_met os _)) ?_
  intro W base args ds gs before hval0 hW _ hsz hL _
  have hval : ∀ (j : Nat) t v, Tryz.f3.params[j]? = some t → args[j]? = some v → Value.okWide Tryz.prog W .any base t v := hval0
  have hW' := hW
  obtain ⟨p, q, hA0, hV, rfl, hfz, hnd⟩ := hW
  have hA : DataW.TrodAll enc Tryz.prog W 0 (fun _ => true) true Tryz.f3.params.toList args.toList ds p := hA0
  rw [Tryz.params3] at hA hval hsz
  obtain ⟨v0, d0, rfl, rfl, h0⟩ := trodAll_one hA
  obtain ⟨rfl, rfl⟩ := trodVars_none hV
  have hsz0 : (d0.weights Tryz.prog 25).all (· ≤ reachBytes) = true := by
    have e := hsz
    simp only [List.cons_append, List.nil_append, List.append_nil, DataW.weightsEach, List.all_append, Bool.and_eq_true] at e
    first | exact e | exact e.1
  obtain ⟨A, h, rfl, see, form⟩ := open_hier (hval 0 25 v0 rfl rfl) h0
  refine (queryTrue_any A h W (evar_of_laid hL) see (hier_reach h0 hsz0)).mono fun e W' ⟨he, hg⟩ => ?_
  subst he
  exact ⟨_, rfl, law_post Tryz.laid (by rw [Tryz.params3]; intro t ht; simp at ht; rcases ht with rfl; exact readHier) hW' rfl (tb := 4) (by kernel_rfl) Tryz.underlying4 rfl hg⟩
theorem queryTrue_said : Rows.QueryTrueSaid :=
  OpenClaim.holds_of_wide 3 Tryz.f3 rfl rfl rfl rfl rfl rfl rfl ⟨rfl, rfl, rfl, rfl, rfl⟩ rfl rfl rfl rfl rfl (by kernel_rfl) Tryz.func3 (by kernel_rfl)
    (of_decide_eq_true (by kernel_rfl)) (by unfold Func.isWrapper; first | (rw [if_pos (by decide +kernel)]; kernel_rfl) | (rw [if_neg (by decide +kernel)]; exact ⟨rfl, rfl⟩))
    (fun os started H enc _ => queryTrue_lifted os started H enc)
theorem queryTrue_want0 : Tryz.prog.wantsStandIn 25 = false := by kernel_rfl
/-- QueryTrue. -/
theorem queryTrue_holds : Rows.QueryTrueCardSaid :=
  Claim7.holds_tied_plain_at .later [] [.handle] true Rows.queryTrueCard.stood.harness true
    queryTrue_said (fun _ h => by cases h) (by kernel_rfl) (fun _ h => by cases h) queryTrue_row_tie rfl ⟨rfl, rfl⟩ (by kernel_rfl) rfl
    (fun f fn hf hfn => by
      obtain rfl : f = 3 := Option.some.inj ((show Tryz.prog.funcNamed "viaduct/viaductlaw21.QueryTrue" = some 3 by kernel_rfl).symm.trans hf) |>.symm
      obtain rfl : fn = Tryz.f3 := (Option.some.inj (Tryz.func3.symm.trans hfn)).symm
      exact ⟨by kernel_rfl, fun j t ht => by
        rw [Tryz.params3] at ht
        match j with
        | 0 => simp at ht; subst ht; exact queryTrue_want0
        | _ + 1 => simp at ht⟩)
    (by kernel_rfl)
#print axioms queryTrue_holds
end Go.Proofs.YtblkkjfpggcgfaaGreatDoor
