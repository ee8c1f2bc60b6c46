/- QueryAsks holds: Distance and Meet answer what the document says, whatever hierarchy and nodes come in. The package variable errors.errorType is tied to the program's text by the card. -/
import Derived.Test.YtjbphoophgbmiaaDoorLawQA
import Derived.Test.YtjbphoophgbmiaaDoorDoor
namespace Go.Proofs.YtjbphoophgbmiaaDoor
open Go.ChangeShapes Go.WideShapes Go.ChangeAt Go.RowKit Go.Joins Go.Deep

set_option maxRecDepth 100000 in
theorem queryAsks_lifted (os : Os) (started : os.Started) (H : Type) (enc : TypeId × Value → H) :
    ReturnsInHanded {} Tryd.checked os 7 .any (fun w args => (Rows.queryAsksSpec.pre enc Tryd.prog Tryd.f7 [] false w args ∧ laidMetH Tryd.prog [("errors.errorType", Rows.laid_errors_errorType)] w) ∧ sizedMet enc Tryd.prog Tryd.f7 (OpenSpec.ofChange Rows.queryAsksSpec) false w args)
      (Rows.queryAsksSpec.post enc Tryd.prog Tryd.f7 false true false false) := by
  refine returnsInHanded_of_change_and (C := Tryd.checked) (X := fun w _ => laidMetH Tryd.prog [("errors.errorType", Rows.laid_errors_errorType)] w) (fun _ _ _ hh h => h.of_heap hh) Tryd.own started (by kernel_rfl) Tryd.func7
    (ChangeSpec.witness_at (enc := enc) (C := Tryd.checked) (os := os) (X := fun w _ => laidMetH Tryd.prog [("errors.errorType", Rows.laid_errors_errorType)] w) false (laidWorld os) #[.agg #[.slice none 0 0, .slice none 0 0, .slice none 0 0, .slice none 0 0, .slice none 0 0], .int .i64 0, .int .i64 0] 8 rfl (by kernel_rfl) (by kernel_rfl) (by kernel_rfl) (by kernel_rfl) (by kernel_rfl) (laidWorld_met os _)) ?_
  intro W base args ds gs before hval0 hW _ hsz hL _
  have hval : ∀ (j : Nat) t v, Tryd.f7.params[j]? = some t → args[j]? = some v → Value.okWide Tryd.prog W .any base t v := hval0
  have hW' := hW
  obtain ⟨p, q, hA0, hV, rfl, hfz, hnd⟩ := hW
  have hA : DataW.TrodAll enc Tryd.prog W 0 (fun _ => true) true Tryd.f7.params.toList args.toList ds p := hA0
  rw [Tryd.params7] at hA hval hsz
  obtain ⟨v0, v1, v2, d0, d1, d2, p0, p1, p2, rfl, rfl, rfl, h0, h1, h2⟩ := trodAll_three hA
  obtain ⟨rfl, rfl⟩ := trodVars_none hV
  have hsz0 : (d0.weights Tryd.prog 25).all (· ≤ reachBytes) = true := by
    have e := hsz
    simp only [List.cons_append, List.nil_append, List.append_nil, DataW.weightsEach, List.all_append, Bool.and_eq_true] at e
    exact e.1
  obtain ⟨A, h, rfl, see, form⟩ := open_hier (hval 0 25 v0 rfl rfl) h0
  obtain ⟨a, rfl, -, -, wa⟩ := open_int Tryd.underlying3 (hval 1 3 v1 rfl rfl) h1
  obtain ⟨b, rfl, -, -, wb⟩ := open_int Tryd.underlying3 (hval 2 3 v2 rfl rfl) h2
  refine (queryAsks_any A h a b W (evar_of_laid hL) see (hier_reach h0 hsz0) (wf64 wa).2 (wf64 wb).2).mono fun e W' ⟨he, hg⟩ => ?_
  subst he
  exact ⟨_, rfl, law_post Tryd.laid (by rw [Tryd.params7]; intro t ht; simp at ht; rcases ht with rfl | rfl; exact readHier; exact readInt) hW' rfl (tb := 4) (by kernel_rfl) Tryd.underlying4 rfl hg⟩
theorem queryAsks_said : Rows.QueryAsksSaid :=
  OpenClaim.holds_of_wide 7 Tryd.f7 rfl rfl rfl rfl rfl rfl rfl ⟨rfl, rfl, rfl, rfl, rfl⟩ rfl rfl rfl rfl rfl (by kernel_rfl) Tryd.func7 (by kernel_rfl)
    (of_decide_eq_true (by kernel_rfl)) (by unfold Func.isWrapper; first | (rw [if_pos (by decide +kernel)]; kernel_rfl) | (rw [if_neg (by decide +kernel)]; exact ⟨rfl, rfl⟩))
    (fun os started H enc _ => queryAsks_lifted os started H enc)
theorem queryAsks_want0 : Tryd.prog.wantsStandIn 25 = false := by kernel_rfl
theorem queryAsks_want1 : Tryd.prog.wantsStandIn 3 = false := by kernel_rfl
/-- QueryAsks. -/
theorem queryAsks_holds : Rows.QueryAsksCardSaid :=
  Claim7.holds_tied_plain_at .later [] [.handle] true Rows.queryAsksCard.stood.harness true
    queryAsks_said (fun _ h => by cases h) (by kernel_rfl) (fun _ h => by cases h) queryAsks_row_tie rfl ⟨rfl, rfl⟩ (by kernel_rfl) rfl
    (fun f fn hf hfn => by
      obtain rfl : f = 7 := Option.some.inj ((show Tryd.prog.funcNamed "viaduct/viaductlaw21.QueryAsks" = some 7 by kernel_rfl).symm.trans hf) |>.symm
      obtain rfl : fn = Tryd.f7 := (Option.some.inj (Tryd.func7.symm.trans hfn)).symm
      exact ⟨by kernel_rfl, fun j t ht => by
        rw [Tryd.params7] at ht
        match j with
        | 0 => simp at ht; subst ht; exact queryAsks_want0
        | 1 => simp at ht; subst ht; exact queryAsks_want1
        | 2 => simp at ht; subst ht; exact queryAsks_want1
        | _ + 3 => simp at ht⟩)
    (by kernel_rfl)
#print axioms queryAsks_holds
end Go.Proofs.YtjbphoophgbmiaaDoor
