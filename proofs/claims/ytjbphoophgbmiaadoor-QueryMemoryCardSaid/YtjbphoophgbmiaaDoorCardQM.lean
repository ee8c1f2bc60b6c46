/- QueryMemory holds: a hierarchy that is handed in stays as it is, and answers don't hang on earlier questions, whatever hierarchy and list come in. The package variable errors.errorType is tied to the program's text by the card. -/
import Derived.Test.YtjbphoophgbmiaaDoorLawQM
import Derived.Test.YtjbphoophgbmiaaDoorDoor
namespace Go.Proofs.YtjbphoophgbmiaaDoor
open Go.ChangeShapes Go.WideShapes Go.ChangeAt Go.RowKit Go.Joins Go.Deep

set_option maxRecDepth 100000 in
theorem queryMemory_lifted (os : Os) (started : os.Started) (H : Type) (enc : TypeId × Value → H) :
    ReturnsInHanded {} Tryd.checked os 9 .any (fun w args => (Rows.queryMemorySpec.pre enc Tryd.prog Tryd.f9 [] false w args ∧ laidMetH Tryd.prog [("errors.errorType", Rows.laid_errors_errorType)] w) ∧ sizedMet enc Tryd.prog Tryd.f9 (OpenSpec.ofChange Rows.queryMemorySpec) false w args)
      (Rows.queryMemorySpec.post enc Tryd.prog Tryd.f9 false true false false) := by
  refine returnsInHanded_of_change_and (C := Tryd.checked) (X := fun w _ => laidMetH Tryd.prog [("errors.errorType", Rows.laid_errors_errorType)] w) (fun _ _ _ hh h => h.of_heap hh) Tryd.own started (by kernel_rfl) Tryd.func9
    (ChangeSpec.witness_at (enc := enc) (C := Tryd.checked) (os := os) (X := fun w _ => laidMetH Tryd.prog [("errors.errorType", Rows.laid_errors_errorType)] w) false (laidWorld os) #[.agg #[.slice none 0 0, .slice none 0 0, .slice none 0 0, .slice none 0 0, .slice none 0 0], .slice none 0 0] 8 rfl (by kernel_rfl) (by kernel_rfl) (by kernel_rfl) (by kernel_rfl) (by kernel_rfl) (laidWorld_met os _)) ?_
  intro W base args ds gs before hval0 hW _ hsz hL _
  have hval : ∀ (j : Nat) t v, Tryd.f9.params[j]? = some t → args[j]? = some v → Value.okWide Tryd.prog W .any base t v := hval0
  have hW' := hW
  obtain ⟨p, q, hA0, hV, rfl, hfz, hnd⟩ := hW
  have hA : DataW.TrodAll enc Tryd.prog W 0 (fun _ => true) true Tryd.f9.params.toList args.toList ds p := hA0
  rw [Tryd.params9] at hA hval hsz
  obtain ⟨v0, v1, d0, d1, p0, p1, rfl, rfl, rfl, h0, h1⟩ := trodAll_two hA
  obtain ⟨rfl, rfl⟩ := trodVars_none hV
  have hsz0 : (d0.weights Tryd.prog 25).all (· ≤ reachBytes) = true := by
    have e := hsz
    simp only [List.cons_append, List.nil_append, List.append_nil, DataW.weightsEach, List.all_append, Bool.and_eq_true] at e
    exact e.1
  obtain ⟨A, h, rfl, see, form⟩ := open_hier (hval 0 25 v0 rfl rfl) h0
  obtain ⟨la, lc, lst, rfl, sl, wl⟩ := open_intlist Tryd.underlying66 Tryd.underlying3 (by kernel_rfl) (hval 1 66 v1 rfl rfl) h1
  refine (queryMemory_any A h la lc lst W (evar_of_laid hL) see (hier_reach h0 hsz0) sl (fun x hx => (wf64 (wl x hx)).2)).mono fun e W' ⟨he, hg⟩ => ?_
  subst he
  exact ⟨_, rfl, law_post Tryd.laid (by rw [Tryd.params9]; intro t ht; simp at ht; rcases ht with rfl | rfl; exact readHier; exact readInts) hW' rfl (tb := 4) (by kernel_rfl) Tryd.underlying4 rfl hg⟩
theorem queryMemory_said : Rows.QueryMemorySaid :=
  OpenClaim.holds_of_wide 9 Tryd.f9 rfl rfl rfl rfl rfl rfl rfl ⟨rfl, rfl, rfl, rfl, rfl⟩ rfl rfl rfl rfl rfl (by kernel_rfl) Tryd.func9 (by kernel_rfl)
    (of_decide_eq_true (by kernel_rfl)) (by unfold Func.isWrapper; first | (rw [if_pos (by decide +kernel)]; kernel_rfl) | (rw [if_neg (by decide +kernel)]; exact ⟨rfl, rfl⟩))
    (fun os started H enc _ => queryMemory_lifted os started H enc)
theorem queryMemory_want0 : Tryd.prog.wantsStandIn 25 = false := by kernel_rfl
theorem queryMemory_want1 : Tryd.prog.wantsStandIn 66 = false := by kernel_rfl
/-- QueryMemory. -/
theorem queryMemory_holds : Rows.QueryMemoryCardSaid :=
  Claim7.holds_tied_plain_at .later [] [.handle] true Rows.queryMemoryCard.stood.harness true
    queryMemory_said (fun _ h => by cases h) (by kernel_rfl) (fun _ h => by cases h) queryMemory_row_tie rfl ⟨rfl, rfl⟩ (by kernel_rfl) rfl
    (fun f fn hf hfn => by
      obtain rfl : f = 9 := Option.some.inj ((show Tryd.prog.funcNamed "viaduct/viaductlaw21.QueryMemory" = some 9 by kernel_rfl).symm.trans hf) |>.symm
      obtain rfl : fn = Tryd.f9 := (Option.some.inj (Tryd.func9.symm.trans hfn)).symm
      exact ⟨by kernel_rfl, fun j t ht => by
        rw [Tryd.params9] at ht
        match j with
        | 0 => simp at ht; subst ht; exact queryMemory_want0
        | 1 => simp at ht; subst ht; exact queryMemory_want1
        | _ + 2 => simp at ht⟩)
    (by kernel_rfl)
#print axioms queryMemory_holds
end Go.Proofs.YtjbphoophgbmiaaDoor
