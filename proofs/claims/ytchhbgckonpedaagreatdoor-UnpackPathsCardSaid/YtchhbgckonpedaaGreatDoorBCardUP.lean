/- UnpackPaths holds: Path answers just what the document says, errors and their places too, whatever hierarchy and nodes come in: a path of the graph from s to t, no longer than Distance says, or the error. The package variable errors.errorType is tied to the program's text by the card. -/
import Derived.Test.YtchhbgckonpedaaGreatDoorA47
import Derived.Test.YtchhbgckonpedaaGreatDoorA48
namespace Go.Proofs.YtchhbgckonpedaaGreatDoor
open Go.ChangeShapes Go.WideShapes Go.ChangeAt Go.RowKit Go.Joins Go.Deep
set_option maxRecDepth 100000 in
theorem unpackPaths_lifted (os : Os) (started : os.Started) (H : Type) (enc : TypeId × Value → H) :
    ReturnsInHanded {} Tryz.checked os 4 .any (fun w args => (Rows.unpackPathsSpec.pre enc Tryz.prog Tryz.f4 [] false w args ∧ laidMetH Tryz.prog [("errors.errorType", Rows.laid_errors_errorType)] w) ∧ sizedMet enc Tryz.prog Tryz.f4 (OpenSpec.ofChange Rows.unpackPathsSpec) false w args)
      (Rows.unpackPathsSpec.post enc Tryz.prog Tryz.f4 false true false false) := by
  refine returnsInHanded_of_change_and (C := Tryz.checked) (X := fun w _ => laidMetH Tryz.prog [("errors.errorType", Rows.laid_errors_errorType)] w) (fun _ _ _ hh h => h.of_heap hh) Tryz.own started (by kernel_rfl) Tryz.func4
    (ChangeSpec.witness_at (enc := enc) (C := Tryz.checked) (os := os) (X := fun w _ => laidMetH Tryz.prog [("errors.errorType", Rows.laid_errors_errorType)] w) false (laidWorld os) #[.agg #[.slice none 0 0, .slice none 0 0, .slice none 0 0, .slice none 0 0, .slice none 0 0], .int .i64 0, .int .i64 0] 8 rfl (by kernel_rfl) (by kernel_rfl) (by kernel_rfl) (by kernel_rfl) (by kernel_rfl) (laidWorld_met os _)) ?_
  intro W base args ds gs before hval0 hW _ hsz hL _
  have hval : ∀ (j : Nat) t v, Tryz.f4.params[j]? = some t → args[j]? = some v → Value.okWide Tryz.prog W .any base t v := hval0
  have hW' := hW
  obtain ⟨p, q, hA0, hV, rfl, hfz, hnd⟩ := hW
  have hA : DataW.TrodAll enc Tryz.prog W 0 (fun _ => true) true Tryz.f4.params.toList args.toList ds p := hA0
  rw [Tryz.params4] at hA hval hsz
  obtain ⟨v0, v1, v2, d0, d1, d2, p0, p1, p2, rfl, rfl, rfl, h0, h1, h2⟩ := trodAll_three hA
  obtain ⟨rfl, rfl⟩ := trodVars_none hV
  have hsz0 : (d0.weights Tryz.prog 25).all (· ≤ reachBytes) = true := by
    have e := hsz
    simp only [List.cons_append, List.nil_append, List.append_nil, DataW.weightsEach, List.all_append, Bool.and_eq_true] at e
    first | exact e | exact e.1
  obtain ⟨A, h, rfl, see, form⟩ := open_hier (hval 0 25 v0 rfl rfl) h0
  obtain ⟨s, rfl, -, -, ws⟩ := open_int Tryz.underlying3 (hval 1 3 v1 rfl rfl) h1
  obtain ⟨t, rfl, -, -, wt⟩ := open_int Tryz.underlying3 (hval 2 3 v2 rfl rfl) h2
  refine (unpackPaths_any A h s t W (evar_of_laid hL) see (hier_reach h0 hsz0) (wf64 ws).2 (wf64 wt).2).mono fun e W' ⟨he, hg⟩ => ?_
  subst he
  exact ⟨_, rfl, law_post Tryz.laid (by rw [Tryz.params4]; intro t ht; simp at ht; rcases ht with rfl | rfl; exact readHier; exact readInt) hW' rfl (tb := 4) (by kernel_rfl) Tryz.underlying4 rfl hg⟩
theorem unpackPaths_said : Rows.UnpackPathsSaid :=
  OpenClaim.holds_of_wide 4 Tryz.f4 rfl rfl rfl rfl rfl rfl rfl ⟨rfl, rfl, rfl, rfl, rfl⟩ rfl rfl rfl rfl rfl (by kernel_rfl) Tryz.func4 (by kernel_rfl)
    (of_decide_eq_true (by kernel_rfl)) (by unfold Func.isWrapper; first | (rw [if_pos (by decide +kernel)]; kernel_rfl) | (rw [if_neg (by decide +kernel)]; exact ⟨rfl, rfl⟩))
    (fun os started H enc _ => unpackPaths_lifted os started H enc)
theorem unpackPaths_want0 : Tryz.prog.wantsStandIn 25 = false := by kernel_rfl
theorem unpackPaths_want1 : Tryz.prog.wantsStandIn 3 = false := by kernel_rfl
theorem unpackPaths_holds : Rows.UnpackPathsCardSaid :=
  Claim7.holds_tied_plain_at .later [] [.handle] true Rows.unpackPathsCard.stood.harness true
    unpackPaths_said (fun _ h => by cases h) (by kernel_rfl) (fun _ h => by cases h) unpackPaths_row_tie rfl ⟨rfl, rfl⟩ (by kernel_rfl) rfl
    (fun f fn hf hfn => by
      obtain rfl : f = 4 := Option.some.inj ((show Tryz.prog.funcNamed "viaduct/viaductlaw22.UnpackPaths" = some 4 by kernel_rfl).symm.trans hf) |>.symm
      obtain rfl : fn = Tryz.f4 := (Option.some.inj (Tryz.func4.symm.trans hfn)).symm
      exact ⟨by kernel_rfl, fun j t ht => by
        rw [Tryz.params4] at ht
        match j with
        | 0 => simp at ht; subst ht; exact unpackPaths_want0
        | 1 => simp at ht; subst ht; exact unpackPaths_want1
        | 2 => simp at ht; subst ht; exact unpackPaths_want1
        | _ + 3 => simp at ht⟩)
    (by kernel_rfl)
#print axioms unpackPaths_holds
end Go.Proofs.YtchhbgckonpedaaGreatDoor
