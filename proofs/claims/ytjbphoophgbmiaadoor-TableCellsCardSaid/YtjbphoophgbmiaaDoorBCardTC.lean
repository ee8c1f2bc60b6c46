/- TableCells holds: each number of a table is what Distance answers, or Unreached; the nearest column is the first one that is least, whatever hierarchy (of up to 14 nodes) and lists (of up to 12) come in. The package variable errors.errorType is tied to the program's text by the card. -/
import Derived.Test.YtjbphoophgbmiaaDoorTC
import Derived.Test.YtjbphoophgbmiaaDoorM6
import Derived.Test.YtjbphoophgbmiaaDoorM7
namespace Go.Proofs.YtjbphoophgbmiaaDoor
open Go.ChangeShapes Go.WideShapes Go.ChangeAt Go.RowKit Go.Joins Go.Deep

set_option maxRecDepth 100000 in
theorem tableCells_lifted (os : Os) (started : os.Started) (H : Type) (enc : TypeId × Value → H) :
    ReturnsInHanded {} Tryd.checked os 10 .any (fun w args => (Rows.tableCellsSpec.pre enc Tryd.prog Tryd.f10 [] false w args ∧ laidMetH Tryd.prog [("errors.errorType", Rows.laid_errors_errorType)] w) ∧ sizedMet enc Tryd.prog Tryd.f10 (OpenSpec.ofChange Rows.tableCellsSpec) false w args)
      (Rows.tableCellsSpec.post enc Tryd.prog Tryd.f10 false true false false) := by
  refine returnsInHanded_of_change_and (C := Tryd.checked) (X := fun w _ => laidMetH Tryd.prog [("errors.errorType", Rows.laid_errors_errorType)] w) (fun _ _ _ hh h => h.of_heap hh) Tryd.own started (by kernel_rfl) Tryd.func10
    (ChangeSpec.witness_at (enc := enc) (C := Tryd.checked) (os := os) (X := fun w _ => laidMetH Tryd.prog [("errors.errorType", Rows.laid_errors_errorType)] w) false (laidWorld os) #[.agg #[.slice none 0 0, .slice none 0 0, .slice none 0 0, .slice none 0 0, .slice none 0 0], .slice none 0 0, .slice none 0 0] 8 rfl (by kernel_rfl) (by kernel_rfl) (by kernel_rfl) (by kernel_rfl) (by kernel_rfl) (laidWorld_met os _)) ?_
  intro W base args ds gs before hval0 hW _ hsz hL _
  have hval : ∀ (j : Nat) t v, Tryd.f10.params[j]? = some t → args[j]? = some v → Value.okWide Tryd.prog W .any base t v := hval0
  have hW' := hW
  obtain ⟨p, q, hA0, hV, rfl, hfz, hnd⟩ := hW
  have hA : DataW.TrodAll enc Tryd.prog W 0 (fun _ => true) true Tryd.f10.params.toList args.toList ds p := hA0
  rw [Tryd.params10] at hA hval hsz
  obtain ⟨v0, v1, v2, d0, d1, d2, p0, p1, p2, rfl, rfl, rfl, h0, h1, h2⟩ := trodAll_three hA
  obtain ⟨rfl, rfl⟩ := trodVars_none hV
  have hsz0 : (d0.weights Tryd.prog 25).all (· ≤ reachBytes) = true := by
    have e := hsz
    simp only [List.cons_append, List.nil_append, List.append_nil, DataW.weightsEach, List.all_append, Bool.and_eq_true] at e
    exact e.1
  obtain ⟨A, h, rfl, see, form⟩ := open_hier (hval 0 25 v0 rfl rfl) h0
  obtain ⟨ra, rc, rl, rfl, rs, rw⟩ := open_intlist Tryd.underlying66 Tryd.underlying3 (by kernel_rfl) (hval 1 66 v1 rfl rfl) h1
  obtain ⟨ca, cc, cl, rfl, cs, cw⟩ := open_intlist Tryd.underlying66 Tryd.underlying3 (by kernel_rfl) (hval 2 66 v2 rfl rfl) h2
  refine (tableCells_any A h rl cl ra ca rc cc W (evar_of_laid hL) see rs cs ⟨(fun x hx => (wf64 (rw x hx)).2), (fun x hx => (wf64 (cw x hx)).2)⟩ (hier_reach h0 hsz0)).mono fun e W' ⟨he, hg⟩ => ?_
  subst he
  exact ⟨_, rfl, law_post Tryd.laid (by rw [Tryd.params10]; intro t ht; simp at ht; rcases ht with rfl | rfl; exact readHier; exact readInts) hW' rfl (tb := 4) (by kernel_rfl) Tryd.underlying4 rfl hg⟩
theorem tableCells_said : Rows.TableCellsSaid :=
  OpenClaim.holds_of_wide 10 Tryd.f10 rfl rfl rfl rfl rfl rfl rfl ⟨rfl, rfl, rfl, rfl, rfl⟩ rfl rfl rfl rfl rfl (by kernel_rfl) Tryd.func10 (by kernel_rfl)
    (of_decide_eq_true (by kernel_rfl)) (by unfold Func.isWrapper; first | (rw [if_pos (by decide +kernel)]; kernel_rfl) | (rw [if_neg (by decide +kernel)]; exact ⟨rfl, rfl⟩))
    (fun os started H enc _ => tableCells_lifted os started H enc)
theorem tableCells_want0 : Tryd.prog.wantsStandIn 25 = false := by kernel_rfl
theorem tableCells_want1 : Tryd.prog.wantsStandIn 66 = false := by kernel_rfl
/-- TableCells. -/
theorem tableCells_holds : Rows.TableCellsCardSaid :=
  Claim7.holds_tied_plain_at .later [] [.handle] true Rows.tableCellsCard.stood.harness true
    tableCells_said (fun _ h => by cases h) (by kernel_rfl) (fun _ h => by cases h) tableCells_row_tie rfl ⟨rfl, rfl⟩ (by kernel_rfl) rfl
    (fun f fn hf hfn => by
      obtain rfl : f = 10 := Option.some.inj ((show Tryd.prog.funcNamed "viaduct/viaductlaw23.TableCells" = some 10 by kernel_rfl).symm.trans hf) |>.symm
      obtain rfl : fn = Tryd.f10 := (Option.some.inj (Tryd.func10.symm.trans hfn)).symm
      exact ⟨by kernel_rfl, fun j t ht => by
        rw [Tryd.params10] at ht
        match j with
        | 0 => simp at ht; subst ht; exact tableCells_want0
        | 1 => simp at ht; subst ht; exact tableCells_want1
        | 2 => simp at ht; subst ht; exact tableCells_want1
        | _ + 3 => simp at ht⟩)
    (by kernel_rfl)
#print axioms tableCells_holds
end Go.Proofs.YtjbphoophgbmiaaDoor
