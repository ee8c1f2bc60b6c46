/- UnpackDoubled holds: in a hierarchy whose links stand for twice as many at each rank counts double, up to MaxPath; beyond it ErrLong is answered, and paths are found all the same, whatever three small numbers come in. The package variable errors.errorType is tied to the program's text by the card. -/
import Derived.Test.YtchhbgckonpedaaGreatDoorG44
import Derived.Test.YtchhbgckonpedaaGreatDoorG45
namespace Go.Proofs.YtchhbgckonpedaaGreatDoor
open Go.ChangeShapes Go.WideShapes Go.ChangeAt Go.RowKit Go.Joins Go.Deep
theorem readU8 : Tryz.prog.readableRec 5 = true ∧ 5 < Tryz.prog.types.size := ⟨by kernel_rfl, of_decide_eq_true (by kernel_rfl)⟩
theorem wfu8 {x : Int} (h : (Lit.int .u8 x).wf = true) : 0 ≤ x ∧ x ≤ 255 := by
  simp [Lit.wf, IntKind.min, IntKind.max, IntKind.signed, IntKind.bits] at h
  omega
set_option maxRecDepth 100000 in
theorem unpackDoubled_lifted (os : Os) (started : os.Started) (H : Type) (enc : TypeId × Value → H) :
    ReturnsInHanded {} Tryz.checked os 7 .any (fun w args => (Rows.unpackDoubledSpec.pre enc Tryz.prog Tryz.f7 [] false w args ∧ laidMetH Tryz.prog [("errors.errorType", Rows.laid_errors_errorType)] w) ∧ sizedMet enc Tryz.prog Tryz.f7 (OpenSpec.ofChange Rows.unpackDoubledSpec) false w args)
      (Rows.unpackDoubledSpec.post enc Tryz.prog Tryz.f7 false true false false) := by
  refine returnsInHanded_of_change_and (C := Tryz.checked) (X := fun w _ => laidMetH Tryz.prog [("errors.errorType", Rows.laid_errors_errorType)] w) (fun _ _ _ hh h => h.of_heap hh) Tryz.own started (by kernel_rfl) Tryz.func7
    (ChangeSpec.witness_at (enc := enc) (C := Tryz.checked) (os := os) (X := fun w _ => laidMetH Tryz.prog [("errors.errorType", Rows.laid_errors_errorType)] w) false (laidWorld os) #[.int .u8 0, .int .u8 0, .int .u8 0] 8 rfl (by kernel_rfl) (by kernel_rfl) (by kernel_rfl) (by kernel_rfl) (by kernel_rfl) (laidWorld_met os _)) ?_
  intro W base args ds gs before hval0 hW _ hsz hL _
  have hval : ∀ (j : Nat) t v, Tryz.f7.params[j]? = some t → args[j]? = some v → Value.okWide Tryz.prog W .any base t v := hval0
  have hW' := hW
  obtain ⟨p, q, hA0, hV, rfl, hfz, hnd⟩ := hW
  have hA : DataW.TrodAll enc Tryz.prog W 0 (fun _ => true) true Tryz.f7.params.toList args.toList ds p := hA0
  rw [Tryz.params7] at hA hval hsz
  obtain ⟨v0, v1, v2, d0, d1, d2, p0, p1, p2, rfl, rfl, rfl, h0, h1, h2⟩ := trodAll_three hA
  obtain ⟨rfl, rfl⟩ := trodVars_none hV
  obtain ⟨ni, rfl, -, -, wn⟩ := open_int Tryz.underlying5 (hval 0 5 v0 rfl rfl) h0
  obtain ⟨n, rfl⟩ : ∃ k : Nat, ni = (k : Int) := ⟨ni.toNat, by have := wfu8 wn; omega⟩
  obtain ⟨ri, rfl, -, -, wr⟩ := open_int Tryz.underlying5 (hval 1 5 v1 rfl rfl) h1
  obtain ⟨r, rfl⟩ : ∃ k : Nat, ri = (k : Int) := ⟨ri.toNat, by have := wfu8 wr; omega⟩
  obtain ⟨xi, rfl, -, -, wx⟩ := open_int Tryz.underlying5 (hval 2 5 v2 rfl rfl) h2
  obtain ⟨x, rfl⟩ : ∃ k : Nat, xi = (k : Int) := ⟨xi.toNat, by have := wfu8 wx; omega⟩
  refine (unpackDoubled_any n r x W (by have := wfu8 wn; omega) (by have := wfu8 wr; omega) (by have := wfu8 wx; omega) (evar_of_laid hL)).mono fun e W' ⟨he, hg⟩ => ?_
  subst he
  exact ⟨_, rfl, law_post Tryz.laid (by rw [Tryz.params7]; intro t ht; simp at ht; rcases ht with rfl; exact readU8) hW' rfl (tb := 4) (by kernel_rfl) Tryz.underlying4 rfl hg⟩
theorem unpackDoubled_said : Rows.UnpackDoubledSaid :=
  OpenClaim.holds_of_wide 7 Tryz.f7 rfl rfl rfl rfl rfl rfl rfl ⟨rfl, rfl, rfl, rfl, rfl⟩ rfl rfl rfl rfl rfl (by kernel_rfl) Tryz.func7 (by kernel_rfl)
    (of_decide_eq_true (by kernel_rfl)) (by unfold Func.isWrapper; first | (rw [if_pos (by decide +kernel)]; kernel_rfl) | (rw [if_neg (by decide +kernel)]; exact ⟨rfl, rfl⟩))
    (fun os started H enc _ => unpackDoubled_lifted os started H enc)
theorem unpackDoubled_want0 : Tryz.prog.wantsStandIn 5 = false := by kernel_rfl
theorem unpackDoubled_holds : Rows.UnpackDoubledCardSaid :=
  Claim7.holds_tied_plain_at .later [] [.handle] true Rows.unpackDoubledCard.stood.harness true
    unpackDoubled_said (fun _ h => by cases h) (by kernel_rfl) (fun _ h => by cases h) unpackDoubled_row_tie rfl ⟨rfl, rfl⟩ (by kernel_rfl) rfl
    (fun f fn hf hfn => by
      obtain rfl : f = 7 := Option.some.inj ((show Tryz.prog.funcNamed "viaduct/viaductlaw22.UnpackDoubled" = some 7 by kernel_rfl).symm.trans hf) |>.symm
      obtain rfl : fn = Tryz.f7 := (Option.some.inj (Tryz.func7.symm.trans hfn)).symm
      exact ⟨by kernel_rfl, fun j t ht => by
        rw [Tryz.params7] at ht
        match j with
        | 0 => simp at ht; subst ht; exact unpackDoubled_want0
        | 1 => simp at ht; subst ht; exact unpackDoubled_want0
        | 2 => simp at ht; subst ht; exact unpackDoubled_want0
        | _ + 3 => simp at ht⟩)
    (by kernel_rfl)
#print axioms unpackDoubled_holds
end Go.Proofs.YtchhbgckonpedaaGreatDoor
