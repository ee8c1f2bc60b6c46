/- UnpackMemory holds: hierarchies that are handed in stay as they are, and the answers of Links, Nodes and Path are new memory, whatever hierarchy and numbers come in. The package variable errors.errorType is tied to the program's text by the card. -/
import Derived.Test.YtchhbgckonpedaaGreatDoorE49
import Derived.Test.YtchhbgckonpedaaGreatDoorE50
set_option linter.unusedSimpArgs false
set_option maxRecDepth 100000
set_option maxHeartbeats 8000000
namespace Go.Proofs.YtchhbgckonpedaaGreatDoor
open Go.ChangeShapes Go.WideShapes Go.ChangeAt Go.RowKit Go.Joins Go.Deep
section
variable {H : Type} {enc : TypeId × Value → H} {P : Program} {w : World} {base : Nat} {spare : Nat → Bool} {held : Bool}
theorem trodAll_four {t t1 t2 t3 : TypeId} {args : Array Value} {ds : List (DataW H)} {ps : List MemPlace} (h : DataW.TrodAll enc P w base spare held [t,t1,t2,t3] args.toList ds ps) :
  ∃ v v1 v2 v3 d d1 d2 d3 p p1 p2 p3,args = #[v,v1,v2,v3] ∧ ds = [d,d1,d2,d3] ∧ ps = p ++ p1 ++ p2 ++ p3 ∧ DataW.Trod enc P w base spare held t v d p ∧ DataW.Trod enc P w base spare held t1 v1 d1 p1 ∧ DataW.Trod enc P w base spare held t2 v2 d2 p2 ∧ DataW.Trod enc P w base spare held t3 v3 d3 p3 := by
 obtain ⟨v,vs,d,ds1,p,q,hargs,rfl,rfl,hd,hr⟩ := trodAll_cons h
 obtain ⟨v1,vs1,d1,ds2,p1,q1,rfl,rfl,rfl,hd1,hr1⟩ := trodAll_cons hr
 obtain ⟨v2,vs2,d2,ds3,p2,q2,rfl,rfl,rfl,hd2,hr2⟩ := trodAll_cons hr1
 obtain ⟨v3,vs3,d3,ds4,p3,q3,rfl,rfl,rfl,hd3,hr3⟩ := trodAll_cons hr2
 obtain ⟨rfl,rfl,rfl⟩ := trodAll_nil hr3
 exact ⟨v,v1,v2,v3,d,d1,d2,d3,p,p1,p2,p3,by cases args; simp_all,rfl,by simp,hd,hd1,hd2,hd3⟩
end
theorem unpackMemory_lifted (os : Os) (started : os.Started) (H : Type) (enc : TypeId × Value → H) :
  ReturnsInHanded {} Tryz.checked os 6 .any (fun w args => (Rows.unpackMemorySpec.pre enc Tryz.prog Tryz.f6 [] false w args ∧ laidMetH Tryz.prog [("errors.errorType",Rows.laid_errors_errorType)] w) ∧ sizedMet enc Tryz.prog Tryz.f6 (OpenSpec.ofChange Rows.unpackMemorySpec) false w args)
   (Rows.unpackMemorySpec.post enc Tryz.prog Tryz.f6 false true false false) := by
 refine returnsInHanded_of_change_and (C := Tryz.checked) (X := fun w _ => laidMetH Tryz.prog [("errors.errorType",Rows.laid_errors_errorType)] w) (fun _ _ _ hh h => h.of_heap hh) Tryz.own started (by kernel_rfl) Tryz.func6
  (ChangeSpec.witness_at (enc := enc) (C := Tryz.checked) (os := os) (X := fun w _ => laidMetH Tryz.prog [("errors.errorType",Rows.laid_errors_errorType)] w) false (laidWorld os) #[.agg #[.slice none 0 0, .slice none 0 0, .slice none 0 0, .slice none 0 0, .slice none 0 0], .int .i64 0, .int .i64 0, .int .i64 0] 8 rfl (by kernel_rfl) (by kernel_rfl) (by kernel_rfl) (by kernel_rfl) (by kernel_rfl) (laidWorld_met os _)) ?_
 intro W base args ds gs before hval0 hW _ hsz hL _
 have hval : ∀ (j : Nat) t v, Tryz.f6.params[j]? = some t → args[j]? = some v → Value.okWide Tryz.prog W .any base t v := hval0
 have hW' := hW
 obtain ⟨p,q,hA0,hV,rfl,hfz,hnd⟩ := hW
 have hA : DataW.TrodAll enc Tryz.prog W 0 (fun _ => true) true Tryz.f6.params.toList args.toList ds p := hA0
 rw [Tryz.params6] at hA hval hsz
 obtain ⟨v0,v1,v2,v3,d0,d1,d2,d3,p0,p1,p2,p3,rfl,rfl,rfl,h0,h1,h2,h3⟩ := trodAll_four hA
 obtain ⟨rfl,rfl⟩ := trodVars_none hV
 have hsz0 : (d0.weights Tryz.prog 25).all (· ≤ reachBytes) = true := by
  have e := hsz
  simp only [List.cons_append,List.nil_append,List.append_nil,DataW.weightsEach,List.all_append,Bool.and_eq_true] at e
  first | exact e | exact e.1
 obtain ⟨A,h,rfl,see,form⟩ := open_hier (hval 0 25 v0 rfl rfl) h0
 obtain ⟨i,rfl, -, -,wi⟩ := open_int Tryz.underlying3 (hval 1 3 v1 rfl rfl) h1
 obtain ⟨s,rfl, -, -,ws⟩ := open_int Tryz.underlying3 (hval 2 3 v2 rfl rfl) h2
 obtain ⟨t,rfl, -, -,wt⟩ := open_int Tryz.underlying3 (hval 3 3 v3 rfl rfl) h3
 refine (unpackMemory_any A h i s t W (evar_of_laid hL) see (hier_reach h0 hsz0) (wf64 wi).2 (wf64 ws).2 (wf64 wt).2).mono fun e W' ⟨he,hg⟩ => ?_
 subst he
 exact ⟨_,rfl,law_post Tryz.laid (by rw [Tryz.params6]; intro t ht; simp at ht; rcases ht with rfl | rfl; exact readHier; exact readInt) hW' rfl (tb := 4) (by kernel_rfl) Tryz.underlying4 rfl hg⟩
theorem unpackMemory_said : Rows.UnpackMemorySaid :=
 OpenClaim.holds_of_wide 6 Tryz.f6 rfl rfl rfl rfl rfl rfl rfl ⟨rfl,rfl,rfl,rfl,rfl⟩ rfl rfl rfl rfl rfl (by kernel_rfl) Tryz.func6 (by kernel_rfl)
  (of_decide_eq_true (by kernel_rfl)) (by unfold Func.isWrapper; first | (rw [if_pos (by decide +kernel)]; kernel_rfl) | (rw [if_neg (by decide +kernel)]; exact ⟨rfl,rfl⟩))
  (fun os started H enc _ => unpackMemory_lifted os started H enc)
theorem unpackMemory_want0 : Tryz.prog.wantsStandIn 25 = false := by kernel_rfl
theorem unpackMemory_want1 : Tryz.prog.wantsStandIn 3 = false := by kernel_rfl
theorem unpackMemory_holds : Rows.UnpackMemoryCardSaid :=
 Claim7.holds_tied_plain_at .later [] [.handle] true Rows.unpackMemoryCard.stood.harness true
  unpackMemory_said (fun _ h => by cases h) (by kernel_rfl) (fun _ h => by cases h) unpackMemory_row_tie rfl ⟨rfl,rfl⟩ (by kernel_rfl) rfl
  (fun f fn hf hfn => by
   obtain rfl : f = 6 := Option.some.inj ((show Tryz.prog.funcNamed "viaduct/viaductlaw22.UnpackMemory" = some 6 by kernel_rfl).symm.trans hf) |>.symm
   obtain rfl : fn = Tryz.f6 := (Option.some.inj (Tryz.func6.symm.trans hfn)).symm
   exact ⟨by kernel_rfl,fun j t ht => by
    rw [Tryz.params6] at ht
    match j with
    | 0 => simp at ht; subst ht; exact unpackMemory_want0
    | 1 => simp at ht; subst ht; exact unpackMemory_want1
    | 2 => simp at ht; subst ht; exact unpackMemory_want1
    | 3 => simp at ht; subst ht; exact unpackMemory_want1
    | _ + 4 => simp at ht⟩)
  (by kernel_rfl)
#print axioms unpackMemory_holds
end Go.Proofs.YtchhbgckonpedaaGreatDoor
