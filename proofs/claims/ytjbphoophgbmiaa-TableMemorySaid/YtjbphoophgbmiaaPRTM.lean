/- TableMemory holds: what is handed in stays as it is, spare room too; answers are new memory, rows too, whatever hierarchy (of up to 14 nodes) and lists (of up to 20) come in. No condition. -/
import Derived.Test.YtjbphoophgbmiaaPTM
import Derived.Test.YtjbphoophgbmiaaReach
import Derived.Test.YtjbphoophgbmiaaPlain
import Derived.Test.YtjbphoophgbmiaaOpen
import Derived.Test.YtjbphoophgbmiaaIntL
namespace Go.Proofs.Ytjbphoophgbmiaa
open Go.ChangeShapes Go.WideShapes Go.ChangeAt Go.RowKit Go.Joins Go.Deep

set_option maxRecDepth 100000 in
theorem tableMemory_lifted (os : Os) (started : os.Started) (H : Type) (enc : TypeId × Value → H) :
    ReturnsInHanded {} Try.checked os 4 .any (Rows.tableMemorySpec.pre6 enc Try.prog Try.f4 Rows.tableMemoryRow.domain false) (Rows.tableMemorySpec.post enc Try.prog Try.f4 false true false false) := by
  refine returnsInHanded_of_change_sized (C := Try.checked) Try.own started (by kernel_rfl) Try.func4
    (ChangeSpec.witness6 (enc := enc) (C := Try.checked) false ⟨#[], #[.agg #[.slice none 0 0, .slice none 0 0, .slice none 0 0, .slice none 0 0, .slice none 0 0], .slice none 0 0, .slice none 0 0], []⟩ 8 (by kernel_rfl) (by kernel_rfl) (by kernel_rfl) (by kernel_rfl)) ?_
  intro W base args ds gs before hval0 hW hcnd hsz _
  have hval : ∀ (j : Nat) t v, Try.f4.params[j]? = some t → args[j]? = some v → Value.okWide Try.prog W .any base t v := hval0
  have hW' := hW
  obtain ⟨p, q, hA0, hV, rfl, hfz, hnd⟩ := hW
  have hA : DataW.TrodAll enc Try.prog W 0 (fun _ => true) true Try.f4.params.toList args.toList ds p := hA0
  rw [Try.params4] at hA hval hsz
  obtain ⟨v0, v1, v2, d0, d1, d2, p0, p1, p2, rfl, rfl, rfl, h0, h1, h2⟩ := trodAll_three hA
  obtain ⟨rfl, rfl⟩ := trodVars_none hV
  have hsz0 : (d0.weights Try.prog 25).all (· ≤ reachBytes) = true := by
    have e := hsz
    simp only [List.cons_append, List.nil_append, List.append_nil, DataW.weightsEach, List.all_append, Bool.and_eq_true] at e
    exact e.1
  obtain ⟨A, h, rfl, see, form⟩ := open_hier (hval 0 25 v0 rfl rfl) h0
  obtain ⟨ra, rc, rl, rfl, rs, rw⟩ := open_intlist Try.underlying40 Try.underlying3 (by kernel_rfl) (hval 1 40 v1 rfl rfl) h1
  obtain ⟨ca, cc, cl, rfl, cs, cw⟩ := open_intlist Try.underlying40 Try.underlying3 (by kernel_rfl) (hval 2 40 v2 rfl rfl) h2
  refine (tableMemory_any A h rl cl ra ca rc cc W see rs cs ⟨(fun x hx => (wf64 (rw x hx)).2), (fun x hx => (wf64 (cw x hx)).2)⟩ (hier_reach h0 hsz0)).mono fun e W' ⟨he, hg⟩ => ?_
  subst he
  exact ⟨_, rfl, law_post Try.laid (by rw [Try.params4]; intro t ht; simp at ht; rcases ht with rfl | rfl; exact readHier; exact readInts) hW' rfl (tb := 4) (by kernel_rfl) Try.underlying4 rfl hg⟩

/-- TableMemory. -/
theorem tableMemory_holds : Rows.TableMemorySaid :=
  OpenClaim.holds_of_wide 4 Try.f4 rfl rfl rfl rfl rfl rfl rfl ⟨rfl, rfl, rfl, rfl, rfl⟩ rfl rfl rfl rfl rfl (by kernel_rfl) Try.func4 (by kernel_rfl)
    (of_decide_eq_true (by kernel_rfl)) (by unfold Func.isWrapper; first | (rw [if_pos (by decide +kernel)]; kernel_rfl) | (rw [if_neg (by decide +kernel)]; exact ⟨rfl, rfl⟩))
    (fun os started H enc _ => tableMemory_lifted os started H enc)
#print axioms tableMemory_holds
end Go.Proofs.Ytjbphoophgbmiaa
