/-
  NARROWER THAN 'FOR EVERY INPUT', by the rows' own cells (each row's printed sentence says how): UnpackLinks: laid · UnpackPaths: laid · UnpackSums: laid · UnpackMemory: laid · UnpackDoubled: laid · UnpackFixed: laid.
  DERIVED. THE GIVEN ROWS OF THIS SEAT. 6 by the template 'for every input the law returns true; each argument reads behind the call as it read before'; 0 by the template 'total and deterministic' (their statements: YtchhbgckonpedaaGreatDoorTotals.lean).
  GIVEN WITH THE SEED: the statements are not yours to turn. If you find one false, say at which input.
  Laid BY PROGRAM, IN A SANDBOX (cutbox-rows.mjs): the forced cells as the released guide's own fill.sh prints them over the translation 7fcc0742a0423928… (all of the seat's roots in one cut). By AI agents, Wed Nov 11 2026. No macro, syntax, notation, axiom, sorry.
-/
import Derived.Test.YtchhbgckonpedaaGreatDoorChecked
import GoSem.Claim
import GoSem.ClaimJoined
import GoSem.ClaimMapViews
import Derived.JoinedTies
import Derived.KernelRfl
namespace Go.Proofs.YtchhbgckonpedaaGreatDoor
/- THE CELL 'sum', in the pinned program and in every row, IS THE sha256 OF THE DUMP (.gsa) THAT YtchhbgckonpedaaGreatDoorProg.lean LOADS. Nothing in Lean hashes anything: it is a label: what it is worth is what the hold of that sum in a sandbox is worth. -/
noncomputable def Tryz.pinned : Pinned := { name := "ytchhbgckonpedaagreatdoor", sum := "7fcc0742a0423928525108c85ada5832326eeeb420b8bbd44e957ab4bad7c356", checked := Tryz.checked }
namespace Rows
def none {H : Type} : Left H := { results := [], args := [] }

/- WHAT THE LISTED PACKAGE-LEVEL VARIABLES READ AS WHEN THE CALL BEGINS. Each datum BY PROGRAM (the guide's laid-datum.mjs) off the statement by which the dump's own 'gosem.cut.vars' lays the variable. In a bare row this is a premise. The card (YtchhbgckonpedaaGreatDoorCards.lean) ties it to the program's text. -/
def laid_errors_errorType {H : Type} : DataW H := .iface "internal/reflectlite.rtype" (.agg [.ptr (.lit (.string [101, 114, 114, 111, 114]))])

/-- 'viaductlaw22.UnpackLinks': WHATEVER THE INPUT: true; the input reads as it did. -/
def unpackLinksSpec : ChangeSpec := { name := "unpackLinks", fn := fun _ => fun
  | [d1, d2] => { results := [.lit (.bool true)], args := [d1, d2] }
  | _ => none }
def unpackLinksRow : OpenClaim := { program := "ytchhbgckonpedaagreatdoor", sum := "7fcc0742a0423928525108c85ada5832326eeeb420b8bbd44e957ab4bad7c356", func := "viaduct/viaductlaw22.UnpackLinks", spec := "unpackLinks", inPlace := ["internal/reflectlite.TypeOf", "internal/reflectlite.ValueOf", "(internal/reflectlite.Value).Type", "(internal/reflectlite.Value).IsNil", "(internal/reflectlite.Value).Elem", "(internal/reflectlite.Value).Set"], unfollowed := true, recurses := true, named := ["errors.errorType"], apart := false, laid := [("errors.errorType", laid_errors_errorType)] }
def UnpackLinksSaid : Prop := unpackLinksRow.holds Tryz.pinned (OpenSpec.ofChange unpackLinksSpec)

/-- ITS FALSE NEIGHBOUR: 'it returns false'. Refute it at one input. -/
def unpackLinksWrong : ChangeSpec := { name := "unpackLinks", fn := fun _ => fun
  | [d1, d2] => { results := [.lit (.bool false)], args := [d1, d2] }
  | _ => none }
def UnpackLinksWrongFalsely : Prop := unpackLinksRow.holds Tryz.pinned (OpenSpec.ofChange unpackLinksWrong)

/-- 'viaductlaw22.UnpackPaths': WHATEVER THE INPUT: true; the input reads as it did. -/
def unpackPathsSpec : ChangeSpec := { name := "unpackPaths", fn := fun _ => fun
  | [d1, d2, d3] => { results := [.lit (.bool true)], args := [d1, d2, d3] }
  | _ => none }
def unpackPathsRow : OpenClaim := { program := "ytchhbgckonpedaagreatdoor", sum := "7fcc0742a0423928525108c85ada5832326eeeb420b8bbd44e957ab4bad7c356", func := "viaduct/viaductlaw22.UnpackPaths", spec := "unpackPaths", inPlace := ["internal/reflectlite.TypeOf", "internal/reflectlite.ValueOf", "(internal/reflectlite.Value).Type", "(internal/reflectlite.Value).IsNil", "(internal/reflectlite.Value).Elem", "(internal/reflectlite.Value).Set"], unfollowed := true, recurses := true, named := ["errors.errorType"], apart := false, laid := [("errors.errorType", laid_errors_errorType)] }
def UnpackPathsSaid : Prop := unpackPathsRow.holds Tryz.pinned (OpenSpec.ofChange unpackPathsSpec)

/-- ITS FALSE NEIGHBOUR: 'it returns false'. Refute it at one input. -/
def unpackPathsWrong : ChangeSpec := { name := "unpackPaths", fn := fun _ => fun
  | [d1, d2, d3] => { results := [.lit (.bool false)], args := [d1, d2, d3] }
  | _ => none }
def UnpackPathsWrongFalsely : Prop := unpackPathsRow.holds Tryz.pinned (OpenSpec.ofChange unpackPathsWrong)

/-- 'viaductlaw22.UnpackSums': WHATEVER THE INPUT: true; the input reads as it did. -/
def unpackSumsSpec : ChangeSpec := { name := "unpackSums", fn := fun _ => fun
  | [d] => { results := [.lit (.bool true)], args := [d] }
  | _ => none }
def unpackSumsRow : OpenClaim := { program := "ytchhbgckonpedaagreatdoor", sum := "7fcc0742a0423928525108c85ada5832326eeeb420b8bbd44e957ab4bad7c356", func := "viaduct/viaductlaw22.UnpackSums", spec := "unpackSums", inPlace := ["internal/reflectlite.TypeOf", "internal/reflectlite.ValueOf", "(internal/reflectlite.Value).Type", "(internal/reflectlite.Value).IsNil", "(internal/reflectlite.Value).Elem", "(internal/reflectlite.Value).Set"], unfollowed := true, recurses := true, named := ["errors.errorType"], apart := false, laid := [("errors.errorType", laid_errors_errorType)] }
def UnpackSumsSaid : Prop := unpackSumsRow.holds Tryz.pinned (OpenSpec.ofChange unpackSumsSpec)

/-- ITS FALSE NEIGHBOUR: 'it returns false'. Refute it at one input. -/
def unpackSumsWrong : ChangeSpec := { name := "unpackSums", fn := fun _ => fun
  | [d] => { results := [.lit (.bool false)], args := [d] }
  | _ => none }
def UnpackSumsWrongFalsely : Prop := unpackSumsRow.holds Tryz.pinned (OpenSpec.ofChange unpackSumsWrong)

/-- 'viaductlaw22.UnpackMemory': WHATEVER THE INPUT: true; the input reads as it did. -/
def unpackMemorySpec : ChangeSpec := { name := "unpackMemory", fn := fun _ => fun
  | [d1, d2, d3, d4] => { results := [.lit (.bool true)], args := [d1, d2, d3, d4] }
  | _ => none }
def unpackMemoryRow : OpenClaim := { program := "ytchhbgckonpedaagreatdoor", sum := "7fcc0742a0423928525108c85ada5832326eeeb420b8bbd44e957ab4bad7c356", func := "viaduct/viaductlaw22.UnpackMemory", spec := "unpackMemory", inPlace := ["internal/reflectlite.TypeOf", "internal/reflectlite.ValueOf", "(internal/reflectlite.Value).Type", "(internal/reflectlite.Value).IsNil", "(internal/reflectlite.Value).Elem", "(internal/reflectlite.Value).Set"], unfollowed := true, recurses := true, named := ["errors.errorType"], apart := false, laid := [("errors.errorType", laid_errors_errorType)] }
def UnpackMemorySaid : Prop := unpackMemoryRow.holds Tryz.pinned (OpenSpec.ofChange unpackMemorySpec)

/-- ITS FALSE NEIGHBOUR: 'it returns false'. Refute it at one input. -/
def unpackMemoryWrong : ChangeSpec := { name := "unpackMemory", fn := fun _ => fun
  | [d1, d2, d3, d4] => { results := [.lit (.bool false)], args := [d1, d2, d3, d4] }
  | _ => none }
def UnpackMemoryWrongFalsely : Prop := unpackMemoryRow.holds Tryz.pinned (OpenSpec.ofChange unpackMemoryWrong)

/-- 'viaductlaw22.UnpackDoubled': WHATEVER THE INPUT: true; the input reads as it did. -/
def unpackDoubledSpec : ChangeSpec := { name := "unpackDoubled", fn := fun _ => fun
  | [d1, d2, d3] => { results := [.lit (.bool true)], args := [d1, d2, d3] }
  | _ => none }
def unpackDoubledRow : OpenClaim := { program := "ytchhbgckonpedaagreatdoor", sum := "7fcc0742a0423928525108c85ada5832326eeeb420b8bbd44e957ab4bad7c356", func := "viaduct/viaductlaw22.UnpackDoubled", spec := "unpackDoubled", inPlace := ["internal/reflectlite.TypeOf", "internal/reflectlite.ValueOf", "(internal/reflectlite.Value).Type", "(internal/reflectlite.Value).IsNil", "(internal/reflectlite.Value).Elem", "(internal/reflectlite.Value).Set"], unfollowed := true, recurses := true, named := ["errors.errorType"], apart := false, laid := [("errors.errorType", laid_errors_errorType)] }
def UnpackDoubledSaid : Prop := unpackDoubledRow.holds Tryz.pinned (OpenSpec.ofChange unpackDoubledSpec)

/-- ITS FALSE NEIGHBOUR: 'it returns false'. Refute it at one input. -/
def unpackDoubledWrong : ChangeSpec := { name := "unpackDoubled", fn := fun _ => fun
  | [d1, d2, d3] => { results := [.lit (.bool false)], args := [d1, d2, d3] }
  | _ => none }
def UnpackDoubledWrongFalsely : Prop := unpackDoubledRow.holds Tryz.pinned (OpenSpec.ofChange unpackDoubledWrong)

/-- 'viaductlaw22.UnpackFixed': WHATEVER THE INPUT: true; the input reads as it did. -/
def unpackFixedSpec : ChangeSpec := { name := "unpackFixed", fn := fun _ => fun
  | [] => { results := [.lit (.bool true)], args := [] }
  | _ => none }
def unpackFixedRow : OpenClaim := { program := "ytchhbgckonpedaagreatdoor", sum := "7fcc0742a0423928525108c85ada5832326eeeb420b8bbd44e957ab4bad7c356", func := "viaduct/viaductlaw22.UnpackFixed", spec := "unpackFixed", inPlace := ["internal/reflectlite.TypeOf", "internal/reflectlite.ValueOf", "(internal/reflectlite.Value).Type", "(internal/reflectlite.Value).IsNil", "(internal/reflectlite.Value).Elem", "(internal/reflectlite.Value).Set"], unfollowed := true, recurses := true, named := ["errors.errorType"], apart := false, laid := [("errors.errorType", laid_errors_errorType)] }
def UnpackFixedSaid : Prop := unpackFixedRow.holds Tryz.pinned (OpenSpec.ofChange unpackFixedSpec)

/-- ITS FALSE NEIGHBOUR: 'it returns false'. Refute it at one input. -/
def unpackFixedWrong : ChangeSpec := { name := "unpackFixed", fn := fun _ => fun
  | [] => { results := [.lit (.bool false)], args := [] }
  | _ => none }
def UnpackFixedWrongFalsely : Prop := unpackFixedRow.holds Tryz.pinned (OpenSpec.ofChange unpackFixedWrong)

/- THE SECOND FORM. 'bulk': how many values and letters a reading holds, each counted each time it is reached (what is shared counts as often as it is met; a slice's spare places count too). A statement '..UptoSaid' is the law's where the arguments, and the package variables that the reading takes, are together of bulk at most 1048576: NARROWER than '..Said'. Prove '..Said' where nothing that the law and all that it calls make is longer than what came in: it says more and counts as full. Else prove '..UptoSaid'. A law counts once. -/
mutual
def uptoBulk {H : Type} : DataW H → Nat
  | .lit (.string bytes) => bytes.length + 1
  | .lit _ => 1
  | .nil => 1
  | .ptr d => uptoBulk d + 1
  | .slice elems spare => uptoBulkAll elems + uptoBulkAll spare + 1
  | .agg parts => uptoBulkAll parts + 1
  | .iface _ d => uptoBulk d + 1
  | .map entries => uptoBulkEntries entries + 1
  | .held _ => 1
def uptoBulkAll {H : Type} : List (DataW H) → Nat
  | [] => 0
  | d :: r => uptoBulk d + uptoBulkAll r
def uptoBulkEntries {H : Type} : List (Lit × DataW H) → Nat
  | [] => 0
  | x :: r => uptoBulkEntry x + uptoBulkEntries r
def uptoBulkEntry {H : Type} : Lit × DataW H → Nat
  | (.string bytes, d) => bytes.length + uptoBulk d + 1
  | (_, d) => uptoBulk d + 1
 end
def uptoSmall : (H : Type) → List (DataW H) → Bool := fun _ ds => decide (uptoBulkAll ds ≤ 1048576)
def OpenSpec.upto (s : _root_.Go.ChangeSpec) : _root_.Go.OpenSpec := { _root_.Go.OpenSpec.ofChange s with cond := some uptoSmall }

/-- 'viaductlaw22.UnpackLinks', WHERE WHAT IT READS IS OF BULK AT MOST 1048576: true; the input reads as it did. -/
def unpackLinksUptoRow : OpenClaim := { program := "ytchhbgckonpedaagreatdoor", sum := "7fcc0742a0423928525108c85ada5832326eeeb420b8bbd44e957ab4bad7c356", func := "viaduct/viaductlaw22.UnpackLinks", spec := "unpackLinks", inPlace := ["internal/reflectlite.TypeOf", "internal/reflectlite.ValueOf", "(internal/reflectlite.Value).Type", "(internal/reflectlite.Value).IsNil", "(internal/reflectlite.Value).Elem", "(internal/reflectlite.Value).Set"], unfollowed := true, recurses := true, named := ["errors.errorType"], apart := false, laid := [("errors.errorType", laid_errors_errorType)], narrowed := true }
def UnpackLinksUptoSaid : Prop := unpackLinksUptoRow.holds Tryz.pinned (OpenSpec.upto unpackLinksSpec)

/-- 'viaductlaw22.UnpackPaths', WHERE WHAT IT READS IS OF BULK AT MOST 1048576: true; the input reads as it did. -/
def unpackPathsUptoRow : OpenClaim := { program := "ytchhbgckonpedaagreatdoor", sum := "7fcc0742a0423928525108c85ada5832326eeeb420b8bbd44e957ab4bad7c356", func := "viaduct/viaductlaw22.UnpackPaths", spec := "unpackPaths", inPlace := ["internal/reflectlite.TypeOf", "internal/reflectlite.ValueOf", "(internal/reflectlite.Value).Type", "(internal/reflectlite.Value).IsNil", "(internal/reflectlite.Value).Elem", "(internal/reflectlite.Value).Set"], unfollowed := true, recurses := true, named := ["errors.errorType"], apart := false, laid := [("errors.errorType", laid_errors_errorType)], narrowed := true }
def UnpackPathsUptoSaid : Prop := unpackPathsUptoRow.holds Tryz.pinned (OpenSpec.upto unpackPathsSpec)

/-- 'viaductlaw22.UnpackSums', WHERE WHAT IT READS IS OF BULK AT MOST 1048576: true; the input reads as it did. -/
def unpackSumsUptoRow : OpenClaim := { program := "ytchhbgckonpedaagreatdoor", sum := "7fcc0742a0423928525108c85ada5832326eeeb420b8bbd44e957ab4bad7c356", func := "viaduct/viaductlaw22.UnpackSums", spec := "unpackSums", inPlace := ["internal/reflectlite.TypeOf", "internal/reflectlite.ValueOf", "(internal/reflectlite.Value).Type", "(internal/reflectlite.Value).IsNil", "(internal/reflectlite.Value).Elem", "(internal/reflectlite.Value).Set"], unfollowed := true, recurses := true, named := ["errors.errorType"], apart := false, laid := [("errors.errorType", laid_errors_errorType)], narrowed := true }
def UnpackSumsUptoSaid : Prop := unpackSumsUptoRow.holds Tryz.pinned (OpenSpec.upto unpackSumsSpec)

/-- 'viaductlaw22.UnpackMemory', WHERE WHAT IT READS IS OF BULK AT MOST 1048576: true; the input reads as it did. -/
def unpackMemoryUptoRow : OpenClaim := { program := "ytchhbgckonpedaagreatdoor", sum := "7fcc0742a0423928525108c85ada5832326eeeb420b8bbd44e957ab4bad7c356", func := "viaduct/viaductlaw22.UnpackMemory", spec := "unpackMemory", inPlace := ["internal/reflectlite.TypeOf", "internal/reflectlite.ValueOf", "(internal/reflectlite.Value).Type", "(internal/reflectlite.Value).IsNil", "(internal/reflectlite.Value).Elem", "(internal/reflectlite.Value).Set"], unfollowed := true, recurses := true, named := ["errors.errorType"], apart := false, laid := [("errors.errorType", laid_errors_errorType)], narrowed := true }
def UnpackMemoryUptoSaid : Prop := unpackMemoryUptoRow.holds Tryz.pinned (OpenSpec.upto unpackMemorySpec)

/-- 'viaductlaw22.UnpackDoubled', WHERE WHAT IT READS IS OF BULK AT MOST 1048576: true; the input reads as it did. -/
def unpackDoubledUptoRow : OpenClaim := { program := "ytchhbgckonpedaagreatdoor", sum := "7fcc0742a0423928525108c85ada5832326eeeb420b8bbd44e957ab4bad7c356", func := "viaduct/viaductlaw22.UnpackDoubled", spec := "unpackDoubled", inPlace := ["internal/reflectlite.TypeOf", "internal/reflectlite.ValueOf", "(internal/reflectlite.Value).Type", "(internal/reflectlite.Value).IsNil", "(internal/reflectlite.Value).Elem", "(internal/reflectlite.Value).Set"], unfollowed := true, recurses := true, named := ["errors.errorType"], apart := false, laid := [("errors.errorType", laid_errors_errorType)], narrowed := true }
def UnpackDoubledUptoSaid : Prop := unpackDoubledUptoRow.holds Tryz.pinned (OpenSpec.upto unpackDoubledSpec)

/-- 'viaductlaw22.UnpackFixed', WHERE WHAT IT READS IS OF BULK AT MOST 1048576: true; the input reads as it did. -/
def unpackFixedUptoRow : OpenClaim := { program := "ytchhbgckonpedaagreatdoor", sum := "7fcc0742a0423928525108c85ada5832326eeeb420b8bbd44e957ab4bad7c356", func := "viaduct/viaductlaw22.UnpackFixed", spec := "unpackFixed", inPlace := ["internal/reflectlite.TypeOf", "internal/reflectlite.ValueOf", "(internal/reflectlite.Value).Type", "(internal/reflectlite.Value).IsNil", "(internal/reflectlite.Value).Elem", "(internal/reflectlite.Value).Set"], unfollowed := true, recurses := true, named := ["errors.errorType"], apart := false, laid := [("errors.errorType", laid_errors_errorType)], narrowed := true }
def UnpackFixedUptoSaid : Prop := unpackFixedUptoRow.holds Tryz.pinned (OpenSpec.upto unpackFixedSpec)

end Rows
end Go.Proofs.YtchhbgckonpedaaGreatDoor
