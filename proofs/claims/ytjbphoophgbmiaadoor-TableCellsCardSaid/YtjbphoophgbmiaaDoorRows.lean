/-
  NARROWER THAN 'FOR EVERY INPUT', by the rows' own cells (each row's printed sentence says how): SoundLacks: laid · SoundChecks: laid · SoundFixed: laid · SoundTurns: laid · QueryAsks: laid · QueryFixed: laid · QueryMemory: laid · TableCells: laid · TableFixed: laid.
  DERIVED. THE GIVEN ROWS OF THIS SEAT. 9 by the template 'for every input the law returns true; each argument reads behind the call as it read before'; 0 by the template 'total and deterministic' (their statements: YtjbphoophgbmiaaDoorTotals.lean).
  GIVEN WITH THE SEED: the statements are not yours to turn. If you find one false, say at which input.
  Laid BY PROGRAM, IN A SANDBOX (cutbox-rows.mjs): the forced cells as the released guide's own fill.sh prints them over the translation e253a4f6a77a85e9… (all of the seat's roots in one cut). By AI agents, Wed Nov 11 2026. No macro, syntax, notation, axiom, sorry.
-/
import Derived.Test.YtjbphoophgbmiaaDoorChecked
import GoSem.Claim
import GoSem.ClaimJoined
import GoSem.ClaimMapViews
import Derived.JoinedTies
import Derived.KernelRfl
namespace Go.Proofs.YtjbphoophgbmiaaDoor
/- THE CELL 'sum', in the pinned program and in every row, IS THE sha256 OF THE DUMP (.gsa) THAT YtjbphoophgbmiaaDoorProg.lean LOADS. Nothing in Lean hashes anything: it is a label: what it is worth is what the hold of that sum in a sandbox is worth. -/
noncomputable def Tryd.pinned : Pinned := { name := "ytjbphoophgbmiaadoor", sum := "e253a4f6a77a85e91cc7a4b1fc126ab7ba742ecd0721f9e2b1b8d6c501dfd2e4", checked := Tryd.checked }
namespace Rows
def none {H : Type} : Left H := { results := [], args := [] }

/- WHAT THE LISTED PACKAGE-LEVEL VARIABLES READ AS WHEN THE CALL BEGINS. Each datum BY PROGRAM (the guide's laid-datum.mjs) off the statement by which the dump's own 'gosem.cut.vars' lays the variable. In a bare row this is a premise. The card (YtjbphoophgbmiaaDoorCards.lean) ties it to the program's text. -/
def laid_errors_errorType {H : Type} : DataW H := .iface "internal/reflectlite.rtype" (.agg [.ptr (.lit (.string [101, 114, 114, 111, 114]))])

/-- 'viaductlaw16.SoundLacks': WHATEVER THE INPUT: true; the input reads as it did. -/
def soundLacksSpec : ChangeSpec := { name := "soundLacks", fn := fun _ => fun
  | [d] => { results := [.lit (.bool true)], args := [d] }
  | _ => none }
def soundLacksRow : OpenClaim := { program := "ytjbphoophgbmiaadoor", sum := "e253a4f6a77a85e91cc7a4b1fc126ab7ba742ecd0721f9e2b1b8d6c501dfd2e4", func := "viaduct/viaductlaw16.SoundLacks", spec := "soundLacks", inPlace := ["internal/reflectlite.ValueOf", "(internal/reflectlite.Value).Type", "(internal/reflectlite.Value).IsNil", "internal/reflectlite.TypeOf", "(internal/reflectlite.Value).Elem", "(internal/reflectlite.Value).Set"], unfollowed := true, recurses := true, named := ["errors.errorType"], apart := false, laid := [("errors.errorType", laid_errors_errorType)] }
def SoundLacksSaid : Prop := soundLacksRow.holds Tryd.pinned (OpenSpec.ofChange soundLacksSpec)

/-- ITS FALSE NEIGHBOUR: 'it returns false'. Refute it at one input. -/
def soundLacksWrong : ChangeSpec := { name := "soundLacks", fn := fun _ => fun
  | [d] => { results := [.lit (.bool false)], args := [d] }
  | _ => none }
def SoundLacksWrongFalsely : Prop := soundLacksRow.holds Tryd.pinned (OpenSpec.ofChange soundLacksWrong)

/-- 'viaductlaw16.SoundChecks': WHATEVER THE INPUT: true; the input reads as it did. -/
def soundChecksSpec : ChangeSpec := { name := "soundChecks", fn := fun _ => fun
  | [d1, d2, d3, d4] => { results := [.lit (.bool true)], args := [d1, d2, d3, d4] }
  | _ => none }
def soundChecksRow : OpenClaim := { program := "ytjbphoophgbmiaadoor", sum := "e253a4f6a77a85e91cc7a4b1fc126ab7ba742ecd0721f9e2b1b8d6c501dfd2e4", func := "viaduct/viaductlaw16.SoundChecks", spec := "soundChecks", inPlace := ["internal/reflectlite.ValueOf", "(internal/reflectlite.Value).Type", "(internal/reflectlite.Value).IsNil", "internal/reflectlite.TypeOf", "(internal/reflectlite.Value).Elem", "(internal/reflectlite.Value).Set"], unfollowed := true, recurses := true, named := ["errors.errorType"], apart := false, laid := [("errors.errorType", laid_errors_errorType)] }
def SoundChecksSaid : Prop := soundChecksRow.holds Tryd.pinned (OpenSpec.ofChange soundChecksSpec)

/-- ITS FALSE NEIGHBOUR: 'it returns false'. Refute it at one input. -/
def soundChecksWrong : ChangeSpec := { name := "soundChecks", fn := fun _ => fun
  | [d1, d2, d3, d4] => { results := [.lit (.bool false)], args := [d1, d2, d3, d4] }
  | _ => none }
def SoundChecksWrongFalsely : Prop := soundChecksRow.holds Tryd.pinned (OpenSpec.ofChange soundChecksWrong)

/-- 'viaductlaw16.SoundFixed': WHATEVER THE INPUT: true; the input reads as it did. -/
def soundFixedSpec : ChangeSpec := { name := "soundFixed", fn := fun _ => fun
  | [] => { results := [.lit (.bool true)], args := [] }
  | _ => none }
def soundFixedRow : OpenClaim := { program := "ytjbphoophgbmiaadoor", sum := "e253a4f6a77a85e91cc7a4b1fc126ab7ba742ecd0721f9e2b1b8d6c501dfd2e4", func := "viaduct/viaductlaw16.SoundFixed", spec := "soundFixed", inPlace := ["internal/reflectlite.ValueOf", "(internal/reflectlite.Value).Type", "(internal/reflectlite.Value).IsNil", "internal/reflectlite.TypeOf", "(internal/reflectlite.Value).Elem", "(internal/reflectlite.Value).Set"], unfollowed := true, recurses := true, named := ["errors.errorType"], apart := false, laid := [("errors.errorType", laid_errors_errorType)] }
def SoundFixedSaid : Prop := soundFixedRow.holds Tryd.pinned (OpenSpec.ofChange soundFixedSpec)

/-- ITS FALSE NEIGHBOUR: 'it returns false'. Refute it at one input. -/
def soundFixedWrong : ChangeSpec := { name := "soundFixed", fn := fun _ => fun
  | [] => { results := [.lit (.bool false)], args := [] }
  | _ => none }
def SoundFixedWrongFalsely : Prop := soundFixedRow.holds Tryd.pinned (OpenSpec.ofChange soundFixedWrong)

/-- 'viaductlaw16.SoundTurns': WHATEVER THE INPUT: true; the input reads as it did. -/
def soundTurnsSpec : ChangeSpec := { name := "soundTurns", fn := fun _ => fun
  | [d1, d2, d3, d4] => { results := [.lit (.bool true)], args := [d1, d2, d3, d4] }
  | _ => none }
def soundTurnsRow : OpenClaim := { program := "ytjbphoophgbmiaadoor", sum := "e253a4f6a77a85e91cc7a4b1fc126ab7ba742ecd0721f9e2b1b8d6c501dfd2e4", func := "viaduct/viaductlaw16.SoundTurns", spec := "soundTurns", inPlace := ["internal/reflectlite.ValueOf", "(internal/reflectlite.Value).Type", "(internal/reflectlite.Value).IsNil", "internal/reflectlite.TypeOf", "(internal/reflectlite.Value).Elem", "(internal/reflectlite.Value).Set"], unfollowed := true, recurses := true, named := ["errors.errorType"], apart := false, laid := [("errors.errorType", laid_errors_errorType)] }
def SoundTurnsSaid : Prop := soundTurnsRow.holds Tryd.pinned (OpenSpec.ofChange soundTurnsSpec)

/-- ITS FALSE NEIGHBOUR: 'it returns false'. Refute it at one input. -/
def soundTurnsWrong : ChangeSpec := { name := "soundTurns", fn := fun _ => fun
  | [d1, d2, d3, d4] => { results := [.lit (.bool false)], args := [d1, d2, d3, d4] }
  | _ => none }
def SoundTurnsWrongFalsely : Prop := soundTurnsRow.holds Tryd.pinned (OpenSpec.ofChange soundTurnsWrong)

/-- 'viaductlaw21.QueryAsks': WHATEVER THE INPUT: true; the input reads as it did. -/
def queryAsksSpec : ChangeSpec := { name := "queryAsks", fn := fun _ => fun
  | [d1, d2, d3] => { results := [.lit (.bool true)], args := [d1, d2, d3] }
  | _ => none }
def queryAsksRow : OpenClaim := { program := "ytjbphoophgbmiaadoor", sum := "e253a4f6a77a85e91cc7a4b1fc126ab7ba742ecd0721f9e2b1b8d6c501dfd2e4", func := "viaduct/viaductlaw21.QueryAsks", spec := "queryAsks", inPlace := ["internal/reflectlite.ValueOf", "(internal/reflectlite.Value).Type", "(internal/reflectlite.Value).IsNil", "internal/reflectlite.TypeOf", "(internal/reflectlite.Value).Elem", "(internal/reflectlite.Value).Set"], unfollowed := true, recurses := true, named := ["errors.errorType"], apart := false, laid := [("errors.errorType", laid_errors_errorType)] }
def QueryAsksSaid : Prop := queryAsksRow.holds Tryd.pinned (OpenSpec.ofChange queryAsksSpec)

/-- ITS FALSE NEIGHBOUR: 'it returns false'. Refute it at one input. -/
def queryAsksWrong : ChangeSpec := { name := "queryAsks", fn := fun _ => fun
  | [d1, d2, d3] => { results := [.lit (.bool false)], args := [d1, d2, d3] }
  | _ => none }
def QueryAsksWrongFalsely : Prop := queryAsksRow.holds Tryd.pinned (OpenSpec.ofChange queryAsksWrong)

/-- 'viaductlaw21.QueryFixed': WHATEVER THE INPUT: true; the input reads as it did. -/
def queryFixedSpec : ChangeSpec := { name := "queryFixed", fn := fun _ => fun
  | [] => { results := [.lit (.bool true)], args := [] }
  | _ => none }
def queryFixedRow : OpenClaim := { program := "ytjbphoophgbmiaadoor", sum := "e253a4f6a77a85e91cc7a4b1fc126ab7ba742ecd0721f9e2b1b8d6c501dfd2e4", func := "viaduct/viaductlaw21.QueryFixed", spec := "queryFixed", inPlace := ["internal/reflectlite.ValueOf", "(internal/reflectlite.Value).Type", "(internal/reflectlite.Value).IsNil", "internal/reflectlite.TypeOf", "(internal/reflectlite.Value).Elem", "(internal/reflectlite.Value).Set"], unfollowed := true, recurses := true, named := ["errors.errorType"], apart := false, laid := [("errors.errorType", laid_errors_errorType)] }
def QueryFixedSaid : Prop := queryFixedRow.holds Tryd.pinned (OpenSpec.ofChange queryFixedSpec)

/-- ITS FALSE NEIGHBOUR: 'it returns false'. Refute it at one input. -/
def queryFixedWrong : ChangeSpec := { name := "queryFixed", fn := fun _ => fun
  | [] => { results := [.lit (.bool false)], args := [] }
  | _ => none }
def QueryFixedWrongFalsely : Prop := queryFixedRow.holds Tryd.pinned (OpenSpec.ofChange queryFixedWrong)

/-- 'viaductlaw21.QueryMemory': WHATEVER THE INPUT: true; the input reads as it did. -/
def queryMemorySpec : ChangeSpec := { name := "queryMemory", fn := fun _ => fun
  | [d1, d2] => { results := [.lit (.bool true)], args := [d1, d2] }
  | _ => none }
def queryMemoryRow : OpenClaim := { program := "ytjbphoophgbmiaadoor", sum := "e253a4f6a77a85e91cc7a4b1fc126ab7ba742ecd0721f9e2b1b8d6c501dfd2e4", func := "viaduct/viaductlaw21.QueryMemory", spec := "queryMemory", inPlace := ["internal/reflectlite.ValueOf", "(internal/reflectlite.Value).Type", "(internal/reflectlite.Value).IsNil", "internal/reflectlite.TypeOf", "(internal/reflectlite.Value).Elem", "(internal/reflectlite.Value).Set"], unfollowed := true, recurses := true, named := ["errors.errorType"], apart := false, laid := [("errors.errorType", laid_errors_errorType)] }
def QueryMemorySaid : Prop := queryMemoryRow.holds Tryd.pinned (OpenSpec.ofChange queryMemorySpec)

/-- ITS FALSE NEIGHBOUR: 'it returns false'. Refute it at one input. -/
def queryMemoryWrong : ChangeSpec := { name := "queryMemory", fn := fun _ => fun
  | [d1, d2] => { results := [.lit (.bool false)], args := [d1, d2] }
  | _ => none }
def QueryMemoryWrongFalsely : Prop := queryMemoryRow.holds Tryd.pinned (OpenSpec.ofChange queryMemoryWrong)

/-- 'viaductlaw23.TableCells': WHATEVER THE INPUT: true; the input reads as it did. -/
def tableCellsSpec : ChangeSpec := { name := "tableCells", fn := fun _ => fun
  | [d1, d2, d3] => { results := [.lit (.bool true)], args := [d1, d2, d3] }
  | _ => none }
def tableCellsRow : OpenClaim := { program := "ytjbphoophgbmiaadoor", sum := "e253a4f6a77a85e91cc7a4b1fc126ab7ba742ecd0721f9e2b1b8d6c501dfd2e4", func := "viaduct/viaductlaw23.TableCells", spec := "tableCells", inPlace := ["internal/reflectlite.TypeOf", "internal/reflectlite.ValueOf", "(internal/reflectlite.Value).Type", "(internal/reflectlite.Value).IsNil", "(internal/reflectlite.Value).Elem", "(internal/reflectlite.Value).Set"], unfollowed := true, recurses := true, named := ["errors.errorType"], apart := false, laid := [("errors.errorType", laid_errors_errorType)] }
def TableCellsSaid : Prop := tableCellsRow.holds Tryd.pinned (OpenSpec.ofChange tableCellsSpec)

/-- ITS FALSE NEIGHBOUR: 'it returns false'. Refute it at one input. -/
def tableCellsWrong : ChangeSpec := { name := "tableCells", fn := fun _ => fun
  | [d1, d2, d3] => { results := [.lit (.bool false)], args := [d1, d2, d3] }
  | _ => none }
def TableCellsWrongFalsely : Prop := tableCellsRow.holds Tryd.pinned (OpenSpec.ofChange tableCellsWrong)

/-- 'viaductlaw23.TableFixed': WHATEVER THE INPUT: true; the input reads as it did. -/
def tableFixedSpec : ChangeSpec := { name := "tableFixed", fn := fun _ => fun
  | [] => { results := [.lit (.bool true)], args := [] }
  | _ => none }
def tableFixedRow : OpenClaim := { program := "ytjbphoophgbmiaadoor", sum := "e253a4f6a77a85e91cc7a4b1fc126ab7ba742ecd0721f9e2b1b8d6c501dfd2e4", func := "viaduct/viaductlaw23.TableFixed", spec := "tableFixed", inPlace := ["internal/reflectlite.TypeOf", "internal/reflectlite.ValueOf", "(internal/reflectlite.Value).Type", "(internal/reflectlite.Value).IsNil", "(internal/reflectlite.Value).Elem", "(internal/reflectlite.Value).Set"], unfollowed := true, recurses := true, named := ["errors.errorType"], apart := false, laid := [("errors.errorType", laid_errors_errorType)] }
def TableFixedSaid : Prop := tableFixedRow.holds Tryd.pinned (OpenSpec.ofChange tableFixedSpec)

/-- ITS FALSE NEIGHBOUR: 'it returns false'. Refute it at one input. -/
def tableFixedWrong : ChangeSpec := { name := "tableFixed", fn := fun _ => fun
  | [] => { results := [.lit (.bool false)], args := [] }
  | _ => none }
def TableFixedWrongFalsely : Prop := tableFixedRow.holds Tryd.pinned (OpenSpec.ofChange tableFixedWrong)

/- THE SECOND FORM. 'bulk': how many values and letters a reading holds, each counted each time it is reached (what is shared counts as often as it is met; a slice's spare places count too). A statement '..UptoSaid' is the law's where the arguments, and the package variables that the reading takes, are together of bulk at most 1048576: NARROWER than '..Said'. Prove '..Said' where nothing that the law and all that it calls make is longer than what came in: it says more and counts as full. Else prove '..UptoSaid'. A law counts once. -/
mutual
def uptoBulk {H : Type} : DataW H → Nat
  | .lit (.string bytes) => bytes.length + 1
  | .lit _ => 1
  | .nil => 1
  | .ptr d => uptoBulk d + 1
  | .slice elems spare => uptoBulkAll elems + uptoBulkAll spare + 1
  | .agg parts => uptoBulkAll parts + 1
  | .iface _ d => uptoBulk d + 1
  | .map entries => uptoBulkEntries entries + 1
  | .held _ => 1
def uptoBulkAll {H : Type} : List (DataW H) → Nat
  | [] => 0
  | d :: r => uptoBulk d + uptoBulkAll r
def uptoBulkEntries {H : Type} : List (Lit × DataW H) → Nat
  | [] => 0
  | x :: r => uptoBulkEntry x + uptoBulkEntries r
def uptoBulkEntry {H : Type} : Lit × DataW H → Nat
  | (.string bytes, d) => bytes.length + uptoBulk d + 1
  | (_, d) => uptoBulk d + 1
 end
def uptoSmall : (H : Type) → List (DataW H) → Bool := fun _ ds => decide (uptoBulkAll ds ≤ 1048576)
def OpenSpec.upto (s : _root_.Go.ChangeSpec) : _root_.Go.OpenSpec := { _root_.Go.OpenSpec.ofChange s with cond := some uptoSmall }

/-- 'viaductlaw16.SoundLacks', WHERE WHAT IT READS IS OF BULK AT MOST 1048576: true; the input reads as it did. -/
def soundLacksUptoRow : OpenClaim := { program := "ytjbphoophgbmiaadoor", sum := "e253a4f6a77a85e91cc7a4b1fc126ab7ba742ecd0721f9e2b1b8d6c501dfd2e4", func := "viaduct/viaductlaw16.SoundLacks", spec := "soundLacks", inPlace := ["internal/reflectlite.ValueOf", "(internal/reflectlite.Value).Type", "(internal/reflectlite.Value).IsNil", "internal/reflectlite.TypeOf", "(internal/reflectlite.Value).Elem", "(internal/reflectlite.Value).Set"], unfollowed := true, recurses := true, named := ["errors.errorType"], apart := false, laid := [("errors.errorType", laid_errors_errorType)], narrowed := true }
def SoundLacksUptoSaid : Prop := soundLacksUptoRow.holds Tryd.pinned (OpenSpec.upto soundLacksSpec)

/-- 'viaductlaw16.SoundChecks', WHERE WHAT IT READS IS OF BULK AT MOST 1048576: true; the input reads as it did. -/
def soundChecksUptoRow : OpenClaim := { program := "ytjbphoophgbmiaadoor", sum := "e253a4f6a77a85e91cc7a4b1fc126ab7ba742ecd0721f9e2b1b8d6c501dfd2e4", func := "viaduct/viaductlaw16.SoundChecks", spec := "soundChecks", inPlace := ["internal/reflectlite.ValueOf", "(internal/reflectlite.Value).Type", "(internal/reflectlite.Value).IsNil", "internal/reflectlite.TypeOf", "(internal/reflectlite.Value).Elem", "(internal/reflectlite.Value).Set"], unfollowed := true, recurses := true, named := ["errors.errorType"], apart := false, laid := [("errors.errorType", laid_errors_errorType)], narrowed := true }
def SoundChecksUptoSaid : Prop := soundChecksUptoRow.holds Tryd.pinned (OpenSpec.upto soundChecksSpec)

/-- 'viaductlaw16.SoundFixed', WHERE WHAT IT READS IS OF BULK AT MOST 1048576: true; the input reads as it did. -/
def soundFixedUptoRow : OpenClaim := { program := "ytjbphoophgbmiaadoor", sum := "e253a4f6a77a85e91cc7a4b1fc126ab7ba742ecd0721f9e2b1b8d6c501dfd2e4", func := "viaduct/viaductlaw16.SoundFixed", spec := "soundFixed", inPlace := ["internal/reflectlite.ValueOf", "(internal/reflectlite.Value).Type", "(internal/reflectlite.Value).IsNil", "internal/reflectlite.TypeOf", "(internal/reflectlite.Value).Elem", "(internal/reflectlite.Value).Set"], unfollowed := true, recurses := true, named := ["errors.errorType"], apart := false, laid := [("errors.errorType", laid_errors_errorType)], narrowed := true }
def SoundFixedUptoSaid : Prop := soundFixedUptoRow.holds Tryd.pinned (OpenSpec.upto soundFixedSpec)

/-- 'viaductlaw16.SoundTurns', WHERE WHAT IT READS IS OF BULK AT MOST 1048576: true; the input reads as it did. -/
def soundTurnsUptoRow : OpenClaim := { program := "ytjbphoophgbmiaadoor", sum := "e253a4f6a77a85e91cc7a4b1fc126ab7ba742ecd0721f9e2b1b8d6c501dfd2e4", func := "viaduct/viaductlaw16.SoundTurns", spec := "soundTurns", inPlace := ["internal/reflectlite.ValueOf", "(internal/reflectlite.Value).Type", "(internal/reflectlite.Value).IsNil", "internal/reflectlite.TypeOf", "(internal/reflectlite.Value).Elem", "(internal/reflectlite.Value).Set"], unfollowed := true, recurses := true, named := ["errors.errorType"], apart := false, laid := [("errors.errorType", laid_errors_errorType)], narrowed := true }
def SoundTurnsUptoSaid : Prop := soundTurnsUptoRow.holds Tryd.pinned (OpenSpec.upto soundTurnsSpec)

/-- 'viaductlaw21.QueryAsks', WHERE WHAT IT READS IS OF BULK AT MOST 1048576: true; the input reads as it did. -/
def queryAsksUptoRow : OpenClaim := { program := "ytjbphoophgbmiaadoor", sum := "e253a4f6a77a85e91cc7a4b1fc126ab7ba742ecd0721f9e2b1b8d6c501dfd2e4", func := "viaduct/viaductlaw21.QueryAsks", spec := "queryAsks", inPlace := ["internal/reflectlite.ValueOf", "(internal/reflectlite.Value).Type", "(internal/reflectlite.Value).IsNil", "internal/reflectlite.TypeOf", "(internal/reflectlite.Value).Elem", "(internal/reflectlite.Value).Set"], unfollowed := true, recurses := true, named := ["errors.errorType"], apart := false, laid := [("errors.errorType", laid_errors_errorType)], narrowed := true }
def QueryAsksUptoSaid : Prop := queryAsksUptoRow.holds Tryd.pinned (OpenSpec.upto queryAsksSpec)

/-- 'viaductlaw21.QueryFixed', WHERE WHAT IT READS IS OF BULK AT MOST 1048576: true; the input reads as it did. -/
def queryFixedUptoRow : OpenClaim := { program := "ytjbphoophgbmiaadoor", sum := "e253a4f6a77a85e91cc7a4b1fc126ab7ba742ecd0721f9e2b1b8d6c501dfd2e4", func := "viaduct/viaductlaw21.QueryFixed", spec := "queryFixed", inPlace := ["internal/reflectlite.ValueOf", "(internal/reflectlite.Value).Type", "(internal/reflectlite.Value).IsNil", "internal/reflectlite.TypeOf", "(internal/reflectlite.Value).Elem", "(internal/reflectlite.Value).Set"], unfollowed := true, recurses := true, named := ["errors.errorType"], apart := false, laid := [("errors.errorType", laid_errors_errorType)], narrowed := true }
def QueryFixedUptoSaid : Prop := queryFixedUptoRow.holds Tryd.pinned (OpenSpec.upto queryFixedSpec)

/-- 'viaductlaw21.QueryMemory', WHERE WHAT IT READS IS OF BULK AT MOST 1048576: true; the input reads as it did. -/
def queryMemoryUptoRow : OpenClaim := { program := "ytjbphoophgbmiaadoor", sum := "e253a4f6a77a85e91cc7a4b1fc126ab7ba742ecd0721f9e2b1b8d6c501dfd2e4", func := "viaduct/viaductlaw21.QueryMemory", spec := "queryMemory", inPlace := ["internal/reflectlite.ValueOf", "(internal/reflectlite.Value).Type", "(internal/reflectlite.Value).IsNil", "internal/reflectlite.TypeOf", "(internal/reflectlite.Value).Elem", "(internal/reflectlite.Value).Set"], unfollowed := true, recurses := true, named := ["errors.errorType"], apart := false, laid := [("errors.errorType", laid_errors_errorType)], narrowed := true }
def QueryMemoryUptoSaid : Prop := queryMemoryUptoRow.holds Tryd.pinned (OpenSpec.upto queryMemorySpec)

/-- 'viaductlaw23.TableCells', WHERE WHAT IT READS IS OF BULK AT MOST 1048576: true; the input reads as it did. -/
def tableCellsUptoRow : OpenClaim := { program := "ytjbphoophgbmiaadoor", sum := "e253a4f6a77a85e91cc7a4b1fc126ab7ba742ecd0721f9e2b1b8d6c501dfd2e4", func := "viaduct/viaductlaw23.TableCells", spec := "tableCells", inPlace := ["internal/reflectlite.TypeOf", "internal/reflectlite.ValueOf", "(internal/reflectlite.Value).Type", "(internal/reflectlite.Value).IsNil", "(internal/reflectlite.Value).Elem", "(internal/reflectlite.Value).Set"], unfollowed := true, recurses := true, named := ["errors.errorType"], apart := false, laid := [("errors.errorType", laid_errors_errorType)], narrowed := true }
def TableCellsUptoSaid : Prop := tableCellsUptoRow.holds Tryd.pinned (OpenSpec.upto tableCellsSpec)

/-- 'viaductlaw23.TableFixed', WHERE WHAT IT READS IS OF BULK AT MOST 1048576: true; the input reads as it did. -/
def tableFixedUptoRow : OpenClaim := { program := "ytjbphoophgbmiaadoor", sum := "e253a4f6a77a85e91cc7a4b1fc126ab7ba742ecd0721f9e2b1b8d6c501dfd2e4", func := "viaduct/viaductlaw23.TableFixed", spec := "tableFixed", inPlace := ["internal/reflectlite.TypeOf", "internal/reflectlite.ValueOf", "(internal/reflectlite.Value).Type", "(internal/reflectlite.Value).IsNil", "(internal/reflectlite.Value).Elem", "(internal/reflectlite.Value).Set"], unfollowed := true, recurses := true, named := ["errors.errorType"], apart := false, laid := [("errors.errorType", laid_errors_errorType)], narrowed := true }
def TableFixedUptoSaid : Prop := tableFixedUptoRow.holds Tryd.pinned (OpenSpec.upto tableFixedSpec)

end Rows
end Go.Proofs.YtjbphoophgbmiaaDoor
