/-
  No cell of these rows narrows 'for every input' (looked for: loops, veiled, ifaces, maps, wideKeys, modest, calm, conditions, laid).
  DERIVED. THE GIVEN ROWS OF THIS SEAT. 3 by the template 'for every input the law returns true; each argument reads behind the call as it read before'; 0 by the template 'total and deterministic' (their statements: YtjbphoophgbmiaaTotals.lean).
  GIVEN WITH THE SEED: the statements are not yours to turn. If you find one false, say at which input.
  Laid BY PROGRAM, IN A SANDBOX (cutbox-rows.mjs): the forced cells as the released guide's own fill.sh prints them over the translation c1b294d2af501209… (all of the seat's roots in one cut). By AI agents, Wed Nov 11 2026. No macro, syntax, notation, axiom, sorry.
-/
import Derived.Test.YtjbphoophgbmiaaChecked
import GoSem.Claim
import GoSem.ClaimJoined
import GoSem.ClaimMapViews
import Derived.JoinedTies
import Derived.KernelRfl
namespace Go.Proofs.Ytjbphoophgbmiaa
/- THE CELL 'sum', in the pinned program and in every row, IS THE sha256 OF THE DUMP (.gsa) THAT YtjbphoophgbmiaaProg.lean LOADS. Nothing in Lean hashes anything: it is a label: what it is worth is what the hold of that sum in a sandbox is worth. -/
noncomputable def Try.pinned : Pinned := { name := "ytjbphoophgbmiaa", sum := "c1b294d2af5012090c3708df6e48e6edeaec480d3faecb53446eff9d64428a9f", checked := Try.checked }
namespace Rows
def none {H : Type} : Left H := { results := [], args := [] }

/-- 'viaductlaw21.QueryTurns': WHATEVER THE INPUT: true; the input reads as it did. -/
def queryTurnsSpec : ChangeSpec := { name := "queryTurns", fn := fun _ => fun
  | [d1, d2, d3] => { results := [.lit (.bool true)], args := [d1, d2, d3] }
  | _ => none }
def queryTurnsRow : OpenClaim := { program := "ytjbphoophgbmiaa", sum := "c1b294d2af5012090c3708df6e48e6edeaec480d3faecb53446eff9d64428a9f", func := "viaduct/viaductlaw21.QueryTurns", spec := "queryTurns", unfollowed := true, recurses := true, apart := false }
def QueryTurnsSaid : Prop := queryTurnsRow.holds Try.pinned (OpenSpec.ofChange queryTurnsSpec)

/-- ITS FALSE NEIGHBOUR: 'it returns false'. Refute it at one input. -/
def queryTurnsWrong : ChangeSpec := { name := "queryTurns", fn := fun _ => fun
  | [d1, d2, d3] => { results := [.lit (.bool false)], args := [d1, d2, d3] }
  | _ => none }
def QueryTurnsWrongFalsely : Prop := queryTurnsRow.holds Try.pinned (OpenSpec.ofChange queryTurnsWrong)

/-- 'viaductlaw23.TableMemory': WHATEVER THE INPUT: true; the input reads as it did. -/
def tableMemorySpec : ChangeSpec := { name := "tableMemory", fn := fun _ => fun
  | [d1, d2, d3] => { results := [.lit (.bool true)], args := [d1, d2, d3] }
  | _ => none }
def tableMemoryRow : OpenClaim := { program := "ytjbphoophgbmiaa", sum := "c1b294d2af5012090c3708df6e48e6edeaec480d3faecb53446eff9d64428a9f", func := "viaduct/viaductlaw23.TableMemory", spec := "tableMemory", inPlace := ["internal/reflectlite.TypeOf"], unfollowed := true, recurses := true, apart := false }
def TableMemorySaid : Prop := tableMemoryRow.holds Try.pinned (OpenSpec.ofChange tableMemorySpec)

/-- ITS FALSE NEIGHBOUR: 'it returns false'. Refute it at one input. -/
def tableMemoryWrong : ChangeSpec := { name := "tableMemory", fn := fun _ => fun
  | [d1, d2, d3] => { results := [.lit (.bool false)], args := [d1, d2, d3] }
  | _ => none }
def TableMemoryWrongFalsely : Prop := tableMemoryRow.holds Try.pinned (OpenSpec.ofChange tableMemoryWrong)

/-- 'viaductlaw23.TableTurns': WHATEVER THE INPUT: true; the input reads as it did. -/
def tableTurnsSpec : ChangeSpec := { name := "tableTurns", fn := fun _ => fun
  | [d1, d2, d3] => { results := [.lit (.bool true)], args := [d1, d2, d3] }
  | _ => none }
def tableTurnsRow : OpenClaim := { program := "ytjbphoophgbmiaa", sum := "c1b294d2af5012090c3708df6e48e6edeaec480d3faecb53446eff9d64428a9f", func := "viaduct/viaductlaw23.TableTurns", spec := "tableTurns", inPlace := ["internal/reflectlite.TypeOf"], unfollowed := true, recurses := true, apart := false }
def TableTurnsSaid : Prop := tableTurnsRow.holds Try.pinned (OpenSpec.ofChange tableTurnsSpec)

/-- ITS FALSE NEIGHBOUR: 'it returns false'. Refute it at one input. -/
def tableTurnsWrong : ChangeSpec := { name := "tableTurns", fn := fun _ => fun
  | [d1, d2, d3] => { results := [.lit (.bool false)], args := [d1, d2, d3] }
  | _ => none }
def TableTurnsWrongFalsely : Prop := tableTurnsRow.holds Try.pinned (OpenSpec.ofChange tableTurnsWrong)

/- THE SECOND FORM. 'bulk': how many values and letters a reading holds, each counted each time it is reached (what is shared counts as often as it is met; a slice's spare places count too). A statement '..UptoSaid' is the law's where the arguments, and the package variables that the reading takes, are together of bulk at most 1048576: NARROWER than '..Said'. Prove '..Said' where nothing that the law and all that it calls make is longer than what came in: it says more and counts as full. Else prove '..UptoSaid'. A law counts once. -/
mutual
def uptoBulk {H : Type} : DataW H → Nat
  | .lit (.string bytes) => bytes.length + 1
  | .lit _ => 1
  | .nil => 1
  | .ptr d => uptoBulk d + 1
  | .slice elems spare => uptoBulkAll elems + uptoBulkAll spare + 1
  | .agg parts => uptoBulkAll parts + 1
  | .iface _ d => uptoBulk d + 1
  | .map entries => uptoBulkEntries entries + 1
  | .held _ => 1
def uptoBulkAll {H : Type} : List (DataW H) → Nat
  | [] => 0
  | d :: r => uptoBulk d + uptoBulkAll r
def uptoBulkEntries {H : Type} : List (Lit × DataW H) → Nat
  | [] => 0
  | x :: r => uptoBulkEntry x + uptoBulkEntries r
def uptoBulkEntry {H : Type} : Lit × DataW H → Nat
  | (.string bytes, d) => bytes.length + uptoBulk d + 1
  | (_, d) => uptoBulk d + 1
 end
def uptoSmall : (H : Type) → List (DataW H) → Bool := fun _ ds => decide (uptoBulkAll ds ≤ 1048576)
def OpenSpec.upto (s : _root_.Go.ChangeSpec) : _root_.Go.OpenSpec := { _root_.Go.OpenSpec.ofChange s with cond := some uptoSmall }

/-- 'viaductlaw21.QueryTurns', WHERE WHAT IT READS IS OF BULK AT MOST 1048576: true; the input reads as it did. -/
def queryTurnsUptoRow : OpenClaim := { program := "ytjbphoophgbmiaa", sum := "c1b294d2af5012090c3708df6e48e6edeaec480d3faecb53446eff9d64428a9f", func := "viaduct/viaductlaw21.QueryTurns", spec := "queryTurns", unfollowed := true, recurses := true, apart := false, narrowed := true }
def QueryTurnsUptoSaid : Prop := queryTurnsUptoRow.holds Try.pinned (OpenSpec.upto queryTurnsSpec)

/-- 'viaductlaw23.TableMemory', WHERE WHAT IT READS IS OF BULK AT MOST 1048576: true; the input reads as it did. -/
def tableMemoryUptoRow : OpenClaim := { program := "ytjbphoophgbmiaa", sum := "c1b294d2af5012090c3708df6e48e6edeaec480d3faecb53446eff9d64428a9f", func := "viaduct/viaductlaw23.TableMemory", spec := "tableMemory", inPlace := ["internal/reflectlite.TypeOf"], unfollowed := true, recurses := true, apart := false, narrowed := true }
def TableMemoryUptoSaid : Prop := tableMemoryUptoRow.holds Try.pinned (OpenSpec.upto tableMemorySpec)

/-- 'viaductlaw23.TableTurns', WHERE WHAT IT READS IS OF BULK AT MOST 1048576: true; the input reads as it did. -/
def tableTurnsUptoRow : OpenClaim := { program := "ytjbphoophgbmiaa", sum := "c1b294d2af5012090c3708df6e48e6edeaec480d3faecb53446eff9d64428a9f", func := "viaduct/viaductlaw23.TableTurns", spec := "tableTurns", inPlace := ["internal/reflectlite.TypeOf"], unfollowed := true, recurses := true, apart := false, narrowed := true }
def TableTurnsUptoSaid : Prop := tableTurnsUptoRow.holds Try.pinned (OpenSpec.upto tableTurnsSpec)

end Rows
end Go.Proofs.Ytjbphoophgbmiaa
