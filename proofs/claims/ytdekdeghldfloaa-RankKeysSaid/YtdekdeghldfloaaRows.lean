/-
  No cell of these rows narrows 'for every input' (looked for: loops, veiled, ifaces, maps, wideKeys, modest, calm, conditions, laid).
  DERIVED. THE GIVEN ROWS OF THIS SEAT. 4 by the template 'for every input the law returns true; each argument reads behind the call as it read before'; 0 by the template 'total and deterministic' (their statements: YtdekdeghldfloaaTotals.lean).
  GIVEN WITH THE SEED: the statements are not yours to turn. If you find one false, say at which input.
  Laid BY PROGRAM, IN A SANDBOX (cutbox-rows.mjs): the forced cells as the released guide's own fill.sh prints them over the translation ff0e618942faa750… (all of the seat's roots in one cut). By AI agents, Wed Nov 11 2026. No macro, syntax, notation, axiom, sorry.
-/
import Derived.Test.YtdekdeghldfloaaChecked
import GoSem.Claim
import GoSem.ClaimJoined
import GoSem.ClaimMapViews
import Derived.JoinedTies
import Derived.KernelRfl
namespace Go.Proofs.Ytdekdeghldfloaa
/- THE CELL 'sum', in the pinned program and in every row, IS THE sha256 OF THE DUMP (.gsa) THAT YtdekdeghldfloaaProg.lean LOADS. Nothing in Lean hashes anything: it is a label: what it is worth is what the hold of that sum in a sandbox is worth. -/
noncomputable def Try.pinned : Pinned := { name := "ytdekdeghldfloaa", sum := "ff0e618942faa750fa794d8612824fe1aabc7f2eee9bb71c32be4cf4236f1d6d", checked := Try.checked }
namespace Rows
def none {H : Type} : Left H := { results := [], args := [] }

/-- 'viaductlaw14.RankPlains': WHATEVER THE INPUT: true; the input reads as it did. -/
def rankPlainsSpec : ChangeSpec := { name := "rankPlains", fn := fun _ => fun
  | [d] => { results := [.lit (.bool true)], args := [d] }
  | _ => none }
def rankPlainsRow : OpenClaim := { program := "ytdekdeghldfloaa", sum := "ff0e618942faa750fa794d8612824fe1aabc7f2eee9bb71c32be4cf4236f1d6d", func := "viaduct/viaductlaw14.RankPlains", spec := "rankPlains", apart := false }
def RankPlainsSaid : Prop := rankPlainsRow.holds Try.pinned (OpenSpec.ofChange rankPlainsSpec)

/-- ITS FALSE NEIGHBOUR: 'it returns false'. Refute it at one input. -/
def rankPlainsWrong : ChangeSpec := { name := "rankPlains", fn := fun _ => fun
  | [d] => { results := [.lit (.bool false)], args := [d] }
  | _ => none }
def RankPlainsWrongFalsely : Prop := rankPlainsRow.holds Try.pinned (OpenSpec.ofChange rankPlainsWrong)

/-- 'viaductlaw14.RankPriorities': WHATEVER THE INPUT: true; the input reads as it did. -/
def rankPrioritiesSpec : ChangeSpec := { name := "rankPriorities", fn := fun _ => fun
  | [d1, d2, d3, d4] => { results := [.lit (.bool true)], args := [d1, d2, d3, d4] }
  | _ => none }
def rankPrioritiesRow : OpenClaim := { program := "ytdekdeghldfloaa", sum := "ff0e618942faa750fa794d8612824fe1aabc7f2eee9bb71c32be4cf4236f1d6d", func := "viaduct/viaductlaw14.RankPriorities", spec := "rankPriorities", apart := false }
def RankPrioritiesSaid : Prop := rankPrioritiesRow.holds Try.pinned (OpenSpec.ofChange rankPrioritiesSpec)

/-- ITS FALSE NEIGHBOUR: 'it returns false'. Refute it at one input. -/
def rankPrioritiesWrong : ChangeSpec := { name := "rankPriorities", fn := fun _ => fun
  | [d1, d2, d3, d4] => { results := [.lit (.bool false)], args := [d1, d2, d3, d4] }
  | _ => none }
def RankPrioritiesWrongFalsely : Prop := rankPrioritiesRow.holds Try.pinned (OpenSpec.ofChange rankPrioritiesWrong)

/-- 'viaductlaw14.RankKeys': WHATEVER THE INPUT: true; the input reads as it did. -/
def rankKeysSpec : ChangeSpec := { name := "rankKeys", fn := fun _ => fun
  | [d1, d2, d3] => { results := [.lit (.bool true)], args := [d1, d2, d3] }
  | _ => none }
def rankKeysRow : OpenClaim := { program := "ytdekdeghldfloaa", sum := "ff0e618942faa750fa794d8612824fe1aabc7f2eee9bb71c32be4cf4236f1d6d", func := "viaduct/viaductlaw14.RankKeys", spec := "rankKeys", apart := false }
def RankKeysSaid : Prop := rankKeysRow.holds Try.pinned (OpenSpec.ofChange rankKeysSpec)

/-- ITS FALSE NEIGHBOUR: 'it returns false'. Refute it at one input. -/
def rankKeysWrong : ChangeSpec := { name := "rankKeys", fn := fun _ => fun
  | [d1, d2, d3] => { results := [.lit (.bool false)], args := [d1, d2, d3] }
  | _ => none }
def RankKeysWrongFalsely : Prop := rankKeysRow.holds Try.pinned (OpenSpec.ofChange rankKeysWrong)

/-- 'viaductlaw14.RankFixed': WHATEVER THE INPUT: true; the input reads as it did. -/
def rankFixedSpec : ChangeSpec := { name := "rankFixed", fn := fun _ => fun
  | [] => { results := [.lit (.bool true)], args := [] }
  | _ => none }
def rankFixedRow : OpenClaim := { program := "ytdekdeghldfloaa", sum := "ff0e618942faa750fa794d8612824fe1aabc7f2eee9bb71c32be4cf4236f1d6d", func := "viaduct/viaductlaw14.RankFixed", spec := "rankFixed", apart := false }
def RankFixedSaid : Prop := rankFixedRow.holds Try.pinned (OpenSpec.ofChange rankFixedSpec)

/-- ITS FALSE NEIGHBOUR: 'it returns false'. Refute it at one input. -/
def rankFixedWrong : ChangeSpec := { name := "rankFixed", fn := fun _ => fun
  | [] => { results := [.lit (.bool false)], args := [] }
  | _ => none }
def RankFixedWrongFalsely : Prop := rankFixedRow.holds Try.pinned (OpenSpec.ofChange rankFixedWrong)

/- THE SECOND FORM. 'bulk': how many values and letters a reading holds, each counted each time it is reached (what is shared counts as often as it is met; a slice's spare places count too). A statement '..UptoSaid' is the law's where the arguments, and the package variables that the reading takes, are together of bulk at most 1048576: NARROWER than '..Said'. Prove '..Said' where nothing that the law and all that it calls make is longer than what came in: it says more and counts as full. Else prove '..UptoSaid'. A law counts once. -/
mutual
def uptoBulk {H : Type} : DataW H → Nat
  | .lit (.string bytes) => bytes.length + 1
  | .lit _ => 1
  | .nil => 1
  | .ptr d => uptoBulk d + 1
  | .slice elems spare => uptoBulkAll elems + uptoBulkAll spare + 1
  | .agg parts => uptoBulkAll parts + 1
  | .iface _ d => uptoBulk d + 1
  | .map entries => uptoBulkEntries entries + 1
  | .held _ => 1
def uptoBulkAll {H : Type} : List (DataW H) → Nat
  | [] => 0
  | d :: r => uptoBulk d + uptoBulkAll r
def uptoBulkEntries {H : Type} : List (Lit × DataW H) → Nat
  | [] => 0
  | x :: r => uptoBulkEntry x + uptoBulkEntries r
def uptoBulkEntry {H : Type} : Lit × DataW H → Nat
  | (.string bytes, d) => bytes.length + uptoBulk d + 1
  | (_, d) => uptoBulk d + 1
 end
def uptoSmall : (H : Type) → List (DataW H) → Bool := fun _ ds => decide (uptoBulkAll ds ≤ 1048576)
def OpenSpec.upto (s : _root_.Go.ChangeSpec) : _root_.Go.OpenSpec := { _root_.Go.OpenSpec.ofChange s with cond := some uptoSmall }

/-- 'viaductlaw14.RankPlains', WHERE WHAT IT READS IS OF BULK AT MOST 1048576: true; the input reads as it did. -/
def rankPlainsUptoRow : OpenClaim := { program := "ytdekdeghldfloaa", sum := "ff0e618942faa750fa794d8612824fe1aabc7f2eee9bb71c32be4cf4236f1d6d", func := "viaduct/viaductlaw14.RankPlains", spec := "rankPlains", apart := false, narrowed := true }
def RankPlainsUptoSaid : Prop := rankPlainsUptoRow.holds Try.pinned (OpenSpec.upto rankPlainsSpec)

/-- 'viaductlaw14.RankPriorities', WHERE WHAT IT READS IS OF BULK AT MOST 1048576: true; the input reads as it did. -/
def rankPrioritiesUptoRow : OpenClaim := { program := "ytdekdeghldfloaa", sum := "ff0e618942faa750fa794d8612824fe1aabc7f2eee9bb71c32be4cf4236f1d6d", func := "viaduct/viaductlaw14.RankPriorities", spec := "rankPriorities", apart := false, narrowed := true }
def RankPrioritiesUptoSaid : Prop := rankPrioritiesUptoRow.holds Try.pinned (OpenSpec.upto rankPrioritiesSpec)

/-- 'viaductlaw14.RankKeys', WHERE WHAT IT READS IS OF BULK AT MOST 1048576: true; the input reads as it did. -/
def rankKeysUptoRow : OpenClaim := { program := "ytdekdeghldfloaa", sum := "ff0e618942faa750fa794d8612824fe1aabc7f2eee9bb71c32be4cf4236f1d6d", func := "viaduct/viaductlaw14.RankKeys", spec := "rankKeys", apart := false, narrowed := true }
def RankKeysUptoSaid : Prop := rankKeysUptoRow.holds Try.pinned (OpenSpec.upto rankKeysSpec)

/-- 'viaductlaw14.RankFixed', WHERE WHAT IT READS IS OF BULK AT MOST 1048576: true; the input reads as it did. -/
def rankFixedUptoRow : OpenClaim := { program := "ytdekdeghldfloaa", sum := "ff0e618942faa750fa794d8612824fe1aabc7f2eee9bb71c32be4cf4236f1d6d", func := "viaduct/viaductlaw14.RankFixed", spec := "rankFixed", apart := false, narrowed := true }
def RankFixedUptoSaid : Prop := rankFixedUptoRow.holds Try.pinned (OpenSpec.upto rankFixedSpec)

end Rows
end Go.Proofs.Ytdekdeghldfloaa
