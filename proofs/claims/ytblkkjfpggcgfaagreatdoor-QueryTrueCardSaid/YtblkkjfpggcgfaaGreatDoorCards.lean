/-
  DERIVED. GIVEN WITH THE SEED: THE CARDS: each row of YtblkkjfpggcgfaaGreatDoorRows.lean that lists a variable, with what it lists TIED to the program's text (the seventh form; the later family's looks); each row that meets fmt, with fmt's text TOLD by the authors' own Lean function (tested against real Go, not proved from fmt's source: count such statements apart). THE CARD IS WHAT COUNTS. Prove the row's statement (the work); the ties are given (YtblkkjfpggcgfaaGreatDoorTie.lean); close each card by the builder's one call (the guide's Derived/Test/ToyasCard.lean, 'card_holds'). Laid BY PROGRAM, IN A SANDBOX (cutbox-door.mjs). By AI agents, Wed Nov 11 2026. No macro, syntax, notation, axiom, sorry.
-/
import Derived.Test.YtblkkjfpggcgfaaGreatDoorRows
import GoSem.ClaimSeven
namespace Go.Proofs.YtblkkjfpggcgfaaGreatDoor
namespace Rows

/-- THE TIED CARD OF 'viaductlaw21.QueryTrue'. -/
def queryTrueCard : Claim7 := { stood := { row := queryTrueRow, standIns := [], harness := (true, "05aa353c5e088b7a22904f8d10046a21cf4da2ed19c8532679f62cb9440757a4"), looks := true }, kinds := [], alts := [], laidByText := true, laidKinds := [.handle], laidTests := true, laidLooks := .later }
def QueryTrueCardSaid : Prop := Claim7.holds Tryz.pinned (.plain (OpenSpec.ofChange queryTrueSpec)) queryTrueCard

/-- THE SECOND FORM's CARD OF 'viaductlaw21.QueryTrue'. -/
def queryTrueUptoCard : Claim7 := { stood := { row := queryTrueUptoRow, standIns := [], harness := (true, "05aa353c5e088b7a22904f8d10046a21cf4da2ed19c8532679f62cb9440757a4"), looks := true }, kinds := [], alts := [], laidByText := true, laidKinds := [.handle], laidTests := true, laidLooks := .later }
def QueryTrueUptoCardSaid : Prop := Claim7.holds Tryz.pinned (.plain (OpenSpec.upto queryTrueSpec)) queryTrueUptoCard
end Rows
end Go.Proofs.YtblkkjfpggcgfaaGreatDoor
