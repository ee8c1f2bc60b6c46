/-
  DERIVED. GIVEN WITH THE SEED: THE CARDS: each row of YtjbphoophgbmiaaGreatDoorRows.lean that lists a variable, with what it lists TIED to the program's text (the seventh form; the later family's looks); each row that meets fmt, with fmt's text TOLD by the authors' own Lean function (tested against real Go, not proved from fmt's source: count such statements apart). THE CARD IS WHAT COUNTS. Prove the row's statement (the work); the ties are given (YtjbphoophgbmiaaGreatDoorTie.lean); close each card by the builder's one call (the guide's Derived/Test/ToyasCard.lean, 'card_holds'). Laid BY PROGRAM, IN A SANDBOX (cutbox-door.mjs). By AI agents, Wed Nov 11 2026. No macro, syntax, notation, axiom, sorry.
-/
import Derived.Test.YtjbphoophgbmiaaGreatDoorRows
import GoSem.ClaimSeven
namespace Go.Proofs.YtjbphoophgbmiaaGreatDoor
namespace Rows

/-- THE TIED CARD OF 'viaductlaw23.TableOfs'. -/
def tableOfsCard : Claim7 := { stood := { row := tableOfsRow, standIns := [], harness := (true, "c9f9e18c76f78532e0c833b814be097aba41d375413bace1db96b47c4295b08d"), looks := true }, kinds := [], alts := [], laidByText := true, laidKinds := [.handle], laidTests := true, laidLooks := .later }
def TableOfsCardSaid : Prop := Claim7.holds Tryz.pinned (.plain (OpenSpec.ofChange tableOfsSpec)) tableOfsCard

/-- THE TIED CARD OF 'viaductlaw23.TableNearests'. -/
def tableNearestsCard : Claim7 := { stood := { row := tableNearestsRow, standIns := [], harness := (true, "c9f9e18c76f78532e0c833b814be097aba41d375413bace1db96b47c4295b08d"), looks := true }, kinds := [], alts := [], laidByText := true, laidKinds := [.handle], laidTests := true, laidLooks := .later }
def TableNearestsCardSaid : Prop := Claim7.holds Tryz.pinned (.plain (OpenSpec.ofChange tableNearestsSpec)) tableNearestsCard

/-- THE SECOND FORM's CARD OF 'viaductlaw23.TableOfs'. -/
def tableOfsUptoCard : Claim7 := { stood := { row := tableOfsUptoRow, standIns := [], harness := (true, "c9f9e18c76f78532e0c833b814be097aba41d375413bace1db96b47c4295b08d"), looks := true }, kinds := [], alts := [], laidByText := true, laidKinds := [.handle], laidTests := true, laidLooks := .later }
def TableOfsUptoCardSaid : Prop := Claim7.holds Tryz.pinned (.plain (OpenSpec.upto tableOfsSpec)) tableOfsUptoCard

/-- THE SECOND FORM's CARD OF 'viaductlaw23.TableNearests'. -/
def tableNearestsUptoCard : Claim7 := { stood := { row := tableNearestsUptoRow, standIns := [], harness := (true, "c9f9e18c76f78532e0c833b814be097aba41d375413bace1db96b47c4295b08d"), looks := true }, kinds := [], alts := [], laidByText := true, laidKinds := [.handle], laidTests := true, laidLooks := .later }
def TableNearestsUptoCardSaid : Prop := Claim7.holds Tryz.pinned (.plain (OpenSpec.upto tableNearestsSpec)) tableNearestsUptoCard
end Rows
end Go.Proofs.YtjbphoophgbmiaaGreatDoor
