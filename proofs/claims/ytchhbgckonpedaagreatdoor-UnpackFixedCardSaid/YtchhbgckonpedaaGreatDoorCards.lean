/-
  DERIVED. GIVEN WITH THE SEED: THE CARDS: each row of YtchhbgckonpedaaGreatDoorRows.lean that lists a variable, with what it lists TIED to the program's text (the seventh form; the later family's looks); each row that meets fmt, with fmt's text TOLD by the authors' own Lean function (tested against real Go, not proved from fmt's source: count such statements apart). THE CARD IS WHAT COUNTS. Prove the row's statement (the work); the ties are given (YtchhbgckonpedaaGreatDoorTie.lean); close each card by the builder's one call (the guide's Derived/Test/ToyasCard.lean, 'card_holds'). Laid BY PROGRAM, IN A SANDBOX (cutbox-door.mjs). By AI agents, Wed Nov 11 2026. No macro, syntax, notation, axiom, sorry.
-/
import Derived.Test.YtchhbgckonpedaaGreatDoorRows
import GoSem.ClaimSeven
namespace Go.Proofs.YtchhbgckonpedaaGreatDoor
namespace Rows

/-- THE TIED CARD OF 'viaductlaw22.UnpackLinks'. -/
def unpackLinksCard : Claim7 := { stood := { row := unpackLinksRow, standIns := [], harness := (true, "2a5f70b5e8c2ae8307b69671cc8b8d0956e440564f01d07303dd5b8ae7bb4518"), looks := true }, kinds := [], alts := [], laidByText := true, laidKinds := [.handle], laidTests := true, laidLooks := .later }
def UnpackLinksCardSaid : Prop := Claim7.holds Tryz.pinned (.plain (OpenSpec.ofChange unpackLinksSpec)) unpackLinksCard

/-- THE TIED CARD OF 'viaductlaw22.UnpackPaths'. -/
def unpackPathsCard : Claim7 := { stood := { row := unpackPathsRow, standIns := [], harness := (true, "2a5f70b5e8c2ae8307b69671cc8b8d0956e440564f01d07303dd5b8ae7bb4518"), looks := true }, kinds := [], alts := [], laidByText := true, laidKinds := [.handle], laidTests := true, laidLooks := .later }
def UnpackPathsCardSaid : Prop := Claim7.holds Tryz.pinned (.plain (OpenSpec.ofChange unpackPathsSpec)) unpackPathsCard

/-- THE TIED CARD OF 'viaductlaw22.UnpackSums'. -/
def unpackSumsCard : Claim7 := { stood := { row := unpackSumsRow, standIns := [], harness := (true, "2a5f70b5e8c2ae8307b69671cc8b8d0956e440564f01d07303dd5b8ae7bb4518"), looks := true }, kinds := [], alts := [], laidByText := true, laidKinds := [.handle], laidTests := true, laidLooks := .later }
def UnpackSumsCardSaid : Prop := Claim7.holds Tryz.pinned (.plain (OpenSpec.ofChange unpackSumsSpec)) unpackSumsCard

/-- THE TIED CARD OF 'viaductlaw22.UnpackMemory'. -/
def unpackMemoryCard : Claim7 := { stood := { row := unpackMemoryRow, standIns := [], harness := (true, "2a5f70b5e8c2ae8307b69671cc8b8d0956e440564f01d07303dd5b8ae7bb4518"), looks := true }, kinds := [], alts := [], laidByText := true, laidKinds := [.handle], laidTests := true, laidLooks := .later }
def UnpackMemoryCardSaid : Prop := Claim7.holds Tryz.pinned (.plain (OpenSpec.ofChange unpackMemorySpec)) unpackMemoryCard

/-- THE TIED CARD OF 'viaductlaw22.UnpackDoubled'. -/
def unpackDoubledCard : Claim7 := { stood := { row := unpackDoubledRow, standIns := [], harness := (true, "2a5f70b5e8c2ae8307b69671cc8b8d0956e440564f01d07303dd5b8ae7bb4518"), looks := true }, kinds := [], alts := [], laidByText := true, laidKinds := [.handle], laidTests := true, laidLooks := .later }
def UnpackDoubledCardSaid : Prop := Claim7.holds Tryz.pinned (.plain (OpenSpec.ofChange unpackDoubledSpec)) unpackDoubledCard

/-- THE TIED CARD OF 'viaductlaw22.UnpackFixed'. -/
def unpackFixedCard : Claim7 := { stood := { row := unpackFixedRow, standIns := [], harness := (true, "2a5f70b5e8c2ae8307b69671cc8b8d0956e440564f01d07303dd5b8ae7bb4518"), looks := true }, kinds := [], alts := [], laidByText := true, laidKinds := [.handle], laidTests := true, laidLooks := .later }
def UnpackFixedCardSaid : Prop := Claim7.holds Tryz.pinned (.plain (OpenSpec.ofChange unpackFixedSpec)) unpackFixedCard

/-- THE SECOND FORM's CARD OF 'viaductlaw22.UnpackLinks'. -/
def unpackLinksUptoCard : Claim7 := { stood := { row := unpackLinksUptoRow, standIns := [], harness := (true, "2a5f70b5e8c2ae8307b69671cc8b8d0956e440564f01d07303dd5b8ae7bb4518"), looks := true }, kinds := [], alts := [], laidByText := true, laidKinds := [.handle], laidTests := true, laidLooks := .later }
def UnpackLinksUptoCardSaid : Prop := Claim7.holds Tryz.pinned (.plain (OpenSpec.upto unpackLinksSpec)) unpackLinksUptoCard

/-- THE SECOND FORM's CARD OF 'viaductlaw22.UnpackPaths'. -/
def unpackPathsUptoCard : Claim7 := { stood := { row := unpackPathsUptoRow, standIns := [], harness := (true, "2a5f70b5e8c2ae8307b69671cc8b8d0956e440564f01d07303dd5b8ae7bb4518"), looks := true }, kinds := [], alts := [], laidByText := true, laidKinds := [.handle], laidTests := true, laidLooks := .later }
def UnpackPathsUptoCardSaid : Prop := Claim7.holds Tryz.pinned (.plain (OpenSpec.upto unpackPathsSpec)) unpackPathsUptoCard

/-- THE SECOND FORM's CARD OF 'viaductlaw22.UnpackSums'. -/
def unpackSumsUptoCard : Claim7 := { stood := { row := unpackSumsUptoRow, standIns := [], harness := (true, "2a5f70b5e8c2ae8307b69671cc8b8d0956e440564f01d07303dd5b8ae7bb4518"), looks := true }, kinds := [], alts := [], laidByText := true, laidKinds := [.handle], laidTests := true, laidLooks := .later }
def UnpackSumsUptoCardSaid : Prop := Claim7.holds Tryz.pinned (.plain (OpenSpec.upto unpackSumsSpec)) unpackSumsUptoCard

/-- THE SECOND FORM's CARD OF 'viaductlaw22.UnpackMemory'. -/
def unpackMemoryUptoCard : Claim7 := { stood := { row := unpackMemoryUptoRow, standIns := [], harness := (true, "2a5f70b5e8c2ae8307b69671cc8b8d0956e440564f01d07303dd5b8ae7bb4518"), looks := true }, kinds := [], alts := [], laidByText := true, laidKinds := [.handle], laidTests := true, laidLooks := .later }
def UnpackMemoryUptoCardSaid : Prop := Claim7.holds Tryz.pinned (.plain (OpenSpec.upto unpackMemorySpec)) unpackMemoryUptoCard

/-- THE SECOND FORM's CARD OF 'viaductlaw22.UnpackDoubled'. -/
def unpackDoubledUptoCard : Claim7 := { stood := { row := unpackDoubledUptoRow, standIns := [], harness := (true, "2a5f70b5e8c2ae8307b69671cc8b8d0956e440564f01d07303dd5b8ae7bb4518"), looks := true }, kinds := [], alts := [], laidByText := true, laidKinds := [.handle], laidTests := true, laidLooks := .later }
def UnpackDoubledUptoCardSaid : Prop := Claim7.holds Tryz.pinned (.plain (OpenSpec.upto unpackDoubledSpec)) unpackDoubledUptoCard

/-- THE SECOND FORM's CARD OF 'viaductlaw22.UnpackFixed'. -/
def unpackFixedUptoCard : Claim7 := { stood := { row := unpackFixedUptoRow, standIns := [], harness := (true, "2a5f70b5e8c2ae8307b69671cc8b8d0956e440564f01d07303dd5b8ae7bb4518"), looks := true }, kinds := [], alts := [], laidByText := true, laidKinds := [.handle], laidTests := true, laidLooks := .later }
def UnpackFixedUptoCardSaid : Prop := Claim7.holds Tryz.pinned (.plain (OpenSpec.upto unpackFixedSpec)) unpackFixedUptoCard
end Rows
end Go.Proofs.YtchhbgckonpedaaGreatDoor
