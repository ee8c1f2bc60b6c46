/-
  DERIVED. GIVEN WITH THE SEED: THE CARDS: each row of YtjbphoophgbmiaaDoorRows.lean that lists a variable, with what it lists TIED to the program's text (the seventh form; the later family's looks); each row that meets fmt, with fmt's text TOLD by the authors' own Lean function (tested against real Go, not proved from fmt's source: count such statements apart). THE CARD IS WHAT COUNTS. Prove the row's statement (the work); the ties are given (YtjbphoophgbmiaaDoorTie.lean); close each card by the builder's one call (the guide's Derived/Test/ToyasCard.lean, 'card_holds'). Laid BY PROGRAM, IN A SANDBOX (cutbox-door.mjs). By AI agents, Wed Nov 11 2026. No macro, syntax, notation, axiom, sorry.
-/
import Derived.Test.YtjbphoophgbmiaaDoorRows
import GoSem.ClaimSeven
namespace Go.Proofs.YtjbphoophgbmiaaDoor
namespace Rows

/-- THE TIED CARD OF 'viaductlaw16.SoundLacks'. -/
def soundLacksCard : Claim7 := { stood := { row := soundLacksRow, standIns := [], harness := (true, "1e937f9ebc69b1503e9664e11a4d425bed1d118cddb40338d03e0b1e9d13d8ce"), looks := true }, kinds := [], alts := [], laidByText := true, laidKinds := [.handle], laidTests := true, laidLooks := .later }
def SoundLacksCardSaid : Prop := Claim7.holds Tryd.pinned (.plain (OpenSpec.ofChange soundLacksSpec)) soundLacksCard

/-- THE TIED CARD OF 'viaductlaw16.SoundChecks'. -/
def soundChecksCard : Claim7 := { stood := { row := soundChecksRow, standIns := [], harness := (true, "1e937f9ebc69b1503e9664e11a4d425bed1d118cddb40338d03e0b1e9d13d8ce"), looks := true }, kinds := [], alts := [], laidByText := true, laidKinds := [.handle], laidTests := true, laidLooks := .later }
def SoundChecksCardSaid : Prop := Claim7.holds Tryd.pinned (.plain (OpenSpec.ofChange soundChecksSpec)) soundChecksCard

/-- THE TIED CARD OF 'viaductlaw16.SoundFixed'. -/
def soundFixedCard : Claim7 := { stood := { row := soundFixedRow, standIns := [], harness := (true, "1e937f9ebc69b1503e9664e11a4d425bed1d118cddb40338d03e0b1e9d13d8ce"), looks := true }, kinds := [], alts := [], laidByText := true, laidKinds := [.handle], laidTests := true, laidLooks := .later }
def SoundFixedCardSaid : Prop := Claim7.holds Tryd.pinned (.plain (OpenSpec.ofChange soundFixedSpec)) soundFixedCard

/-- THE TIED CARD OF 'viaductlaw16.SoundTurns'. -/
def soundTurnsCard : Claim7 := { stood := { row := soundTurnsRow, standIns := [], harness := (true, "1e937f9ebc69b1503e9664e11a4d425bed1d118cddb40338d03e0b1e9d13d8ce"), looks := true }, kinds := [], alts := [], laidByText := true, laidKinds := [.handle], laidTests := true, laidLooks := .later }
def SoundTurnsCardSaid : Prop := Claim7.holds Tryd.pinned (.plain (OpenSpec.ofChange soundTurnsSpec)) soundTurnsCard

/-- THE TIED CARD OF 'viaductlaw21.QueryAsks'. -/
def queryAsksCard : Claim7 := { stood := { row := queryAsksRow, standIns := [], harness := (true, "1e937f9ebc69b1503e9664e11a4d425bed1d118cddb40338d03e0b1e9d13d8ce"), looks := true }, kinds := [], alts := [], laidByText := true, laidKinds := [.handle], laidTests := true, laidLooks := .later }
def QueryAsksCardSaid : Prop := Claim7.holds Tryd.pinned (.plain (OpenSpec.ofChange queryAsksSpec)) queryAsksCard

/-- THE TIED CARD OF 'viaductlaw21.QueryFixed'. -/
def queryFixedCard : Claim7 := { stood := { row := queryFixedRow, standIns := [], harness := (true, "1e937f9ebc69b1503e9664e11a4d425bed1d118cddb40338d03e0b1e9d13d8ce"), looks := true }, kinds := [], alts := [], laidByText := true, laidKinds := [.handle], laidTests := true, laidLooks := .later }
def QueryFixedCardSaid : Prop := Claim7.holds Tryd.pinned (.plain (OpenSpec.ofChange queryFixedSpec)) queryFixedCard

/-- THE TIED CARD OF 'viaductlaw21.QueryMemory'. -/
def queryMemoryCard : Claim7 := { stood := { row := queryMemoryRow, standIns := [], harness := (true, "1e937f9ebc69b1503e9664e11a4d425bed1d118cddb40338d03e0b1e9d13d8ce"), looks := true }, kinds := [], alts := [], laidByText := true, laidKinds := [.handle], laidTests := true, laidLooks := .later }
def QueryMemoryCardSaid : Prop := Claim7.holds Tryd.pinned (.plain (OpenSpec.ofChange queryMemorySpec)) queryMemoryCard

/-- THE TIED CARD OF 'viaductlaw23.TableCells'. -/
def tableCellsCard : Claim7 := { stood := { row := tableCellsRow, standIns := [], harness := (true, "1e937f9ebc69b1503e9664e11a4d425bed1d118cddb40338d03e0b1e9d13d8ce"), looks := true }, kinds := [], alts := [], laidByText := true, laidKinds := [.handle], laidTests := true, laidLooks := .later }
def TableCellsCardSaid : Prop := Claim7.holds Tryd.pinned (.plain (OpenSpec.ofChange tableCellsSpec)) tableCellsCard

/-- THE TIED CARD OF 'viaductlaw23.TableFixed'. -/
def tableFixedCard : Claim7 := { stood := { row := tableFixedRow, standIns := [], harness := (true, "1e937f9ebc69b1503e9664e11a4d425bed1d118cddb40338d03e0b1e9d13d8ce"), looks := true }, kinds := [], alts := [], laidByText := true, laidKinds := [.handle], laidTests := true, laidLooks := .later }
def TableFixedCardSaid : Prop := Claim7.holds Tryd.pinned (.plain (OpenSpec.ofChange tableFixedSpec)) tableFixedCard

/-- THE SECOND FORM's CARD OF 'viaductlaw16.SoundLacks'. -/
def soundLacksUptoCard : Claim7 := { stood := { row := soundLacksUptoRow, standIns := [], harness := (true, "1e937f9ebc69b1503e9664e11a4d425bed1d118cddb40338d03e0b1e9d13d8ce"), looks := true }, kinds := [], alts := [], laidByText := true, laidKinds := [.handle], laidTests := true, laidLooks := .later }
def SoundLacksUptoCardSaid : Prop := Claim7.holds Tryd.pinned (.plain (OpenSpec.upto soundLacksSpec)) soundLacksUptoCard

/-- THE SECOND FORM's CARD OF 'viaductlaw16.SoundChecks'. -/
def soundChecksUptoCard : Claim7 := { stood := { row := soundChecksUptoRow, standIns := [], harness := (true, "1e937f9ebc69b1503e9664e11a4d425bed1d118cddb40338d03e0b1e9d13d8ce"), looks := true }, kinds := [], alts := [], laidByText := true, laidKinds := [.handle], laidTests := true, laidLooks := .later }
def SoundChecksUptoCardSaid : Prop := Claim7.holds Tryd.pinned (.plain (OpenSpec.upto soundChecksSpec)) soundChecksUptoCard

/-- THE SECOND FORM's CARD OF 'viaductlaw16.SoundFixed'. -/
def soundFixedUptoCard : Claim7 := { stood := { row := soundFixedUptoRow, standIns := [], harness := (true, "1e937f9ebc69b1503e9664e11a4d425bed1d118cddb40338d03e0b1e9d13d8ce"), looks := true }, kinds := [], alts := [], laidByText := true, laidKinds := [.handle], laidTests := true, laidLooks := .later }
def SoundFixedUptoCardSaid : Prop := Claim7.holds Tryd.pinned (.plain (OpenSpec.upto soundFixedSpec)) soundFixedUptoCard

/-- THE SECOND FORM's CARD OF 'viaductlaw16.SoundTurns'. -/
def soundTurnsUptoCard : Claim7 := { stood := { row := soundTurnsUptoRow, standIns := [], harness := (true, "1e937f9ebc69b1503e9664e11a4d425bed1d118cddb40338d03e0b1e9d13d8ce"), looks := true }, kinds := [], alts := [], laidByText := true, laidKinds := [.handle], laidTests := true, laidLooks := .later }
def SoundTurnsUptoCardSaid : Prop := Claim7.holds Tryd.pinned (.plain (OpenSpec.upto soundTurnsSpec)) soundTurnsUptoCard

/-- THE SECOND FORM's CARD OF 'viaductlaw21.QueryAsks'. -/
def queryAsksUptoCard : Claim7 := { stood := { row := queryAsksUptoRow, standIns := [], harness := (true, "1e937f9ebc69b1503e9664e11a4d425bed1d118cddb40338d03e0b1e9d13d8ce"), looks := true }, kinds := [], alts := [], laidByText := true, laidKinds := [.handle], laidTests := true, laidLooks := .later }
def QueryAsksUptoCardSaid : Prop := Claim7.holds Tryd.pinned (.plain (OpenSpec.upto queryAsksSpec)) queryAsksUptoCard

/-- THE SECOND FORM's CARD OF 'viaductlaw21.QueryFixed'. -/
def queryFixedUptoCard : Claim7 := { stood := { row := queryFixedUptoRow, standIns := [], harness := (true, "1e937f9ebc69b1503e9664e11a4d425bed1d118cddb40338d03e0b1e9d13d8ce"), looks := true }, kinds := [], alts := [], laidByText := true, laidKinds := [.handle], laidTests := true, laidLooks := .later }
def QueryFixedUptoCardSaid : Prop := Claim7.holds Tryd.pinned (.plain (OpenSpec.upto queryFixedSpec)) queryFixedUptoCard

/-- THE SECOND FORM's CARD OF 'viaductlaw21.QueryMemory'. -/
def queryMemoryUptoCard : Claim7 := { stood := { row := queryMemoryUptoRow, standIns := [], harness := (true, "1e937f9ebc69b1503e9664e11a4d425bed1d118cddb40338d03e0b1e9d13d8ce"), looks := true }, kinds := [], alts := [], laidByText := true, laidKinds := [.handle], laidTests := true, laidLooks := .later }
def QueryMemoryUptoCardSaid : Prop := Claim7.holds Tryd.pinned (.plain (OpenSpec.upto queryMemorySpec)) queryMemoryUptoCard

/-- THE SECOND FORM's CARD OF 'viaductlaw23.TableCells'. -/
def tableCellsUptoCard : Claim7 := { stood := { row := tableCellsUptoRow, standIns := [], harness := (true, "1e937f9ebc69b1503e9664e11a4d425bed1d118cddb40338d03e0b1e9d13d8ce"), looks := true }, kinds := [], alts := [], laidByText := true, laidKinds := [.handle], laidTests := true, laidLooks := .later }
def TableCellsUptoCardSaid : Prop := Claim7.holds Tryd.pinned (.plain (OpenSpec.upto tableCellsSpec)) tableCellsUptoCard

/-- THE SECOND FORM's CARD OF 'viaductlaw23.TableFixed'. -/
def tableFixedUptoCard : Claim7 := { stood := { row := tableFixedUptoRow, standIns := [], harness := (true, "1e937f9ebc69b1503e9664e11a4d425bed1d118cddb40338d03e0b1e9d13d8ce"), looks := true }, kinds := [], alts := [], laidByText := true, laidKinds := [.handle], laidTests := true, laidLooks := .later }
def TableFixedUptoCardSaid : Prop := Claim7.holds Tryd.pinned (.plain (OpenSpec.upto tableFixedSpec)) tableFixedUptoCard
end Rows
end Go.Proofs.YtjbphoophgbmiaaDoor
