/-
  DERIVED. GIVEN WITH THE SEED: THE CARDS: each row of YtckmkhcahnijmaaGreatDoorRows.lean that lists a variable, with what it lists TIED to the program's text (the seventh form; the later family's looks); each row that meets fmt, with fmt's text TOLD by the authors' own Lean function (tested against real Go, not proved from fmt's source: count such statements apart). THE CARD IS WHAT COUNTS. Prove the row's statement (the work); the ties are given (YtckmkhcahnijmaaGreatDoorTie.lean); close each card by the builder's one call (the guide's Derived/Test/ToyasCard.lean, 'card_holds'). Laid BY PROGRAM, IN A SANDBOX (cutbox-door.mjs). By AI agents, Wed Nov 11 2026. No macro, syntax, notation, axiom, sorry.
-/
import Derived.Test.YtckmkhcahnijmaaGreatDoorRows
import GoSem.ClaimSeven
namespace Go.Proofs.YtckmkhcahnijmaaGreatDoor
namespace Rows

/-- THE TIED CARD OF 'damierlaw25.ExPrints'. -/
def exPrintsCard : Claim7 := { stood := { row := exPrintsRow, standIns := [], harness := (true, "94448b773f04f0e82b389765f1ed3a85ab49f2a726e39604a2835f73ccfba1fc"), looks := true }, kinds := [], alts := [], laidByText := true, laidKinds := [.data, .pinned], laidTests := true, laidLooks := .later }
def ExPrintsCardSaid : Prop := Claim7.holds Tryz.pinned (.plain (OpenSpec.ofChange exPrintsSpec)) exPrintsCard

/-- THE TIED CARD OF 'damierlaw25.ExParses'. -/
def exParsesCard : Claim7 := { stood := { row := exParsesRow, standIns := [], harness := (true, "94448b773f04f0e82b389765f1ed3a85ab49f2a726e39604a2835f73ccfba1fc"), looks := true }, kinds := [], alts := [], laidByText := true, laidKinds := [.data, .pinned], laidTests := true, laidLooks := .later }
def ExParsesCardSaid : Prop := Claim7.holds Tryz.pinned (.plain (OpenSpec.ofChange exParsesSpec)) exParsesCard

/-- THE TIED CARD OF 'damierlaw25.ExApart'. -/
def exApartCard : Claim7 := { stood := { row := exApartRow, standIns := [], harness := (true, "94448b773f04f0e82b389765f1ed3a85ab49f2a726e39604a2835f73ccfba1fc"), looks := true }, kinds := [], alts := [], laidByText := true, laidKinds := [.data, .pinned], laidTests := true, laidLooks := .later }
def ExApartCardSaid : Prop := Claim7.holds Tryz.pinned (.plain (OpenSpec.ofChange exApartSpec)) exApartCard

/-- THE TIED CARD OF 'damierlaw25.ExNames'. -/
def exNamesCard : Claim7 := { stood := { row := exNamesRow, standIns := [], harness := (true, "94448b773f04f0e82b389765f1ed3a85ab49f2a726e39604a2835f73ccfba1fc"), looks := true }, kinds := [], alts := [], laidByText := true, laidKinds := [.data, .pinned], laidTests := true, laidLooks := .later }
def ExNamesCardSaid : Prop := Claim7.holds Tryz.pinned (.plain (OpenSpec.ofChange exNamesSpec)) exNamesCard

/-- THE SECOND FORM's CARD OF 'damierlaw25.ExPrints'. -/
def exPrintsUptoCard : Claim7 := { stood := { row := exPrintsUptoRow, standIns := [], harness := (true, "94448b773f04f0e82b389765f1ed3a85ab49f2a726e39604a2835f73ccfba1fc"), looks := true }, kinds := [], alts := [], laidByText := true, laidKinds := [.data, .pinned], laidTests := true, laidLooks := .later }
def ExPrintsUptoCardSaid : Prop := Claim7.holds Tryz.pinned (.plain (OpenSpec.upto exPrintsSpec)) exPrintsUptoCard

/-- THE SECOND FORM's CARD OF 'damierlaw25.ExParses'. -/
def exParsesUptoCard : Claim7 := { stood := { row := exParsesUptoRow, standIns := [], harness := (true, "94448b773f04f0e82b389765f1ed3a85ab49f2a726e39604a2835f73ccfba1fc"), looks := true }, kinds := [], alts := [], laidByText := true, laidKinds := [.data, .pinned], laidTests := true, laidLooks := .later }
def ExParsesUptoCardSaid : Prop := Claim7.holds Tryz.pinned (.plain (OpenSpec.upto exParsesSpec)) exParsesUptoCard

/-- THE SECOND FORM's CARD OF 'damierlaw25.ExApart'. -/
def exApartUptoCard : Claim7 := { stood := { row := exApartUptoRow, standIns := [], harness := (true, "94448b773f04f0e82b389765f1ed3a85ab49f2a726e39604a2835f73ccfba1fc"), looks := true }, kinds := [], alts := [], laidByText := true, laidKinds := [.data, .pinned], laidTests := true, laidLooks := .later }
def ExApartUptoCardSaid : Prop := Claim7.holds Tryz.pinned (.plain (OpenSpec.upto exApartSpec)) exApartUptoCard

/-- THE SECOND FORM's CARD OF 'damierlaw25.ExNames'. -/
def exNamesUptoCard : Claim7 := { stood := { row := exNamesUptoRow, standIns := [], harness := (true, "94448b773f04f0e82b389765f1ed3a85ab49f2a726e39604a2835f73ccfba1fc"), looks := true }, kinds := [], alts := [], laidByText := true, laidKinds := [.data, .pinned], laidTests := true, laidLooks := .later }
def ExNamesUptoCardSaid : Prop := Claim7.holds Tryz.pinned (.plain (OpenSpec.upto exNamesSpec)) exNamesUptoCard
end Rows
end Go.Proofs.YtckmkhcahnijmaaGreatDoor
