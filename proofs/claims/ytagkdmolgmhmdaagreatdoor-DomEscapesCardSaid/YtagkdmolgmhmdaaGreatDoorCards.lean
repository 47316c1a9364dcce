/-
  DERIVED. GIVEN WITH THE SEED: THE CARDS: each row of YtagkdmolgmhmdaaGreatDoorRows.lean that lists a variable, with what it lists TIED to the program's text (the seventh form; the later family's looks); each row that meets fmt, with fmt's text TOLD by the authors' own Lean function (tested against real Go, not proved from fmt's source: count such statements apart). THE CARD IS WHAT COUNTS. Prove the row's statement (the work); the ties are given (YtagkdmolgmhmdaaGreatDoorTie.lean); close each card by the builder's one call (the guide's Derived/Test/ToyasCard.lean, 'card_holds'). Laid BY PROGRAM, IN A SANDBOX (cutbox-door.mjs). By AI agents, Wed Nov 11 2026. No macro, syntax, notation, axiom, sorry.
-/
import Derived.Test.YtagkdmolgmhmdaaGreatDoorRows
import GoSem.ClaimSeven
namespace Go.Proofs.YtagkdmolgmhmdaaGreatDoor
namespace Rows

/-- THE TIED CARD OF 'lacunalaw03.DomChecks'. -/
def domChecksCard : Claim7 := { stood := { row := domChecksRow, standIns := [], harness := (true, "20ce774a766cb757f62fab7aabf96af1370d213fdcb8f5336e3bc899e2c3e809"), looks := true }, kinds := [], alts := [], laidByText := true, laidKinds := [.listed, .data], laidTests := true, laidLooks := .later }
def DomChecksCardSaid : Prop := Claim7.holds Tryz.pinned (.plain (OpenSpec.ofChange domChecksSpec)) domChecksCard

/-- THE TIED CARD OF 'lacunalaw03.DomUnlike'. -/
def domUnlikeCard : Claim7 := { stood := { row := domUnlikeRow, standIns := [], harness := (true, "20ce774a766cb757f62fab7aabf96af1370d213fdcb8f5336e3bc899e2c3e809"), looks := true }, kinds := [], alts := [], laidByText := true, laidKinds := [.listed, .data], laidTests := true, laidLooks := .later }
def DomUnlikeCardSaid : Prop := Claim7.holds Tryz.pinned (.plain (OpenSpec.ofChange domUnlikeSpec)) domUnlikeCard

/-- THE TIED CARD OF 'lacunalaw03.DomAlls'. -/
def domAllsCard : Claim7 := { stood := { row := domAllsRow, standIns := [], harness := (true, "20ce774a766cb757f62fab7aabf96af1370d213fdcb8f5336e3bc899e2c3e809"), looks := true }, kinds := [], alts := [], laidByText := true, laidKinds := [.listed, .data], laidTests := true, laidLooks := .later }
def DomAllsCardSaid : Prop := Claim7.holds Tryz.pinned (.plain (OpenSpec.ofChange domAllsSpec)) domAllsCard

/-- THE TIED CARD OF 'lacunalaw03.DomWrites'. -/
def domWritesCard : Claim7 := { stood := { row := domWritesRow, standIns := [], harness := (true, "20ce774a766cb757f62fab7aabf96af1370d213fdcb8f5336e3bc899e2c3e809"), looks := true }, kinds := [], alts := [], laidByText := true, laidKinds := [.listed, .data], laidTests := true, laidLooks := .later }
def DomWritesCardSaid : Prop := Claim7.holds Tryz.pinned (.plain (OpenSpec.ofChange domWritesSpec)) domWritesCard

/-- THE TIED CARD OF 'lacunalaw03.DomTidy'. -/
def domTidyCard : Claim7 := { stood := { row := domTidyRow, standIns := [], harness := (true, "20ce774a766cb757f62fab7aabf96af1370d213fdcb8f5336e3bc899e2c3e809"), looks := true }, kinds := [], alts := [], laidByText := true, laidKinds := [.listed, .data], laidTests := true, laidLooks := .later }
def DomTidyCardSaid : Prop := Claim7.holds Tryz.pinned (.plain (OpenSpec.ofChange domTidySpec)) domTidyCard

/-- THE TIED CARD OF 'lacunalaw03.DomTidies'. -/
def domTidiesCard : Claim7 := { stood := { row := domTidiesRow, standIns := [], harness := (true, "20ce774a766cb757f62fab7aabf96af1370d213fdcb8f5336e3bc899e2c3e809"), looks := true }, kinds := [], alts := [], laidByText := true, laidKinds := [.listed, .data], laidTests := true, laidLooks := .later }
def DomTidiesCardSaid : Prop := Claim7.holds Tryz.pinned (.plain (OpenSpec.ofChange domTidiesSpec)) domTidiesCard

/-- THE TIED CARD OF 'lacunalaw03.DomEscapes'. -/
def domEscapesCard : Claim7 := { stood := { row := domEscapesRow, standIns := [], harness := (true, "20ce774a766cb757f62fab7aabf96af1370d213fdcb8f5336e3bc899e2c3e809"), looks := true }, kinds := [], alts := [], laidByText := true, laidKinds := [.data, .data, .data, .data, .sentinel, .sentinel, .listed, .data, .data, .pinned], laidTests := true, laidLooks := .later }
def DomEscapesCardSaid : Prop := Claim7.holds Tryz.pinned (.plain (OpenSpec.ofChange domEscapesSpec)) domEscapesCard

/-- THE SECOND FORM's CARD OF 'lacunalaw03.DomChecks'. -/
def domChecksUptoCard : Claim7 := { stood := { row := domChecksUptoRow, standIns := [], harness := (true, "20ce774a766cb757f62fab7aabf96af1370d213fdcb8f5336e3bc899e2c3e809"), looks := true }, kinds := [], alts := [], laidByText := true, laidKinds := [.listed, .data], laidTests := true, laidLooks := .later }
def DomChecksUptoCardSaid : Prop := Claim7.holds Tryz.pinned (.plain (OpenSpec.upto domChecksSpec)) domChecksUptoCard

/-- THE SECOND FORM's CARD OF 'lacunalaw03.DomUnlike'. -/
def domUnlikeUptoCard : Claim7 := { stood := { row := domUnlikeUptoRow, standIns := [], harness := (true, "20ce774a766cb757f62fab7aabf96af1370d213fdcb8f5336e3bc899e2c3e809"), looks := true }, kinds := [], alts := [], laidByText := true, laidKinds := [.listed, .data], laidTests := true, laidLooks := .later }
def DomUnlikeUptoCardSaid : Prop := Claim7.holds Tryz.pinned (.plain (OpenSpec.upto domUnlikeSpec)) domUnlikeUptoCard

/-- THE SECOND FORM's CARD OF 'lacunalaw03.DomAlls'. -/
def domAllsUptoCard : Claim7 := { stood := { row := domAllsUptoRow, standIns := [], harness := (true, "20ce774a766cb757f62fab7aabf96af1370d213fdcb8f5336e3bc899e2c3e809"), looks := true }, kinds := [], alts := [], laidByText := true, laidKinds := [.listed, .data], laidTests := true, laidLooks := .later }
def DomAllsUptoCardSaid : Prop := Claim7.holds Tryz.pinned (.plain (OpenSpec.upto domAllsSpec)) domAllsUptoCard

/-- THE SECOND FORM's CARD OF 'lacunalaw03.DomWrites'. -/
def domWritesUptoCard : Claim7 := { stood := { row := domWritesUptoRow, standIns := [], harness := (true, "20ce774a766cb757f62fab7aabf96af1370d213fdcb8f5336e3bc899e2c3e809"), looks := true }, kinds := [], alts := [], laidByText := true, laidKinds := [.listed, .data], laidTests := true, laidLooks := .later }
def DomWritesUptoCardSaid : Prop := Claim7.holds Tryz.pinned (.plain (OpenSpec.upto domWritesSpec)) domWritesUptoCard

/-- THE SECOND FORM's CARD OF 'lacunalaw03.DomTidy'. -/
def domTidyUptoCard : Claim7 := { stood := { row := domTidyUptoRow, standIns := [], harness := (true, "20ce774a766cb757f62fab7aabf96af1370d213fdcb8f5336e3bc899e2c3e809"), looks := true }, kinds := [], alts := [], laidByText := true, laidKinds := [.listed, .data], laidTests := true, laidLooks := .later }
def DomTidyUptoCardSaid : Prop := Claim7.holds Tryz.pinned (.plain (OpenSpec.upto domTidySpec)) domTidyUptoCard

/-- THE SECOND FORM's CARD OF 'lacunalaw03.DomTidies'. -/
def domTidiesUptoCard : Claim7 := { stood := { row := domTidiesUptoRow, standIns := [], harness := (true, "20ce774a766cb757f62fab7aabf96af1370d213fdcb8f5336e3bc899e2c3e809"), looks := true }, kinds := [], alts := [], laidByText := true, laidKinds := [.listed, .data], laidTests := true, laidLooks := .later }
def DomTidiesUptoCardSaid : Prop := Claim7.holds Tryz.pinned (.plain (OpenSpec.upto domTidiesSpec)) domTidiesUptoCard

/-- THE SECOND FORM's CARD OF 'lacunalaw03.DomEscapes'. -/
def domEscapesUptoCard : Claim7 := { stood := { row := domEscapesUptoRow, standIns := [], harness := (true, "20ce774a766cb757f62fab7aabf96af1370d213fdcb8f5336e3bc899e2c3e809"), looks := true }, kinds := [], alts := [], laidByText := true, laidKinds := [.data, .data, .data, .data, .sentinel, .sentinel, .listed, .data, .data, .pinned], laidTests := true, laidLooks := .later }
def DomEscapesUptoCardSaid : Prop := Claim7.holds Tryz.pinned (.plain (OpenSpec.upto domEscapesSpec)) domEscapesUptoCard
end Rows
end Go.Proofs.YtagkdmolgmhmdaaGreatDoor
