/-
  DERIVED. GIVEN WITH THE SEED: THE CARDS: each row of YtahjndignkhmoaaGreatDoorRows.lean that lists a variable, with what it lists TIED to the program's text (the seventh form; the later family's looks); each row that meets fmt, with fmt's text TOLD by the authors' own Lean function (tested against real Go, not proved from fmt's source: count such statements apart). THE CARD IS WHAT COUNTS. Prove the row's statement (the work); the ties are given (YtahjndignkhmoaaGreatDoorTie.lean); close each card by the builder's one call (the guide's Derived/Test/ToyasCard.lean, 'card_holds'). Laid BY PROGRAM, IN A SANDBOX (cutbox-door.mjs). By AI agents, Wed Nov 11 2026. No macro, syntax, notation, axiom, sorry.
-/
import Derived.Test.YtahjndignkhmoaaGreatDoorRows
import GoSem.ClaimSeven
namespace Go.Proofs.YtahjndignkhmoaaGreatDoor
namespace Rows

/-- THE TIED CARD OF 'lacunalaw11.HostParses'. -/
def hostParsesCard : Claim7 := { stood := { row := hostParsesRow, standIns := [], harness := (true, "7d982e20582253a041c992d0650fb9d69df80f915616dba443d93d1cf2cb4223"), looks := true }, kinds := [], alts := [], laidByText := true, laidKinds := [.data, .data, .data, .data, .sentinel, .sentinel, .pinned], laidTests := true, laidLooks := .later }
def HostParsesCardSaid : Prop := Claim7.holds Tryz.pinned (.plain (OpenSpec.ofChange hostParsesSpec)) hostParsesCard

/-- THE TIED CARD OF 'lacunalaw11.HostBack'. -/
def hostBackCard : Claim7 := { stood := { row := hostBackRow, standIns := [], harness := (true, "7d982e20582253a041c992d0650fb9d69df80f915616dba443d93d1cf2cb4223"), looks := true }, kinds := [], alts := [], laidByText := true, laidKinds := [.data, .data, .data, .data, .sentinel, .sentinel, .pinned], laidTests := true, laidLooks := .later }
def HostBackCardSaid : Prop := Claim7.holds Tryz.pinned (.plain (OpenSpec.ofChange hostBackSpec)) hostBackCard

/-- THE TIED CARD OF 'lacunalaw11.HostNumbers'. -/
def hostNumbersCard : Claim7 := { stood := { row := hostNumbersRow, standIns := [], harness := (true, "7d982e20582253a041c992d0650fb9d69df80f915616dba443d93d1cf2cb4223"), looks := true }, kinds := [], alts := [], laidByText := true, laidKinds := [.data, .data, .data, .data, .sentinel, .sentinel, .pinned], laidTests := true, laidLooks := .later }
def HostNumbersCardSaid : Prop := Claim7.holds Tryz.pinned (.plain (OpenSpec.ofChange hostNumbersSpec)) hostNumbersCard

/-- THE TIED CARD OF 'lacunalaw11.HostCase'. -/
def hostCaseCard : Claim7 := { stood := { row := hostCaseRow, standIns := [], harness := (true, "7d982e20582253a041c992d0650fb9d69df80f915616dba443d93d1cf2cb4223"), looks := true }, kinds := [], alts := [], laidByText := true, laidKinds := [.data, .data, .data, .data, .sentinel, .sentinel, .pinned], laidTests := true, laidLooks := .later }
def HostCaseCardSaid : Prop := Claim7.holds Tryz.pinned (.plain (OpenSpec.ofChange hostCaseSpec)) hostCaseCard

/-- THE SECOND FORM's CARD OF 'lacunalaw11.HostParses'. -/
def hostParsesUptoCard : Claim7 := { stood := { row := hostParsesUptoRow, standIns := [], harness := (true, "7d982e20582253a041c992d0650fb9d69df80f915616dba443d93d1cf2cb4223"), looks := true }, kinds := [], alts := [], laidByText := true, laidKinds := [.data, .data, .data, .data, .sentinel, .sentinel, .pinned], laidTests := true, laidLooks := .later }
def HostParsesUptoCardSaid : Prop := Claim7.holds Tryz.pinned (.plain (OpenSpec.upto hostParsesSpec)) hostParsesUptoCard

/-- THE SECOND FORM's CARD OF 'lacunalaw11.HostBack'. -/
def hostBackUptoCard : Claim7 := { stood := { row := hostBackUptoRow, standIns := [], harness := (true, "7d982e20582253a041c992d0650fb9d69df80f915616dba443d93d1cf2cb4223"), looks := true }, kinds := [], alts := [], laidByText := true, laidKinds := [.data, .data, .data, .data, .sentinel, .sentinel, .pinned], laidTests := true, laidLooks := .later }
def HostBackUptoCardSaid : Prop := Claim7.holds Tryz.pinned (.plain (OpenSpec.upto hostBackSpec)) hostBackUptoCard

/-- THE SECOND FORM's CARD OF 'lacunalaw11.HostNumbers'. -/
def hostNumbersUptoCard : Claim7 := { stood := { row := hostNumbersUptoRow, standIns := [], harness := (true, "7d982e20582253a041c992d0650fb9d69df80f915616dba443d93d1cf2cb4223"), looks := true }, kinds := [], alts := [], laidByText := true, laidKinds := [.data, .data, .data, .data, .sentinel, .sentinel, .pinned], laidTests := true, laidLooks := .later }
def HostNumbersUptoCardSaid : Prop := Claim7.holds Tryz.pinned (.plain (OpenSpec.upto hostNumbersSpec)) hostNumbersUptoCard

/-- THE SECOND FORM's CARD OF 'lacunalaw11.HostCase'. -/
def hostCaseUptoCard : Claim7 := { stood := { row := hostCaseUptoRow, standIns := [], harness := (true, "7d982e20582253a041c992d0650fb9d69df80f915616dba443d93d1cf2cb4223"), looks := true }, kinds := [], alts := [], laidByText := true, laidKinds := [.data, .data, .data, .data, .sentinel, .sentinel, .pinned], laidTests := true, laidLooks := .later }
def HostCaseUptoCardSaid : Prop := Claim7.holds Tryz.pinned (.plain (OpenSpec.upto hostCaseSpec)) hostCaseUptoCard
end Rows
end Go.Proofs.YtahjndignkhmoaaGreatDoor
