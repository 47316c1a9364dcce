/-
  DERIVED. GIVEN WITH THE SEED: THE CARDS: each row of YtngccmlcopcghaaGreatDoorRows.lean that lists a variable, with what it lists TIED to the program's text (the seventh form; the later family's looks); each row that meets fmt, with fmt's text TOLD by the authors' own Lean function (tested against real Go, not proved from fmt's source: count such statements apart). THE CARD IS WHAT COUNTS. Prove the row's statement (the work); the ties are given (YtngccmlcopcghaaGreatDoorTie.lean); close each card by the builder's one call (the guide's Derived/Test/ToyasCard.lean, 'card_holds'). Laid BY PROGRAM, IN A SANDBOX (cutbox-door.mjs). By AI agents, Wed Nov 11 2026. No macro, syntax, notation, axiom, sorry.
-/
import Derived.Test.YtngccmlcopcghaaGreatDoorRows
import GoSem.ClaimSeven
namespace Go.Proofs.YtngccmlcopcghaaGreatDoor
namespace Rows

/-- THE TIED CARD OF 'lacunalaw17.JsTokens'. -/
def jsTokensCard : Claim7 := { stood := { row := jsTokensRow, standIns := [], harness := (true, "f09e2fd505e12ae46653f3aeff26d452eba850c382ae274520c2291adeaeae4e"), looks := true }, kinds := [], alts := [], laidByText := true, laidKinds := [.data, .data, .data, .data, .sentinel, .sentinel, .listed, .data, .pinned], laidTests := true, laidLooks := .later }
def JsTokensCardSaid : Prop := Claim7.holds Tryz.pinned (.plain (OpenSpec.ofChange jsTokensSpec)) jsTokensCard

/-- THE TIED CARD OF 'lacunalaw17.JsJoins'. -/
def jsJoinsCard : Claim7 := { stood := { row := jsJoinsRow, standIns := [], harness := (true, "f09e2fd505e12ae46653f3aeff26d452eba850c382ae274520c2291adeaeae4e"), looks := true }, kinds := [], alts := [], laidByText := true, laidKinds := [.data, .data, .data, .data, .sentinel, .sentinel, .listed, .data, .pinned], laidTests := true, laidLooks := .later }
def JsJoinsCardSaid : Prop := Claim7.holds Tryz.pinned (.plain (OpenSpec.ofChange jsJoinsSpec)) jsJoinsCard

/-- THE TIED CARD OF 'lacunalaw17.JsValues'. -/
def jsValuesCard : Claim7 := { stood := { row := jsValuesRow, standIns := [], harness := (true, "f09e2fd505e12ae46653f3aeff26d452eba850c382ae274520c2291adeaeae4e"), looks := true }, kinds := [], alts := [], laidByText := true, laidKinds := [.data, .data, .data, .data, .sentinel, .sentinel, .listed, .data, .pinned], laidTests := true, laidLooks := .later }
def JsValuesCardSaid : Prop := Claim7.holds Tryz.pinned (.plain (OpenSpec.ofChange jsValuesSpec)) jsValuesCard

/-- THE TIED CARD OF 'lacunalaw17.JsAgain'. -/
def jsAgainCard : Claim7 := { stood := { row := jsAgainRow, standIns := [], harness := (true, "f09e2fd505e12ae46653f3aeff26d452eba850c382ae274520c2291adeaeae4e"), looks := true }, kinds := [], alts := [], laidByText := true, laidKinds := [.data, .data, .data, .data, .sentinel, .sentinel, .listed, .data, .pinned], laidTests := true, laidLooks := .later }
def JsAgainCardSaid : Prop := Claim7.holds Tryz.pinned (.plain (OpenSpec.ofChange jsAgainSpec)) jsAgainCard

/-- THE SECOND FORM's CARD OF 'lacunalaw17.JsTokens'. -/
def jsTokensUptoCard : Claim7 := { stood := { row := jsTokensUptoRow, standIns := [], harness := (true, "f09e2fd505e12ae46653f3aeff26d452eba850c382ae274520c2291adeaeae4e"), looks := true }, kinds := [], alts := [], laidByText := true, laidKinds := [.data, .data, .data, .data, .sentinel, .sentinel, .listed, .data, .pinned], laidTests := true, laidLooks := .later }
def JsTokensUptoCardSaid : Prop := Claim7.holds Tryz.pinned (.plain (OpenSpec.upto jsTokensSpec)) jsTokensUptoCard

/-- THE SECOND FORM's CARD OF 'lacunalaw17.JsJoins'. -/
def jsJoinsUptoCard : Claim7 := { stood := { row := jsJoinsUptoRow, standIns := [], harness := (true, "f09e2fd505e12ae46653f3aeff26d452eba850c382ae274520c2291adeaeae4e"), looks := true }, kinds := [], alts := [], laidByText := true, laidKinds := [.data, .data, .data, .data, .sentinel, .sentinel, .listed, .data, .pinned], laidTests := true, laidLooks := .later }
def JsJoinsUptoCardSaid : Prop := Claim7.holds Tryz.pinned (.plain (OpenSpec.upto jsJoinsSpec)) jsJoinsUptoCard

/-- THE SECOND FORM's CARD OF 'lacunalaw17.JsValues'. -/
def jsValuesUptoCard : Claim7 := { stood := { row := jsValuesUptoRow, standIns := [], harness := (true, "f09e2fd505e12ae46653f3aeff26d452eba850c382ae274520c2291adeaeae4e"), looks := true }, kinds := [], alts := [], laidByText := true, laidKinds := [.data, .data, .data, .data, .sentinel, .sentinel, .listed, .data, .pinned], laidTests := true, laidLooks := .later }
def JsValuesUptoCardSaid : Prop := Claim7.holds Tryz.pinned (.plain (OpenSpec.upto jsValuesSpec)) jsValuesUptoCard

/-- THE SECOND FORM's CARD OF 'lacunalaw17.JsAgain'. -/
def jsAgainUptoCard : Claim7 := { stood := { row := jsAgainUptoRow, standIns := [], harness := (true, "f09e2fd505e12ae46653f3aeff26d452eba850c382ae274520c2291adeaeae4e"), looks := true }, kinds := [], alts := [], laidByText := true, laidKinds := [.data, .data, .data, .data, .sentinel, .sentinel, .listed, .data, .pinned], laidTests := true, laidLooks := .later }
def JsAgainUptoCardSaid : Prop := Claim7.holds Tryz.pinned (.plain (OpenSpec.upto jsAgainSpec)) jsAgainUptoCard
end Rows
end Go.Proofs.YtngccmlcopcghaaGreatDoor
