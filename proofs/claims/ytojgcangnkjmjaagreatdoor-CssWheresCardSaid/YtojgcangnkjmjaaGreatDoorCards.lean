/-
  DERIVED. GIVEN WITH THE SEED: THE CARDS: each row of YtojgcangnkjmjaaGreatDoorRows.lean that lists a variable, with what it lists TIED to the program's text (the seventh form; the later family's looks); each row that meets fmt, with fmt's text TOLD by the authors' own Lean function (tested against real Go, not proved from fmt's source: count such statements apart). THE CARD IS WHAT COUNTS. Prove the row's statement (the work); the ties are given (YtojgcangnkjmjaaGreatDoorTie.lean); close each card by the builder's one call (the guide's Derived/Test/ToyasCard.lean, 'card_holds'). Laid BY PROGRAM, IN A SANDBOX (cutbox-door.mjs). By AI agents, Wed Nov 11 2026. No macro, syntax, notation, axiom, sorry.
-/
import Derived.Test.YtojgcangnkjmjaaGreatDoorRows
import GoSem.ClaimSeven
namespace Go.Proofs.YtojgcangnkjmjaaGreatDoor
namespace Rows

/-- THE TIED CARD OF 'lacunalaw14.CssTokens'. -/
def cssTokensCard : Claim7 := { stood := { row := cssTokensRow, standIns := [], harness := (true, "ee939ef8ec2684ef4cc021a5b5c50ca0aa00fb325af9ca8a0706efebabab7633"), looks := true }, kinds := [], alts := [], laidByText := true, laidKinds := [.data, .data, .data, .data, .sentinel, .sentinel, .pinned], laidTests := true, laidLooks := .later }
def CssTokensCardSaid : Prop := Claim7.holds Tryz.pinned (.plain (OpenSpec.ofChange cssTokensSpec)) cssTokensCard

/-- THE TIED CARD OF 'lacunalaw14.CssWords'. -/
def cssWordsCard : Claim7 := { stood := { row := cssWordsRow, standIns := [], harness := (true, "ee939ef8ec2684ef4cc021a5b5c50ca0aa00fb325af9ca8a0706efebabab7633"), looks := true }, kinds := [], alts := [], laidByText := true, laidKinds := [.data, .data, .data, .data, .sentinel, .sentinel, .pinned], laidTests := true, laidLooks := .later }
def CssWordsCardSaid : Prop := Claim7.holds Tryz.pinned (.plain (OpenSpec.ofChange cssWordsSpec)) cssWordsCard

/-- THE TIED CARD OF 'lacunalaw14.CssWheres'. -/
def cssWheresCard : Claim7 := { stood := { row := cssWheresRow, standIns := [], harness := (true, "ee939ef8ec2684ef4cc021a5b5c50ca0aa00fb325af9ca8a0706efebabab7633"), looks := true }, kinds := [], alts := [], laidByText := true, laidKinds := [.data, .data, .data, .data, .sentinel, .sentinel, .pinned], laidTests := true, laidLooks := .later }
def CssWheresCardSaid : Prop := Claim7.holds Tryz.pinned (.plain (OpenSpec.ofChange cssWheresSpec)) cssWheresCard

/-- THE TIED CARD OF 'lacunalaw14.CssJoins'. -/
def cssJoinsCard : Claim7 := { stood := { row := cssJoinsRow, standIns := [], harness := (true, "ee939ef8ec2684ef4cc021a5b5c50ca0aa00fb325af9ca8a0706efebabab7633"), looks := true }, kinds := [], alts := [], laidByText := true, laidKinds := [.data, .data, .data, .data, .sentinel, .sentinel, .pinned], laidTests := true, laidLooks := .later }
def CssJoinsCardSaid : Prop := Claim7.holds Tryz.pinned (.plain (OpenSpec.ofChange cssJoinsSpec)) cssJoinsCard

/-- THE TIED CARD OF 'lacunalaw14.CssQuoted'. -/
def cssQuotedCard : Claim7 := { stood := { row := cssQuotedRow, standIns := [], harness := (true, "ee939ef8ec2684ef4cc021a5b5c50ca0aa00fb325af9ca8a0706efebabab7633"), looks := true }, kinds := [], alts := [], laidByText := true, laidKinds := [.data, .data, .data, .data, .sentinel, .sentinel, .pinned], laidTests := true, laidLooks := .later }
def CssQuotedCardSaid : Prop := Claim7.holds Tryz.pinned (.plain (OpenSpec.ofChange cssQuotedSpec)) cssQuotedCard

/-- THE TIED CARD OF 'lacunalaw14.CssStates'. -/
def cssStatesCard : Claim7 := { stood := { row := cssStatesRow, standIns := [], harness := (true, "ee939ef8ec2684ef4cc021a5b5c50ca0aa00fb325af9ca8a0706efebabab7633"), looks := true }, kinds := [], alts := [], laidByText := true, laidKinds := [.data, .data, .data, .data, .sentinel, .sentinel, .pinned], laidTests := true, laidLooks := .later }
def CssStatesCardSaid : Prop := Claim7.holds Tryz.pinned (.plain (OpenSpec.ofChange cssStatesSpec)) cssStatesCard

/-- THE SECOND FORM's CARD OF 'lacunalaw14.CssTokens'. -/
def cssTokensUptoCard : Claim7 := { stood := { row := cssTokensUptoRow, standIns := [], harness := (true, "ee939ef8ec2684ef4cc021a5b5c50ca0aa00fb325af9ca8a0706efebabab7633"), looks := true }, kinds := [], alts := [], laidByText := true, laidKinds := [.data, .data, .data, .data, .sentinel, .sentinel, .pinned], laidTests := true, laidLooks := .later }
def CssTokensUptoCardSaid : Prop := Claim7.holds Tryz.pinned (.plain (OpenSpec.upto cssTokensSpec)) cssTokensUptoCard

/-- THE SECOND FORM's CARD OF 'lacunalaw14.CssWords'. -/
def cssWordsUptoCard : Claim7 := { stood := { row := cssWordsUptoRow, standIns := [], harness := (true, "ee939ef8ec2684ef4cc021a5b5c50ca0aa00fb325af9ca8a0706efebabab7633"), looks := true }, kinds := [], alts := [], laidByText := true, laidKinds := [.data, .data, .data, .data, .sentinel, .sentinel, .pinned], laidTests := true, laidLooks := .later }
def CssWordsUptoCardSaid : Prop := Claim7.holds Tryz.pinned (.plain (OpenSpec.upto cssWordsSpec)) cssWordsUptoCard

/-- THE SECOND FORM's CARD OF 'lacunalaw14.CssWheres'. -/
def cssWheresUptoCard : Claim7 := { stood := { row := cssWheresUptoRow, standIns := [], harness := (true, "ee939ef8ec2684ef4cc021a5b5c50ca0aa00fb325af9ca8a0706efebabab7633"), looks := true }, kinds := [], alts := [], laidByText := true, laidKinds := [.data, .data, .data, .data, .sentinel, .sentinel, .pinned], laidTests := true, laidLooks := .later }
def CssWheresUptoCardSaid : Prop := Claim7.holds Tryz.pinned (.plain (OpenSpec.upto cssWheresSpec)) cssWheresUptoCard

/-- THE SECOND FORM's CARD OF 'lacunalaw14.CssJoins'. -/
def cssJoinsUptoCard : Claim7 := { stood := { row := cssJoinsUptoRow, standIns := [], harness := (true, "ee939ef8ec2684ef4cc021a5b5c50ca0aa00fb325af9ca8a0706efebabab7633"), looks := true }, kinds := [], alts := [], laidByText := true, laidKinds := [.data, .data, .data, .data, .sentinel, .sentinel, .pinned], laidTests := true, laidLooks := .later }
def CssJoinsUptoCardSaid : Prop := Claim7.holds Tryz.pinned (.plain (OpenSpec.upto cssJoinsSpec)) cssJoinsUptoCard

/-- THE SECOND FORM's CARD OF 'lacunalaw14.CssQuoted'. -/
def cssQuotedUptoCard : Claim7 := { stood := { row := cssQuotedUptoRow, standIns := [], harness := (true, "ee939ef8ec2684ef4cc021a5b5c50ca0aa00fb325af9ca8a0706efebabab7633"), looks := true }, kinds := [], alts := [], laidByText := true, laidKinds := [.data, .data, .data, .data, .sentinel, .sentinel, .pinned], laidTests := true, laidLooks := .later }
def CssQuotedUptoCardSaid : Prop := Claim7.holds Tryz.pinned (.plain (OpenSpec.upto cssQuotedSpec)) cssQuotedUptoCard

/-- THE SECOND FORM's CARD OF 'lacunalaw14.CssStates'. -/
def cssStatesUptoCard : Claim7 := { stood := { row := cssStatesUptoRow, standIns := [], harness := (true, "ee939ef8ec2684ef4cc021a5b5c50ca0aa00fb325af9ca8a0706efebabab7633"), looks := true }, kinds := [], alts := [], laidByText := true, laidKinds := [.data, .data, .data, .data, .sentinel, .sentinel, .pinned], laidTests := true, laidLooks := .later }
def CssStatesUptoCardSaid : Prop := Claim7.holds Tryz.pinned (.plain (OpenSpec.upto cssStatesSpec)) cssStatesUptoCard
end Rows
end Go.Proofs.YtojgcangnkjmjaaGreatDoor
