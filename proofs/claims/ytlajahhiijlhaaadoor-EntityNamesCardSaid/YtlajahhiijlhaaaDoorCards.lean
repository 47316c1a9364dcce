/-
  DERIVED. GIVEN WITH THE SEED: THE CARDS: each row of YtlajahhiijlhaaaDoorRows.lean that lists a variable, with what it lists TIED to the program's text (the seventh form; the later family's looks); each row that meets fmt, with fmt's text TOLD by the authors' own Lean function (tested against real Go, not proved from fmt's source: count such statements apart). THE CARD IS WHAT COUNTS. Prove the row's statement (the work); the ties are given (YtlajahhiijlhaaaDoorTie.lean); close each card by the builder's one call (the guide's Derived/Test/ToyasCard.lean, 'card_holds'). Laid BY PROGRAM, IN A SANDBOX (cutbox-door.mjs). By AI agents, Wed Nov 11 2026. No macro, syntax, notation, axiom, sorry.
-/
import Derived.Test.YtlajahhiijlhaaaDoorRows
import GoSem.ClaimSeven
namespace Go.Proofs.YtlajahhiijlhaaaDoor
namespace Rows

/-- THE TIED CARD OF 'lacunalaw02.EntityRefs'. -/
def entityRefsCard : Claim7 := { stood := { row := entityRefsRow, standIns := [], harness := (true, "30f7cd494f86dd728f0c328cf0d281e2527e4a5a4c349d27dea06598a7ad761b"), looks := true }, kinds := [], alts := [], laidByText := true, laidKinds := [.data, .data, .data, .data, .sentinel, .sentinel, .data, .pinned], laidTests := true, laidLooks := .later }
def EntityRefsCardSaid : Prop := Claim7.holds Tryd.pinned (.plain (OpenSpec.ofChange entityRefsSpec)) entityRefsCard

/-- THE TIED CARD OF 'lacunalaw02.EntityDecodes'. -/
def entityDecodesCard : Claim7 := { stood := { row := entityDecodesRow, standIns := [], harness := (true, "30f7cd494f86dd728f0c328cf0d281e2527e4a5a4c349d27dea06598a7ad761b"), looks := true }, kinds := [], alts := [], laidByText := true, laidKinds := [.data, .data, .data, .data, .sentinel, .sentinel, .data, .pinned], laidTests := true, laidLooks := .later }
def EntityDecodesCardSaid : Prop := Claim7.holds Tryd.pinned (.plain (OpenSpec.ofChange entityDecodesSpec)) entityDecodesCard

/-- THE TIED CARD OF 'lacunalaw02.EntityPlain'. -/
def entityPlainCard : Claim7 := { stood := { row := entityPlainRow, standIns := [], harness := (true, "30f7cd494f86dd728f0c328cf0d281e2527e4a5a4c349d27dea06598a7ad761b"), looks := true }, kinds := [], alts := [], laidByText := true, laidKinds := [.data, .data, .data, .data, .sentinel, .sentinel, .data, .pinned], laidTests := true, laidLooks := .later }
def EntityPlainCardSaid : Prop := Claim7.holds Tryd.pinned (.plain (OpenSpec.ofChange entityPlainSpec)) entityPlainCard

/-- THE TIED CARD OF 'lacunalaw02.EntityNames'. -/
def entityNamesCard : Claim7 := { stood := { row := entityNamesRow, standIns := [], harness := (true, "30f7cd494f86dd728f0c328cf0d281e2527e4a5a4c349d27dea06598a7ad761b"), looks := true }, kinds := [], alts := [], laidByText := true, laidKinds := [.data, .data, .data, .data, .sentinel, .sentinel, .data, .pinned], laidTests := true, laidLooks := .later }
def EntityNamesCardSaid : Prop := Claim7.holds Tryd.pinned (.plain (OpenSpec.ofChange entityNamesSpec)) entityNamesCard

/-- THE TIED CARD OF 'lacunalaw02.EntitySure'. -/
def entitySureCard : Claim7 := { stood := { row := entitySureRow, standIns := [], harness := (true, "30f7cd494f86dd728f0c328cf0d281e2527e4a5a4c349d27dea06598a7ad761b"), looks := true }, kinds := [], alts := [], laidByText := true, laidKinds := [.data, .data, .data, .data, .sentinel, .sentinel, .data, .pinned], laidTests := true, laidLooks := .later }
def EntitySureCardSaid : Prop := Claim7.holds Tryd.pinned (.plain (OpenSpec.ofChange entitySureSpec)) entitySureCard

/-- THE SECOND FORM's CARD OF 'lacunalaw02.EntityRefs'. -/
def entityRefsUptoCard : Claim7 := { stood := { row := entityRefsUptoRow, standIns := [], harness := (true, "30f7cd494f86dd728f0c328cf0d281e2527e4a5a4c349d27dea06598a7ad761b"), looks := true }, kinds := [], alts := [], laidByText := true, laidKinds := [.data, .data, .data, .data, .sentinel, .sentinel, .data, .pinned], laidTests := true, laidLooks := .later }
def EntityRefsUptoCardSaid : Prop := Claim7.holds Tryd.pinned (.plain (OpenSpec.upto entityRefsSpec)) entityRefsUptoCard

/-- THE SECOND FORM's CARD OF 'lacunalaw02.EntityDecodes'. -/
def entityDecodesUptoCard : Claim7 := { stood := { row := entityDecodesUptoRow, standIns := [], harness := (true, "30f7cd494f86dd728f0c328cf0d281e2527e4a5a4c349d27dea06598a7ad761b"), looks := true }, kinds := [], alts := [], laidByText := true, laidKinds := [.data, .data, .data, .data, .sentinel, .sentinel, .data, .pinned], laidTests := true, laidLooks := .later }
def EntityDecodesUptoCardSaid : Prop := Claim7.holds Tryd.pinned (.plain (OpenSpec.upto entityDecodesSpec)) entityDecodesUptoCard

/-- THE SECOND FORM's CARD OF 'lacunalaw02.EntityPlain'. -/
def entityPlainUptoCard : Claim7 := { stood := { row := entityPlainUptoRow, standIns := [], harness := (true, "30f7cd494f86dd728f0c328cf0d281e2527e4a5a4c349d27dea06598a7ad761b"), looks := true }, kinds := [], alts := [], laidByText := true, laidKinds := [.data, .data, .data, .data, .sentinel, .sentinel, .data, .pinned], laidTests := true, laidLooks := .later }
def EntityPlainUptoCardSaid : Prop := Claim7.holds Tryd.pinned (.plain (OpenSpec.upto entityPlainSpec)) entityPlainUptoCard

/-- THE SECOND FORM's CARD OF 'lacunalaw02.EntityNames'. -/
def entityNamesUptoCard : Claim7 := { stood := { row := entityNamesUptoRow, standIns := [], harness := (true, "30f7cd494f86dd728f0c328cf0d281e2527e4a5a4c349d27dea06598a7ad761b"), looks := true }, kinds := [], alts := [], laidByText := true, laidKinds := [.data, .data, .data, .data, .sentinel, .sentinel, .data, .pinned], laidTests := true, laidLooks := .later }
def EntityNamesUptoCardSaid : Prop := Claim7.holds Tryd.pinned (.plain (OpenSpec.upto entityNamesSpec)) entityNamesUptoCard

/-- THE SECOND FORM's CARD OF 'lacunalaw02.EntitySure'. -/
def entitySureUptoCard : Claim7 := { stood := { row := entitySureUptoRow, standIns := [], harness := (true, "30f7cd494f86dd728f0c328cf0d281e2527e4a5a4c349d27dea06598a7ad761b"), looks := true }, kinds := [], alts := [], laidByText := true, laidKinds := [.data, .data, .data, .data, .sentinel, .sentinel, .data, .pinned], laidTests := true, laidLooks := .later }
def EntitySureUptoCardSaid : Prop := Claim7.holds Tryd.pinned (.plain (OpenSpec.upto entitySureSpec)) entitySureUptoCard
end Rows
end Go.Proofs.YtlajahhiijlhaaaDoor
