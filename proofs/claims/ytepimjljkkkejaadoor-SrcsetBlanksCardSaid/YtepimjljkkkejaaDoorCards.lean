/-
  DERIVED. GIVEN WITH THE SEED: THE CARDS: each row of YtepimjljkkkejaaDoorRows.lean that lists a variable, with what it lists TIED to the program's text (the seventh form; the later family's looks); each row that meets fmt, with fmt's text TOLD by the authors' own Lean function (tested against real Go, not proved from fmt's source: count such statements apart). THE CARD IS WHAT COUNTS. Prove the row's statement (the work); the ties are given (YtepimjljkkkejaaDoorTie.lean); close each card by the builder's one call (the guide's Derived/Test/ToyasCard.lean, 'card_holds'). Laid BY PROGRAM, IN A SANDBOX (cutbox-door.mjs). By AI agents, Wed Nov 11 2026. No macro, syntax, notation, axiom, sorry.
-/
import Derived.Test.YtepimjljkkkejaaDoorRows
import GoSem.ClaimSeven
namespace Go.Proofs.YtepimjljkkkejaaDoor
namespace Rows

/-- THE TIED CARD OF 'lacunalaw13.SrcsetParses'. -/
def srcsetParsesCard : Claim7 := { stood := { row := srcsetParsesRow, standIns := [], harness := (true, "27c534d6c6cfce28612497c8f90e97fbc05b4ecf67d476a1db6c35c6d42f4f3a"), looks := false }, kinds := [], alts := [], laidByText := true, laidKinds := [.data, .pinned], laidTests := true, laidLooks := .later }
def SrcsetParsesCardSaid : Prop := Claim7.holds Tryd.pinned (.plain (OpenSpec.ofChange srcsetParsesSpec)) srcsetParsesCard

/-- THE TIED CARD OF 'lacunalaw13.SrcsetBack'. -/
def srcsetBackCard : Claim7 := { stood := { row := srcsetBackRow, standIns := [], harness := (true, "27c534d6c6cfce28612497c8f90e97fbc05b4ecf67d476a1db6c35c6d42f4f3a"), looks := false }, kinds := [], alts := [], laidByText := true, laidKinds := [.data, .pinned], laidTests := true, laidLooks := .later }
def SrcsetBackCardSaid : Prop := Claim7.holds Tryd.pinned (.plain (OpenSpec.ofChange srcsetBackSpec)) srcsetBackCard

/-- THE TIED CARD OF 'lacunalaw13.SrcsetUrls'. -/
def srcsetUrlsCard : Claim7 := { stood := { row := srcsetUrlsRow, standIns := [], harness := (true, "27c534d6c6cfce28612497c8f90e97fbc05b4ecf67d476a1db6c35c6d42f4f3a"), looks := false }, kinds := [], alts := [], laidByText := true, laidKinds := [.data, .pinned], laidTests := true, laidLooks := .later }
def SrcsetUrlsCardSaid : Prop := Claim7.holds Tryd.pinned (.plain (OpenSpec.ofChange srcsetUrlsSpec)) srcsetUrlsCard

/-- THE TIED CARD OF 'lacunalaw13.SrcsetBlanks'. -/
def srcsetBlanksCard : Claim7 := { stood := { row := srcsetBlanksRow, standIns := [], harness := (true, "27c534d6c6cfce28612497c8f90e97fbc05b4ecf67d476a1db6c35c6d42f4f3a"), looks := false }, kinds := [], alts := [], laidByText := true, laidKinds := [.data, .pinned], laidTests := true, laidLooks := .later }
def SrcsetBlanksCardSaid : Prop := Claim7.holds Tryd.pinned (.plain (OpenSpec.ofChange srcsetBlanksSpec)) srcsetBlanksCard

/-- THE SECOND FORM's CARD OF 'lacunalaw13.SrcsetParses'. -/
def srcsetParsesUptoCard : Claim7 := { stood := { row := srcsetParsesUptoRow, standIns := [], harness := (true, "27c534d6c6cfce28612497c8f90e97fbc05b4ecf67d476a1db6c35c6d42f4f3a"), looks := false }, kinds := [], alts := [], laidByText := true, laidKinds := [.data, .pinned], laidTests := true, laidLooks := .later }
def SrcsetParsesUptoCardSaid : Prop := Claim7.holds Tryd.pinned (.plain (OpenSpec.upto srcsetParsesSpec)) srcsetParsesUptoCard

/-- THE SECOND FORM's CARD OF 'lacunalaw13.SrcsetBack'. -/
def srcsetBackUptoCard : Claim7 := { stood := { row := srcsetBackUptoRow, standIns := [], harness := (true, "27c534d6c6cfce28612497c8f90e97fbc05b4ecf67d476a1db6c35c6d42f4f3a"), looks := false }, kinds := [], alts := [], laidByText := true, laidKinds := [.data, .pinned], laidTests := true, laidLooks := .later }
def SrcsetBackUptoCardSaid : Prop := Claim7.holds Tryd.pinned (.plain (OpenSpec.upto srcsetBackSpec)) srcsetBackUptoCard

/-- THE SECOND FORM's CARD OF 'lacunalaw13.SrcsetUrls'. -/
def srcsetUrlsUptoCard : Claim7 := { stood := { row := srcsetUrlsUptoRow, standIns := [], harness := (true, "27c534d6c6cfce28612497c8f90e97fbc05b4ecf67d476a1db6c35c6d42f4f3a"), looks := false }, kinds := [], alts := [], laidByText := true, laidKinds := [.data, .pinned], laidTests := true, laidLooks := .later }
def SrcsetUrlsUptoCardSaid : Prop := Claim7.holds Tryd.pinned (.plain (OpenSpec.upto srcsetUrlsSpec)) srcsetUrlsUptoCard

/-- THE SECOND FORM's CARD OF 'lacunalaw13.SrcsetBlanks'. -/
def srcsetBlanksUptoCard : Claim7 := { stood := { row := srcsetBlanksUptoRow, standIns := [], harness := (true, "27c534d6c6cfce28612497c8f90e97fbc05b4ecf67d476a1db6c35c6d42f4f3a"), looks := false }, kinds := [], alts := [], laidByText := true, laidKinds := [.data, .pinned], laidTests := true, laidLooks := .later }
def SrcsetBlanksUptoCardSaid : Prop := Claim7.holds Tryd.pinned (.plain (OpenSpec.upto srcsetBlanksSpec)) srcsetBlanksUptoCard
end Rows
end Go.Proofs.YtepimjljkkkejaaDoor
