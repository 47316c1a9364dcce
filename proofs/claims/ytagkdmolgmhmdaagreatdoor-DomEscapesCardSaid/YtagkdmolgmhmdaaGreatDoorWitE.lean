/- What DomEscapes' row lists: the witness's world, and what its premises say of the variables. -/
import Derived.Test.YtagkdmolgmhmdaaGreatDoorWit
import Derived.Test.YtagkdmolgmhmdaaGreatDoorEnE
namespace Go.Proofs.YtagkdmolgmhmdaaGreatDoor.escapes
open Go.ChangeShapes Go.WideShapes Go.ChangeAt Go.RowKit

/-- a world that holds what the listed variables' initialisers lay -/
noncomputable def laidWorld (os : Os) : World := World.laidAll Tryz.prog os Rows.domEscapesRow.laid
theorem laidWorld_os (os : Os) : (laidWorld os).os = os := World.laidAll_os _ _ _
set_option maxRecDepth 100000 in
theorem laid_met (os : Os) (args : Array Value) : laidMet Tryz.prog Rows.domEscapesRow.laid ((laidWorld os).forCall (fun _ _ => 0) ⟨#[], args, []⟩).memory :=
  laidMet_laidAll args (by kernel_rfl) (by kernel_rfl)
structure TabE (W : World) : Prop where
  dom : Tab W
  ent : En.Tab W
theorem tab_of {W : World} (hl : laidMetH Tryz.prog Rows.domEscapesRow.laid W) (hs : W.ShapedOpen Tryz.prog) : TabE W := by
  rw [MakeChecks.laidMetH_plain _ _ _ (by kernel_rfl)] at hl
  have h0 := hl.filter fun x => x.1 == "strings.asciiSpace"
  have h1 : laidMet Tryz.prog [("strings.asciiSpace", Lib.tabData .u8 Lib.asciiSpaceTab)] W := by
    have e : Rows.domEscapesRow.laid.filter (fun x => x.1 == "strings.asciiSpace") = [("strings.asciiSpace", Lib.tabData .u8 Lib.asciiSpaceTab)] := by kernel_rfl
    rwa [e] at h0
  have h00 := hl.filter fun x => x.1 == "lacuna/entity.windows"
  have h2 : laidMet Tryz.prog [("lacuna/entity.windows", Lib.tabData .i32 En.Entp.windows)] W := by
    have e : Rows.domEscapesRow.laid.filter (fun x => x.1 == "lacuna/entity.windows") = [("lacuna/entity.windows", Lib.tabData .i32 En.Entp.windows)] := by kernel_rfl
    rwa [e] at h00
  have h3 := Lib.tabIs_of_head (P := Tryz.prog) (g := 1) (by kernel_rfl) (by kernel_rfl) Tryz.underlying99 Tryz.underlying21 (by kernel_rfl) (by kernel_rfl) h2
  refine ⟨⟨Lib.tabIs_of_head (P := Tryz.prog) (g := 0) (by kernel_rfl) (by kernel_rfl) Tryz.underlying87 Tryz.underlying5 (by kernel_rfl) (by kernel_rfl) h1⟩, fun i z hz => ?_, Tryz.laysM143.s1_3 W hs⟩
  have hlt : i < En.Entp.windows.length := by
    rcases Nat.lt_or_ge i En.Entp.windows.length with h' | h'
    · exact h'
    · rw [List.getElem?_eq_none h'] at hz; cases hz
  have := h3.cell (g := 1) (by kernel_rfl) i hlt
  rw [this, List.getD_eq_getElem?_getD, hz]
  rfl
end Go.Proofs.YtagkdmolgmhmdaaGreatDoor.escapes
