/- How a tree is shown, plainly. -/
import Derived.Test.YtagkdmolgmhmdaaGreatDoorPl
import Derived.Test.YtagkdmolgmhmdaaGreatDoorSd
namespace Go.Proofs.YtagkdmolgmhmdaaGreatDoor
open Go.RowKit

def quotedP (s : List UInt8) : List UInt8 := 34 :: (bareP s ++ [34])
def wDoc : List UInt8 := [35, 100, 111, 99, 117, 109, 101, 110, 116]
def partsA (a : Dm.A) : List (List UInt8) := [[32, 32, 64], bareP a.sp, [58], bareP a.nm, [61], quotedP a.vl]
def partsD (d : Dm.D) : List (List UInt8) :=
  if d.kd = 1 then [wDoc]
  else if d.kd = 2 then [[33], quotedP d.nm, [32], quotedP d.pb, [32], quotedP d.sy]
  else if d.kd = 3 then [[60], bareP d.sp, [58], bareP d.nm]
  else if d.kd = 4 then [quotedP d.tx]
  else if d.kd = 5 then [[45, 45], quotedP d.tx]
  else [[63]]
def lineP (ind : List UInt8) (l : List (List UInt8)) : List UInt8 := ind ++ l.flatten ++ [10]
def linesA (ind : List UInt8) (l : List Dm.A) : List UInt8 := l.flatMap fun a => lineP ind (partsA a)
/-- a node's own lines -/
def headP (ind : List UInt8) (d : Dm.D) : List UInt8 := lineP ind (partsD d) ++ (if d.kd = 3 then linesA ind d.ats else [])
mutual
def showT (ind : List UInt8) : Dm.T → List UInt8
  | .mk d ks => headP ind d ++ showK (ind ++ [32, 32]) ks
def showK (ind : List UInt8) : List Dm.T → List UInt8
  | [] => []
  | t :: r => showT ind t ++ showK ind r
end
theorem showK_append (ind : List UInt8) (l m : List Dm.T) : showK ind (l ++ m) = showK ind l ++ showK ind m := by
  induction l with
  | nil => simp [showK]
  | cons a l ih => simp only [List.cons_append, showK, ih, List.append_assoc]
theorem showK_take (ind : List UInt8) (l : List Dm.T) (i : Nat) (t : Dm.T) (h : l[i]? = some t) : showK ind (l.take (i + 1)) = showK ind (l.take i) ++ showT ind t := by
  rw [List.take_add_one, h, showK_append]
  simp [showK]
theorem showK_le (ind : List UInt8) (l : List Dm.T) (i : Nat) : (showK ind (l.take i)).length ≤ (showK ind l).length := by
  have := showK_append ind (l.take i) (l.drop i)
  rw [List.take_append_drop] at this
  rw [this, List.length_append]
  omega
theorem linesA_take (ind : List UInt8) (l : List Dm.A) (i : Nat) (a : Dm.A) (h : l[i]? = some a) : linesA ind (l.take (i + 1)) = linesA ind (l.take i) ++ lineP ind (partsA a) := by
  unfold linesA
  rw [List.take_add_one, h, List.flatMap_append]
  simp
theorem linesA_le (ind : List UInt8) (l : List Dm.A) (i : Nat) : (linesA ind (l.take i)).length ≤ (linesA ind l).length := by
  have : linesA ind l = linesA ind (l.take i) ++ linesA ind (l.drop i) := by
    unfold linesA
    rw [← List.flatMap_append, List.take_append_drop]
  rw [this, List.length_append]
  omega
end Go.Proofs.YtagkdmolgmhmdaaGreatDoor
