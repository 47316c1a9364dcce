/- How a tree is written as HTML, plainly. -/
import Derived.Test.YtagkdmolgmhmdaaGreatDoorPl
import Derived.Test.YtagkdmolgmhmdaaGreatDoorSf
import Derived.Test.YtagkdmolgmhmdaaGreatDoorSc
namespace Go.Proofs.YtagkdmolgmhmdaaGreatDoor
open Go.RowKit

def escV (v : Bool) (s : List UInt8) : List UInt8 := esc (if v = true then pV else pT) s
def rawOf (d : Dm.D) : Bool := d.kd == 3 && d.sp == Dm.wHtml && raws.contains d.nm
def endless (d : Dm.D) : Bool := d.sp == Dm.wHtml && voids.contains d.nm
def atH (a : Dm.A) : List UInt8 := [32] ++ (if a.sp = [] then [] else a.sp ++ [58]) ++ (a.nm ++ [61, 34] ++ escV true a.vl ++ [34])
def atsH (l : List Dm.A) : List UInt8 := l.flatMap atH
def wType : List UInt8 := [60, 33, 68, 79, 67, 84, 89, 80, 69, 32]
mutual
def oneH (raw : Bool) : Dm.T → List UInt8
  | .mk d ks =>
    if d.kd = 4 then (if raw then d.tx else escV false d.tx)
    else if d.kd = 5 then [60, 33, 45, 45] ++ d.tx ++ [45, 45, 62]
    else if d.kd = 2 then wType ++ d.nm ++ [62]
    else if d.kd = 1 then htmlK (rawOf d) ks
    else if d.kd = 3 then [60] ++ d.nm ++ atsH d.ats ++ [62] ++ (if endless d then [] else htmlK (rawOf d) ks ++ ([60, 47] ++ d.nm ++ [62]))
    else []
def htmlK (raw : Bool) : List Dm.T → List UInt8
  | [] => []
  | t :: r => oneH raw t ++ htmlK raw r
end
/-- the HTML below a node -/
def htmlT (t : Dm.T) : List UInt8 := htmlK (rawOf t.d) t.ks
/-- an element -/
def elemH (t : Dm.T) : List UInt8 := [60] ++ t.d.nm ++ atsH t.d.ats ++ [62] ++ (if endless t.d then [] else htmlT t ++ ([60, 47] ++ t.d.nm ++ [62]))
theorem htmlK_append (raw : Bool) (l m : List Dm.T) : htmlK raw (l ++ m) = htmlK raw l ++ htmlK raw m := by
  induction l with
  | nil => simp [htmlK]
  | cons a l ih => simp only [List.cons_append, htmlK, ih, List.append_assoc]
theorem htmlK_take (raw : Bool) (l : List Dm.T) (i : Nat) (t : Dm.T) (h : l[i]? = some t) : htmlK raw (l.take (i + 1)) = htmlK raw (l.take i) ++ oneH raw t := by
  rw [List.take_add_one, h, htmlK_append]
  simp [htmlK]
theorem htmlK_le (raw : Bool) (l : List Dm.T) (i : Nat) : (htmlK raw (l.take i)).length ≤ (htmlK raw l).length := by
  have := htmlK_append raw (l.take i) (l.drop i)
  rw [List.take_append_drop] at this
  rw [this, List.length_append]
  omega
theorem atsH_take (l : List Dm.A) (i : Nat) (a : Dm.A) (h : l[i]? = some a) : atsH (l.take (i + 1)) = atsH (l.take i) ++ atH a := by
  unfold atsH
  rw [List.take_add_one, h, List.flatMap_append]
  simp
theorem atsH_le (l : List Dm.A) (i : Nat) : (atsH (l.take i)).length ≤ (atsH l).length := by
  have : atsH l = atsH (l.take i) ++ atsH (l.drop i) := by
    unfold atsH
    rw [← List.flatMap_append, List.take_append_drop]
  rw [this, List.length_append]
  omega
theorem oneH_doc {raw : Bool} {t : Dm.T} (h : t.d.kd = 1) : oneH raw t = htmlT t := by
  cases t with
  | mk d ks =>
    have h' : d.kd = 1 := h
    simp [oneH, h', htmlT, Dm.T.d, Dm.T.ks]
theorem oneH_elem {raw : Bool} {t : Dm.T} (h : t.d.kd = 3) : oneH raw t = elemH t := by
  cases t with
  | mk d ks =>
    have h' : d.kd = 3 := h
    simp [oneH, h', elemH, htmlT, Dm.T.d, Dm.T.ks]
    rfl
theorem oneH_text {raw : Bool} {t : Dm.T} (h : t.d.kd = 4) : oneH raw t = if raw then t.d.tx else escV false t.d.tx := by
  cases t with
  | mk d ks =>
    have h' : d.kd = 4 := h
    simp [oneH, h', Dm.T.d]
theorem oneH_comment {raw : Bool} {t : Dm.T} (h : t.d.kd = 5) : oneH raw t = [60, 33, 45, 45] ++ t.d.tx ++ [45, 45, 62] := by
  cases t with
  | mk d ks =>
    have h' : d.kd = 5 := h
    simp [oneH, h', Dm.T.d]
theorem oneH_type {raw : Bool} {t : Dm.T} (h : t.d.kd = 2) : oneH raw t = wType ++ t.d.nm ++ [62] := by
  cases t with
  | mk d ks =>
    have h' : d.kd = 2 := h
    simp [oneH, h', Dm.T.d]
theorem oneH_else {raw : Bool} {t : Dm.T} (h1 : t.d.kd ≠ 1) (h2 : t.d.kd ≠ 2) (h3 : t.d.kd ≠ 3) (h4 : t.d.kd ≠ 4) (h5 : t.d.kd ≠ 5) : oneH raw t = [] := by
  cases t with
  | mk d ks =>
    simp only [Dm.T.d] at h1 h2 h3 h4 h5
    simp [oneH, h1, h2, h3, h4, h5]
end Go.Proofs.YtagkdmolgmhmdaaGreatDoor
