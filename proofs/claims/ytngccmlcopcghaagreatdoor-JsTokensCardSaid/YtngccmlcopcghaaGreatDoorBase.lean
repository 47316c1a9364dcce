/- Words and small laws of mine for the walks: strings as lists of bytes in the walk's own rules; a post behind a name. -/
import Derived.Test.YtngccmlcopcghaaGreatDoorProg
import Derived.WalkKit
import Derived.WalkLawsBesides
import Derived.WalkSpells
import Derived.Deep.LoopGhost
import Derived.Lib.Hide
import Derived.Lib.Strings
import Derived.Lib.IndexBytes
import Derived.Outline
set_option maxRecDepth 100000
set_option maxHeartbeats 8000000
namespace Go.Proofs.YtngccmlcopcghaaGreatDoor
open Go.RowKit
theorem hide {p : Prop} (h : p) : Hid p := h
theorem bl_get (l : List UInt8) (i : Nat) (h : i < (⟨l.toArray⟩ : ByteArray).size) : (⟨l.toArray⟩ : ByteArray)[i]'h = l[i]'(by simpa [ByteArray.size] using h) := rfl
theorem bl_extract (l : List UInt8) (a b : Nat) : (⟨l.toArray⟩ : ByteArray).extract a b = ⟨((l.drop a).take (b - a)).toArray⟩ := Lib.extract_eq _ _ _
theorem bl_toList (l : List UInt8) : (⟨l.toArray⟩ : ByteArray).toList = l := by rw [Lib.toList_data]
theorem bl_append (l m : List UInt8) : (⟨l.toArray⟩ : ByteArray) ++ (⟨m.toArray⟩ : ByteArray) = ⟨(l ++ m).toArray⟩ := by
 apply ByteArray.ext
 rw [ByteArray.data_append]
 exact Array.ext' (by simp)
theorem bl_size (l : List UInt8) : (⟨l.toArray⟩ : ByteArray).size = l.length := by simp [ByteArray.size]
theorem bl_td (l : List UInt8) (a : Nat) : List.take (l.length - a) (List.drop a l) = List.drop a l := List.take_of_length_le (by simp)
attribute [go_sem] bl_get bl_extract bl_toList bl_append bl_td
abbrev S (l : List UInt8) : Value := .string ⟨l.toArray⟩
abbrev B8 (c : UInt8) : Value := .int .u8 (c.toNat : Int)
def Ret (v : Value) (w : World) (e : Ending) (w' : World) : Prop := e = .returned v /\ w = w'
theorem Ret.of {u v : Value} {w : World} (h : u = v) : Ret v w (.returned u) w := ⟨by rw [h], rfl⟩
theorem v_b {a b : Bool} (h : a = b) : Value.bool a = .bool b := by rw [h]
theorem v_i {k : IntKind} {a b : Int} (h : a = b) : Value.int k a = .int k b := by rw [h]
def Fresh (v : Value) (w : World) (e : Ending) (w' : World) : Prop := e = .returned v /\ Below w.heap.size w w'
theorem Ret.fresh {v : Value} {w : World} {e : Ending} {w' : World} (h : Ret v w e w') : Fresh v w e w' := ⟨h.1, by rw [<- h.2]; exact Below.refl _ _⟩
theorem u8_inj {a b : UInt8} (h : (a.toNat : Int) = (b.toNat : Int)) : a = b := by
 have h' : a.toNat = b.toNat := by omega
 rw [<- UInt8.ofNat_toNat (x := a), h', UInt8.ofNat_toNat]
theorem u8_beq (a b : UInt8) : ((a.toNat : Int) == (b.toNat : Int)) = (a == b) := by
 rw [Bool.eq_iff_iff, beq_iff_eq, beq_iff_eq]
 exact ⟨u8_inj, fun h => by rw [h]⟩
theorem u8_bne (a b : UInt8) : ((a.toNat : Int) != (b.toNat : Int)) = (a != b) := by
 rw [bne, u8_beq]; rfl
theorem u8_lt (c : UInt8) : (c.toNat : Int) < 256 := by have := c.toNat_lt; omega
end Go.Proofs.YtngccmlcopcghaaGreatDoor
