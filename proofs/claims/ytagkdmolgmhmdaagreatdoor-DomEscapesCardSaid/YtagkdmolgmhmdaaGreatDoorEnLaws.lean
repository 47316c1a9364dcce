/- The plain layer for package entity: references to characters, over lists of bytes. No program in sight. (The constant is printed by genEnts.) -/
import Derived.Lib.RuneBytes
import Derived.Lib.Atoi
import Derived.Lib.Split
import Derived.Lib.SplitLaws
import Derived.Lib.IndexMore
import Derived.Lib.Bytealg
namespace Go.Proofs.YtagkdmolgmhmdaaGreatDoor.En
namespace Entp
open Go

def ents : List UInt8 := [
  32, 113, 117, 111, 116, 59, 61, 51, 52, 32, 113, 117, 111, 116, 61, 51, 52, 32, 81, 85, 79, 84, 59, 61, 51, 52, 32, 81, 85, 79, 84, 61, 51, 52, 32, 97, 109, 112, 59, 61, 51, 56, 32, 97, 109, 112, 61, 51, 56, 32, 65, 
  77, 80, 59, 61, 51, 56, 32, 65, 77, 80, 61, 51, 56, 32, 108, 116, 59, 61, 54, 48, 32, 108, 116, 61, 54, 48, 32, 76, 84, 59, 61, 54, 48, 32, 76, 84, 61, 54, 48, 32, 103, 116, 59, 61, 54, 50, 32, 103, 116, 61, 54, 50, 
  32, 71, 84, 59, 61, 54, 50, 32, 71, 84, 61, 54, 50, 32, 97, 112, 111, 115, 59, 61, 51, 57, 32, 110, 98, 115, 112, 59, 61, 49, 54, 48, 32, 110, 98, 115, 112, 61, 49, 54, 48, 32, 105, 101, 120, 99, 108, 59, 61, 49, 54, 
  49, 32, 105, 101, 120, 99, 108, 61, 49, 54, 49, 32, 99, 101, 110, 116, 59, 61, 49, 54, 50, 32, 99, 101, 110, 116, 61, 49, 54, 50, 32, 112, 111, 117, 110, 100, 59, 61, 49, 54, 51, 32, 112, 111, 117, 110, 100, 61, 49, 
  54, 51, 32, 121, 101, 110, 59, 61, 49, 54, 53, 32, 121, 101, 110, 61, 49, 54, 53, 32, 115, 101, 99, 116, 59, 61, 49, 54, 55, 32, 115, 101, 99, 116, 61, 49, 54, 55, 32, 117, 109, 108, 59, 61, 49, 54, 56, 32, 117, 109, 
  108, 61, 49, 54, 56, 32, 99, 111, 112, 121, 59, 61, 49, 54, 57, 32, 99, 111, 112, 121, 61, 49, 54, 57, 32, 67, 79, 80, 89, 59, 61, 49, 54, 57, 32, 67, 79, 80, 89, 61, 49, 54, 57, 32, 108, 97, 113, 117, 111, 59, 61, 
  49, 55, 49, 32, 108, 97, 113, 117, 111, 61, 49, 55, 49, 32, 110, 111, 116, 59, 61, 49, 55, 50, 32, 110, 111, 116, 61, 49, 55, 50, 32, 110, 111, 116, 105, 110, 59, 61, 56, 55, 49, 51, 32, 110, 111, 116, 105, 110, 118, 
  97, 59, 61, 56, 55, 49, 51, 32, 110, 111, 116, 110, 105, 59, 61, 56, 55, 49, 54, 32, 115, 104, 121, 59, 61, 49, 55, 51, 32, 115, 104, 121, 61, 49, 55, 51, 32, 114, 101, 103, 59, 61, 49, 55, 52, 32, 114, 101, 103, 61, 
  49, 55, 52, 32, 82, 69, 71, 59, 61, 49, 55, 52, 32, 82, 69, 71, 61, 49, 55, 52, 32, 109, 97, 99, 114, 59, 61, 49, 55, 53, 32, 109, 97, 99, 114, 61, 49, 55, 53, 32, 100, 101, 103, 59, 61, 49, 55, 54, 32, 100, 101, 103, 
  61, 49, 55, 54, 32, 112, 108, 117, 115, 109, 110, 59, 61, 49, 55, 55, 32, 112, 108, 117, 115, 109, 110, 61, 49, 55, 55, 32, 115, 117, 112, 49, 59, 61, 49, 56, 53, 32, 115, 117, 112, 49, 61, 49, 56, 53, 32, 115, 117, 
  112, 50, 59, 61, 49, 55, 56, 32, 115, 117, 112, 50, 61, 49, 55, 56, 32, 115, 117, 112, 51, 59, 61, 49, 55, 57, 32, 115, 117, 112, 51, 61, 49, 55, 57, 32, 97, 99, 117, 116, 101, 59, 61, 49, 56, 48, 32, 97, 99, 117, 
  116, 101, 61, 49, 56, 48, 32, 109, 105, 99, 114, 111, 59, 61, 49, 56, 49, 32, 109, 105, 99, 114, 111, 61, 49, 56, 49, 32, 112, 97, 114, 97, 59, 61, 49, 56, 50, 32, 112, 97, 114, 97, 61, 49, 56, 50, 32, 109, 105, 100, 
  100, 111, 116, 59, 61, 49, 56, 51, 32, 109, 105, 100, 100, 111, 116, 61, 49, 56, 51, 32, 99, 101, 100, 105, 108, 59, 61, 49, 56, 52, 32, 99, 101, 100, 105, 108, 61, 49, 56, 52, 32, 114, 97, 113, 117, 111, 59, 61, 49, 
  56, 55, 32, 114, 97, 113, 117, 111, 61, 49, 56, 55, 32, 102, 114, 97, 99, 49, 50, 59, 61, 49, 56, 57, 32, 102, 114, 97, 99, 49, 50, 61, 49, 56, 57, 32, 102, 114, 97, 99, 49, 52, 59, 61, 49, 56, 56, 32, 102, 114, 97, 
  99, 49, 52, 61, 49, 56, 56, 32, 105, 113, 117, 101, 115, 116, 59, 61, 49, 57, 49, 32, 105, 113, 117, 101, 115, 116, 61, 49, 57, 49, 32, 65, 103, 114, 97, 118, 101, 59, 61, 49, 57, 50, 32, 65, 103, 114, 97, 118, 101, 
  61, 49, 57, 50, 32, 65, 97, 99, 117, 116, 101, 59, 61, 49, 57, 51, 32, 65, 97, 99, 117, 116, 101, 61, 49, 57, 51, 32, 65, 69, 108, 105, 103, 59, 61, 49, 57, 56, 32, 65, 69, 108, 105, 103, 61, 49, 57, 56, 32, 67, 99, 
  101, 100, 105, 108, 59, 61, 49, 57, 57, 32, 67, 99, 101, 100, 105, 108, 61, 49, 57, 57, 32, 69, 97, 99, 117, 116, 101, 59, 61, 50, 48, 49, 32, 69, 97, 99, 117, 116, 101, 61, 50, 48, 49, 32, 79, 117, 109, 108, 59, 61, 
  50, 49, 52, 32, 79, 117, 109, 108, 61, 50, 49, 52, 32, 116, 105, 109, 101, 115, 59, 61, 50, 49, 53, 32, 116, 105, 109, 101, 115, 61, 50, 49, 53, 32, 116, 105, 109, 101, 115, 98, 59, 61, 56, 56, 54, 52, 32, 116, 105, 
  109, 101, 115, 98, 97, 114, 59, 61, 49, 48, 56, 48, 49, 32, 116, 105, 109, 101, 115, 100, 59, 61, 49, 48, 56, 48, 48, 32, 115, 122, 108, 105, 103, 59, 61, 50, 50, 51, 32, 115, 122, 108, 105, 103, 61, 50, 50, 51, 32, 
  97, 103, 114, 97, 118, 101, 59, 61, 50, 50, 52, 32, 97, 103, 114, 97, 118, 101, 61, 50, 50, 52, 32, 97, 97, 99, 117, 116, 101, 59, 61, 50, 50, 53, 32, 97, 97, 99, 117, 116, 101, 61, 50, 50, 53, 32, 97, 99, 105, 114, 
  99, 59, 61, 50, 50, 54, 32, 97, 99, 105, 114, 99, 61, 50, 50, 54, 32, 97, 101, 108, 105, 103, 59, 61, 50, 51, 48, 32, 97, 101, 108, 105, 103, 61, 50, 51, 48, 32, 99, 99, 101, 100, 105, 108, 59, 61, 50, 51, 49, 32, 99, 
  99, 101, 100, 105, 108, 61, 50, 51, 49, 32, 101, 97, 99, 117, 116, 101, 59, 61, 50, 51, 51, 32, 101, 97, 99, 117, 116, 101, 61, 50, 51, 51, 32, 101, 117, 109, 108, 59, 61, 50, 51, 53, 32, 101, 117, 109, 108, 61, 50, 
  51, 53, 32, 101, 116, 104, 59, 61, 50, 52, 48, 32, 101, 116, 104, 61, 50, 52, 48, 32, 111, 117, 109, 108, 59, 61, 50, 52, 54, 32, 111, 117, 109, 108, 61, 50, 52, 54, 32, 100, 105, 118, 105, 100, 101, 59, 61, 50, 52, 
  55, 32, 100, 105, 118, 105, 100, 101, 61, 50, 52, 55, 32, 100, 105, 118, 105, 100, 101, 111, 110, 116, 105, 109, 101, 115, 59, 61, 56, 57, 48, 51, 32, 117, 117, 109, 108, 59, 61, 50, 53, 50, 32, 117, 117, 109, 108, 
  61, 50, 53, 50, 32, 116, 104, 111, 114, 110, 59, 61, 50, 53, 52, 32, 116, 104, 111, 114, 110, 61, 50, 53, 52, 32, 121, 117, 109, 108, 59, 61, 50, 53, 53, 32, 121, 117, 109, 108, 61, 50, 53, 53, 32, 79, 69, 108, 105, 
  103, 59, 61, 51, 51, 56, 32, 111, 101, 108, 105, 103, 59, 61, 51, 51, 57, 32, 83, 99, 97, 114, 111, 110, 59, 61, 51, 53, 50, 32, 102, 110, 111, 102, 59, 61, 52, 48, 50, 32, 99, 105, 114, 99, 59, 61, 55, 49, 48, 32, 
  116, 105, 108, 100, 101, 59, 61, 55, 51, 50, 32, 65, 108, 112, 104, 97, 59, 61, 57, 49, 51, 32, 66, 101, 116, 97, 59, 61, 57, 49, 52, 32, 71, 97, 109, 109, 97, 59, 61, 57, 49, 53, 32, 79, 109, 101, 103, 97, 59, 61, 
  57, 51, 55, 32, 97, 108, 112, 104, 97, 59, 61, 57, 52, 53, 32, 98, 101, 116, 97, 59, 61, 57, 52, 54, 32, 103, 97, 109, 109, 97, 59, 61, 57, 52, 55, 32, 108, 97, 109, 98, 100, 97, 59, 61, 57, 53, 53, 32, 112, 105, 59, 
  61, 57, 54, 48, 32, 112, 105, 118, 59, 61, 57, 56, 50, 32, 111, 109, 101, 103, 97, 59, 61, 57, 54, 57, 32, 101, 110, 115, 112, 59, 61, 56, 49, 57, 52, 32, 101, 109, 115, 112, 59, 61, 56, 49, 57, 53, 32, 116, 104, 105, 
  110, 115, 112, 59, 61, 56, 50, 48, 49, 32, 122, 119, 110, 106, 59, 61, 56, 50, 48, 52, 32, 122, 119, 106, 59, 61, 56, 50, 48, 53, 32, 108, 114, 109, 59, 61, 56, 50, 48, 54, 32, 114, 108, 109, 59, 61, 56, 50, 48, 55, 
  32, 110, 100, 97, 115, 104, 59, 61, 56, 50, 49, 49, 32, 109, 100, 97, 115, 104, 59, 61, 56, 50, 49, 50, 32, 108, 115, 113, 117, 111, 59, 61, 56, 50, 49, 54, 32, 114, 115, 113, 117, 111, 59, 61, 56, 50, 49, 55, 32, 
  115, 98, 113, 117, 111, 59, 61, 56, 50, 49, 56, 32, 108, 100, 113, 117, 111, 59, 61, 56, 50, 50, 48, 32, 114, 100, 113, 117, 111, 59, 61, 56, 50, 50, 49, 32, 98, 100, 113, 117, 111, 59, 61, 56, 50, 50, 50, 32, 100, 
  97, 103, 103, 101, 114, 59, 61, 56, 50, 50, 52, 32, 68, 97, 103, 103, 101, 114, 59, 61, 56, 50, 50, 53, 32, 98, 117, 108, 108, 59, 61, 56, 50, 50, 54, 32, 104, 101, 108, 108, 105, 112, 59, 61, 56, 50, 51, 48, 32, 112, 
  101, 114, 109, 105, 108, 59, 61, 56, 50, 52, 48, 32, 112, 114, 105, 109, 101, 59, 61, 56, 50, 52, 50, 32, 80, 114, 105, 109, 101, 59, 61, 56, 50, 52, 51, 32, 108, 115, 97, 113, 117, 111, 59, 61, 56, 50, 52, 57, 32, 
  114, 115, 97, 113, 117, 111, 59, 61, 56, 50, 53, 48, 32, 101, 117, 114, 111, 59, 61, 56, 51, 54, 52, 32, 116, 114, 97, 100, 101, 59, 61, 56, 52, 56, 50, 32, 108, 97, 114, 114, 59, 61, 56, 53, 57, 50, 32, 117, 97, 114, 
  114, 59, 61, 56, 53, 57, 51, 32, 114, 97, 114, 114, 59, 61, 56, 53, 57, 52, 32, 100, 97, 114, 114, 59, 61, 56, 53, 57, 53, 32, 104, 97, 114, 114, 59, 61, 56, 53, 57, 54, 32, 114, 65, 114, 114, 59, 61, 56, 54, 53, 56, 
  32, 102, 111, 114, 97, 108, 108, 59, 61, 56, 55, 48, 52, 32, 112, 97, 114, 116, 59, 61, 56, 55, 48, 54, 32, 101, 120, 105, 115, 116, 59, 61, 56, 55, 48, 55, 32, 101, 109, 112, 116, 121, 59, 61, 56, 55, 48, 57, 32, 
  110, 97, 98, 108, 97, 59, 61, 56, 55, 49, 49, 32, 105, 115, 105, 110, 59, 61, 56, 55, 49, 50, 32, 105, 110, 59, 61, 56, 55, 49, 50, 32, 105, 110, 116, 59, 61, 56, 55, 52, 55, 32, 110, 105, 59, 61, 56, 55, 49, 53, 32, 
  112, 114, 111, 100, 59, 61, 56, 55, 49, 57, 32, 115, 117, 109, 59, 61, 56, 55, 50, 49, 32, 109, 105, 110, 117, 115, 59, 61, 56, 55, 50, 50, 32, 114, 97, 100, 105, 99, 59, 61, 56, 55, 51, 48, 32, 105, 110, 102, 105, 
  110, 59, 61, 56, 55, 51, 52, 32, 97, 110, 100, 59, 61, 56, 55, 52, 51, 32, 111, 114, 59, 61, 56, 55, 52, 52, 32, 99, 97, 112, 59, 61, 56, 55, 52, 53, 32, 99, 117, 112, 59, 61, 56, 55, 52, 54, 32, 115, 105, 109, 59, 
  61, 56, 55, 54, 52, 32, 110, 101, 59, 61, 56, 56, 48, 48, 32, 101, 113, 117, 105, 118, 59, 61, 56, 56, 48, 49, 32, 108, 101, 59, 61, 56, 56, 48, 52, 32, 103, 101, 59, 61, 56, 56, 48, 53, 32, 115, 117, 98, 59, 61, 56, 
  56, 51, 52, 32, 115, 117, 112, 59, 61, 56, 56, 51, 53, 32, 110, 118, 108, 116, 59, 61, 54, 48, 44, 56, 52, 48, 50, 32, 110, 118, 103, 116, 59, 61, 54, 50, 44, 56, 52, 48, 50, 32, 98, 110, 101, 59, 61, 54, 49, 44, 56, 
  52, 50, 49, 32, 102, 106, 108, 105, 103, 59, 61, 49, 48, 50, 44, 49, 48, 54, 32, 78, 111, 116, 69, 113, 117, 97, 108, 84, 105, 108, 100, 101, 59, 61, 56, 55, 55, 48, 44, 56, 50, 52, 32, 97, 99, 69, 59, 61, 56, 55, 54, 
  54, 44, 56, 49, 57, 32, 84, 97, 98, 59, 61, 57, 32, 78, 101, 119, 76, 105, 110, 101, 59, 61, 49, 48, 32, 101, 120, 99, 108, 59, 61, 51, 51, 32, 110, 117, 109, 59, 61, 51, 53, 32, 100, 111, 108, 108, 97, 114, 59, 61, 
  51, 54, 32, 112, 101, 114, 99, 110, 116, 59, 61, 51, 55, 32, 108, 112, 97, 114, 59, 61, 52, 48, 32, 114, 112, 97, 114, 59, 61, 52, 49, 32, 97, 115, 116, 59, 61, 52, 50, 32, 112, 108, 117, 115, 59, 61, 52, 51, 32, 99, 
  111, 109, 109, 97, 59, 61, 52, 52, 32, 112, 101, 114, 105, 111, 100, 59, 61, 52, 54, 32, 115, 111, 108, 59, 61, 52, 55, 32, 99, 111, 108, 111, 110, 59, 61, 53, 56, 32, 115, 101, 109, 105, 59, 61, 53, 57, 32, 101, 113, 
  117, 97, 108, 115, 59, 61, 54, 49, 32, 113, 117, 101, 115, 116, 59, 61, 54, 51, 32, 99, 111, 109, 109, 97, 116, 59, 61, 54, 52, 32, 108, 115, 113, 98, 59, 61, 57, 49, 32, 108, 98, 114, 97, 99, 107, 59, 61, 57, 49, 32, 
  98, 115, 111, 108, 59, 61, 57, 50, 32, 114, 115, 113, 98, 59, 61, 57, 51, 32, 72, 97, 116, 59, 61, 57, 52, 32, 108, 111, 119, 98, 97, 114, 59, 61, 57, 53, 32, 103, 114, 97, 118, 101, 59, 61, 57, 54, 32, 108, 99, 117, 
  98, 59, 61, 49, 50, 51, 32, 108, 98, 114, 97, 99, 101, 59, 61, 49, 50, 51, 32, 118, 101, 114, 98, 97, 114, 59, 61, 49, 50, 52, 32, 118, 101, 114, 116, 59, 61, 49, 50, 52, 32, 114, 99, 117, 98, 59, 61, 49, 50, 53, 32, 
  114, 98, 114, 97, 99, 101, 59, 61, 49, 50, 53, 32, 67, 111, 117, 110, 116, 101, 114, 67, 108, 111, 99, 107, 119, 105, 115, 101, 67, 111, 110, 116, 111, 117, 114, 73, 110, 116, 101, 103, 114, 97, 108, 59, 61, 56, 55, 
  53, 53, 32]

def splitOn (c : UInt8) : List UInt8 → List (List UInt8)
  | [] => [[]]
  | b :: l => if b = c then [] :: splitOn c l else match splitOn c l with
    | t :: ts => (b :: t) :: ts
    | [] => [[b]]
def toks : List (List UInt8) := ((splitOn 32 ents).drop 1).dropLast
def unsplit : List (List UInt8) → List UInt8
  | [] => [32]
  | t :: ts => 32 :: (t ++ unsplit ts)

set_option maxRecDepth 1000000 in
theorem ents_eq : unsplit toks = ents := by decide +kernel
set_option maxRecDepth 1000000 in
theorem toks_blank : (toks.all fun t => t.all fun c => c != 32) = true := by decide +kernel

/-! ### where a name stands -/
theorem prefix_app : ∀ (q t U : List UInt8), (∀ c ∈ q, c ≠ 32) → U.head? = some 32 → q.isPrefixOf (t ++ U) = q.isPrefixOf t
  | [], _, _, _, _ => by simp
  | c :: q, [], U, hq, hU => by
    cases U with
    | nil => simp at hU
    | cons d U =>
      simp at hU
      subst hU
      have : (c == 32) = false := beq_eq_false_iff_ne.2 (hq c (by simp))
      show (c == 32 && q.isPrefixOf U) = false
      rw [this]; rfl
  | c :: q, d :: t, U, hq, hU => by
    show (c == d && q.isPrefixOf (t ++ U)) = (c == d && q.isPrefixOf t)
    rw [prefix_app q t U (fun x hx => hq x (by simp [hx])) hU]
theorem unsplit_head : ∀ ts, (unsplit ts).head? = some 32
  | [] => rfl
  | _ :: _ => rfl
theorem index_skip : ∀ (t U q : List UInt8), (∀ c ∈ t, c ≠ 32) → (Lib.index U (32 :: q) = -1 → Lib.index (t ++ U) (32 :: q) = -1) ∧ (∀ i : Nat, Lib.index U (32 :: q) = i → Lib.index (t ++ U) (32 :: q) = ((t.length + i : Nat) : Int))
  | [], U, q, _ => by simp
  | c :: t, U, q, ht => by
    have hc : c ≠ 32 := ht c (by simp)
    obtain ⟨h1, h2⟩ := index_skip t U q (fun x hx => ht x (by simp [hx]))
    have hp : (32 :: q).isPrefixOf (c :: (t ++ U)) = false := by
      show ((32 : UInt8) == c && q.isPrefixOf (t ++ U)) = false
      rw [beq_eq_false_iff_ne.2 (Ne.symm hc)]; rfl
    constructor
    · intro h
      rw [List.cons_append, Lib.index, hp, h1 h]; rfl
    · intro i h
      rw [List.cons_append, Lib.index, hp, h2 i h]
      have : ((((t.length + i : Nat) : Int)) == -1) = false := by rw [beq_eq_false_iff_ne]; omega
      simp only [this]
      simp; omega
theorem index_toks (q : List UInt8) (hq : ∀ c ∈ q, c ≠ 32) (hne : q ≠ []) : ∀ ts : List (List UInt8), (∀ t ∈ ts, ∀ c ∈ t, c ≠ 32) →
    (ts.find? (fun t => q.isPrefixOf t) = none → Lib.index (unsplit ts) (32 :: q) = -1) ∧
    (∀ t, ts.find? (fun t => q.isPrefixOf t) = some t → ∃ (i : Nat) (b : List (List UInt8)), Lib.index (unsplit ts) (32 :: q) = i ∧ (unsplit ts).drop (i + (q.length + 1)) = t.drop q.length ++ unsplit b)
  | [], _ => by
    constructor
    · intro _
      rw [unsplit, Lib.index]
      have : (32 :: q).isPrefixOf [32] = false := by
        cases q with
        | nil => exact absurd rfl hne
        | cons c q => rfl
      rw [this]
      rfl
    · intro t h; simp at h
  | t :: ts, ht => by
    obtain ⟨h1, h2⟩ := index_toks q hq hne ts (fun x hx => ht x (by simp [hx]))
    have hp : (32 :: q).isPrefixOf (32 :: (t ++ unsplit ts)) = q.isPrefixOf t := by
      show ((32 : UInt8) == 32 && q.isPrefixOf (t ++ unsplit ts)) = _
      rw [prefix_app q t (unsplit ts) hq (unsplit_head ts)]; rfl
    obtain ⟨s1, s2⟩ := index_skip t (unsplit ts) q (ht t (by simp))
    by_cases hpt : q.isPrefixOf t = true
    · constructor
      · intro h; simp [hpt] at h
      · intro t' h
        simp only [List.find?_cons, hpt] at h
        obtain rfl := Option.some.inj h
        refine ⟨0, ts, ?_, ?_⟩
        · rw [unsplit, Lib.index, hp, hpt]; rfl
        · have hl : q.length ≤ t.length := (List.isPrefixOf_iff_prefix.1 hpt).length_le
          rw [unsplit, Nat.zero_add, List.drop_succ_cons, List.drop_append_of_le_length hl]
    · have hpt' : q.isPrefixOf t = false := eq_false_of_ne_true hpt
      constructor
      · intro h
        simp only [List.find?_cons, hpt'] at h
        rw [unsplit, Lib.index, hp, hpt', s1 (h1 h)]; rfl
      · intro t' h
        simp only [List.find?_cons, hpt'] at h
        obtain ⟨i, b, hi, hd⟩ := h2 t' h
        refine ⟨1 + (t.length + i), b, ?_, ?_⟩
        · rw [unsplit, Lib.index, hp, hpt', s2 i hi]
          have : ((((t.length + i : Nat) : Int)) == -1) = false := by rw [beq_eq_false_iff_ne]; omega
          simp only [this]
          simp; omega
        · rw [unsplit, show 1 + (t.length + i) + (q.length + 1) = (t.length + (i + (q.length + 1))) + 1 by omega, List.drop_succ_cons, ← hd]
          rw [List.drop_append, List.drop_eq_nil_of_le (by omega)]
          simp

theorem cut_blank : ∀ (c : List UInt8) (b : List (List UInt8)), (∀ x ∈ c, x ≠ 32) → Lib.index (c ++ unsplit b) [32] = (c.length : Int)
  | [], b, _ => by
    cases b with
    | nil => rfl
    | cons t ts => rw [List.nil_append, unsplit, Lib.index]; simp
  | x :: c, b, h => by
    have hx : x ≠ 32 := h x (by simp)
    have ih := cut_blank c b (fun y hy => h y (by simp [hy]))
    rw [List.cons_append, Lib.index, ih]
    have : ((c.length : Int) == -1) = false := by rw [beq_eq_false_iff_ne]; omega
    simp [Ne.symm hx, this]

/-! ### names and their characters -/
def parts (cs : List UInt8) : List (List UInt8) := Lib.splitK [44] 0 (Lib.count cs [44]) cs
def num (p : List UInt8) : Int := (Lib.atoi p).getD 0
def text (cs : List UInt8) : List UInt8 := (parts cs).flatMap fun p => Lib.encodeRune (num p)
/-- its digits are numbers, none of them great; at most two -/
def good (cs : List UInt8) : Bool := decide ((parts cs).length ≤ 2) && (parts cs).all fun p => decide (p.length ≤ 18) && match Lib.atoi p with | some n => decide (0 ≤ n) && decide (n ≤ 1114111) | none => false
set_option maxRecDepth 1000000 in
theorem toks_good : (toks.all fun t => (List.range t.length).all fun k => t[k]? != some 61 || good (t.drop (k + 1))) = true := by decide +kernel

def find (name : List UInt8) : Option (List UInt8) := toks.find? fun t => (name ++ [61]).isPrefixOf t
def points (name : List UInt8) : Option (List UInt8) := (find name).map fun t => text (t.drop (name.length + 1))

def alnum (c : UInt8) : Bool := decide (65 ≤ c.toNat) && decide (c.toNat ≤ 90) || decide (97 ≤ c.toNat) && decide (c.toNat ≤ 122) || decide (48 ≤ c.toNat) && decide (c.toNat ≤ 57)
def lets : List UInt8 → Nat
  | [] => 0
  | c :: l => if alnum c = true then lets l + 1 else 0
def downFrom (s : List UInt8) : Nat → Nat × List UInt8
  | 0 => (0, [])
  | n + 1 => match points (s.take (n + 1)) with
    | some t => (n + 1, t)
    | none => downFrom s n
def top (s : List UInt8) : Nat := if s[lets (s.take 32)]? = some 59 then lets (s.take 32) + 1 else lets (s.take 32)
def named (s : List UInt8) : Nat × List UInt8 := downFrom s (top s)

def hex (c : UInt8) : Int :=
  if 48 ≤ c.toNat ∧ c.toNat ≤ 57 then (c.toNat : Int) - 48
  else if 65 ≤ c.toNat ∧ c.toNat ≤ 70 then (c.toNat : Int) - 55
  else if 97 ≤ c.toNat ∧ c.toNat ≤ 102 then (c.toNat : Int) - 87
  else -1
def isDig (base : Int) (c : UInt8) : Bool := decide (0 ≤ hex c) && decide (hex c < base)
def many (base : Int) : List UInt8 → Nat
  | [] => 0
  | c :: l => if isDig base c = true then many base l + 1 else 0
/-- the number of a row of digits, not above a bound -/
def clip (far base : Int) (n : Int) : List UInt8 → Int
  | [] => n
  | c :: l => clip far base (min (n * base + hex c) far) l
def based : List UInt8 → Int × Nat
  | [] => (10, 0)
  | c :: _ => if c = 120 ∨ c = 88 then (16, 1) else (10, 0)
def windows : List Int := [8364, 0, 8218, 402, 8222, 8230, 8224, 8225, 710, 8240, 352, 8249, 338, 0, 381, 0, 0, 8216, 8217, 8220, 8221, 8226, 8211, 8212, 732, 8482, 353, 8250, 339, 0, 382, 376]
def number (n : Int) : Int :=
  if n ≤ 0 ∨ 1114111 < n ∨ (55296 ≤ n ∧ n ≤ 57343) then 65533
  else if 128 ≤ n ∧ n ≤ 159 ∧ 0 < windows.getD (n - 128).toNat 0 then windows.getD (n - 128).toNat 0
  else n
def numRef (far : Int) (rest : List UInt8) : Nat × List UInt8 :=
  let b := based rest
  let ds := rest.drop b.2
  let k := many b.1 ds
  if k = 0 then (0, [])
  else (if (ds.drop k).head? = some 59 then 2 + b.2 + k + 1 else 2 + b.2 + k, Lib.encodeRune (number (clip far b.1 0 (ds.take k))))
def nameRef (s : List UInt8) (attr : Bool) : Nat × List UInt8 :=
  let n := (named s).1
  if n = 0 ∨ (attr = true ∧ s[n - 1]? ≠ some 59 ∧ (s[n]? = some 61 ∨ s[n]?.any alnum = true)) then (0, []) else (n + 1, (named s).2)
/-- what stands behind an ampersand -/
def ref (s : List UInt8) (attr : Bool) : Nat × List UInt8 :=
  if s.head? = some 35 then numRef 2097152 (s.drop 1) else nameRef s attr
def refAt (s : List UInt8) (at_ : Int) (attr : Bool) : Nat × List UInt8 :=
  if at_ < 0 ∨ (s.length : Int) ≤ at_ ∨ s[at_.toNat]? ≠ some 38 then (0, []) else ref (s.drop (at_.toNat + 1)) attr
def openR (s : List UInt8) : Bool :=
  if s.head? = some 35 then decide ((based (s.drop 1)).2 + many (based (s.drop 1)).1 ((s.drop 1).drop (based (s.drop 1)).2) = (s.drop 1).length)
  else decide (lets s = s.length)
def openAt (s : List UInt8) (at_ : Int) : Bool :=
  if at_ < 0 ∨ (s.length : Int) ≤ at_ ∨ s[at_.toNat]? ≠ some 38 then false else openR (s.drop (at_.toNat + 1))
/-- the length that is read, and what it stands for -/
def step (s : List UInt8) (attr : Bool) : Nat × List UInt8 := if (ref s attr).1 = 0 then (1, [38]) else ref s attr
def decodeF (attr : Bool) : Nat → List UInt8 → List UInt8
  | 0, s => s
  | f + 1, s => if Lib.indexByte s 38 < 0 then s else
    s.take (Lib.indexByte s 38).toNat ++ (step (s.drop ((Lib.indexByte s 38).toNat + 1)) attr).2 ++ decodeF attr f (s.drop ((Lib.indexByte s 38).toNat + (step (s.drop ((Lib.indexByte s 38).toNat + 1)) attr).1))
def decode (s : List UInt8) (attr : Bool) : List UInt8 := decodeF attr (s.length + 1) s
end Entp
end Go.Proofs.YtagkdmolgmhmdaaGreatDoor.En
namespace Go.Proofs.YtagkdmolgmhmdaaGreatDoor.En
namespace Entp
open Go

/-! ### letters, digits -/
theorem lets_le : ∀ s, lets s ≤ s.length
  | [] => Nat.le_refl _
  | c :: l => by have := lets_le l; rw [lets, List.length_cons]; split <;> omega
theorem lets_take : ∀ (k : Nat) (s : List UInt8), lets (s.take k) = min k (lets s)
  | 0, s => by simp [lets]
  | k + 1, [] => by simp [lets]
  | k + 1, c :: l => by
    rw [List.take_succ_cons, lets, lets, lets_take k l]
    split <;> omega
theorem lets_app : ∀ (s m : List UInt8), lets s < s.length → lets (s ++ m) = lets s
  | [], _, h => by simp at h
  | c :: l, m, h => by
    rw [List.cons_append, lets, lets]
    split
    · rw [lets_app l m]
      rw [lets, if_pos (by assumption), List.length_cons] at h
      omega
    · rfl
theorem many_le (b : Int) : ∀ s, many b s ≤ s.length
  | [] => Nat.le_refl _
  | c :: l => by have := many_le b l; rw [many, List.length_cons]; split <;> omega
theorem many_app (b : Int) : ∀ (s m : List UInt8), many b s < s.length → many b (s ++ m) = many b s
  | [], _, h => by simp at h
  | c :: l, m, h => by
    rw [List.cons_append, many, many]
    split
    · rw [many_app b l m]
      rw [many, if_pos (by assumption), List.length_cons] at h
      omega
    · rfl
theorem get_app {s m : List UInt8} {k : Nat} (h : k < s.length) : (s ++ m)[k]? = s[k]? := List.getElem?_append_left h

theorem top_eq (s : List UInt8) : top s = if s[min 32 (lets s)]? = some 59 then min 32 (lets s) + 1 else min 32 (lets s) := by
  rw [top, lets_take]
theorem top_app (s m : List UInt8) (h : lets s < s.length) : top (s ++ m) = top s := by
  rw [top_eq, top_eq, lets_app s m h, get_app (by omega)]
theorem top_le (s : List UInt8) (h : lets s < s.length) : top s ≤ s.length := by
  rw [top_eq]; split <;> omega
theorem downFrom_app (s m : List UInt8) : ∀ n, n ≤ s.length → downFrom (s ++ m) n = downFrom s n
  | 0, _ => rfl
  | n + 1, h => by
    rw [downFrom, downFrom, List.take_append_of_le_length h, downFrom_app s m n (by omega)]
theorem downFrom_le (s : List UInt8) : ∀ n, (downFrom s n).1 ≤ n
  | 0 => Nat.le_refl _
  | n + 1 => by
    rw [downFrom]
    split
    · exact Nat.le_refl _
    · have := downFrom_le s n; omega
theorem named_app (s m : List UInt8) (h : lets s < s.length) : named (s ++ m) = named s := by
  rw [named, named, top_app s m h, downFrom_app s m _ (top_le s h)]
theorem nameRef_app (s m : List UInt8) (attr : Bool) (h : lets s < s.length) : nameRef (s ++ m) attr = nameRef s attr := by
  unfold nameRef
  rw [named_app s m h]
  have hn : (named s).1 ≤ top s := downFrom_le s _
  have ht := top_le s h
  by_cases h0 : (named s).1 = 0
  · simp [h0]
  · have e1 : (s ++ m)[(named s).1 - 1]? = s[(named s).1 - 1]? := get_app (by omega)
    by_cases hlt : (named s).1 < s.length
    · simp only [e1, get_app hlt]
    · have hq : (named s).1 = s.length := by omega
      have h59 : s[(named s).1 - 1]? = some 59 := by
        have := top_eq s
        split at this
        · rename_i h5
          rw [show (named s).1 - 1 = min 32 (lets s) by omega]
          exact h5
        · omega
      simp only [e1, h59]
      simp

theorem based_app (s m : List UInt8) (h : s ≠ []) : based (s ++ m) = based s := by
  cases s with
  | nil => exact absurd rfl h
  | cons c l => rfl
theorem based_skip (s : List UInt8) : (based s).2 ≤ s.length := by
  cases s with
  | nil => exact Nat.le_refl _
  | cons c l => rw [based]; split <;> simp
theorem ref_app (s m : List UInt8) (attr : Bool) (h : openR s = false) : ref (s ++ m) attr = ref s attr := by
  cases s with
  | nil => simp [openR, lets] at h
  | cons c l =>
    have e1 : ∀ x : List UInt8, ref (c :: x) attr = if c = 35 then numRef 2097152 x else nameRef (c :: x) attr := fun x => by
      unfold ref; simp only [List.head?_cons, Option.some.injEq, List.drop_succ_cons, List.drop_zero]
    have e2 : openR (c :: l) = if c = 35 then decide ((based l).2 + many (based l).1 (l.drop (based l).2) = l.length) else decide (lets (c :: l) = (c :: l).length) := by
      unfold openR; simp only [List.head?_cons, Option.some.injEq, List.drop_succ_cons, List.drop_zero]
    rw [List.cons_append, e1, e1]
    rw [e2] at h
    by_cases hc : c = 35
    · subst hc
      simp only [if_true, decide_eq_false_iff_not] at h ⊢
      have hl : l ≠ [] := by rintro rfl; exact h rfl
      have hs := based_skip l
      have hm := many_le (based l).1 (l.drop (based l).2)
      rw [List.length_drop] at hm
      unfold numRef
      rw [based_app l m hl]
      have hlt : many (based l).1 (l.drop (based l).2) < (l.drop (based l).2).length := by rw [List.length_drop]; omega
      simp only [List.drop_append_of_le_length hs, many_app _ _ m hlt]
      rw [List.drop_append_of_le_length (Nat.le_of_lt hlt), List.take_append_of_le_length (Nat.le_of_lt hlt)]
      have : ((l.drop (based l).2).drop (many (based l).1 (l.drop (based l).2))) ≠ [] := by
        intro e
        have := congrArg List.length e
        rw [List.length_drop] at this
        simp only [List.length_nil] at this
        omega
      cases he : (l.drop (based l).2).drop (many (based l).1 (l.drop (based l).2)) with
      | nil => exact absurd he this
      | cons y ys => rfl
    · simp only [if_neg hc, decide_eq_false_iff_not] at h ⊢
      exact nameRef_app (c :: l) m attr (by have := lets_le (c :: l); omega)

/-- WHAT IS SURE DOES NOT HANG ON WHAT FOLLOWS. -/
theorem sure (s m : List UInt8) (k : Int) (attr : Bool) (ho : openAt s k = false) (h0 : 0 ≤ k) (h1 : k < s.length) : refAt (s ++ m) k attr = refAt s k attr := by
  have hk : k.toNat < s.length := by omega
  unfold refAt
  unfold openAt at ho
  rw [get_app hk]
  by_cases h : s[k.toNat]? = some 38
  · have c1 : ¬ (k < 0 ∨ ((s ++ m).length : Int) ≤ k ∨ s[k.toNat]? ≠ some 38) := by rw [List.length_append, h]; simp; omega
    have c2 : ¬ (k < 0 ∨ (s.length : Int) ≤ k ∨ s[k.toNat]? ≠ some 38) := by rw [h]; simp; omega
    rw [if_neg c2] at ho
    rw [if_neg c1, if_neg c2, List.drop_append_of_le_length (by omega)]
    exact ref_app _ _ _ ho
  · rw [if_pos (by exact .inr (.inr h)), if_pos (by exact .inr (.inr h))]

/-! ### decoding -/
theorem step_pos (s : List UInt8) (attr : Bool) : 1 ≤ (step s attr).1 := by
  unfold step
  split
  · exact Nat.le_refl _
  · omega
theorem indexByte_at : ∀ (a r : List UInt8), (∀ c ∈ a, c ≠ 38) → Lib.indexByte (a ++ 38 :: r) 38 = (a.length : Int)
  | [], r, _ => by simp [Lib.indexByte]
  | c :: a, r, h => by
    have hc : (c == 38) = false := beq_eq_false_iff_ne.2 (h c (by simp))
    have ih := indexByte_at a r (fun x hx => h x (by simp [hx]))
    rw [List.cons_append]
    unfold Lib.indexByte
    rw [hc, ih]
    have : ((a.length : Int) == -1) = false := by rw [beq_eq_false_iff_ne]; omega
    simp [this]
theorem indexByte_no : ∀ (l : List UInt8), (∀ b ∈ l, b ≠ 38) → Lib.indexByte l 38 = -1
  | [], _ => rfl
  | b :: l, h => by
    have hb : (b == 38) = false := beq_eq_false_iff_ne.2 (h b (by simp))
    have ih := indexByte_no l (fun x hx => h x (by simp [hx]))
    unfold Lib.indexByte
    simp [hb, ih]
/-- a text has no ampersand, or a first one -/
theorem part : ∀ s : List UInt8, (∀ c ∈ s, c ≠ 38) ∨ ∃ a r, s = a ++ 38 :: r ∧ ∀ c ∈ a, c ≠ 38
  | [] => .inl (by simp)
  | c :: l => by
    by_cases hc : c = 38
    · exact .inr ⟨[], l, by rw [hc]; rfl, by simp⟩
    · rcases part l with h | ⟨a, r, e, h⟩
      · exact .inl (fun x hx => by rcases List.mem_cons.1 hx with rfl | hx; exact hc; exact h x hx)
      · exact .inr ⟨c :: a, r, by rw [e]; rfl, fun x hx => by rcases List.mem_cons.1 hx with rfl | hx; exact hc; exact h x hx⟩
theorem decodeF_no (attr : Bool) (f : Nat) (s : List UInt8) (h : ∀ c ∈ s, c ≠ 38) : decodeF attr f s = s := by
  cases f with
  | zero => rfl
  | succ f => rw [decodeF, indexByte_no s h]; rfl
theorem decodeF_at (attr : Bool) (f : Nat) (a r : List UInt8) (h : ∀ c ∈ a, c ≠ 38) : decodeF attr (f + 1) (a ++ 38 :: r) = a ++ (step r attr).2 ++ decodeF attr f ((38 :: r).drop (step r attr).1) := by
  rw [decodeF, indexByte_at a r h, if_neg (by omega)]
  simp only [Int.toNat_natCast]
  rw [show a.length + 1 = a.length + 1 from rfl, ← List.drop_drop, List.drop_left, List.drop_succ_cons, List.drop_zero, List.take_left, ← List.drop_drop, List.drop_left]
theorem decodeF_fuel (attr : Bool) : ∀ (f g : Nat) (s : List UInt8), s.length < f → s.length < g → decodeF attr f s = decodeF attr g s
  | 0, _, s, h, _ => by omega
  | _ + 1, 0, s, _, h => by omega
  | f + 1, g + 1, s, hf, hg => by
    rcases part s with h | ⟨a, r, rfl, h⟩
    · rw [decodeF_no attr _ s h, decodeF_no attr _ s h]
    · have hp := step_pos r attr
      rw [decodeF_at attr f a r h, decodeF_at attr g a r h, decodeF_fuel attr f g]
      · rw [List.length_drop]; simp at hf ⊢; omega
      · rw [List.length_drop]; simp at hg ⊢; omega
theorem decode_no (attr : Bool) (s : List UInt8) (h : ∀ c ∈ s, c ≠ 38) : decode s attr = s := decodeF_no attr _ s h
theorem decode_at (attr : Bool) (a r : List UInt8) (h : ∀ c ∈ a, c ≠ 38) : decode (a ++ 38 :: r) attr = a ++ (step r attr).2 ++ decode ((38 :: r).drop (step r attr).1) attr := by
  have hp := step_pos r attr
  rw [decode, decodeF_at attr _ a r h, decode, decodeF_fuel attr _ (((38 :: r).drop (step r attr).1).length + 1)]
  · rw [List.length_drop]; simp; omega
  · omega
end Entp
end Go.Proofs.YtagkdmolgmhmdaaGreatDoor.En
