/- The plain layer for package host: parts, numbers, addresses, over lists of bytes. No program in sight. -/
import Derived.Lib.RuneBytes
import Derived.Lib.Split
import Derived.Lib.SplitLaws
import Derived.Lib.IndexMore
import Derived.Lib.Bytealg
namespace Go.Proofs.YtahjndignkhmoaaGreatDoor
namespace Hostp
open Go

/-! ### parts between a byte -/
def splitOn (c : UInt8) : List UInt8 → List (List UInt8)
  | [] => [[]]
  | b :: l => if b = c then [] :: splitOn c l else match splitOn c l with
    | t :: ts => (b :: t) :: ts
    | [] => [[b]]
theorem splitOn_ne (c : UInt8) : ∀ l, splitOn c l ≠ []
  | [] => by simp [splitOn]
  | b :: l => by
    rw [splitOn]
    split
    · simp
    · split
      · simp
      · simp
theorem splitOn_no (c : UInt8) : ∀ l, (∀ b ∈ l, b ≠ c) → splitOn c l = [l]
  | [], _ => rfl
  | b :: l, h => by
    rw [splitOn, if_neg (h b (by simp)), splitOn_no c l (fun x hx => h x (by simp [hx]))]
theorem splitOn_at (c : UInt8) : ∀ (a r : List UInt8), (∀ b ∈ a, b ≠ c) → splitOn c (a ++ c :: r) = a :: splitOn c r
  | [], r, _ => by rw [List.nil_append, splitOn, if_pos rfl]
  | b :: a, r, h => by
    rw [List.cons_append, splitOn, if_neg (h b (by simp)), splitOn_at c a r (fun x hx => h x (by simp [hx]))]
theorem part (c : UInt8) : ∀ s : List UInt8, (∀ b ∈ s, b ≠ c) ∨ ∃ a r, s = a ++ c :: r ∧ ∀ b ∈ a, b ≠ c
  | [] => .inl (by simp)
  | b :: l => by
    by_cases hc : b = c
    · exact .inr ⟨[], l, by rw [hc]; rfl, by simp⟩
    · rcases part c l with h | ⟨a, r, e, h⟩
      · exact .inl (fun x hx => by rcases List.mem_cons.1 hx with rfl | hx; exact hc; exact h x hx)
      · exact .inr ⟨b :: a, r, by rw [e]; rfl, fun x hx => by rcases List.mem_cons.1 hx with rfl | hx; exact hc; exact h x hx⟩
theorem index_no (c : UInt8) : ∀ l : List UInt8, (∀ b ∈ l, b ≠ c) → Lib.index l [c] = -1
  | [], _ => rfl
  | b :: l, h => by
    have hb : [c].isPrefixOf (b :: l) = false := by
      show (c == b && _) = false
      rw [beq_eq_false_iff_ne.2 (Ne.symm (h b (by simp)))]; rfl
    rw [Lib.index, hb, index_no c l (fun x hx => h x (by simp [hx]))]
    rfl
theorem index_at (c : UInt8) : ∀ (a r : List UInt8), (∀ b ∈ a, b ≠ c) → Lib.index (a ++ c :: r) [c] = (a.length : Int)
  | [], r, _ => by
    have : [c].isPrefixOf (c :: r) = true := by
      show (c == c && _) = true
      simp [List.isPrefixOf]
    rw [List.nil_append, Lib.index, this]; rfl
  | b :: a, r, h => by
    have hb : [c].isPrefixOf (b :: (a ++ c :: r)) = false := by
      show (c == b && _) = false
      rw [beq_eq_false_iff_ne.2 (Ne.symm (h b (by simp)))]; rfl
    rw [List.cons_append, Lib.index, hb, index_at c a r (fun x hx => h x (by simp [hx]))]
    have : ((a.length : Int) == -1) = false := by rw [beq_eq_false_iff_ne]; omega
    simp only [this]
    simp
/-- strings.Split at one byte -/
theorem splitK_one (c : UInt8) : ∀ (n : Nat) (s : List UInt8), s.length ≤ n → Lib.splitK [c] 0 (Lib.count s [c]) s = splitOn c s
  | 0, s, h => by
    have : s = [] := List.eq_nil_of_length_eq_zero (by omega)
    subst this
    rw [Lib.count_one]; rfl
  | n + 1, s, h => by
    rcases part c s with hno | ⟨a, r, rfl, ha⟩
    · have h0 : s.count c = 0 := List.count_eq_zero.2 (fun hm => hno c hm rfl)
      rw [Lib.count_one, h0, splitOn_no c s hno]; rfl
    · have hc : (a ++ c :: r).count c = r.count c + 1 := by
        rw [List.count_append, List.count_cons_self, List.count_eq_zero.2 (fun hm => ha c hm rfl)]; omega
      have ih := splitK_one c n r (by simp at h; omega)
      rw [Lib.count_one] at ih
      rw [Lib.count_one, hc, Lib.splitK, index_at c a r ha, splitOn_at c a r ha]
      have : ((a.length : Int) == -1) = false := by rw [beq_eq_false_iff_ne]; omega
      rw [this, if_neg (by decide), Int.toNat_natCast]
      rw [Nat.add_zero, List.take_left, List.length_singleton, ← List.drop_drop, List.drop_left, List.drop_succ_cons, List.drop_zero, ih]

/-- what points part; an empty last one is left out -/
def parts (s : List UInt8) : List (List UInt8) := if 1 < (splitOn 46 s).length ∧ (splitOn 46 s).getLast? = some [] then (splitOn 46 s).dropLast else splitOn 46 s

/-! ### digits -/
def hex (c : UInt8) : Int :=
  if 48 ≤ c.toNat ∧ c.toNat ≤ 57 then (c.toNat : Int) - 48
  else if 65 ≤ c.toNat ∧ c.toNat ≤ 70 then (c.toNat : Int) - 55
  else if 97 ≤ c.toNat ∧ c.toNat ≤ 102 then (c.toNat : Int) - 87
  else -1
def isDig (base : Int) (c : UInt8) : Bool := decide (0 ≤ hex c) && decide (hex c < base)
def allB (base : Int) (s : List UInt8) : Bool := s.all (isDig base)
def value (base : Int) (s : List UInt8) : Int := s.foldl (fun n c => n * base + hex c) 0
/-- a part's digits, and their base -/
def basedP : List UInt8 → List UInt8 × Int
  | [] => ([], 10)
  | [c] => ([c], 10)
  | c :: d :: r => if c = 48 then (if d = 120 ∨ d = 88 then (r, 16) else (d :: r, 8)) else (c :: d :: r, 10)
/-- a part's number, if it is one (below 2^40) -/
def numberP (s : List UInt8) : Option Int :=
  if s = [] ∨ allB (basedP s).2 (basedP s).1 = false ∨ 1099511627776 ≤ value (basedP s).2 (basedP s).1 then none else some (value (basedP s).2 (basedP s).1)
def numericP (s : List UInt8) : Bool :=
  match (parts s).getLast? with
  | none => false
  | some t => !t.isEmpty && (allB 10 t || decide ((basedP t).2 = 16) && allB 16 (basedP t).1)

/-! ### an address of four -/
/-- from part i on -/
def v4from : Nat → Int → List (List UInt8) → Option Int
  | _, sum, [] => some sum
  | i, sum, [p] => match numberP p with
    | some n => if n < 256 ^ (4 - i) then some (sum + n) else none
    | none => none
  | i, sum, p :: q :: r => match numberP p with
    | some n => if n < 256 then v4from (i + 1) (sum + n * 256 ^ (3 - i)) (q :: r) else none
    | none => none
def v4 (s : List UInt8) : Option Int := if 4 < (parts s).length then none else v4from 0 0 (parts s)

/-! ### an address of eight -/
/-- a number of 0 to 255 without noughts ahead -/
def byteP (s : List UInt8) : Option Int := if s = [] ∨ allB 10 s = false ∨ 255 < value 10 s ∨ (1 < s.length ∧ s.head? = some 48) then none else some (value 10 s)
def fourP (s : List UInt8) : Option (List Int) :=
  match splitOn 46 s with
  | [a, b, c, d] => match byteP a, byteP b, byteP c, byteP d with
    | some a, some b, some c, some d => some [a * 256 + b, c * 256 + d]
    | _, _, _, _ => none
  | _ => none
def groupP (w : List UInt8) : Option Int := if w = [] ∨ 4 < w.length ∨ allB 16 w = false then none else some (value 16 w)
def groupsF (last : Bool) : List (List UInt8) → Option (List Int)
  | [] => some []
  | w :: r => if last = true ∧ r = [] ∧ (46 : UInt8) ∈ w then fourP w else match groupP w with
    | some n => (groupsF last r).map (n :: ·)
    | none => none
def groups (s : List UInt8) (last : Bool) : Option (List Int) := if s = [] then some [] else groupsF last (splitOn 58 s)
/-- ahead of the first two colons; behind them -/
def cut2 : List UInt8 → Option (List UInt8 × List UInt8)
  | [] => none
  | [_] => none
  | c :: d :: r => if c = 58 ∧ d = 58 then some ([], r) else (cut2 (d :: r)).map fun x => (c :: x.1, x.2)
def v6 (s : List UInt8) : Option (List Int) :=
  match cut2 s with
  | none => match groups s true with
    | some l => if l.length = 8 then some l else none
    | none => none
  | some (a, b) => match groups a false, groups b true with
    | some l, some m => if l.length + m.length ≤ 7 then some (l ++ List.replicate (8 - l.length - m.length) 0 ++ m) else none
    | _, _ => none

/-! ### percent signs -/
/-- is a byte written as digits, by the set of controls? -/
def ctl (c : UInt8) : Bool := decide (c.toNat < 32) || decide (127 ≤ c.toNat)
def hexU (n : Nat) : UInt8 := if n < 10 then UInt8.ofNat (48 + n) else UInt8.ofNat (55 + n)
def pEnc : List UInt8 → List UInt8
  | [] => []
  | c :: l => if ctl c = true then 37 :: hexU (c.toNat / 16) :: hexU (c.toNat % 16) :: pEnc l else c :: pEnc l
def pDec : List UInt8 → List UInt8
  | [] => []
  | [a] => [a]
  | [a, b] => [a, b]
  | c :: a :: b :: l => if c = 37 ∧ 0 ≤ hex a ∧ 0 ≤ hex b then UInt8.ofNat (hex a * 16 + hex b).toNat :: pDec l else c :: pDec (a :: b :: l)
def lowB (c : UInt8) : UInt8 := if 65 ≤ c.toNat ∧ c.toNat ≤ 90 then UInt8.ofNat (c.toNat + 32) else c
def lower (s : List UInt8) : List UInt8 := s.map lowB

/-! ### a host -/
def bads : List UInt8 := [0, 9, 10, 13, 32, 35, 47, 58, 60, 62, 63, 64, 91, 92, 93, 94, 124]
def bad (c : UInt8) : Bool := bads.contains c
inductive Host where
  | none
  | domain (s : List UInt8)
  | four (n : Int)
  | eight (l : List Int)
  | opaque_ (s : List UInt8)
  | empty
/-- a special one is a name, or an address, or none -/
def parse (s : List UInt8) (special : Bool) : Option Host :=
  if s.head? = some 91 then
    (if s.getLast? = some 93 ∧ 1 < s.length then (v6 ((s.drop 1).dropLast)).map Host.eight else none)
  else if special = false then
    (if s.any bad = true then none else if s = [] then some .empty else some (.opaque_ (pEnc s)))
  else
    (if lower (pDec s) = [] ∨ (lower (pDec s)).any (fun c => bad c || decide (c.toNat < 32) || decide (126 < c.toNat) || c == 37) = true then none
     else if numericP (lower (pDec s)) = false then some (.domain (lower (pDec s))) else (v4 (lower (pDec s))).map Host.four)
end Hostp
end Go.Proofs.YtahjndignkhmoaaGreatDoor
