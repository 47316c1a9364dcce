/- The plain layer for package css: tokens over lists of bytes. No program in sight. -/
import Derived.Lib.RuneBytes
import Derived.Lib.Atoi
import Derived.Lib.IndexMore
namespace Go.Proofs.YtojgcangnkjmjaaGreatDoor
namespace Cssp
open Go

def blank (c : UInt8) : Bool := c == 32 || c == 9 || c == 10
def digit (c : UInt8) : Bool := decide (48 ≤ c.toNat) && decide (c.toNat ≤ 57)
def alpha (c : UInt8) : Bool := decide (65 ≤ c.toNat) && decide (c.toNat ≤ 90) || decide (97 ≤ c.toNat) && decide (c.toNat ≤ 122)
def begins (c : UInt8) : Bool := decide (128 ≤ c.toNat) || c == 95 || alpha c
def goesOn (c : UInt8) : Bool := begins c || digit c || c == 45
def hex (c : UInt8) : Int :=
  if 48 ≤ c.toNat ∧ c.toNat ≤ 57 then (c.toNat : Int) - 48
  else if 65 ≤ c.toNat ∧ c.toNat ≤ 70 then (c.toNat : Int) - 55
  else if 97 ≤ c.toNat ∧ c.toNat ≤ 102 then (c.toNat : Int) - 87
  else -1
def isHex (c : UInt8) : Bool := decide (0 ≤ hex c)
/-- a byte; beyond all the end of a line -/
def at_ (s : List UInt8) (i : Nat) : UInt8 := s.getD i 10
def isAt (p : UInt8 → Bool) (s : List UInt8) (i : Nat) : Bool := match s[i]? with
  | some c => p c
  | none => false
def escAt (s : List UInt8) (i : Nat) : Bool := isAt (· == 92) s i && !isAt (· == 10) s (i + 1)
def run (p : UInt8 → Bool) : List UInt8 → Nat
  | [] => 0
  | c :: r => if p c = true then run p r + 1 else 0
def fffd : List UInt8 := [239, 191, 189]
def chr (v : Nat) : List UInt8 := if v = 0 ∨ 1114111 < v then fffd else Lib.encodeRune v
def hexV : Nat → List UInt8 → Nat
  | n, [] => n
  | n, c :: r => hexV (n * 16 + (hex c).toNat) r

/-- what stands for it, how many bytes, whether it could go on -/
structure Out where
  t : List UInt8
  k : Nat
  o : Bool
/-- an escape, which begins with its backslash -/
def esc (s : List UInt8) : Out :=
  if s.length ≤ 1 then ⟨fffd, 1, true⟩
  else if run isHex ((s.drop 1).take 6) = 0 then ⟨(s.drop 1).take 1, 2, false⟩
  else ⟨chr (hexV 0 ((s.drop 1).take (run isHex ((s.drop 1).take 6)))), if isAt blank s (1 + run isHex ((s.drop 1).take 6)) = true then 2 + run isHex ((s.drop 1).take 6) else 1 + run isHex ((s.drop 1).take 6),
    decide (1 + run isHex ((s.drop 1).take 6) = s.length)⟩
def identAt (s : List UInt8) (i : Nat) : Bool :=
  if isAt (· == 45) s i = true then isAt (fun d => begins d || d == 45) s (i + 1) || escAt s (i + 1) else isAt begins s i || escAt s i
def signed (s : List UInt8) (i : Nat) : Nat := if isAt (fun c => c == 43 || c == 45) s i = true then 1 else 0
def numberAt (s : List UInt8) (i : Nat) : Bool := digit (at_ s (i + signed s i)) || at_ s (i + signed s i) == 46 && digit (at_ s (i + signed s i + 1))
def nameF : Nat → List UInt8 → Out
  | 0, _ => ⟨[], 0, false⟩
  | f + 1, s => if escAt s 0 = true then ⟨(esc s).t ++ (nameF f (s.drop (esc s).k)).t, (esc s).k + (nameF f (s.drop (esc s).k)).k, (esc s).o || (nameF f (s.drop (esc s).k)).o⟩
    else match s with
    | [] => ⟨[], 0, false⟩
    | c :: r => if goesOn c = true then ⟨c :: (nameF f r).t, (nameF f r).k + 1, (nameF f r).o⟩ else ⟨[], 0, false⟩
def name (s : List UInt8) : Out := nameF (s.length + 1) s

/-- a token -/
structure Tk where
  kind : Nat
  t : List UInt8
  u : List UInt8
  flag : Bool
deriving DecidableEq
/-- a token, how many bytes, whether an escape in it could go on, whether it has not ended; where its last escape begins, if that could go on -/
structure Th where
  x : Tk
  k : Nat
  o : Bool
  i : Bool
  e : Nat := 0
def tk (kind : Nat) (t : List UInt8) : Tk := ⟨kind, t, [], false⟩
/-- a string, from behind its quote on -/
structure Tx where
  bad : Bool
  t : List UInt8
  k : Nat
  o : Bool
  i : Bool
  e : Nat
def Tx.on (x : Tx) (t : List UInt8) (k : Nat) : Tx := ⟨x.bad, t ++ x.t, x.k + k, x.o, x.i, x.e + k⟩
def textF (q : UInt8) : Nat → List UInt8 → Tx
  | 0, _ => ⟨false, [], 0, false, true, 0⟩
  | f + 1, s => match s with
    | [] => ⟨false, [], 0, false, true, 0⟩
    | c :: r =>
      if c = q then ⟨false, [], 1, false, false, 0⟩
      else if c = 10 then ⟨true, [], 0, false, false, 0⟩
      else if c = 92 then
        if r = [] then ⟨false, [], 1, true, true, 0⟩
        else if r.head? = some 10 then (textF q f (r.drop 1)).on [] 2
        else if (esc (c :: r)).o = true then ⟨false, (esc (c :: r)).t, (esc (c :: r)).k, true, true, 0⟩
        else (textF q f ((c :: r).drop (esc (c :: r)).k)).on (esc (c :: r)).t (esc (c :: r)).k
      else (textF q f r).on [c] 1
def text (s : List UInt8) : Th :=
  let x := textF (at_ s 0) (s.length + 1) (s.drop 1)
  ⟨if x.bad = true then tk 7 [] else tk 6 x.t, x.k + 1, x.o, x.i, x.e + 1⟩
/-- the rest of a URL that is none: how many bytes, open, in -/
def badF : Nat → List UInt8 → Nat × Bool × Bool
  | 0, _ => (0, false, true)
  | f + 1, s => match s with
    | [] => (0, false, true)
    | c :: r =>
      if c = 41 then (1, false, false)
      else if escAt (c :: r) 0 = true then
        if (esc (c :: r)).o = true then ((esc (c :: r)).k, true, true)
        else ((esc (c :: r)).k + (badF f ((c :: r).drop (esc (c :: r)).k)).1, (badF f ((c :: r).drop (esc (c :: r)).k)).2)
      else ((badF f r).1 + 1, (badF f r).2)
def bad (s : List UInt8) : Nat × Bool × Bool := badF (s.length + 1) s
def plainU (c : UInt8) : Bool := decide (32 < c.toNat) && c != 34 && c != 39 && c != 40 && c != 41 && c != 92 && c != 127
structure Ur where
  bad : Bool
  t : List UInt8
  k : Nat
  o : Bool
  i : Bool
def Ur.on (x : Ur) (t : List UInt8) (k : Nat) : Ur := ⟨x.bad, t ++ x.t, x.k + k, x.o, x.i⟩
def badU (s : List UInt8) : Ur := ⟨true, [], (bad s).1, (bad s).2.1, (bad s).2.2⟩
/-- a URL, from its first byte that is no blank on -/
def urlF : Nat → List UInt8 → Ur
  | 0, _ => ⟨false, [], 0, false, true⟩
  | f + 1, s => match s with
    | [] => ⟨false, [], 0, false, true⟩
    | c :: r =>
      if c = 41 then ⟨false, [], 1, false, false⟩
      else if blank c = true then
        if run blank (c :: r) < (c :: r).length ∧ isAt (· == 41) (c :: r) (run blank (c :: r)) = false then (badU ((c :: r).drop (run blank (c :: r)))).on [] (run blank (c :: r))
        else if run blank (c :: r) < (c :: r).length then ⟨false, [], run blank (c :: r) + 1, false, false⟩
        else ⟨false, [], run blank (c :: r), false, true⟩
      else if escAt (c :: r) 0 = true then
        if (esc (c :: r)).o = true then ⟨false, (esc (c :: r)).t, (esc (c :: r)).k, true, true⟩
        else (urlF f ((c :: r).drop (esc (c :: r)).k)).on (esc (c :: r)).t (esc (c :: r)).k
      else if plainU c = true then (urlF f r).on [c] 1
      else badU (c :: r)
def url (s : List UInt8) : Th :=
  let n := run blank s
  let x := urlF ((s.drop n).length + 1) (s.drop n)
  ⟨if x.bad = true then tk 9 [] else tk 8 x.t, x.k + n, x.o, x.i, 0⟩
/-- how many bytes the number has; whether it is whole -/
def point (s : List UInt8) (i : Nat) : Nat × Bool := if at_ s i = 46 ∧ digit (at_ s (i + 1)) = true then (i + 1 + run digit (s.drop (i + 1)), false) else (i, true)
def power (s : List UInt8) (i : Nat) : Nat × Bool :=
  if (at_ s i = 101 ∨ at_ s i = 69) ∧ digit (at_ s (i + 1 + signed s (i + 1))) = true then (i + 1 + signed s (i + 1) + run digit (s.drop (i + 1 + signed s (i + 1))), false) else (i, true)
def numLen (s : List UInt8) : Nat × Bool :=
  let i := signed s 0 + run digit (s.drop (signed s 0))
  let p := point s i
  let q := power s p.1
  (q.1, p.2 && q.2)
def numeric (s : List UInt8) : Th :=
  let n := numLen s
  if identAt s n.1 = true then ⟨⟨13, s.take n.1, (name (s.drop n.1)).t, n.2⟩, n.1 + (name (s.drop n.1)).k, (name (s.drop n.1)).o, false, 0⟩
  else if at_ s n.1 = 37 then ⟨⟨12, s.take n.1, [], false⟩, n.1 + 1, false, false, 0⟩
  else ⟨⟨11, s.take n.1, [], n.2⟩, n.1, false, false, 0⟩
def lowB (c : UInt8) : UInt8 := if 65 ≤ c.toNat ∧ c.toNat ≤ 90 then UInt8.ofNat (c.toNat + 32) else c
def lower (s : List UInt8) : List UInt8 := s.map lowB
/-- two blanks at least: all but the last -/
def twos : List UInt8 → Nat
  | [] => 0
  | c :: r => if blank c = true ∧ isAt blank r 0 = true then twos r + 1 else 0
def quoted (s : List UInt8) : Bool := isAt (fun c => c == 34 || c == 39) s (if isAt blank s 0 = true then 1 else 0)
def word (s : List UInt8) : Th :=
  let n := name s
  if at_ s n.k ≠ 40 then ⟨tk 2 n.t, n.k, n.o, false, 0⟩
  else if lower n.t ≠ [117, 114, 108] then ⟨tk 3 n.t, n.k + 1, false, false, 0⟩
  else
    let r := s.drop (n.k + 1)
    let m := twos r
    if quoted (r.drop m) = true then ⟨tk 3 n.t, n.k + 1 + m, false, false, 0⟩
    else
      let x := url (r.drop m)
      ⟨x.x, n.k + 1 + m + x.k, x.o, x.i, 0⟩
def marks : List UInt8 := [40, 41, 91, 93, 123, 125, 44, 58, 59]
def wClose : List UInt8 := [45, 45, 62]
def wOpen : List UInt8 := [60, 33, 45, 45]
/-- the token that stands at the beginning (there is a byte) -/
def one (s : List UInt8) : Th :=
  let c := at_ s 0
  let one1 (kind : Nat) : Th := ⟨tk kind (s.take 1), 1, false, false, 0⟩
  if blank c = true then ⟨tk 1 [], run blank s, false, false, 0⟩
  else if c = 34 ∨ c = 39 then text s
  else if c = 35 then
    if isAt goesOn s 1 || escAt s 1 then ⟨⟨5, (name (s.drop 1)).t, [], identAt s 1⟩, (name (s.drop 1)).k + 1, (name (s.drop 1)).o, false, 0⟩ else one1 10
  else if c = 64 then
    if identAt s 1 = true then ⟨tk 4 (name (s.drop 1)).t, (name (s.drop 1)).k + 1, (name (s.drop 1)).o, false, 0⟩ else one1 10
  else if marks.contains c = true then one1 16
  else if numberAt s 0 = true then numeric s
  else if wClose.isPrefixOf s = true then ⟨tk 15 [], 3, false, false, 0⟩
  else if wOpen.isPrefixOf s = true then ⟨tk 14 [], 4, false, false, 0⟩
  else if identAt s 0 = true then word s
  else one1 10
/-- where a text ends -/
structure Wh where
  state : Nat
  quote : UInt8
deriving DecidableEq
def names : List UInt8 := [35, 64, 43, 45, 46, 60, 47, 92, 33]
def ends (x : Th) (first : UInt8) : Wh :=
  if x.i = true ∧ x.x.kind = 6 then ⟨if x.o = true then 6 else 3, first⟩
  else if x.o = true then ⟨6, 0⟩
  else if x.i = true then ⟨4, 0⟩
  else if x.x.kind = 2 ∨ x.x.kind = 4 ∨ x.x.kind = 5 ∨ x.x.kind = 11 ∨ x.x.kind = 13 ∨ x.x.kind = 7 ∨ (x.x.kind = 10 ∧ names.contains first = true) then ⟨2, 0⟩
  else ⟨1, 0⟩
/-- where a comment's end stands, from behind its beginning on -/
def shut : List UInt8 → Option Nat
  | [] => none
  | c :: r => if c = 42 ∧ r.head? = some 47 then some 0 else (shut r).map (· + 1)
structure Al where
  l : List Tk
  w : Wh
  rest : List UInt8
def allF : Nat → List UInt8 → List UInt8 → Wh → List UInt8 → List Tk → Al
  | 0, _, rest, w, _, l => ⟨l, w, rest⟩
  | f + 1, s, rest, w, tail, l =>
    if s = [] then ⟨l, w, if w.quote = 0 then rest else if w.state = 6 then tail else []⟩
    else if [47, 42].isPrefixOf s = true then
      match shut (s.drop 2) with
      | none => ⟨l, ⟨5, 0⟩, rest⟩
      | some k => allF f (s.drop (2 + k + 2)) (s.drop (2 + k + 2)) ⟨1, 0⟩ tail l
    else allF f (s.drop (one s).k) (if (ends (one s) (at_ s 0)).state = 1 then s.drop (one s).k else rest) (ends (one s) (at_ s 0)) (s.drop (one s).e) (l ++ [(one s).x])
def all (s : List UInt8) : Al := allF (s.length + 1) s s ⟨1, 0⟩ [] []

/-- a text as it is read (of code points' bytes) -/
def cleanC : Bool → List UInt8 → List UInt8
  | _, [] => []
  | cr, c :: r =>
    if cr = true ∧ c = 10 then cleanC false r
    else if c = 0 then fffd ++ cleanC false r
    else if c = 12 then 10 :: cleanC false r
    else if c = 13 then 10 :: cleanC true r
    else c :: cleanC false r
def clean (s : List UInt8) : List UInt8 := cleanC false s
end Cssp
end Go.Proofs.YtojgcangnkjmjaaGreatDoor
namespace Go.Proofs.YtojgcangnkjmjaaGreatDoor
namespace Cssp
open Go

theorem esc_pos (s : List UInt8) : 1 ≤ (esc s).k := by
  unfold esc
  split
  · exact Nat.le_refl _
  · split
    · exact Nat.le_succ 1
    · show 1 ≤ ite _ _ _
      split <;> omega
theorem run_le (p : UInt8 → Bool) : ∀ s, run p s ≤ s.length
  | [] => Nat.le_refl _
  | c :: r => by have := run_le p r; rw [run, List.length_cons]; split <;> omega
theorem run_drop (p : UInt8 → Bool) : ∀ s, isAt p s (run p s) = false
  | [] => rfl
  | c :: r => by
    rw [run]
    split
    · have := run_drop p r
      unfold isAt at this ⊢
      rw [List.getElem?_cons_succ]
      exact this
    · rename_i h
      show p c = false
      exact eq_false_of_ne_true h
theorem escAt_some {s : List UInt8} (h : escAt s 0 = true) : ∃ r, s = 92 :: r ∧ r.head? ≠ some 10 := by
  cases s with
  | nil => simp [escAt, isAt] at h
  | cons c r =>
    simp only [escAt, isAt, List.getElem?_cons_zero, Bool.and_eq_true, beq_iff_eq, Bool.not_eq_true'] at h
    obtain ⟨rfl, h⟩ := h
    refine ⟨r, rfl, fun e => ?_⟩
    cases r with
    | nil => simp at e
    | cons d r =>
      simp at e
      subst e
      simp at h
theorem nameF_succ (f : Nat) (s : List UInt8) : nameF (f + 1) s = if escAt s 0 = true then ⟨(esc s).t ++ (nameF f (s.drop (esc s).k)).t, (esc s).k + (nameF f (s.drop (esc s).k)).k, (esc s).o || (nameF f (s.drop (esc s).k)).o⟩
    else match s with
    | [] => ⟨[], 0, false⟩
    | c :: r => if goesOn c = true then ⟨c :: (nameF f r).t, (nameF f r).k + 1, (nameF f r).o⟩ else ⟨[], 0, false⟩ := by
  cases s <;> rfl
theorem nameF_fuel : ∀ (f g : Nat) (s : List UInt8), s.length < f → s.length < g → nameF f s = nameF g s
  | 0, _, _, h, _ => by omega
  | _, 0, _, _, h => by omega
  | f + 1, g + 1, s, hf, hg => by
    rw [nameF_succ, nameF_succ]
    by_cases he : escAt s 0 = true
    · have hk := esc_pos s
      obtain ⟨r, rfl, _⟩ := escAt_some he
      have hd : ((92 :: r).drop (esc (92 :: r)).k).length < (92 :: r).length := by rw [List.length_drop, List.length_cons]; omega
      rw [if_pos he, if_pos he, nameF_fuel f g _ (by omega) (by omega)]
    · rw [if_neg he, if_neg he]
      cases s with
      | nil => rfl
      | cons c r =>
        simp only [List.length_cons] at hf hg
        simp only [nameF_fuel f g r (by omega) (by omega)]
theorem name_esc {s : List UInt8} (h : escAt s 0 = true) : name s = ⟨(esc s).t ++ (name (s.drop (esc s).k)).t, (esc s).k + (name (s.drop (esc s).k)).k, (esc s).o || (name (s.drop (esc s).k)).o⟩ := by
  have hk := esc_pos s
  obtain ⟨r, rfl, _⟩ := escAt_some h
  have hd : ((92 :: r).drop (esc (92 :: r)).k).length < (92 :: r).length := by rw [List.length_drop, List.length_cons]; omega
  have e := nameF_fuel (92 :: r).length (((92 :: r).drop (esc (92 :: r)).k).length + 1) ((92 :: r).drop (esc (92 :: r)).k) hd (Nat.lt_succ_self _)
  unfold name
  rw [nameF_succ, if_pos h, e]
theorem name_cons {c : UInt8} {r : List UInt8} (h : escAt (c :: r) 0 = false) (hg : goesOn c = true) : name (c :: r) = ⟨c :: (name r).t, (name r).k + 1, (name r).o⟩ := by
  unfold name
  rw [nameF_succ, if_neg (by rw [h]; decide)]
  simp only [hg, if_true, List.length_cons]
theorem name_stop {s : List UInt8} (h : escAt s 0 = false) (hg : isAt goesOn s 0 = false) : name s = ⟨[], 0, false⟩ := by
  unfold name
  rw [nameF_succ, if_neg (by rw [h]; decide)]
  cases s with
  | nil => rfl
  | cons c r =>
    have : goesOn c = false := hg
    simp [this]
theorem not_esc {c : UInt8} {r : List UInt8} (h : c ≠ 92) : escAt (c :: r) 0 = false := by
  simp [escAt, isAt, h]
theorem goesOn_ne {c : UInt8} (h : goesOn c = true) : c ≠ 92 := by
  rintro rfl
  exact absurd h (by decide)
theorem name_run : ∀ s : List UInt8, name s = ⟨s.take (run goesOn s) ++ (name (s.drop (run goesOn s))).t, run goesOn s + (name (s.drop (run goesOn s))).k, (name (s.drop (run goesOn s))).o⟩
  | [] => by simp [run]
  | c :: r => by
    rw [run]
    split
    · rename_i h
      have ih := name_run r
      rw [name_cons (not_esc (goesOn_ne h)) h, ih]
      simp only [List.take_succ_cons, List.drop_succ_cons, List.cons_append]
      congr 1
      omega
    · simp
end Cssp
end Go.Proofs.YtojgcangnkjmjaaGreatDoor
namespace Go.Proofs.YtojgcangnkjmjaaGreatDoor
namespace Cssp
open Go

theorem chr_len (v : Nat) : (chr v).length ≤ 4 := by
  unfold chr
  split
  · exact Nat.le_succ 3
  · have := Lib.runeCells_le (v : Int)
    rw [Lib.runeCells_length] at this
    exact this.2
theorem esc_len (s : List UInt8) : (esc s).t.length ≤ 4 * (esc s).k ∧ (1 ≤ s.length → (esc s).k ≤ s.length) := by
  unfold esc
  split
  · exact ⟨by show 3 ≤ 4; decide, fun h => h⟩
  · rename_i h
    split
    · exact ⟨by show ((s.drop 1).take 1).length ≤ 4 * 2; rw [List.length_take]; omega, fun _ => by show 2 ≤ s.length; omega⟩
    · have hc := chr_len (hexV 0 ((s.drop 1).take (run isHex ((s.drop 1).take 6))))
      have hr := run_le isHex ((s.drop 1).take 6)
      rw [List.length_take, List.length_drop] at hr
      refine ⟨?_, fun _ => ?_⟩
      · show (chr _).length ≤ 4 * ite _ _ _
        split <;> omega
      · show ite _ _ _ ≤ s.length
        split
        · rename_i hb
          unfold isAt at hb
          cases hx : s[1 + run isHex ((s.drop 1).take 6)]? with
          | none => rw [hx] at hb; cases hb
          | some x =>
            have := (List.getElem?_eq_some_iff.1 hx).1
            omega
        · omega
theorem name_len : ∀ (f : Nat) (s : List UInt8), s.length ≤ f → (name s).t.length ≤ 4 * (name s).k ∧ (name s).k ≤ s.length
  | f, s, hf => by
    by_cases he : escAt s 0 = true
    · rw [name_esc he]
      obtain ⟨r, rfl, _⟩ := escAt_some he
      have hk := esc_pos (92 :: r)
      have h1 := esc_len (92 :: r)
      have h2 := h1.2 (by simp)
      cases f with
      | zero => simp at hf
      | succ f =>
        have ih := name_len f ((92 :: r).drop (esc (92 :: r)).k) (by rw [List.length_drop]; simp only [List.length_cons] at hf ⊢; omega)
        rw [List.length_drop] at ih
        refine ⟨?_, ?_⟩
        · show ((esc (92 :: r)).t ++ _).length ≤ 4 * (_ + _)
          rw [List.length_append]; omega
        · show _ + _ ≤ _
          omega
    · cases s with
      | nil =>
        rw [name_stop (eq_false_of_ne_true he) rfl]
        exact ⟨Nat.le_refl _, Nat.le_refl _⟩
      | cons c r =>
        by_cases hg : goesOn c = true
        · rw [name_cons (eq_false_of_ne_true he) hg]
          cases f with
          | zero => simp at hf
          | succ f =>
            have ih := name_len f r (by simpa using hf)
            refine ⟨?_, ?_⟩
            · show (c :: _).length ≤ 4 * (_ + 1)
              rw [List.length_cons]; omega
            · show _ + 1 ≤ _
              rw [List.length_cons]; omega
        · rw [name_stop (eq_false_of_ne_true he) (eq_false_of_ne_true hg)]
          exact ⟨Nat.le_refl _, Nat.zero_le _⟩
def strU (q c : UInt8) : Bool := c != q && c != 10 && c != 92
theorem on_on (x : Tx) (a b : List UInt8) (i j : Nat) : (x.on a i).on b j = x.on (b ++ a) (j + i) := by
  simp only [Tx.on, List.append_assoc]
  congr 1 <;> omega
theorem on_nil (x : Tx) : x.on [] 0 = x := by
  cases x
  simp [Tx.on]
theorem textF_fuel (q : UInt8) : ∀ (f g : Nat) (s : List UInt8), s.length < f → s.length < g → textF q f s = textF q g s
  | 0, _, _, h, _ => by omega
  | _, 0, _, _, h => by omega
  | f + 1, g + 1, [], _, _ => rfl
  | f + 1, g + 1, c :: r, hf, hg => by
    simp only [List.length_cons] at hf hg
    have hk := esc_pos (c :: r)
    have h1 := textF_fuel q f g r (by omega) (by omega)
    have h2 := textF_fuel q f g (r.drop 1) (by rw [List.length_drop]; omega) (by rw [List.length_drop]; omega)
    have h3 := textF_fuel q f g ((c :: r).drop (esc (c :: r)).k) (by rw [List.length_drop, List.length_cons]; omega) (by rw [List.length_drop, List.length_cons]; omega)
    rw [textF, textF, h1, h2, h3]
def textX (q : UInt8) (s : List UInt8) : Tx := textF q (s.length + 1) s
theorem textX_nil (q : UInt8) : textX q [] = ⟨false, [], 0, false, true, 0⟩ := rfl
theorem textX_cons (q c : UInt8) (r : List UInt8) : textX q (c :: r) =
    if c = q then ⟨false, [], 1, false, false, 0⟩
    else if c = 10 then ⟨true, [], 0, false, false, 0⟩
    else if c = 92 then
      if r = [] then ⟨false, [], 1, true, true, 0⟩
      else if r.head? = some 10 then (textX q (r.drop 1)).on [] 2
      else if (esc (c :: r)).o = true then ⟨false, (esc (c :: r)).t, (esc (c :: r)).k, true, true, 0⟩
      else (textX q ((c :: r).drop (esc (c :: r)).k)).on (esc (c :: r)).t (esc (c :: r)).k
    else (textX q r).on [c] 1 := by
  have hk := esc_pos (c :: r)
  unfold textX
  rw [textF, textF_fuel q (c :: r).length ((r.drop 1).length + 1) (r.drop 1) (by rw [List.length_drop, List.length_cons]; omega) (Nat.lt_succ_self _),
    textF_fuel q (c :: r).length (((c :: r).drop (esc (c :: r)).k).length + 1) ((c :: r).drop (esc (c :: r)).k) (by rw [List.length_drop, List.length_cons]; omega) (Nat.lt_succ_self _)]
  rfl
theorem textX_run (q : UInt8) : ∀ s : List UInt8, textX q s = (textX q (s.drop (run (strU q) s))).on (s.take (run (strU q) s)) (run (strU q) s)
  | [] => by rw [run, List.take_zero, List.drop_zero, on_nil]
  | c :: r => by
    rw [run]
    split
    · rename_i h
      simp only [strU, Bool.and_eq_true, bne_iff_ne, ne_eq] at h
      rw [textX_cons, if_neg h.1.1, if_neg h.1.2, if_neg h.2, textX_run q r, on_on]
      simp only [List.drop_succ_cons, List.take_succ_cons, List.singleton_append]
      rw [Nat.add_comm]
    · rw [List.take_zero, List.drop_zero, on_nil]
theorem textX_len (q : UInt8) : ∀ (f : Nat) (s : List UInt8), s.length ≤ f → (textX q s).t.length ≤ 4 * s.length ∧ (textX q s).k ≤ s.length
  | _, [], _ => ⟨Nat.le_refl _, Nat.le_refl _⟩
  | 0, c :: r, h => by simp at h
  | f + 1, c :: r, h => by
    have hr : r.length ≤ f := by simpa using h
    have ih := textX_len q f r hr
    have ih2 := textX_len q f (r.drop 1) (by rw [List.length_drop]; omega)
    have hk := esc_pos (c :: r)
    have ih3 := textX_len q f ((c :: r).drop (esc (c :: r)).k) (by rw [List.length_drop, List.length_cons]; omega)
    have hl := Cssp.esc_len (c :: r)
    have hl2 := hl.2 (by simp)
    rw [List.length_drop] at ih2
    rw [List.length_drop, List.length_cons] at ih3
    rw [List.length_cons] at hl2
    rw [textX_cons]
    simp only [List.length_cons]
    split
    · exact ⟨Nat.zero_le _, by show 1 ≤ _; omega⟩
    · split
      · exact ⟨Nat.zero_le _, Nat.zero_le _⟩
      · split
        · split
          · exact ⟨Nat.zero_le _, by show 1 ≤ _; omega⟩
          · rename_i hne
            split
            · have : 1 ≤ r.length := by cases r with
                | nil => exact absurd rfl hne
                | cons _ _ => simp
              refine ⟨?_, ?_⟩
              · show ([] ++ (textX q (r.drop 1)).t).length ≤ _
                rw [List.nil_append]; omega
              · show (textX q (r.drop 1)).k + 2 ≤ _
                omega
            · split
              · exact ⟨by show (esc (c :: r)).t.length ≤ _; omega, hl2⟩
              · refine ⟨?_, ?_⟩
                · show ((esc (c :: r)).t ++ (textX q ((c :: r).drop (esc (c :: r)).k)).t).length ≤ _
                  rw [List.length_append]; omega
                · show (textX q ((c :: r).drop (esc (c :: r)).k)).k + (esc (c :: r)).k ≤ _
                  omega
        · refine ⟨?_, ?_⟩
          · show ([c] ++ (textX q r).t).length ≤ _
            rw [List.length_append]; show 1 + _ ≤ _; omega
          · show (textX q r).k + 1 ≤ _
            omega
/-- an escape that could go on has taken all that is left -/
theorem esc_open (s : List UInt8) (h : (esc s).o = true) : s.drop (esc s).k = [] := by
  unfold esc at h ⊢
  split
  · rename_i h1
    exact List.drop_eq_nil_of_le h1
  · rename_i h1
    rw [if_neg h1] at h
    split
    · rename_i h2
      rw [if_pos h2] at h
      cases h
    · rename_i h2
      rw [if_neg h2] at h
      have h := of_decide_eq_true h
      refine List.drop_eq_nil_of_le ?_
      show s.length ≤ ite _ _ _
      split <;> omega
end Cssp
end Go.Proofs.YtojgcangnkjmjaaGreatDoor
namespace Go.Proofs.YtojgcangnkjmjaaGreatDoor
namespace Cssp
open Go
def badC (c : UInt8) : Bool := c != 41 && c != 92
theorem badF_succ (f : Nat) (c : UInt8) (r : List UInt8) : badF (f + 1) (c :: r) = if c = 41 then (1, false, false)
    else if escAt (c :: r) 0 = true then
      if (esc (c :: r)).o = true then ((esc (c :: r)).k, true, true)
      else ((esc (c :: r)).k + (badF f ((c :: r).drop (esc (c :: r)).k)).1, (badF f ((c :: r).drop (esc (c :: r)).k)).2)
    else ((badF f r).1 + 1, (badF f r).2) := rfl
theorem badF_fuel : ∀ (f g : Nat) (s : List UInt8), s.length < f → s.length < g → badF f s = badF g s
  | 0, _, _, h, _ => by omega
  | _, 0, _, _, h => by omega
  | f + 1, g + 1, [], _, _ => rfl
  | f + 1, g + 1, c :: r, hf, hg => by
    simp only [List.length_cons] at hf hg
    have hk := esc_pos (c :: r)
    rw [badF_succ, badF_succ, badF_fuel f g r (by omega) (by omega), badF_fuel f g ((c :: r).drop (esc (c :: r)).k) (by rw [List.length_drop, List.length_cons]; omega) (by rw [List.length_drop, List.length_cons]; omega)]
theorem bad_cons (c : UInt8) (r : List UInt8) : bad (c :: r) = if c = 41 then (1, false, false)
    else if escAt (c :: r) 0 = true then
      if (esc (c :: r)).o = true then ((esc (c :: r)).k, true, true)
      else ((esc (c :: r)).k + (bad ((c :: r).drop (esc (c :: r)).k)).1, (bad ((c :: r).drop (esc (c :: r)).k)).2)
    else ((bad r).1 + 1, (bad r).2) := by
  have hk := esc_pos (c :: r)
  unfold bad
  rw [badF_succ, badF_fuel (c :: r).length (((c :: r).drop (esc (c :: r)).k).length + 1) ((c :: r).drop (esc (c :: r)).k) (by rw [List.length_drop, List.length_cons]; omega) (Nat.lt_succ_self _)]
  rfl
theorem bad_run : ∀ s : List UInt8, bad s = (run badC s + (bad (s.drop (run badC s))).1, (bad (s.drop (run badC s))).2)
  | [] => by simp [run]
  | c :: r => by
    rw [run]
    split
    · rename_i h
      simp only [badC, Bool.and_eq_true, bne_iff_ne, ne_eq] at h
      rw [bad_cons, if_neg h.1, if_neg (by rw [not_esc h.2]; decide), bad_run r]
      simp only [List.drop_succ_cons]
      congr 1
      omega
    · simp
theorem at_drop (s : List UInt8) (k i : Nat) : at_ (s.drop k) i = at_ s (k + i) := by simp [at_, List.getD_eq_getElem?_getD, List.getElem?_drop]
theorem isAt_drop (p : UInt8 → Bool) (s : List UInt8) (k i : Nat) : isAt p (s.drop k) i = isAt p s (k + i) := by simp [isAt, List.getElem?_drop]
theorem escAt_drop (s : List UInt8) (k i : Nat) : escAt (s.drop k) i = escAt s (k + i) := by simp only [escAt, isAt_drop, Nat.add_assoc]
theorem identAt_drop (s : List UInt8) (k i : Nat) : identAt (s.drop k) i = identAt s (k + i) := by simp only [identAt, isAt_drop, escAt_drop, Nat.add_assoc]
theorem at_lt {s : List UInt8} {i : Nat} (h : at_ s i ≠ 10) : i < s.length := by
  by_cases hi : i < s.length
  · exact hi
  · exact absurd (by rw [at_, List.getD_eq_getElem?_getD, List.getElem?_eq_none (by omega)]; rfl) h
theorem digit_lt {s : List UInt8} {i : Nat} (h : digit (at_ s i) = true) : i < s.length := at_lt fun e => by rw [e] at h; exact absurd h (by decide)
theorem signed_at (s : List UInt8) (i : Nat) : signed s i = if (at_ s i == 43 || at_ s i == 45) = true then 1 else 0 := by
  rw [signed, isAt]
  by_cases hi : i < s.length
  · rw [at_, List.getD_eq_getElem?_getD, List.getElem?_eq_getElem hi]; rfl
  · rw [at_, List.getD_eq_getElem?_getD, List.getElem?_eq_none (by omega)]; rfl
theorem Ur.on_on (x : Ur) (a b : List UInt8) (i j : Nat) : (x.on a i).on b j = x.on (b ++ a) (j + i) := by
  simp only [Ur.on, List.append_assoc]
  congr 1 <;> omega
theorem Ur.on_nil (x : Ur) : x.on [] 0 = x := by
  cases x
  simp [Ur.on]
theorem urlF_succ (f : Nat) (c : UInt8) (r : List UInt8) : urlF (f + 1) (c :: r) =
    if c = 41 then ⟨false, [], 1, false, false⟩
    else if blank c = true then
      if run blank (c :: r) < (c :: r).length ∧ isAt (· == 41) (c :: r) (run blank (c :: r)) = false then (badU ((c :: r).drop (run blank (c :: r)))).on [] (run blank (c :: r))
      else if run blank (c :: r) < (c :: r).length then ⟨false, [], run blank (c :: r) + 1, false, false⟩
      else ⟨false, [], run blank (c :: r), false, true⟩
    else if escAt (c :: r) 0 = true then
      if (esc (c :: r)).o = true then ⟨false, (esc (c :: r)).t, (esc (c :: r)).k, true, true⟩
      else (urlF f ((c :: r).drop (esc (c :: r)).k)).on (esc (c :: r)).t (esc (c :: r)).k
    else if plainU c = true then (urlF f r).on [c] 1
    else badU (c :: r) := rfl
theorem urlF_fuel : ∀ (f g : Nat) (s : List UInt8), s.length < f → s.length < g → urlF f s = urlF g s
  | 0, _, _, h, _ => by omega
  | _, 0, _, _, h => by omega
  | f + 1, g + 1, [], _, _ => rfl
  | f + 1, g + 1, c :: r, hf, hg => by
    simp only [List.length_cons] at hf hg
    have hk := esc_pos (c :: r)
    rw [urlF_succ, urlF_succ, urlF_fuel f g r (by omega) (by omega), urlF_fuel f g ((c :: r).drop (esc (c :: r)).k) (by rw [List.length_drop, List.length_cons]; omega) (by rw [List.length_drop, List.length_cons]; omega)]
def urlX (s : List UInt8) : Ur := urlF (s.length + 1) s
theorem urlX_nil : urlX [] = ⟨false, [], 0, false, true⟩ := rfl
theorem urlX_cons (c : UInt8) (r : List UInt8) : urlX (c :: r) =
    if c = 41 then ⟨false, [], 1, false, false⟩
    else if blank c = true then
      if run blank (c :: r) < (c :: r).length ∧ isAt (· == 41) (c :: r) (run blank (c :: r)) = false then (badU ((c :: r).drop (run blank (c :: r)))).on [] (run blank (c :: r))
      else if run blank (c :: r) < (c :: r).length then ⟨false, [], run blank (c :: r) + 1, false, false⟩
      else ⟨false, [], run blank (c :: r), false, true⟩
    else if escAt (c :: r) 0 = true then
      if (esc (c :: r)).o = true then ⟨false, (esc (c :: r)).t, (esc (c :: r)).k, true, true⟩
      else (urlX ((c :: r).drop (esc (c :: r)).k)).on (esc (c :: r)).t (esc (c :: r)).k
    else if plainU c = true then (urlX r).on [c] 1
    else badU (c :: r) := by
  have hk := esc_pos (c :: r)
  unfold urlX
  rw [urlF_succ, urlF_fuel (c :: r).length (((c :: r).drop (esc (c :: r)).k).length + 1) ((c :: r).drop (esc (c :: r)).k) (by rw [List.length_drop, List.length_cons]; omega) (Nat.lt_succ_self _)]
  rfl
theorem plainU_not {c : UInt8} (h : plainU c = true) : c ≠ 41 ∧ blank c = false ∧ c ≠ 92 := by
  simp only [plainU, Bool.and_eq_true, bne_iff_ne, ne_eq, decide_eq_true_eq] at h
  refine ⟨h.1.1.2, ?_, h.1.2⟩
  simp only [blank, Bool.or_eq_false_iff, beq_eq_false_iff_ne]
  refine ⟨⟨?_, ?_⟩, ?_⟩ <;> rintro rfl <;> exact absurd h.1.1.1.1.1.1 (by decide)
theorem urlX_run : ∀ s : List UInt8, urlX s = (urlX (s.drop (run plainU s))).on (s.take (run plainU s)) (run plainU s)
  | [] => by rw [run, List.take_zero, List.drop_zero, Ur.on_nil]
  | c :: r => by
    rw [run]
    split
    · rename_i h
      obtain ⟨h1, h2, h3⟩ := plainU_not h
      rw [urlX_cons, if_neg h1, if_neg (by rw [h2]; decide), if_neg (by rw [not_esc h3]; decide), if_pos h, urlX_run r, Ur.on_on]
      simp only [List.drop_succ_cons, List.take_succ_cons, List.singleton_append]
      rw [Nat.add_comm]
    · rw [List.take_zero, List.drop_zero, Ur.on_nil]
theorem urlX_len : ∀ (f : Nat) (s : List UInt8), s.length ≤ f → (urlX s).t.length ≤ 4 * s.length
  | _, [], _ => Nat.le_refl _
  | 0, c :: r, h => by simp at h
  | f + 1, c :: r, h => by
    have hr : r.length ≤ f := by simpa using h
    have ih := urlX_len f r hr
    have hk := esc_pos (c :: r)
    have ih3 := urlX_len f ((c :: r).drop (esc (c :: r)).k) (by rw [List.length_drop, List.length_cons]; omega)
    have hl := Cssp.esc_len (c :: r)
    have hl2 := hl.2 (by simp)
    rw [List.length_drop, List.length_cons] at ih3
    rw [List.length_cons] at hl2
    rw [urlX_cons]
    simp only [List.length_cons]
    repeat' split
    all_goals simp only [Ur.on, badU, List.length_append, List.length_nil, List.length_cons]
    all_goals omega
theorem blank_contains (c : UInt8) : ([32, 9, 10] : List UInt8).contains c = blank c := by
  simp only [List.contains_cons, List.contains_nil, Bool.or_false, blank, Bool.or_assoc]
/-- what TrimLeft leaves of the first two bytes -/
def lead (l : List UInt8) : List UInt8 := (l.take 2).dropWhile blank
theorem lead_quoted : ∀ l : List UInt8, twos l = 0 → isAt (fun c => c == 34 || c == 39) (lead l) 0 = quoted l
  | [], _ => rfl
  | [c], _ => by
    unfold lead quoted
    by_cases h : blank c = true
    · simp [isAt, h]
    · simp [isAt, h]
  | c :: d :: r, h => by
    unfold lead quoted
    by_cases hc : blank c = true
    · have hd : blank d = false := by
        cases hd : blank d with
        | false => rfl
        | true => rw [twos, if_pos ⟨hc, hd⟩] at h; omega
      simp [isAt, hc, hd]
    · simp [isAt, hc]
theorem twos_len : ∀ l : List UInt8, twos l ≤ l.length
  | [] => Nat.le_refl _
  | c :: r => by have := twos_len r; rw [twos, List.length_cons]; split <;> omega
end Cssp
end Go.Proofs.YtojgcangnkjmjaaGreatDoor
