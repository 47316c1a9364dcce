/- The plain layer of a replacer: what a table of keys of one and of two bytes makes of a text. No program in sight. -/
import Derived.Lib.RuneBytes
namespace Go.Proofs.YtagkdmolgmhmdaaGreatDoor
namespace Rp
open Go

/-- what begins with a byte: its own replacement (if its priority is above nought), and the one of two bytes -/
structure Nd where
  p1 : Int
  v1 : List UInt8
  nx : Option (UInt8 × Int × List UInt8)
def hit (nd : Nd) (r : List UInt8) : Option (List UInt8 × Nat) :=
  match nd.nx with
  | some (d, p2, v2) => if r.head? = some d ∧ nd.p1 < p2 then some (v2, 2) else if 0 < nd.p1 then some (nd.v1, 1) else none
  | none => if 0 < nd.p1 then some (nd.v1, 1) else none
def lk (look : UInt8 → Option Nd) : List UInt8 → Option (List UInt8 × Nat)
  | [] => none
  | c :: r => match look c with
    | none => none
    | some nd => hit nd r
/-- k bytes more are passed over -/
def repl (look : UInt8 → Option Nd) : Nat → List UInt8 → List UInt8
  | _, [] => []
  | k + 1, _ :: r => repl look k r
  | 0, c :: r => match lk look (c :: r) with
    | some (v, n) => v ++ repl look (n - 1) r
    | none => c :: repl look 0 r
theorem repl_skip (look : UInt8 → Option Nd) : ∀ (k : Nat) (l : List UInt8), repl look k l = repl look 0 (l.drop k)
  | 0, l => rfl
  | k + 1, [] => rfl
  | k + 1, _ :: r => by rw [repl, repl_skip look k r, List.drop_succ_cons]
theorem hit_len {nd : Nd} {r v : List UInt8} {n : Nat} (h : hit nd r = some (v, n)) : 1 ≤ n ∧ n ≤ r.length + 1 := by
  unfold hit at h
  split at h
  · split at h
    · rename_i q
      injection h with h
      injection h with h1 h2
      obtain ⟨q1, _⟩ := q
      cases r with
      | nil => cases q1
      | cons x r => simp; omega
    · split at h
      · injection h with h
        injection h with h1 h2
        omega
      · cases h
  · split at h
    · injection h with h
      injection h with h1 h2
      omega
    · cases h
theorem lk_len {look : UInt8 → Option Nd} {s v : List UInt8} {n : Nat} (h : lk look s = some (v, n)) : 1 ≤ n ∧ n ≤ s.length := by
  cases s with
  | nil => cases h
  | cons c r =>
    rw [lk] at h
    split at h
    · cases h
    · exact hit_len h
theorem repl_hit {look : UInt8 → Option Nd} {s v : List UInt8} {n : Nat} (h : lk look s = some (v, n)) : repl look 0 s = v ++ repl look 0 (s.drop n) := by
  cases s with
  | nil => cases h
  | cons c r =>
    have := (lk_len h).1
    rw [repl, h]
    show v ++ repl look (n - 1) r = _
    rw [repl_skip, show n = (n - 1) + 1 by omega, List.drop_succ_cons]
    rfl
theorem repl_miss {look : UInt8 → Option Nd} {c : UInt8} {r : List UInt8} (h : lk look (c :: r) = none) : repl look 0 (c :: r) = c :: repl look 0 r := by
  rw [repl, h]
end Rp
end Go.Proofs.YtagkdmolgmhmdaaGreatDoor
