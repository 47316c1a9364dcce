/- The plain layer of a replacer: what a table of keys of one and of two bytes makes of a text. No program in sight. -/
import Derived.Lib.RuneBytes
import Derived.Test.YtojgcangnkjmjaaGreatDoorBase
import Derived.Deep.QuietTactic
import Derived.BigQuiet
namespace Go.Proofs.YtojgcangnkjmjaaGreatDoor
namespace Rp
open Go

/-- what begins with a byte: its own replacement (if its priority is above nought), and the one of two bytes -/
structure Nd where
  p1 : Int
  v1 : List UInt8
  nx : Option (UInt8 × Int × List UInt8)
def hit (nd : Nd) (r : List UInt8) : Option (List UInt8 × Nat) :=
  match nd.nx with
  | some (d, p2, v2) => if r.head? = some d ∧ nd.p1 < p2 then some (v2, 2) else if 0 < nd.p1 then some (nd.v1, 1) else none
  | none => if 0 < nd.p1 then some (nd.v1, 1) else none
def lk (look : UInt8 → Option Nd) : List UInt8 → Option (List UInt8 × Nat)
  | [] => none
  | c :: r => match look c with
    | none => none
    | some nd => hit nd r
/-- k bytes more are passed over -/
def repl (look : UInt8 → Option Nd) : Nat → List UInt8 → List UInt8
  | _, [] => []
  | k + 1, _ :: r => repl look k r
  | 0, c :: r => match lk look (c :: r) with
    | some (v, n) => v ++ repl look (n - 1) r
    | none => c :: repl look 0 r
theorem repl_skip (look : UInt8 → Option Nd) : ∀ (k : Nat) (l : List UInt8), repl look k l = repl look 0 (l.drop k)
  | 0, l => rfl
  | k + 1, [] => rfl
  | k + 1, _ :: r => by rw [repl, repl_skip look k r, List.drop_succ_cons]
theorem hit_len {nd : Nd} {r v : List UInt8} {n : Nat} (h : hit nd r = some (v, n)) : 1 ≤ n ∧ n ≤ r.length + 1 := by
  unfold hit at h
  split at h
  · split at h
    · rename_i q
      injection h with h
      injection h with h1 h2
      obtain ⟨q1, _⟩ := q
      cases r with
      | nil => cases q1
      | cons x r => simp; omega
    · split at h
      · injection h with h
        injection h with h1 h2
        omega
      · cases h
  · split at h
    · injection h with h
      injection h with h1 h2
      omega
    · cases h
theorem lk_len {look : UInt8 → Option Nd} {s v : List UInt8} {n : Nat} (h : lk look s = some (v, n)) : 1 ≤ n ∧ n ≤ s.length := by
  cases s with
  | nil => cases h
  | cons c r =>
    rw [lk] at h
    split at h
    · cases h
    · exact hit_len h
theorem repl_hit {look : UInt8 → Option Nd} {s v : List UInt8} {n : Nat} (h : lk look s = some (v, n)) : repl look 0 s = v ++ repl look 0 (s.drop n) := by
  cases s with
  | nil => cases h
  | cons c r =>
    have := (lk_len h).1
    rw [repl, h]
    show v ++ repl look (n - 1) r = _
    rw [repl_skip, show n = (n - 1) + 1 by omega, List.drop_succ_cons]
    rfl
theorem repl_miss {look : UInt8 → Option Nd} {c : UInt8} {r : List UInt8} (h : lk look (c :: r) = none) : repl look 0 (c :: r) = c :: repl look 0 r := by
  rw [repl, h]
end Rp
end Go.Proofs.YtojgcangnkjmjaaGreatDoor
namespace Go.Proofs.YtojgcangnkjmjaaGreatDoor
open Go.RowKit

theorem belowN (w : World) (n : Nat) : Below w.heap.size w (w.drewN n) := ⟨rfl, rfl, rfl, Nat.le_refl _, fun _ _ => rfl⟩
theorem cell_below {w w' : World} {p : Addr} {v : Value} (h : w.cell? p = some v) (hb : Below w.heap.size w w') : w'.cell? p = some v := (hb.cell (World.block_lt_of_cell? w _ h)).trans h

/-- a node of the table, in block N -/
def NodeAt (w : World) (N : Nat) (nd : Rp.Nd) : Prop :=
  w.cell? ⟨N, 0, none⟩ = some (S nd.v1) ∧ w.cell? ⟨N, 1, none⟩ = some (.int .i64 nd.p1) ∧ w.cell? ⟨N, 4, none⟩ = some (.slice none 0 0) ∧
  match nd.nx with
  | none => w.cell? ⟨N, 2, none⟩ = some (S []) ∧ w.cell? ⟨N, 3, none⟩ = some (.pointer none)
  | some (d, p2, v2) => w.cell? ⟨N, 2, none⟩ = some (S [d]) ∧ ∃ M, w.cell? ⟨N, 3, none⟩ = some (.pointer (some ⟨M, 0, none⟩)) ∧ w.cell? ⟨M, 0, none⟩ = some (S v2) ∧ w.cell? ⟨M, 1, none⟩ = some (.int .i64 p2) ∧ w.cell? ⟨M, 2, none⟩ = some (S []) ∧ w.cell? ⟨M, 3, none⟩ = some (.pointer none) ∧ w.cell? ⟨M, 4, none⟩ = some (.slice none 0 0)
theorem NodeAt.below {w w' : World} {N : Nat} {nd : Rp.Nd} (h : NodeAt w N nd) (hb : Below w.heap.size w w') : NodeAt w' N nd := by
  obtain ⟨h0, h1, h4, hx⟩ := h
  refine ⟨cell_below h0 hb, cell_below h1 hb, cell_below h4 hb, ?_⟩
  cases e : nd.nx with
  | none =>
    rw [e] at hx
    exact ⟨cell_below hx.1 hb, cell_below hx.2 hb⟩
  | some x =>
    obtain ⟨d, p2, v2⟩ := x
    rw [e] at hx
    obtain ⟨h2, M, h3, k0, k1, k2, k3, k4⟩ := hx
    exact ⟨cell_below h2 hb, M, cell_below h3 hb, cell_below k0 hb, cell_below k1 hb, cell_below k2 hb, cell_below k3 hb, cell_below k4 hb⟩
/-- block R holds a finished replacer -/
def Gen (w : World) (R : Nat) (look : UInt8 → Option Rp.Nd) : Prop :=
  ∃ (T k : Nat) (f : UInt8 → Nat), k ≤ 255 ∧ w.cell? ⟨R, 1, none⟩ = some (.int .i64 0) ∧ w.cell? ⟨R, 4, none⟩ = some (.slice (some ⟨T, 0, none⟩) k k) ∧ w.cell? ⟨R, 5, none⟩ = some (.int .i64 k) ∧ (∀ c : UInt8, w.cell? ⟨R, 6 + c.toNat, none⟩ = some (.int .u8 (f c)) ∧ f c ≤ k) ∧
    ∀ c, match look c with
    | none => f c = k ∨ (f c < k ∧ w.cell? ⟨T, f c, none⟩ = some (.pointer none))
    | some nd => f c < k ∧ ∃ N, w.cell? ⟨T, f c, none⟩ = some (.pointer (some ⟨N, 0, none⟩)) ∧ NodeAt w N nd
theorem Gen.below {w w' : World} {R : Nat} {look : UInt8 → Option Rp.Nd} (h : Gen w R look) (hb : Below w.heap.size w w') : Gen w' R look := by
  obtain ⟨T, k, f, hk, h1, h4, h5, hf, hl⟩ := h
  refine ⟨T, k, f, hk, cell_below h1 hb, cell_below h4 hb, cell_below h5 hb, fun c => ⟨cell_below (hf c).1 hb, (hf c).2⟩, fun c => ?_⟩
  have := hl c
  cases e : look c with
  | none =>
    rw [e] at this
    rcases this with h | ⟨h, h2⟩
    · exact .inl h
    · exact .inr ⟨h, cell_below h2 hb⟩
  | some nd =>
    rw [e] at this
    obtain ⟨h, N, h2, h3⟩ := this
    exact ⟨h, N, cell_below h2 hb, h3.below hb⟩

set_option maxRecDepth 100000 in
theorem hasPre1 (r : List UInt8) (d : UInt8) (b : Bool) (w : World) (hb : Hid (decide (r.head? = some d) = b)) : Calls Tryz.prog 80 #[S r, S [d]] w (Ret (.bool b) w) := by
  cases r with
  | nil =>
    obtain rfl : false = b := hb.out
    go_enter Tryz.func80, Tryz.ntmps80
    go_wp2
    go_ret
    exact Ret.of rfl
  | cons x r =>
    have hb2 := hb.out
    simp only [List.head?_cons, Option.some.injEq] at hb2
    have HB := hide hb2
    clear hb2 hb
    by_cases h : x = d
    · subst h
      obtain rfl : true = b := by rw [← HB.out]; simp
      go_enter Tryz.func80, Tryz.ntmps80
      go_wp2
      go_ret
      exact Ret.of rfl
    · obtain rfl : false = b := by rw [← HB.out]; simp [h]
      have h2 : ([x] == [d]) = false := by simp [h]
      have h3 : ¬ [x] = [d] := by simp [h]
      go_enter Tryz.func80, Tryz.ntmps80
      go_wp2
      go_ret
      exact Ret.of (by simp)

def lkV : Option (List UInt8 × Nat) → Value
  | none => .tuple #[S [], .int .i64 0, .bool false]
  | some (v, n) => .tuple #[S v, .int .i64 n, .bool true]
end Go.Proofs.YtojgcangnkjmjaaGreatDoor
