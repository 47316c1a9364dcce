/- The reference's one and all: the plain laws. -/
import Derived.Test.YtngccmlcopcghaaGreatDoorQl
set_option maxRecDepth 100000
set_option maxHeartbeats 8000000
namespace Go.Proofs.YtngccmlcopcghaaGreatDoor
namespace Jsp
open Go
theorem find_len (s : List UInt8) (q : List UInt8 -> Bool) (n : Nat) : ∀ l : List (List UInt8), (∀ m ∈ l, m.length = n) ->
  l.find? (fun m => m.isPrefixOf s && q m) = if (decide (n <= s.length) && l.contains (s.take n) && q (s.take n)) = true then some (s.take n) else none
 | [], _ => by simp
 | m :: l, h => by
  have hm := h m (by simp)
  have ih := find_len s q n l (fun x hx => h x (by simp [hx]))
  have hp : m.isPrefixOf s = (decide (n <= s.length) && (s.take n == m)) := by
   rw [Bool.eq_iff_iff, List.isPrefixOf_iff_prefix, Bool.and_eq_true, decide_eq_true_eq, beq_iff_eq]
   constructor
   ·intro hx
    have h2 := hx.length_le
    rw [List.prefix_iff_eq_take, hm] at hx
    exact ⟨by omega, hx.symm⟩
   ·rintro ⟨_, hx⟩
    rw [<- hx]
    exact List.take_prefix _ _
  rw [List.find?_cons, hp, ih, List.contains_cons]
  by_cases h1 : n <= s.length
  ·rw [decide_eq_true h1]
   cases h2 : s.take n == m
   ·simp
   ·have e : s.take n = m := by simpa using h2
    rw [<- e]
    cases q (s.take n) <;> simp
  ·rw [decide_eq_false h1]
   simp
def mAt (s : List UInt8) (n : Nat) : Bool := decide (n <= s.length) && marks.contains (s.take n) && !(s.take n == [63, 46] && isB (fun c => digit c.toNat) (s.drop 2))
theorem marks_len : (∀ m ∈ marks, m.length = 4 -> m ∈ marks.take 1) /\ (∀ m ∈ marks, m.length = 3 -> m ∈ (marks.drop 1).take 10) /\ (∀ m ∈ marks, m.length = 2 -> m ∈ (marks.drop 11).take 22) /\ (∀ m ∈ marks, m.length = 1 -> m ∈ marks.drop 33) /\
  (∀ m ∈ marks.take 1, m.length = 4) /\ (∀ m ∈ (marks.drop 1).take 10, m.length = 3) /\ (∀ m ∈ (marks.drop 11).take 22, m.length = 2) /\ (∀ m ∈ marks.drop 33, m.length = 1) := by decide
theorem marks_parts : marks = marks.take 1 ++ ((marks.drop 1).take 10 ++ ((marks.drop 11).take 22 ++ marks.drop 33)) := by decide
theorem cont_len {l m : List (List UInt8)} {n : Nat} {t : List UInt8} (h1 : ∀ x ∈ l, x.length = n -> x ∈ m) (h2 : ∀ x ∈ m, x ∈ l) (ht : t.length = n) : m.contains t = l.contains t := by
 rw [Bool.eq_iff_iff, List.contains_iff_mem, List.contains_iff_mem]
 exact ⟨h2 t, fun h => h1 t h ht⟩
theorem find_part {l m : List (List UInt8)} {n : Nat} (s : List UInt8) (q : List UInt8 -> Bool) (h0 : ∀ x ∈ m, x.length = n) (h1 : ∀ x ∈ l, x.length = n -> x ∈ m) (h2 : ∀ x ∈ m, x ∈ l) :
  m.find? (fun m => m.isPrefixOf s && q m) = if (decide (n <= s.length) && l.contains (s.take n) && q (s.take n)) = true then some (s.take n) else none := by
 rw [find_len s q n m h0]
 by_cases hn : n <= s.length
 ·rw [cont_len h1 h2 (by rw [List.length_take]; omega)]
 ·rw [decide_eq_false hn]; rfl
theorem markOf_eq (s : List UInt8) : markOf s = if mAt s 4 = true then some (s.take 4) else if mAt s 3 = true then some (s.take 3) else if mAt s 2 = true then some (s.take 2) else if mAt s 1 = true then some (s.take 1) else none := by
 obtain ⟨a4, a3, a2, a1, b4, b3, b2, b1⟩ := marks_len
 have c4 : ∀ x ∈ marks.take 1, x ∈ marks := fun x h => List.mem_of_mem_take h
 have c3 : ∀ x ∈ (marks.drop 1).take 10, x ∈ marks := fun x h => List.mem_of_mem_drop (List.mem_of_mem_take h)
 have c2 : ∀ x ∈ (marks.drop 11).take 22, x ∈ marks := fun x h => List.mem_of_mem_drop (List.mem_of_mem_take h)
 have c1 : ∀ x ∈ marks.drop 33, x ∈ marks := fun x h => List.mem_of_mem_drop h
 have f4 := find_part s (fun m => !(m == [63, 46] && isB (fun c => digit c.toNat) (s.drop 2))) b4 a4 c4
 have f3 := find_part s (fun m => !(m == [63, 46] && isB (fun c => digit c.toNat) (s.drop 2))) b3 a3 c3
 have f2 := find_part s (fun m => !(m == [63, 46] && isB (fun c => digit c.toNat) (s.drop 2))) b2 a2 c2
 have f1 := find_part s (fun m => !(m == [63, 46] && isB (fun c => digit c.toNat) (s.drop 2))) b1 a1 c1
 unfold markOf
 conv => lhs; rw [marks_parts]
 rw [List.find?_append, List.find?_append, List.find?_append, f4, f3, f2, f1]
 unfold mAt
 (repeat' split) <;> simp
theorem mAt_iff (s : List UInt8) (n : Nat) : mAt s n = (decide (n <= s.length) && wordsOf marks (s.take n) && !(s.take n == [63, 46] && isB (fun c => digit c.toNat) (s.drop 2))) := rfl
open Go
def gap1 (s : List UInt8) : Nat ⊕ Nat := match gap s with
 | .inl (k, _) => .inl k
 | .inr o => .inr o
def on1 (k : Nat) : Nat ⊕ Nat -> Nat ⊕ Nat
 | .inl n => .inl (n + k)
 | .inr o => .inr (o + k)
theorem on1_zero (x : Nat ⊕ Nat) : on1 0 x = x := by cases x <;> rfl
theorem on1_on1 (a b : Nat) (x : Nat ⊕ Nat) : on1 a (on1 b x) = on1 (b + a) x := by cases x <;> simp only [on1, Nat.add_assoc]
theorem gap1_on (k : Nat) (s : List UInt8) : (match gapOn k (gap s) with | .inl (n, _) => (.inl n : Nat ⊕ Nat) | .inr o => .inr o) = on1 k (gap1 s) := by
 unfold gap1
 cases gap s with
 | inl y => rfl
 | inr o => rfl
theorem gap1_nil : gap1 [] = .inl 0 := rfl
theorem gap1_step (s : List UInt8) (h0 : s ≠ []) : gap1 s =
  if blank (pt s) = true \/ lineEnd (pt s) = true then on1 (pn s) (gap1 (s.drop (pn s)))
  else if [47, 47].isPrefixOf s = true then on1 (run (fun r => !lineEnd r) s) (gap1 (s.drop (run (fun r => !lineEnd r) s)))
  else if [47, 42].isPrefixOf s = true then
   match shut (s.drop 2) with
   | none => .inr 0
   | some n => on1 (2 + n + 2) (gap1 (s.drop (2 + n + 2)))
  else .inl 0 := by
 conv => lhs; unfold gap1
 rw [gap_step s h0]
 by_cases h1 : blank (pt s) = true \/ lineEnd (pt s) = true
 ·rw [if_pos h1, if_pos h1]
  exact gap1_on _ _
 rw [if_neg h1, if_neg h1]
 by_cases h2 : ([47, 47] : List UInt8).isPrefixOf s = true
 ·rw [if_pos h2, if_pos h2]
  by_cases h3 : s.drop (run (fun r => !lineEnd r) s) = []
  ·rw [if_pos h3, h3]
   simp only [gap1_nil, on1, Nat.zero_add]
  ·rw [if_neg h3]
   exact gap1_on _ _
 rw [if_neg h2, if_neg h2]
 by_cases h3 : ([47, 42] : List UInt8).isPrefixOf s = true
 ·rw [if_pos h3, if_pos h3]
  cases shut (s.drop 2) with
  | none => rfl
  | some n => exact gap1_on _ _
 rw [if_neg h3, if_neg h3]
def two (F : List UInt8) (i : Nat) : List UInt8 := if i + 2 <= F.length then (F.drop i).take 2 else []
theorem two_pre (F : List UInt8) (i : Nat) (m : List UInt8) (hm : m.length = 2) : (two F i == m) = m.isPrefixOf (F.drop i) := by
 rw [Bool.eq_iff_iff, beq_iff_eq, List.isPrefixOf_iff_prefix, List.prefix_iff_eq_take, hm]
 unfold two
 constructor
 ·intro h
  split at h
  ·exact h.symm
  ·rw [<- h] at hm; cases hm
 ·intro h
  have hl := congrArg List.length h
  rw [hm, List.length_take, List.length_drop] at hl
  rw [if_pos (by omega), <- h]
theorem shut_at {F : List UInt8} {j : Nat} (h : j + 2 <= F.length) : (two F j = [42, 47] -> shut (F.drop j) = some 0) /\ (¬ two F j = [42, 47] -> shut (F.drop j) = (shut (F.drop (j + 1))).map (· + 1)) := by
 have hlt : j < F.length := by omega
 have hlt2 : j + 1 < F.length := by omega
 have e : F.drop j = F[j] :: F.drop (j + 1) := List.drop_eq_getElem_cons hlt
 have e2 : F.drop (j + 1) = F[j + 1] :: F.drop (j + 2) := List.drop_eq_getElem_cons hlt2
 have ht : two F j = [F[j], F[j + 1]] := by unfold two; rw [if_pos h, e, e2]; rfl
 have hh : (F.drop (j + 1)).head? = some F[j + 1] := by rw [e2]; rfl
 rw [ht, e, shut_cons, hh]
 constructor
 ·intro q
  injection q with q1 q2
  injection q2 with q2 _
  rw [if_pos ⟨q1, by rw [q2]⟩]
 ·intro q
  rw [if_neg]
  rintro ⟨q1, q2⟩
  injection q2 with q2
  exact q (by rw [q1, q2])
theorem shut_end {F : List UInt8} {j : Nat} (h : ¬ j + 2 <= F.length) : shut (F.drop j) = none := by
 have hl : (F.drop j).length <= 1 := by rw [List.length_drop]; omega
 cases hd : F.drop j with
 | nil => rfl
 | cons c r =>
  rw [hd] at hl
  cases r with
  | nil => rw [shut_cons, if_neg (by rintro ⟨_, h⟩; cases h)]; rfl
  | cons => simp at hl
theorem shut_in {F : List UInt8} {j n : Nat} (h : shut (F.drop j) = some n) : j + n + 2 <= F.length := by
 have := (shut_index (F.drop j)).2 n h
 rw [List.length_drop] at this
 have h2 := this.2
 omega
open Go
theorem tmpl_facts {st st2 : St} {s : List UInt8} {x : Tk} {k : Nat} (h : tmpl st s = .ok x k st2) : st2.some = true /\ x.kind ≠ 1 /\ st2.last = [] /\ st2.goal = (x.kind == 7 || x.kind == 8) := by
 unfold tmpl at h
 dsimp only at h
 split at h
 ·split at h
  ·cases h
  ·split at h
   ·cases h
    cases isB (· == 125) s <;> exact ⟨rfl, by simp, rfl, rfl⟩
   ·split at h
    ·cases h
    ·cases h
     cases isB (· == 125) s <;> exact ⟨rfl, by simp, rfl, rfl⟩
 ·cases h
theorem next_some {st st2 : St} {s : List UInt8} {x : Tk} {k : Nat} (h : next st s = .ok x k st2) : st2.some = true := by
 unfold next at h
 dsimp only at h
 repeat' split at h
 all_goals first
  | (cases h; done)
  | (cases h; rfl)
  | exact (tmpl_facts h).1
  | skip
 all_goals
  unfold quote at *
  repeat' split at *
 all_goals first
  | (cases h; done)
  | (rename_i q; injection q with q; subst q; cases h; done)
  | (rename_i q _; injection q with q; subst q; cases h; done)
  | (rename_i q; cases q; done)
  | (rename_i q _; cases q; done)
theorem gp_inl {F : List UInt8} {p g : Nat} (h : gap1 (F.drop p) = .inl g) : ∃ ln, gp F p false = .inl (p + g, ln) := by
 unfold gap1 at h
 unfold gp
 rw [if_neg (by decide)]
 cases hg : gap (F.drop p) with
 | inr o => rw [hg] at h; cases h
 | inl y =>
  obtain ⟨k, ln⟩ := y
  rw [hg] at h
  injection h with h
  subst h
  exact ⟨ln, by simp only [gapOn]; rw [Nat.add_comm]⟩
theorem gp_inr {F : List UInt8} {p o : Nat} (h : gap1 (F.drop p) = .inr o) : gp F p false = .inr (p + o) := by
 unfold gap1 at h
 unfold gp
 rw [if_neg (by decide)]
 cases hg : gap (F.drop p) with
 | inl y => rw [hg] at h; cases h
 | inr k =>
  rw [hg] at h
  injection h with h
  subst h
  simp only [gapOn]; rw [Nat.add_comm]
theorem next_er {st : St} {s : List UInt8} {er o : Nat} (h : next st s = .no er o) : er ≠ 0 := by
 have hq : ∀ {r : Rs}, quote s = .inl r -> r = .no er o -> er ≠ 0 := by
  intro r hr he
  subst he
  unfold quote at hr
  split at hr
  ·split at hr
   ·cases hr
   ·injection hr with hr; cases hr; decide
  ·injection hr with hr; cases hr; decide
 have ht : tmpl st s = .no er o -> er ≠ 0 := by
  intro h
  unfold tmpl at h
  dsimp only at h
  split at h
  ·split at h
   ·cases h; decide
   ·split at h
    ·cases h
    ·split at h
     ·cases h; decide
     ·cases h
  ·cases h; decide
 unfold next at h
 dsimp only at h
 split at h
 ·cases h
 split at h
 ·split at h
  ·cases h; decide
  ·cases h
 split at h
 ·split at h
  ·cases h; decide
  ·cases h
 split at h
 ·split at h
  ·exact hq (by assumption) h
  ·cases h
 split at h
 ·exact ht h
 split at h
 ·split at h
  ·cases h; decide
  ·cases h
 split at h
 ·cases h; decide
 ·split at h
  ·cases h; decide
  ·cases h
theorem begins_zero : begins (pt []) = false := rfl
section
variable {st : St} {F : List UInt8} {n : Nat}
theorem dd1 : (F.drop n).drop 1 = F.drop (n + 1) := by rw [List.drop_drop]
theorem nx_name (h : begins (pt (F.drop n)) = true) : next st (F.drop n) = .ok ⟨1, (F.drop n).take (name (F.drop n)), []⟩ (name (F.drop n)) { st with goal := wordsOf aheadV ((F.drop n).take (name (F.drop n))), last := (F.drop n).take (name (F.drop n)), some := true } := by
 unfold next; rw [if_pos h]
theorem nx_priv (h : pt (F.drop n) = 35) (hb : begins (pt (F.drop (n + 1))) = true) : next st (F.drop n) = .ok ⟨2, (F.drop n).take (1 + name (F.drop (n + 1))), []⟩ (1 + name (F.drop (n + 1))) (plainS st) := by
 unfold next
 rw [h, if_neg (by decide), if_pos rfl, dd1, if_neg]
 rintro (h | h)
 ·rw [h, begins_zero] at hb; cases hb
 ·rw [h] at hb; cases hb
theorem nx_hash (h : pt (F.drop n) = 35) (hb : begins (pt (F.drop (n + 1))) = false) : next st (F.drop n) = .no 170 0 := by
 unfold next
 rw [h, if_neg (by decide), if_pos rfl, dd1, if_pos (.inr hb)]
theorem nx_num (h0 : begins (pt (F.drop n)) = false) (h35 : ¬ pt (F.drop n) = 35) (hd : digit (pt (F.drop n)) = true \/ (pt (F.drop n) = 46 /\ digit (pt (F.drop (n + 1))) = true)) :
  next st (F.drop n) = if (numeral (F.drop n)).2 = false \/ name (F.drop (n + (numeral (F.drop n)).1)) ≠ 0 then .no 173 0 else .ok ⟨4, (F.drop n).take (numeral (F.drop n)).1, []⟩ (numeral (F.drop n)).1 (plainS st) := by
 unfold next
 rw [if_neg (by rw [h0]; decide), if_neg h35, dd1, if_pos hd]
 dsimp only
 rw [List.drop_drop]
theorem nx_text (h : pt (F.drop n) = 34 \/ pt (F.drop n) = 39) : next st (F.drop n) = match quote (F.drop n) with
  | .inl r => r
  | .inr (k, v) => .ok ⟨5, (F.drop n).take (k + 2), v⟩ (k + 2) (plainS st) := by
 unfold next
 rw [if_neg (by rcases h with h | h <;> (rw [h]; decide)), if_neg (by rcases h with h | h <;> (rw [h]; decide)), if_neg (by rcases h with h | h <;> (rw [h]; simp; decide)), if_pos h]
 cases quote (F.drop n) with
 | inl r => rfl
 | inr y => rfl
theorem nx_tmpl (h : pt (F.drop n) = 96 \/ (pt (F.drop n) = 125 /\ top st = 36)) : next st (F.drop n) = tmpl st (F.drop n) := by
 have hx : pt (F.drop n) = 96 \/ pt (F.drop n) = 125 := h.imp id And.left
 unfold next
 rw [if_neg (by rcases hx with h | h <;> (rw [h]; decide)), if_neg (by rcases hx with h | h <;> (rw [h]; decide)), if_neg (by rcases hx with h | h <;> (rw [h]; simp; decide)), if_neg (by rcases hx with h | h <;> (rw [h]; decide)), if_pos h]
theorem nx_reg (h : pt (F.drop n) = 47) (hg : st.goal = true) : next st (F.drop n) = match reg (F.drop (n + 1)) with
  | none => .no 174 0
  | some k => .ok ⟨10, (F.drop n).take (k + 2 + name (F.drop (n + 1 + k + 1))), []⟩ (k + 2 + name (F.drop (n + 1 + k + 1))) (plainS st) := by
 unfold next
 rw [h, if_neg (by decide), if_neg (by decide), if_neg (by simp; decide), if_neg (by decide), if_neg (by simp), if_pos ⟨rfl, hg⟩, dd1]
 cases reg (F.drop (n + 1)) with
 | none => rfl
 | some k =>
  dsimp only
  rw [List.drop_drop, show n + (k + 2) = n + 1 + k + 1 by omega]
theorem nx_mark (h0 : begins (pt (F.drop n)) = false) (h35 : ¬ pt (F.drop n) = 35) (hd : ¬ (digit (pt (F.drop n)) = true \/ (pt (F.drop n) = 46 /\ digit (pt (F.drop (n + 1))) = true))) (hq : ¬ (pt (F.drop n) = 34 \/ pt (F.drop n) = 39))
  (ht : ¬ (pt (F.drop n) = 96 \/ (pt (F.drop n) = 125 /\ top st = 36))) (hr : ¬ (pt (F.drop n) = 47 /\ st.goal = true)) : next st (F.drop n) = match markOf (F.drop n) with
  | none => .no 170 0
  | some m => match bracket st m with
   | none => .no 177 0
   | some st2 => .ok ⟨3, m, []⟩ m.length { st2 with last := m, some := true } := by
 unfold next
 rw [if_neg (by rw [h0]; decide), if_neg h35, dd1, if_neg hd, if_neg hq, if_neg ht, if_neg hr]
 cases markOf (F.drop n) with
 | none => rfl
 | some m => rfl
end
end Jsp
end Go.Proofs.YtngccmlcopcghaaGreatDoor
