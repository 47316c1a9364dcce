/- Plain laws of package entity: what stands ahead of the first ampersand stays; what is sure does not hang on what follows; names and numbers are decoded wherever they stand. No program in sight. -/
import Derived.Test.YtlajahhiijlhaaaDoorPlain
namespace Go.Proofs.YtlajahhiijlhaaaDoor
namespace Entp
open Go

/-! ### letters, digits -/
theorem lets_le : ∀ s, lets s ≤ s.length
  | [] => Nat.le_refl _
  | c :: l => by have := lets_le l; rw [lets, List.length_cons]; split <;> omega
theorem lets_take : ∀ (k : Nat) (s : List UInt8), lets (s.take k) = min k (lets s)
  | 0, s => by simp [lets]
  | k + 1, [] => by simp [lets]
  | k + 1, c :: l => by
    rw [List.take_succ_cons, lets, lets, lets_take k l]
    split <;> omega
theorem lets_app : ∀ (s m : List UInt8), lets s < s.length → lets (s ++ m) = lets s
  | [], _, h => by simp at h
  | c :: l, m, h => by
    rw [List.cons_append, lets, lets]
    split
    · rw [lets_app l m]
      rw [lets, if_pos (by assumption), List.length_cons] at h
      omega
    · rfl
theorem many_le (b : Int) : ∀ s, many b s ≤ s.length
  | [] => Nat.le_refl _
  | c :: l => by have := many_le b l; rw [many, List.length_cons]; split <;> omega
theorem many_app (b : Int) : ∀ (s m : List UInt8), many b s < s.length → many b (s ++ m) = many b s
  | [], _, h => by simp at h
  | c :: l, m, h => by
    rw [List.cons_append, many, many]
    split
    · rw [many_app b l m]
      rw [many, if_pos (by assumption), List.length_cons] at h
      omega
    · rfl
theorem get_app {s m : List UInt8} {k : Nat} (h : k < s.length) : (s ++ m)[k]? = s[k]? := List.getElem?_append_left h

theorem top_eq (s : List UInt8) : top s = if s[min 32 (lets s)]? = some 59 then min 32 (lets s) + 1 else min 32 (lets s) := by
  rw [top, lets_take]
theorem top_app (s m : List UInt8) (h : lets s < s.length) : top (s ++ m) = top s := by
  rw [top_eq, top_eq, lets_app s m h, get_app (by omega)]
theorem top_le (s : List UInt8) (h : lets s < s.length) : top s ≤ s.length := by
  rw [top_eq]; split <;> omega
theorem downFrom_app (s m : List UInt8) : ∀ n, n ≤ s.length → downFrom (s ++ m) n = downFrom s n
  | 0, _ => rfl
  | n + 1, h => by
    rw [downFrom, downFrom, List.take_append_of_le_length h, downFrom_app s m n (by omega)]
theorem downFrom_le (s : List UInt8) : ∀ n, (downFrom s n).1 ≤ n
  | 0 => Nat.le_refl _
  | n + 1 => by
    rw [downFrom]
    split
    · exact Nat.le_refl _
    · have := downFrom_le s n; omega
theorem named_app (s m : List UInt8) (h : lets s < s.length) : named (s ++ m) = named s := by
  rw [named, named, top_app s m h, downFrom_app s m _ (top_le s h)]
theorem nameRef_app (s m : List UInt8) (attr : Bool) (h : lets s < s.length) : nameRef (s ++ m) attr = nameRef s attr := by
  unfold nameRef
  rw [named_app s m h]
  have hn : (named s).1 ≤ top s := downFrom_le s _
  have ht := top_le s h
  by_cases h0 : (named s).1 = 0
  · simp [h0]
  · have e1 : (s ++ m)[(named s).1 - 1]? = s[(named s).1 - 1]? := get_app (by omega)
    by_cases hlt : (named s).1 < s.length
    · simp only [e1, get_app hlt]
    · have hq : (named s).1 = s.length := by omega
      have h59 : s[(named s).1 - 1]? = some 59 := by
        have := top_eq s
        split at this
        · rename_i h5
          rw [show (named s).1 - 1 = min 32 (lets s) by omega]
          exact h5
        · omega
      simp only [e1, h59]
      simp

theorem based_app (s m : List UInt8) (h : s ≠ []) : based (s ++ m) = based s := by
  cases s with
  | nil => exact absurd rfl h
  | cons c l => rfl
theorem based_skip (s : List UInt8) : (based s).2 ≤ s.length := by
  cases s with
  | nil => exact Nat.le_refl _
  | cons c l => rw [based]; split <;> simp
theorem ref_app (s m : List UInt8) (attr : Bool) (h : openR s = false) : ref (s ++ m) attr = ref s attr := by
  cases s with
  | nil => simp [openR, lets] at h
  | cons c l =>
    have e1 : ∀ x : List UInt8, ref (c :: x) attr = if c = 35 then numRef 2097152 x else nameRef (c :: x) attr := fun x => by
      unfold ref; simp only [List.head?_cons, Option.some.injEq, List.drop_succ_cons, List.drop_zero]
    have e2 : openR (c :: l) = if c = 35 then decide ((based l).2 + many (based l).1 (l.drop (based l).2) = l.length) else decide (lets (c :: l) = (c :: l).length) := by
      unfold openR; simp only [List.head?_cons, Option.some.injEq, List.drop_succ_cons, List.drop_zero]
    rw [List.cons_append, e1, e1]
    rw [e2] at h
    by_cases hc : c = 35
    · subst hc
      simp only [if_true, decide_eq_false_iff_not] at h ⊢
      have hl : l ≠ [] := by rintro rfl; exact h rfl
      have hs := based_skip l
      have hm := many_le (based l).1 (l.drop (based l).2)
      rw [List.length_drop] at hm
      unfold numRef
      rw [based_app l m hl]
      have hlt : many (based l).1 (l.drop (based l).2) < (l.drop (based l).2).length := by rw [List.length_drop]; omega
      simp only [List.drop_append_of_le_length hs, many_app _ _ m hlt]
      rw [List.drop_append_of_le_length (Nat.le_of_lt hlt), List.take_append_of_le_length (Nat.le_of_lt hlt)]
      have : ((l.drop (based l).2).drop (many (based l).1 (l.drop (based l).2))) ≠ [] := by
        intro e
        have := congrArg List.length e
        rw [List.length_drop] at this
        simp only [List.length_nil] at this
        omega
      cases he : (l.drop (based l).2).drop (many (based l).1 (l.drop (based l).2)) with
      | nil => exact absurd he this
      | cons y ys => rfl
    · simp only [if_neg hc, decide_eq_false_iff_not] at h ⊢
      exact nameRef_app (c :: l) m attr (by have := lets_le (c :: l); omega)

/-- WHAT IS SURE DOES NOT HANG ON WHAT FOLLOWS. -/
theorem sure (s m : List UInt8) (k : Int) (attr : Bool) (ho : openAt s k = false) (h0 : 0 ≤ k) (h1 : k < s.length) : refAt (s ++ m) k attr = refAt s k attr := by
  have hk : k.toNat < s.length := by omega
  unfold refAt
  unfold openAt at ho
  rw [get_app hk]
  by_cases h : s[k.toNat]? = some 38
  · have c1 : ¬ (k < 0 ∨ ((s ++ m).length : Int) ≤ k ∨ s[k.toNat]? ≠ some 38) := by rw [List.length_append, h]; simp; omega
    have c2 : ¬ (k < 0 ∨ (s.length : Int) ≤ k ∨ s[k.toNat]? ≠ some 38) := by rw [h]; simp; omega
    rw [if_neg c2] at ho
    rw [if_neg c1, if_neg c2, List.drop_append_of_le_length (by omega)]
    exact ref_app _ _ _ ho
  · rw [if_pos (by exact .inr (.inr h)), if_pos (by exact .inr (.inr h))]

/-! ### decoding -/
theorem step_pos (s : List UInt8) (attr : Bool) : 1 ≤ (step s attr).1 := by
  unfold step
  split
  · exact Nat.le_refl _
  · omega
theorem indexByte_at : ∀ (a r : List UInt8), (∀ c ∈ a, c ≠ 38) → Lib.indexByte (a ++ 38 :: r) 38 = (a.length : Int)
  | [], r, _ => by simp [Lib.indexByte]
  | c :: a, r, h => by
    have hc : (c == 38) = false := beq_eq_false_iff_ne.2 (h c (by simp))
    have ih := indexByte_at a r (fun x hx => h x (by simp [hx]))
    rw [List.cons_append]
    unfold Lib.indexByte
    rw [hc, ih]
    have : ((a.length : Int) == -1) = false := by rw [beq_eq_false_iff_ne]; omega
    simp [this]
theorem indexByte_no : ∀ (l : List UInt8), (∀ b ∈ l, b ≠ 38) → Lib.indexByte l 38 = -1
  | [], _ => rfl
  | b :: l, h => by
    have hb : (b == 38) = false := beq_eq_false_iff_ne.2 (h b (by simp))
    have ih := indexByte_no l (fun x hx => h x (by simp [hx]))
    unfold Lib.indexByte
    simp [hb, ih]
/-- a text has no ampersand, or a first one -/
theorem part : ∀ s : List UInt8, (∀ c ∈ s, c ≠ 38) ∨ ∃ a r, s = a ++ 38 :: r ∧ ∀ c ∈ a, c ≠ 38
  | [] => .inl (by simp)
  | c :: l => by
    by_cases hc : c = 38
    · exact .inr ⟨[], l, by rw [hc]; rfl, by simp⟩
    · rcases part l with h | ⟨a, r, e, h⟩
      · exact .inl (fun x hx => by rcases List.mem_cons.1 hx with rfl | hx; exact hc; exact h x hx)
      · exact .inr ⟨c :: a, r, by rw [e]; rfl, fun x hx => by rcases List.mem_cons.1 hx with rfl | hx; exact hc; exact h x hx⟩
theorem decodeF_no (attr : Bool) (f : Nat) (s : List UInt8) (h : ∀ c ∈ s, c ≠ 38) : decodeF attr f s = s := by
  cases f with
  | zero => rfl
  | succ f => rw [decodeF, indexByte_no s h]; rfl
theorem decodeF_at (attr : Bool) (f : Nat) (a r : List UInt8) (h : ∀ c ∈ a, c ≠ 38) : decodeF attr (f + 1) (a ++ 38 :: r) = a ++ (step r attr).2 ++ decodeF attr f ((38 :: r).drop (step r attr).1) := by
  rw [decodeF, indexByte_at a r h, if_neg (by omega)]
  simp only [Int.toNat_natCast]
  rw [show a.length + 1 = a.length + 1 from rfl, ← List.drop_drop, List.drop_left, List.drop_succ_cons, List.drop_zero, List.take_left, ← List.drop_drop, List.drop_left]
theorem decodeF_fuel (attr : Bool) : ∀ (f g : Nat) (s : List UInt8), s.length < f → s.length < g → decodeF attr f s = decodeF attr g s
  | 0, _, s, h, _ => by omega
  | _ + 1, 0, s, _, h => by omega
  | f + 1, g + 1, s, hf, hg => by
    rcases part s with h | ⟨a, r, rfl, h⟩
    · rw [decodeF_no attr _ s h, decodeF_no attr _ s h]
    · have hp := step_pos r attr
      rw [decodeF_at attr f a r h, decodeF_at attr g a r h, decodeF_fuel attr f g]
      · rw [List.length_drop]; simp at hf ⊢; omega
      · rw [List.length_drop]; simp at hg ⊢; omega
theorem decode_no (attr : Bool) (s : List UInt8) (h : ∀ c ∈ s, c ≠ 38) : decode s attr = s := decodeF_no attr _ s h
theorem decode_at (attr : Bool) (a r : List UInt8) (h : ∀ c ∈ a, c ≠ 38) : decode (a ++ 38 :: r) attr = a ++ (step r attr).2 ++ decode ((38 :: r).drop (step r attr).1) attr := by
  have hp := step_pos r attr
  rw [decode, decodeF_at attr _ a r h, decode, decodeF_fuel attr _ (((38 :: r).drop (step r attr).1).length + 1)]
  · rw [List.length_drop]; simp; omega
  · omega
end Entp
end Go.Proofs.YtlajahhiijlhaaaDoor
