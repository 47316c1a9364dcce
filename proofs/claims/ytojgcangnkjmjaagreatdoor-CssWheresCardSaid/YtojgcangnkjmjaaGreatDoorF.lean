/- The replacer of newLexer: what it makes of a text. -/
import Derived.Test.YtojgcangnkjmjaaGreatDoorSc
import Derived.Test.YtojgcangnkjmjaaGreatDoorRun2
namespace Go.Proofs.YtojgcangnkjmjaaGreatDoor
open Go.RowKit

def pC : List (List UInt8 × List UInt8) := [([13, 10], [10]), ([13], [10]), ([12], [10]), ([0], [239, 191, 189])]
theorem okC : Okay pC 0 where
  n2 := by decide
  n100 := by decide
  short := by decide
  keys k x h := by
    match k, h with
    | 0, h => cases h; exact ⟨13, [10], rfl, by decide, .inl rfl⟩
    | 1, h =>
      cases h
      refine ⟨13, [], rfl, by decide, .inr ⟨rfl, ndOf [10] [10] 8, rfl, rfl, fun x hx => ?_⟩⟩
      show (if x = 13 then _ else none) = none
      rw [if_neg hx]
    | 2, h => cases h; exact ⟨12, [], rfl, by decide, .inl rfl⟩
    | 3, h => cases h; exact ⟨0, [], rfl, by decide, .inl rfl⟩
    | k + 4, h => simp [pC] at h
  few := by decide +kernel
  lt := by decide
  two x h := by cases h; rfl
theorem lkC (c : UInt8) (r : List UInt8) : Rp.lk (lookTo pC 4) (c :: r) = if c = 0 then some ([239, 191, 189], 1) else if c = 12 then some ([10], 1) else if c = 13 then (if r.head? = some 10 then some ([10], 2) else some ([10], 1)) else none := by
  rw [Rp.lk]
  simp only [lookTo, pC, List.getElem?_cons_zero, List.getElem?_cons_succ]
  by_cases h1 : c = 0
  · simp [h1, addNd, ndOf, Rp.hit]
  · by_cases h2 : c = 12
    · simp [h2, addNd, ndOf, Rp.hit]
    · by_cases h3 : c = 13
      · subst h3
        by_cases h4 : r.head? = some 10 <;> simp [h4, addNd, ndOf, Rp.hit]
      · simp [h1, h2, h3]
theorem cleanC_true (r : List UInt8) (h : r.head? ≠ some 10) : Cssp.cleanC true r = Cssp.cleanC false r := by
  cases r with
  | nil => rfl
  | cons d q =>
    have hd : ¬ d = 10 := fun e => h (by rw [e]; rfl)
    rw [Cssp.cleanC, Cssp.cleanC]
    simp [hd]
theorem esc_clean : ∀ (n : Nat) (s : List UInt8), s.length ≤ n → Rp.repl (lookTo pC 4) 0 s = Cssp.cleanC false s
  | _, [], _ => by rw [Cssp.cleanC]; rfl
  | 0, c :: r, h => by simp at h
  | n + 1, c :: r, h => by
    have ih := esc_clean n r (by simpa using h)
    rw [Cssp.cleanC, if_neg (by simp)]
    by_cases h1 : c = 0
    · rw [if_pos h1, Rp.repl_hit (v := [239, 191, 189]) (n := 1) (by rw [lkC, if_pos h1])]
      show _ ++ Rp.repl _ 0 r = _
      rw [ih]; rfl
    · rw [if_neg h1]
      by_cases h2 : c = 12
      · rw [if_pos h2, Rp.repl_hit (v := [10]) (n := 1) (by rw [lkC, if_neg h1, if_pos h2])]
        show _ ++ Rp.repl _ 0 r = _
        rw [ih]; rfl
      · rw [if_neg h2]
        by_cases h3 : c = 13
        · rw [if_pos h3]
          by_cases h4 : r.head? = some 10
          · obtain ⟨q, rfl⟩ : ∃ q, r = 10 :: q := by
              cases r with
              | nil => simp at h4
              | cons x q => simp at h4; subst h4; exact ⟨q, rfl⟩
            rw [Rp.repl_hit (v := [10]) (n := 2) (by rw [lkC, if_neg h1, if_neg h2, if_pos h3, if_pos h4])]
            show _ ++ Rp.repl _ 0 q = _
            rw [esc_clean n q (by simp at h; omega), Cssp.cleanC, if_pos ⟨rfl, rfl⟩]; rfl
          · rw [Rp.repl_hit (v := [10]) (n := 1) (by rw [lkC, if_neg h1, if_neg h2, if_pos h3, if_neg h4]), cleanC_true r h4]
            show _ ++ Rp.repl _ 0 r = _
            rw [ih]; rfl
        · rw [if_neg h3, Rp.repl_miss (by rw [lkC, if_neg h1, if_neg h2, if_neg h3]), ih]
theorem escC (s : List UInt8) : esc pC s = Cssp.clean s := esc_clean s.length s (Nat.le_refl _)
theorem cleanC_len : ∀ (b : Bool) (s : List UInt8), (Cssp.cleanC b s).length ≤ 3 * s.length
  | b, [] => by rw [Cssp.cleanC]; exact Nat.le_refl _
  | b, c :: r => by
    have h0 := cleanC_len false r
    have h1 := cleanC_len true r
    rw [Cssp.cleanC]
    simp only [List.length_cons]
    split
    · omega
    · split
      · rw [List.length_append]; show 3 + _ ≤ _; omega
      · split
        · simp only [List.length_cons]; omega
        · split <;> (simp only [List.length_cons]; omega)
end Go.Proofs.YtojgcangnkjmjaaGreatDoor
