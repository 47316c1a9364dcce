/- Letters, digits, what a digit stands for; what goes on in a name. -/
import Derived.Test.YtojgcangnkjmjaaGreatDoorBase
import Derived.Test.YtojgcangnkjmjaaGreatDoorRun2
namespace Go.Proofs.YtojgcangnkjmjaaGreatDoor
open Go.RowKit

theorem or_all : ∀ n : Fin 256, bits BinOp.or .i32 (n.val : Int) 32 = (((n.val ||| 32 : Nat)) : Int) ∧ (97 ≤ (n.val ||| 32) ∧ (n.val ||| 32) ≤ 122 ↔ (65 ≤ n.val ∧ n.val ≤ 90) ∨ (97 ≤ n.val ∧ n.val ≤ 122)) ∧
    ((65 ≤ n.val ∧ n.val ≤ 90) → (n.val ||| 32) = n.val + 32) ∧ ((97 ≤ n.val ∧ n.val ≤ 122) → (n.val ||| 32) = n.val) := by decide +kernel
theorem or_low (c : UInt8) : ∃ m : Nat, bits BinOp.or .i32 (c.toNat : Int) 32 = (m : Int) ∧ (97 ≤ m ∧ m ≤ 122 ↔ (65 ≤ c.toNat ∧ c.toNat ≤ 90) ∨ (97 ≤ c.toNat ∧ c.toNat ≤ 122)) ∧
    ((65 ≤ c.toNat ∧ c.toNat ≤ 90) → m = c.toNat + 32) ∧ ((97 ≤ c.toNat ∧ c.toNat ≤ 122) → m = c.toNat) := by
  obtain ⟨h1, h2, h3, h4⟩ := or_all ⟨c.toNat, c.toNat_lt⟩
  exact ⟨_, h1, h2, h3, h4⟩

abbrev isAlpha (c : UInt8) : Bool := Cssp.alpha c
abbrev isDigit (c : UInt8) : Bool := Cssp.digit c
theorem isAlpha_iff (c : UInt8) : isAlpha c = true ↔ (65 ≤ c.toNat ∧ c.toNat ≤ 90) ∨ (97 ≤ c.toNat ∧ c.toNat ≤ 122) := by simp [Cssp.alpha]
theorem isDigit_iff (c : UInt8) : isDigit c = true ↔ (48 ≤ c.toNat ∧ c.toNat ≤ 57) := by simp [Cssp.digit]

theorem tDigit (c : UInt8) (w : World) : Calls Tryz.prog 126 #[.int .i32 c.toNat] w (Ret (.bool (isDigit c)) w) := by
  go_enter Tryz.func126, Tryz.ntmps126
  go_wp2
  all_goals go_ret
  all_goals exact Ret.of (v_b (by rw [Bool.eq_iff_iff, isDigit_iff]; simp only [decide_eq_true_eq, Bool.false_eq_true, false_iff]; omega))
theorem tAlpha (c : UInt8) (w : World) : Calls Tryz.prog 127 #[.int .i32 c.toNat] w (Ret (.bool (isAlpha c)) w) := by
  obtain ⟨m, h1, h2, _, _⟩ := or_low c
  go_enter Tryz.func127, Tryz.ntmps127
  go_wp2
  all_goals go_ret
  all_goals exact Ret.of (v_b (by rw [Bool.eq_iff_iff, isAlpha_iff]; simp only [decide_eq_true_eq, Bool.false_eq_true, false_iff]; omega))
set_option maxRecDepth 100000 in
set_option maxRecDepth 100000 in
set_option maxRecDepth 100000 in
theorem tHex (c : UInt8) (w : World) : Calls Tryz.prog 98 #[.int .i32 c.toNat] w (Ret (.int .i64 (Cssp.hex c)) w) := by
  obtain ⟨m, h1, h2, h3, h4⟩ := or_low c
  have hc := u8_lt c
  go_enter Tryz.func98, Tryz.ntmps98
  go_wp2_with fail
  refine (tDigit c _).mono ?_
  rintro e w' ⟨rfl, rfl⟩
  cases hd : isDigit c
  · go_wp2_with fail
    refine (tAlpha c _).mono ?_
    rintro e w' ⟨rfl, rfl⟩
    cases ha : isAlpha c
    · go_wp2_with fail
      go_ret
      refine Ret.of (v_i ?_)
      have a1 : ¬ ((65 ≤ c.toNat ∧ c.toNat ≤ 90) ∨ (97 ≤ c.toNat ∧ c.toNat ≤ 122)) := fun h => by rw [(isAlpha_iff c).2 h] at ha; cases ha
      have a2 : ¬ (48 ≤ c.toNat ∧ c.toNat ≤ 57) := fun h => by rw [(isDigit_iff c).2 h] at hd; cases hd
      unfold Cssp.hex
      rw [if_neg a2, if_neg (fun h => a1 (by omega)), if_neg (fun h => a1 (by omega))]
    · have H3 := hide h3
      have H4 := hide h4
      clear h3 h4
      have a1 := (isAlpha_iff c).1 ha
      have a2 : ¬ (48 ≤ c.toNat ∧ c.toNat ≤ 57) := fun h => by rw [(isDigit_iff c).2 h] at hd; cases hd
      have hm : 97 ≤ m ∧ m ≤ 122 := h2.2 a1
      clear h2
      go_wp2_with fail
      all_goals go_ret
      all_goals refine Ret.of (v_i ?_)
      all_goals have h3 := H3.out
      all_goals have h4 := H4.out
      all_goals have h3 := H3.out
      all_goals have h4 := H4.out
      all_goals have h3 := H3.out
      all_goals have h4 := H4.out
      all_goals unfold Cssp.hex
      all_goals rw [if_neg a2]
      all_goals (split; (go_num <;> omega))
      all_goals (split; (go_num <;> omega))
      all_goals (go_num <;> omega)
  · have a2 := (isDigit_iff c).1 hd
    go_wp2_with fail
    go_ret
    refine Ret.of (v_i ?_)
    unfold Cssp.hex
    rw [if_pos a2]

theorem u8eq (c : UInt8) (n : Nat) (h : n < 256) : ((c.toNat : Int) == (n : Int)) = (c == UInt8.ofNat n) := by
  rw [Bool.eq_iff_iff, beq_iff_eq, beq_iff_eq]
  constructor
  · intro e
    apply UInt8.toNat_inj.1
    rw [UInt8.toNat_ofNat_of_lt' h]
    omega
  · rintro rfl
    rw [UInt8.toNat_ofNat_of_lt' h]
theorem cBlank (c : UInt8) (w : World) : Calls Tryz.prog 75 #[.int .u8 c.toNat] w (Ret (.bool (Cssp.blank c)) w) := by
  have h : Cssp.blank c = (decide (c.toNat = 32) || decide (c.toNat = 9) || decide (c.toNat = 10)) := by
    rw [Bool.eq_iff_iff]
    simp only [Cssp.blank, Bool.or_eq_true, beq_iff_eq, decide_eq_true_eq, ← UInt8.toNat_inj]
    exact Iff.rfl
  rw [h]
  go_enter Tryz.func75, Tryz.ntmps75
  go_wp2
  all_goals go_ret
  all_goals exact Ret.of (v_b (by rw [Bool.eq_iff_iff]; simp <;> omega))
theorem cDigit (c : UInt8) (w : World) : Calls Tryz.prog 101 #[.int .u8 c.toNat] w (Ret (.bool (Cssp.digit c)) w) := by
  have hc := u8_lt c
  go_enter Tryz.func101, Tryz.ntmps101
  go_wp2_with fail
  refine (tDigit c _).mono ?_
  rintro e w' ⟨rfl, rfl⟩
  go_wp2_with fail
  go_ret
  exact Ret.of rfl
theorem cBegins (c : UInt8) (w : World) : Calls Tryz.prog 100 #[.int .u8 c.toNat] w (Ret (.bool (Cssp.begins c)) w) := by
  have hc := u8_lt c
  have h : Cssp.begins c = (decide (128 ≤ c.toNat) || decide (c.toNat = 95) || Cssp.alpha c) := by
    rw [Bool.eq_iff_iff]
    simp only [Cssp.begins, Bool.or_eq_true, beq_iff_eq, decide_eq_true_eq, ← UInt8.toNat_inj]
    exact Iff.rfl
  rw [h]
  go_enter Tryz.func100, Tryz.ntmps100
  by_cases h1 : 128 ≤ c.toNat
  · have d1 : decide ((128 : Int) ≤ (c.toNat : Int)) = true := by simp; omega
    go_wp2_with fail
    go_ret
    exact Ret.of (v_b (by simp [h1]))
  · have d1 : decide ((128 : Int) ≤ (c.toNat : Int)) = false := by simp; omega
    by_cases h2 : c.toNat = 95
    · have d2 : ((c.toNat : Int) == 95) = true := by rw [beq_iff_eq]; omega
      clear h1
      have H2 := hide h2
      clear h2
      go_wp2_with fail
      go_ret
      exact Ret.of (v_b (by simp [H2.out]))
    · have d2 : ((c.toNat : Int) == 95) = false := by rw [beq_eq_false_iff_ne]; omega
      have H1 := hide h1
      have H2 := hide h2
      clear h1 h2
      go_wp2_with fail
      refine (tAlpha c _).mono ?_
      rintro e w' ⟨rfl, rfl⟩
      go_wp2_with fail
      go_ret
      exact Ret.of (v_b (by simp [H1.out, H2.out]))
theorem cGoesOn (c : UInt8) (w : World) : Calls Tryz.prog 71 #[.int .u8 c.toNat] w (Ret (.bool (Cssp.goesOn c)) w) := by
  have h : Cssp.goesOn c = (Cssp.begins c || Cssp.digit c || decide (c.toNat = 45)) := by
    rw [Bool.eq_iff_iff]
    simp only [Cssp.goesOn, Bool.or_eq_true, beq_iff_eq, decide_eq_true_eq, ← UInt8.toNat_inj]
    exact Iff.rfl
  rw [h]
  go_enter Tryz.func71, Tryz.ntmps71
  go_wp2_with fail
  refine (cBegins c _).mono ?_
  rintro e w' ⟨rfl, rfl⟩
  cases hb : Cssp.begins c
  · go_wp2_with fail
    refine (cDigit c _).mono ?_
    rintro e w' ⟨rfl, rfl⟩
    cases hd : Cssp.digit c
    · go_wp2_with fail
      all_goals go_ret
      all_goals exact Ret.of (v_b (by rw [hb, hd, Bool.eq_iff_iff]; simp <;> omega))
    · go_wp2_with fail
      go_ret
      exact Ret.of (v_b (by rw [hb, hd]; rfl))
  · go_wp2_with fail
    go_ret
    exact Ret.of (v_b (by rw [hb]; rfl))
end Go.Proofs.YtojgcangnkjmjaaGreatDoor
