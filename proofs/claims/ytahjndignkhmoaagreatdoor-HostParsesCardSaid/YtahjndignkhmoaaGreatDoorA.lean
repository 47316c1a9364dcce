/- Letters, digits, what a digit stands for. -/
import Derived.Test.YtahjndignkhmoaaGreatDoorBase
import Derived.Test.YtahjndignkhmoaaGreatDoorPlain
namespace Go.Proofs.YtahjndignkhmoaaGreatDoor
open Go.RowKit

theorem or_all : ∀ n : Fin 256, bits BinOp.or .i32 (n.val : Int) 32 = (((n.val ||| 32 : Nat)) : Int) ∧ (97 ≤ (n.val ||| 32) ∧ (n.val ||| 32) ≤ 122 ↔ (65 ≤ n.val ∧ n.val ≤ 90) ∨ (97 ≤ n.val ∧ n.val ≤ 122)) ∧
    ((65 ≤ n.val ∧ n.val ≤ 90) → (n.val ||| 32) = n.val + 32) ∧ ((97 ≤ n.val ∧ n.val ≤ 122) → (n.val ||| 32) = n.val) := by decide +kernel
theorem or_low (c : UInt8) : ∃ m : Nat, bits BinOp.or .i32 (c.toNat : Int) 32 = (m : Int) ∧ (97 ≤ m ∧ m ≤ 122 ↔ (65 ≤ c.toNat ∧ c.toNat ≤ 90) ∨ (97 ≤ c.toNat ∧ c.toNat ≤ 122)) ∧
    ((65 ≤ c.toNat ∧ c.toNat ≤ 90) → m = c.toNat + 32) ∧ ((97 ≤ c.toNat ∧ c.toNat ≤ 122) → m = c.toNat) := by
  obtain ⟨h1, h2, h3, h4⟩ := or_all ⟨c.toNat, c.toNat_lt⟩
  exact ⟨_, h1, h2, h3, h4⟩

def isAlpha (c : UInt8) : Bool := decide (65 ≤ c.toNat) && decide (c.toNat ≤ 90) || decide (97 ≤ c.toNat) && decide (c.toNat ≤ 122)
def isDigit (c : UInt8) : Bool := decide (48 ≤ c.toNat) && decide (c.toNat ≤ 57)
theorem isAlpha_iff (c : UInt8) : isAlpha c = true ↔ (65 ≤ c.toNat ∧ c.toNat ≤ 90) ∨ (97 ≤ c.toNat ∧ c.toNat ≤ 122) := by simp [isAlpha]
theorem isDigit_iff (c : UInt8) : isDigit c = true ↔ (48 ≤ c.toNat ∧ c.toNat ≤ 57) := by simp [isDigit]

theorem tDigit (c : UInt8) (w : World) : Calls Tryz.prog 76 #[.int .i32 c.toNat] w (Ret (.bool (isDigit c)) w) := by
  go_enter Tryz.func76, Tryz.ntmps76
  go_wp2
  all_goals go_ret
  all_goals exact Ret.of (v_b (by rw [Bool.eq_iff_iff, isDigit_iff]; simp only [decide_eq_true_eq, Bool.false_eq_true, false_iff]; omega))
theorem tAlpha (c : UInt8) (w : World) : Calls Tryz.prog 77 #[.int .i32 c.toNat] w (Ret (.bool (isAlpha c)) w) := by
  obtain ⟨m, h1, h2, _, _⟩ := or_low c
  go_enter Tryz.func77, Tryz.ntmps77
  go_wp2
  all_goals go_ret
  all_goals exact Ret.of (v_b (by rw [Bool.eq_iff_iff, isAlpha_iff]; simp only [decide_eq_true_eq, Bool.false_eq_true, false_iff]; omega))
set_option maxRecDepth 100000 in
set_option maxRecDepth 100000 in
set_option maxRecDepth 100000 in
theorem tHex (c : UInt8) (w : World) : Calls Tryz.prog 48 #[.int .i32 c.toNat] w (Ret (.int .i64 (Hostp.hex c)) w) := by
  obtain ⟨m, h1, h2, h3, h4⟩ := or_low c
  have hc := u8_lt c
  go_enter Tryz.func48, Tryz.ntmps48
  go_wp2_with fail
  refine (tDigit c _).mono ?_
  rintro e w' ⟨rfl, rfl⟩
  cases hd : isDigit c
  · go_wp2_with fail
    refine (tAlpha c _).mono ?_
    rintro e w' ⟨rfl, rfl⟩
    cases ha : isAlpha c
    · go_wp2_with fail
      go_ret
      refine Ret.of (v_i ?_)
      have a1 : ¬ ((65 ≤ c.toNat ∧ c.toNat ≤ 90) ∨ (97 ≤ c.toNat ∧ c.toNat ≤ 122)) := fun h => by rw [(isAlpha_iff c).2 h] at ha; cases ha
      have a2 : ¬ (48 ≤ c.toNat ∧ c.toNat ≤ 57) := fun h => by rw [(isDigit_iff c).2 h] at hd; cases hd
      unfold Hostp.hex
      rw [if_neg a2, if_neg (fun h => a1 (by omega)), if_neg (fun h => a1 (by omega))]
    · have H3 := hide h3
      have H4 := hide h4
      clear h3 h4
      have a1 := (isAlpha_iff c).1 ha
      have a2 : ¬ (48 ≤ c.toNat ∧ c.toNat ≤ 57) := fun h => by rw [(isDigit_iff c).2 h] at hd; cases hd
      have hm : 97 ≤ m ∧ m ≤ 122 := h2.2 a1
      clear h2
      go_wp2_with fail
      all_goals go_ret
      all_goals refine Ret.of (v_i ?_)
      all_goals have h3 := H3.out
      all_goals have h4 := H4.out
      all_goals have h3 := H3.out
      all_goals have h4 := H4.out
      all_goals have h3 := H3.out
      all_goals have h4 := H4.out
      all_goals unfold Hostp.hex
      all_goals rw [if_neg a2]
      all_goals (split; (go_num <;> omega))
      all_goals (split; (go_num <;> omega))
      all_goals (go_num <;> omega)
  · have a2 := (isDigit_iff c).1 hd
    go_wp2_with fail
    go_ret
    refine Ret.of (v_i ?_)
    unfold Hostp.hex
    rw [if_pos a2]
theorem hex_ge (c : UInt8) : -1 ≤ Hostp.hex c ∧ Hostp.hex c ≤ 15 := by
  unfold Hostp.hex
  repeat' split
  all_goals omega
end Go.Proofs.YtahjndignkhmoaaGreatDoor
