/- text: first, more, piece: what a byte begins, and how it goes on. -/
import Derived.Test.YtojgcangnkjmjaaGreatDoorA
import Derived.Test.YtojgcangnkjmjaaGreatDoorDec
namespace Go.Proofs.YtojgcangnkjmjaaGreatDoor
open Go.RowKit

/-- what must come -/
abbrev NeedV (k lo hi : Nat) : Value := .agg #[.int .i64 k, .int .u8 lo, .int .u8 hi]
abbrev FstV (p : (Nat × Nat × Nat) × Bool) : Value := .tuple #[NeedV p.1.1 p.1.2.1 p.1.2.2, .bool p.2]
set_option maxRecDepth 100000 in
set_option maxHeartbeats 4000000 in
theorem tFirst (c : UInt8) (w : World) : Calls Tryz.prog 121 #[.int .u8 c.toNat] w (Fresh (FstV (Cssp.first c)) w) := by
  have hc := c.toNat_lt
  have hcl : (c.toNat < 128 ∧ Cssp.first c = ((0, 128, 191), true)) ∨ ((194 ≤ c.toNat ∧ c.toNat ≤ 223) ∧ Cssp.first c = ((1, 128, 191), true)) ∨
      ((128 ≤ c.toNat ∧ c.toNat < 194) ∧ Cssp.first c = ((0, 128, 191), false)) ∨ (244 < c.toNat ∧ Cssp.first c = ((0, 128, 191), false)) ∨
      (c.toNat = 224 ∧ Cssp.first c = ((2, 160, 191), true)) ∨ (c.toNat = 237 ∧ Cssp.first c = ((2, 128, 159), true)) ∨ (c.toNat = 240 ∧ Cssp.first c = ((3, 144, 191), true)) ∨ (c.toNat = 244 ∧ Cssp.first c = ((3, 128, 143), true)) ∨
      ((224 < c.toNat ∧ c.toNat < 240 ∧ c.toNat ≠ 237) ∧ Cssp.first c = ((2, 128, 191), true)) ∨ ((c.toNat = 241 ∨ c.toNat = 242 ∨ c.toNat = 243) ∧ Cssp.first c = ((3, 128, 191), true)) := by
    unfold Cssp.first
    by_cases h1 : c.toNat < 128
    · rw [if_pos h1]; exact .inl ⟨h1, rfl⟩
    rw [if_neg h1]; right
    by_cases h2 : 194 ≤ c.toNat ∧ c.toNat ≤ 223
    · rw [if_pos h2]; exact .inl ⟨h2, rfl⟩
    rw [if_neg h2]; right
    by_cases h3 : c.toNat < 224 ∨ 244 < c.toNat
    · rw [if_pos h3]
      rcases h3 with h3 | h3
      · exact .inl ⟨by omega, rfl⟩
      · exact .inr (.inl ⟨h3, rfl⟩)
    rw [if_neg h3]; right; right
    by_cases h4 : c.toNat = 224
    · rw [if_pos h4]; exact .inl ⟨h4, rfl⟩
    rw [if_neg h4]; right
    by_cases h5 : c.toNat = 237
    · rw [if_pos h5]; exact .inl ⟨h5, rfl⟩
    rw [if_neg h5]; right
    by_cases h6 : c.toNat = 240
    · rw [if_pos h6]; exact .inl ⟨h6, rfl⟩
    rw [if_neg h6]; right
    by_cases h7 : c.toNat = 244
    · rw [if_pos h7]; exact .inl ⟨h7, rfl⟩
    rw [if_neg h7]; right
    by_cases h8 : c.toNat < 240
    · rw [if_pos h8]; exact .inl ⟨by omega, rfl⟩
    · rw [if_neg h8]; exact .inr ⟨by omega, rfl⟩
  generalize Cssp.first c = P at hcl ⊢
  obtain ⟨x, hx⟩ : ∃ x : Int, (c.toNat : Int) = x := ⟨_, rfl⟩
  rw [hx]
  rcases hcl with h | h | h | h | h | h | h | h | h | h
  · obtain ⟨h, rfl⟩ := h
    have d0 : x < 128 := by omega
    clear h hx hc
    go_enter Tryz.func121, Tryz.ntmps121
    go_wp2_with fail
    refine bodyPost_ret (v := FstV (((0, 128, 191), true))) (by simp [results, Tryz.results121, go_sem]) rfl ⟨rfl, ?_⟩
    (repeat (first | (with_reducible exact Below.refl _ _) | (with_reducible assumption) | (with_reducible refine Below.drew ?_) | ((with_reducible refine Below.setCell ?_ ?_ _); rotate_left; (focus (first | omega | (simp; done) | (simp; omega)))) | ((with_reducible refine Below.alloc ?_ ?_ _); rotate_left; (focus (first | omega | (simp; done) | (simp; omega))))))
  · obtain ⟨h, rfl⟩ := h
    have d0 : ¬ x < 128 := by omega
    have d1 : 194 ≤ x := by omega
    have d2 : x ≤ 223 := by omega
    clear h hx hc
    go_enter Tryz.func121, Tryz.ntmps121
    go_wp2_with fail
    refine bodyPost_ret (v := FstV (((1, 128, 191), true))) (by simp [results, Tryz.results121, go_sem]) rfl ⟨rfl, ?_⟩
    (repeat (first | (with_reducible exact Below.refl _ _) | (with_reducible assumption) | (with_reducible refine Below.drew ?_) | ((with_reducible refine Below.setCell ?_ ?_ _); rotate_left; (focus (first | omega | (simp; done) | (simp; omega)))) | ((with_reducible refine Below.alloc ?_ ?_ _); rotate_left; (focus (first | omega | (simp; done) | (simp; omega))))))
  · obtain ⟨h, rfl⟩ := h
    have d0 : ¬ x < 128 := by omega
    have d1 : ¬ 194 ≤ x := by omega
    have d2 : x < 224 := by omega
    clear h hx hc
    go_enter Tryz.func121, Tryz.ntmps121
    go_wp2_with fail
    refine bodyPost_ret (v := FstV (((0, 128, 191), false))) (by simp [results, Tryz.results121, go_sem]) rfl ⟨rfl, ?_⟩
    (repeat (first | (with_reducible exact Below.refl _ _) | (with_reducible assumption) | (with_reducible refine Below.drew ?_) | ((with_reducible refine Below.setCell ?_ ?_ _); rotate_left; (focus (first | omega | (simp; done) | (simp; omega)))) | ((with_reducible refine Below.alloc ?_ ?_ _); rotate_left; (focus (first | omega | (simp; done) | (simp; omega))))))
  · obtain ⟨h, rfl⟩ := h
    have d0 : ¬ x < 128 := by omega
    have d1 : 194 ≤ x := by omega
    have d2 : ¬ x ≤ 223 := by omega
    have d3 : ¬ x < 224 := by omega
    have d4 : 244 < x := by omega
    clear h hx hc
    go_enter Tryz.func121, Tryz.ntmps121
    go_wp2_with fail
    refine bodyPost_ret (v := FstV (((0, 128, 191), false))) (by simp [results, Tryz.results121, go_sem]) rfl ⟨rfl, ?_⟩
    (repeat (first | (with_reducible exact Below.refl _ _) | (with_reducible assumption) | (with_reducible refine Below.drew ?_) | ((with_reducible refine Below.setCell ?_ ?_ _); rotate_left; (focus (first | omega | (simp; done) | (simp; omega)))) | ((with_reducible refine Below.alloc ?_ ?_ _); rotate_left; (focus (first | omega | (simp; done) | (simp; omega))))))
  · obtain ⟨h, rfl⟩ := h
    obtain rfl : x = 224 := by omega
    clear h hx hc
    go_enter Tryz.func121, Tryz.ntmps121
    go_wp2_with fail
    refine bodyPost_ret (v := FstV (((2, 160, 191), true))) (by simp [results, Tryz.results121, go_sem]) rfl ⟨rfl, ?_⟩
    (repeat (first | (with_reducible exact Below.refl _ _) | (with_reducible assumption) | (with_reducible refine Below.drew ?_) | ((with_reducible refine Below.setCell ?_ ?_ _); rotate_left; (focus (first | omega | (simp; done) | (simp; omega)))) | ((with_reducible refine Below.alloc ?_ ?_ _); rotate_left; (focus (first | omega | (simp; done) | (simp; omega))))))
  · obtain ⟨h, rfl⟩ := h
    obtain rfl : x = 237 := by omega
    clear h hx hc
    go_enter Tryz.func121, Tryz.ntmps121
    go_wp2_with fail
    refine bodyPost_ret (v := FstV (((2, 128, 159), true))) (by simp [results, Tryz.results121, go_sem]) rfl ⟨rfl, ?_⟩
    (repeat (first | (with_reducible exact Below.refl _ _) | (with_reducible assumption) | (with_reducible refine Below.drew ?_) | ((with_reducible refine Below.setCell ?_ ?_ _); rotate_left; (focus (first | omega | (simp; done) | (simp; omega)))) | ((with_reducible refine Below.alloc ?_ ?_ _); rotate_left; (focus (first | omega | (simp; done) | (simp; omega))))))
  · obtain ⟨h, rfl⟩ := h
    obtain rfl : x = 240 := by omega
    clear h hx hc
    go_enter Tryz.func121, Tryz.ntmps121
    go_wp2_with fail
    refine bodyPost_ret (v := FstV (((3, 144, 191), true))) (by simp [results, Tryz.results121, go_sem]) rfl ⟨rfl, ?_⟩
    (repeat (first | (with_reducible exact Below.refl _ _) | (with_reducible assumption) | (with_reducible refine Below.drew ?_) | ((with_reducible refine Below.setCell ?_ ?_ _); rotate_left; (focus (first | omega | (simp; done) | (simp; omega)))) | ((with_reducible refine Below.alloc ?_ ?_ _); rotate_left; (focus (first | omega | (simp; done) | (simp; omega))))))
  · obtain ⟨h, rfl⟩ := h
    obtain rfl : x = 244 := by omega
    clear h hx hc
    go_enter Tryz.func121, Tryz.ntmps121
    go_wp2_with fail
    refine bodyPost_ret (v := FstV (((3, 128, 143), true))) (by simp [results, Tryz.results121, go_sem]) rfl ⟨rfl, ?_⟩
    (repeat (first | (with_reducible exact Below.refl _ _) | (with_reducible assumption) | (with_reducible refine Below.drew ?_) | ((with_reducible refine Below.setCell ?_ ?_ _); rotate_left; (focus (first | omega | (simp; done) | (simp; omega)))) | ((with_reducible refine Below.alloc ?_ ?_ _); rotate_left; (focus (first | omega | (simp; done) | (simp; omega))))))
  · obtain ⟨h, rfl⟩ := h
    have d0 : ¬ x < 128 := by omega
    have d1 : 194 ≤ x := by omega
    have d2 : ¬ x ≤ 223 := by omega
    have d3 : ¬ x < 224 := by omega
    have d4 : ¬ 244 < x := by omega
    have d5 : (x == 224) = false := by rw [beq_eq_false_iff_ne]; omega
    have d6 : (x == 237) = false := by rw [beq_eq_false_iff_ne]; omega
    have d7 : (x == 240) = false := by rw [beq_eq_false_iff_ne]; omega
    have d8 : (x == 241) = false := by rw [beq_eq_false_iff_ne]; omega
    have d9 : (x == 242) = false := by rw [beq_eq_false_iff_ne]; omega
    have da : (x == 243) = false := by rw [beq_eq_false_iff_ne]; omega
    have db : (x == 244) = false := by rw [beq_eq_false_iff_ne]; omega
    clear h hx hc
    go_enter Tryz.func121, Tryz.ntmps121
    go_wp2_with fail
    refine bodyPost_ret (v := FstV (((2, 128, 191), true))) (by simp [results, Tryz.results121, go_sem]) rfl ⟨rfl, ?_⟩
    (repeat (first | (with_reducible exact Below.refl _ _) | (with_reducible assumption) | (with_reducible refine Below.drew ?_) | ((with_reducible refine Below.setCell ?_ ?_ _); rotate_left; (focus (first | omega | (simp; done) | (simp; omega)))) | ((with_reducible refine Below.alloc ?_ ?_ _); rotate_left; (focus (first | omega | (simp; done) | (simp; omega))))))
  · obtain ⟨h, rfl⟩ := h
    rcases h with h | h | h
    · obtain rfl : x = 241 := by omega
      clear h hx hc
      go_enter Tryz.func121, Tryz.ntmps121
      go_wp2_with fail
      refine bodyPost_ret (v := FstV (((3, 128, 191), true))) (by simp [results, Tryz.results121, go_sem]) rfl ⟨rfl, ?_⟩
      (repeat (first | (with_reducible exact Below.refl _ _) | (with_reducible assumption) | (with_reducible refine Below.drew ?_) | ((with_reducible refine Below.setCell ?_ ?_ _); rotate_left; (focus (first | omega | (simp; done) | (simp; omega)))) | ((with_reducible refine Below.alloc ?_ ?_ _); rotate_left; (focus (first | omega | (simp; done) | (simp; omega))))))
    · obtain rfl : x = 242 := by omega
      clear h hx hc
      go_enter Tryz.func121, Tryz.ntmps121
      go_wp2_with fail
      refine bodyPost_ret (v := FstV (((3, 128, 191), true))) (by simp [results, Tryz.results121, go_sem]) rfl ⟨rfl, ?_⟩
      (repeat (first | (with_reducible exact Below.refl _ _) | (with_reducible assumption) | (with_reducible refine Below.drew ?_) | ((with_reducible refine Below.setCell ?_ ?_ _); rotate_left; (focus (first | omega | (simp; done) | (simp; omega)))) | ((with_reducible refine Below.alloc ?_ ?_ _); rotate_left; (focus (first | omega | (simp; done) | (simp; omega))))))
    · obtain rfl : x = 243 := by omega
      clear h hx hc
      go_enter Tryz.func121, Tryz.ntmps121
      go_wp2_with fail
      refine bodyPost_ret (v := FstV (((3, 128, 191), true))) (by simp [results, Tryz.results121, go_sem]) rfl ⟨rfl, ?_⟩
      (repeat (first | (with_reducible exact Below.refl _ _) | (with_reducible assumption) | (with_reducible refine Below.drew ?_) | ((with_reducible refine Below.setCell ?_ ?_ _); rotate_left; (focus (first | omega | (simp; done) | (simp; omega)))) | ((with_reducible refine Below.alloc ?_ ?_ _); rotate_left; (focus (first | omega | (simp; done) | (simp; omega))))))
set_option maxRecDepth 100000 in
set_option maxHeartbeats 4000000 in
theorem tMore (k lo hi : Nat) (c : UInt8) (w : World) (hk : k < 4) (_hlo : lo < 256) (_hhi : hi < 256) : Calls Tryz.prog 122 #[NeedV (k + 1) lo hi, .int .u8 c.toNat] w
    (Fresh (.tuple #[if c.toNat < lo ∨ hi < c.toNat then NeedV (k + 1) lo hi else NeedV k 128 191, .bool (!decide (c.toNat < lo ∨ hi < c.toNat))]) w) := by
  have hc := c.toNat_lt
  have hw3 : wrap64 (k : Int) = (k : Int) := by unfold wrap64; omega
  by_cases h1 : c.toNat < lo
  · have d1 : (c.toNat : Int) < (lo : Int) := by omega
    rw [if_pos (.inl h1), decide_eq_true (.inl h1 : c.toNat < lo ∨ hi < c.toNat)]
    clear h1 hk _hlo _hhi hc
    go_enter Tryz.func122, Tryz.ntmps122
    go_wp2_with fail
    refine bodyPost_ret (v := .tuple #[NeedV (k + 1) lo hi, .bool false]) (by simp [results, Tryz.results122, go_sem]) rfl ⟨rfl, ?_⟩
    (repeat (first | (with_reducible exact Below.refl _ _) | (with_reducible assumption) | (with_reducible refine Below.drew ?_) | ((with_reducible refine Below.setCell ?_ ?_ _); rotate_left; (focus (first | omega | (simp; done) | (simp; omega)))) | ((with_reducible refine Below.alloc ?_ ?_ _); rotate_left; (focus (first | omega | (simp; done) | (simp; omega))))))
  · have d1 : ¬ (c.toNat : Int) < (lo : Int) := by omega
    by_cases h2 : hi < c.toNat
    · have d2 : (hi : Int) < (c.toNat : Int) := by omega
      rw [if_pos (.inr h2), decide_eq_true (.inr h2 : c.toNat < lo ∨ hi < c.toNat)]
      clear h1 h2 hk _hlo _hhi hc
      go_enter Tryz.func122, Tryz.ntmps122
      go_wp2_with fail
      refine bodyPost_ret (v := .tuple #[NeedV (k + 1) lo hi, .bool false]) (by simp [results, Tryz.results122, go_sem]) rfl ⟨rfl, ?_⟩
      (repeat (first | (with_reducible exact Below.refl _ _) | (with_reducible assumption) | (with_reducible refine Below.drew ?_) | ((with_reducible refine Below.setCell ?_ ?_ _); rotate_left; (focus (first | omega | (simp; done) | (simp; omega)))) | ((with_reducible refine Below.alloc ?_ ?_ _); rotate_left; (focus (first | omega | (simp; done) | (simp; omega))))))
    · have d2 : ¬ (hi : Int) < (c.toNat : Int) := by omega
      have hno : ¬ (c.toNat < lo ∨ hi < c.toNat) := by omega
      rw [if_neg hno, decide_eq_false hno]
      clear h1 h2 hk _hlo _hhi hc hno
      go_enter Tryz.func122, Tryz.ntmps122
      go_wp2_with fail
      refine bodyPost_ret (v := .tuple #[NeedV k 128 191, .bool true]) (by simp [results, Tryz.results122, go_sem]) rfl ⟨rfl, ?_⟩
      (repeat (first | (with_reducible exact Below.refl _ _) | (with_reducible assumption) | (with_reducible refine Below.drew ?_) | ((with_reducible refine Below.setCell ?_ ?_ _); rotate_left; (focus (first | omega | (simp; done) | (simp; omega)))) | ((with_reducible refine Below.alloc ?_ ?_ _); rotate_left; (focus (first | omega | (simp; done) | (simp; omega))))))
end Go.Proofs.YtojgcangnkjmjaaGreatDoor
