/- Plain laws of package host: an address of four is written, and read as just that. No program in sight. -/
import Derived.Test.YtahjndignkhmoaaGreatDoorLaws
namespace Go.Proofs.YtahjndignkhmoaaGreatDoor
namespace Hostp
open Go

def dec3 (n : Nat) : List UInt8 := if n < 10 then [UInt8.ofNat (48 + n)] else if n < 100 then [UInt8.ofNat (48 + n / 10), UInt8.ofNat (48 + n % 10)] else [UInt8.ofNat (48 + n / 100), UInt8.ofNat (48 + n / 10 % 10), UInt8.ofNat (48 + n % 10)]
/-- a byte that any special host may have, and that stays as it is -/
def calm (c : UInt8) : Bool := c != 37 && !bad c && decide (32 ≤ c.toNat) && decide (c.toNat ≤ 126) && lowB c == c
theorem dec3_all : ∀ n : Fin 256, numberP (dec3 n.val) = some (n.val : Int) ∧ (dec3 n.val).all (fun c => c != 46) = true ∧ (dec3 n.val).isEmpty = false ∧ allB 10 (dec3 n.val) = true ∧ (dec3 n.val).all calm = true := by decide +kernel
def show4 (n : Nat) : List UInt8 := dec3 (n / 16777216) ++ 46 :: (dec3 (n / 65536 % 256) ++ 46 :: (dec3 (n / 256 % 256) ++ 46 :: dec3 (n % 256)))

theorem split4 (a b c d : List UInt8) (ha : ∀ x ∈ a, x ≠ 46) (hb : ∀ x ∈ b, x ≠ 46) (hc : ∀ x ∈ c, x ≠ 46) (hd : ∀ x ∈ d, x ≠ 46) :
    splitOn 46 (a ++ 46 :: (b ++ 46 :: (c ++ 46 :: d))) = [a, b, c, d] := by
  rw [splitOn_at 46 a _ ha, splitOn_at 46 b _ hb, splitOn_at 46 c _ hc, splitOn_no 46 d hd]
theorem parts4 (a b c d : List UInt8) (ha : ∀ x ∈ a, x ≠ 46) (hb : ∀ x ∈ b, x ≠ 46) (hc : ∀ x ∈ c, x ≠ 46) (hd : ∀ x ∈ d, x ≠ 46) (hne : d ≠ []) :
    parts (a ++ 46 :: (b ++ 46 :: (c ++ 46 :: d))) = [a, b, c, d] := by
  rw [parts, split4 a b c d ha hb hc hd, if_neg]
  rintro ⟨_, h⟩
  simp at h
  exact hne h
theorem dec3_no (n : Nat) (hn : n < 256) : ∀ x ∈ dec3 n, x ≠ 46 := fun x hx => by
  have := List.all_eq_true.1 (dec3_all ⟨n, hn⟩).2.1 x hx
  simpa using this
theorem dec3_ne (n : Nat) (hn : n < 256) : dec3 n ≠ [] := fun h => by
  have := (dec3_all ⟨n, hn⟩).2.2.1
  rw [show (⟨n, hn⟩ : Fin 256).val = n from rfl, h] at this
  cases this
theorem dec3_num (n : Nat) (hn : n < 256) : numberP (dec3 n) = some (n : Int) := (dec3_all ⟨n, hn⟩).1
theorem show4_calm (n : Nat) (hn : n < 4294967296) : ∀ x ∈ show4 n, calm x = true := by
  have hc : ∀ m, m < 256 → ∀ x ∈ dec3 m, calm x = true := fun m hm x hx => List.all_eq_true.1 (dec3_all ⟨m, hm⟩).2.2.2.2 x hx
  have h46 : calm 46 = true := by decide
  intro x hx
  unfold show4 at hx
  rcases List.mem_append.1 hx with hx | hx
  · exact hc _ (by omega) x hx
  rcases List.mem_cons.1 hx with rfl | hx
  · exact h46
  rcases List.mem_append.1 hx with hx | hx
  · exact hc _ (Nat.mod_lt _ (by decide)) x hx
  rcases List.mem_cons.1 hx with rfl | hx
  · exact h46
  rcases List.mem_append.1 hx with hx | hx
  · exact hc _ (Nat.mod_lt _ (by decide)) x hx
  rcases List.mem_cons.1 hx with rfl | hx
  · exact h46
  · exact hc _ (Nat.mod_lt _ (by decide)) x hx
theorem show4_parts (n : Nat) (hn : n < 4294967296) : parts (show4 n) = [dec3 (n / 16777216), dec3 (n / 65536 % 256), dec3 (n / 256 % 256), dec3 (n % 256)] :=
  parts4 _ _ _ _ (dec3_no _ (by omega)) (dec3_no _ (Nat.mod_lt _ (by decide))) (dec3_no _ (Nat.mod_lt _ (by decide))) (dec3_no _ (Nat.mod_lt _ (by decide))) (dec3_ne _ (Nat.mod_lt _ (by decide)))
theorem v4_show4 (n : Nat) (hn : n < 4294967296) : v4 (show4 n) = some (n : Int) := by
  rw [v4, show4_parts n hn, if_neg (by simp)]
  have h0 : n / 16777216 < 256 := by omega
  have h1 : n / 65536 % 256 < 256 := Nat.mod_lt _ (by decide)
  have h2 : n / 256 % 256 < 256 := Nat.mod_lt _ (by decide)
  have h3 : n % 256 < 256 := Nat.mod_lt _ (by decide)
  simp only [v4from, dec3_num _ h0, dec3_num _ h1, dec3_num _ h2, dec3_num _ h3]
  rw [if_pos (by omega), if_pos (by omega), if_pos (by omega), if_pos (by simp; omega)]
  congr 1
  simp
  omega
/-- what is calm is read as it stands -/
theorem calm_low (s : List UInt8) (h : ∀ x ∈ s, calm x = true) : lower (pDec s) = s ∧ s.any (fun c => bad c || decide (c.toNat < 32) || decide (126 < c.toNat) || c == 37) = false := by
  have hp : ∀ x ∈ s, x ≠ 37 ∧ bad x = false ∧ 32 ≤ x.toNat ∧ x.toNat ≤ 126 ∧ lowB x = x := fun x hx => by
    have := h x hx
    unfold calm at this
    simp only [Bool.and_eq_true, bne_iff_ne, ne_eq, Bool.not_eq_true', decide_eq_true_eq, beq_iff_eq] at this
    exact ⟨this.1.1.1.1, this.1.1.1.2, this.1.1.2, this.1.2, this.2⟩
  constructor
  · rw [pDec_no s (fun x hx => (hp x hx).1)]
    unfold lower
    conv => rhs; rw [← List.map_id s]
    exact List.map_congr_left fun x hx => (hp x hx).2.2.2.2
  · rw [List.any_eq_false]
    intro x hx
    obtain ⟨a, b, c, d, _⟩ := hp x hx
    simp [a, b]
    omega
theorem parse_show4 (n : Nat) (hn : n < 4294967296) : parse (show4 n) true = some (.four n) := by
  obtain ⟨h1, h2⟩ := calm_low (show4 n) (show4_calm n hn)
  have hhd : ¬ ((show4 n).head? = some 91) := fun h => by
    have : (91 : UInt8) ∈ show4 n := List.mem_of_mem_head? (by rw [h]; rfl)
    have := show4_calm n hn 91 this
    exact absurd this (by decide)
  have hne : show4 n ≠ [] := fun h => by
    have := congrArg List.length h
    unfold show4 at this
    simp at this
  have hnum : numericP (show4 n) = true := by
    unfold numericP
    rw [show4_parts n hn]
    have h3 : n % 256 < 256 := Nat.mod_lt _ (by decide)
    have e := dec3_all ⟨n % 256, h3⟩
    have e1 : allB 10 (dec3 (n % 256)) = true := e.2.2.2.1
    have e2 : (dec3 (n % 256)).isEmpty = false := e.2.2.1
    simp [e1, e2]
  have hno : ¬ (show4 n = [] ∨ (show4 n).any (fun c => bad c || decide (c.toNat < 32) || decide (126 < c.toNat) || c == 37) = true) := fun h => by
    rcases h with h | h
    · exact hne h
    · rw [h2] at h; cases h
  rw [parse, if_neg hhd, if_neg (by simp), h1, if_neg hno, hnum, if_neg (by simp), v4_show4 n hn]
  rfl
end Hostp
end Go.Proofs.YtahjndignkhmoaaGreatDoor
