/- The reference: bytes that may not be; a number's text. -/
import Derived.Test.YtahjndignkhmoaaGreatDoorRe
import Derived.Test.YtahjndignkhmoaaGreatDoorCase
namespace Go.Proofs.YtahjndignkhmoaaGreatDoor
open Go.RowKit

set_option maxHeartbeats 4000000 in
set_option maxRecDepth 100000 in
theorem rForbidden (c : UInt8) (w : World) : Calls Tryz.prog 26 #[B8 c] w (Ret (.bool (Hostp.bad c)) w) := by
  have hcb := u8_lt c
  obtain ⟨b, hb⟩ : ∃ b, Hostp.bad c = b := ⟨_, rfl⟩
  rw [hb]
  have HB := hide hb
  clear hb
  go_enter Tryz.func26, Tryz.ntmps26
  go_wp2_with fail
  go_loopg [3] 17 (fun g s3 wx => ∃ (i : Nat), i + g = 17 ∧ s3 = .int .i64 i ∧ Hid (∀ x ∈ Hostp.bads.take i, c ≠ x) ∧ wx = w)
  case atStart => exact ⟨0, by omega, rfl, by unfold Hid; simp, rfl⟩
  case round =>
    obtain ⟨i, hi, rfl, hno, rfl⟩ := hrel
    by_cases hlt : i < 17
    · have hcases : i = 0 ∨ i = 1 ∨ i = 2 ∨ i = 3 ∨ i = 4 ∨ i = 5 ∨ i = 6 ∨ i = 7 ∨ i = 8 ∨ i = 9 ∨ i = 10 ∨ i = 11 ∨ i = 12 ∨ i = 13 ∨ i = 14 ∨ i = 15 ∨ i = 16 := by omega
      rcases hcases with rfl | rfl | rfl | rfl | rfl | rfl | rfl | rfl | rfl | rfl | rfl | rfl | rfl | rfl | rfl | rfl | rfl
      · by_cases h : c = 0
        · subst h
          have hbt : b = true := by rw [← HB.out]; rfl
          subst hbt
          clear hno
          go_wp2_with fail
          go_ret
          exact Ret.of rfl
        · have hb1 : ((0 : Int) == (c.toNat : Int)) = false := beq_eq_false_iff_ne.2 (fun e => h (UInt8.toNat_inj.1 (by show c.toNat = 0; omega)))
          have hno2 : Hid (∀ x ∈ Hostp.bads.take 1, c ≠ x) := fun x hx => by
            rw [show Hostp.bads.take 1 = Hostp.bads.take 0 ++ [0] from rfl] at hx
            rcases List.mem_append.1 hx with hx | hx
            · exact hno.out x hx
            · rw [List.mem_singleton.1 hx]; exact h
          clear h hno
          go_wp2_with fail
          go_roundg (gk - 1)
          case measure => omega
          case rel => exact ⟨1, by omega, by go_num, hno2, rfl⟩
      · by_cases h : c = 9
        · subst h
          have hbt : b = true := by rw [← HB.out]; rfl
          subst hbt
          clear hno
          go_wp2_with fail
          go_ret
          exact Ret.of rfl
        · have hb1 : ((9 : Int) == (c.toNat : Int)) = false := beq_eq_false_iff_ne.2 (fun e => h (UInt8.toNat_inj.1 (by show c.toNat = 9; omega)))
          have hno2 : Hid (∀ x ∈ Hostp.bads.take 2, c ≠ x) := fun x hx => by
            rw [show Hostp.bads.take 2 = Hostp.bads.take 1 ++ [9] from rfl] at hx
            rcases List.mem_append.1 hx with hx | hx
            · exact hno.out x hx
            · rw [List.mem_singleton.1 hx]; exact h
          clear h hno
          go_wp2_with fail
          go_roundg (gk - 1)
          case measure => omega
          case rel => exact ⟨2, by omega, by go_num, hno2, rfl⟩
      · by_cases h : c = 10
        · subst h
          have hbt : b = true := by rw [← HB.out]; rfl
          subst hbt
          clear hno
          go_wp2_with fail
          go_ret
          exact Ret.of rfl
        · have hb1 : ((10 : Int) == (c.toNat : Int)) = false := beq_eq_false_iff_ne.2 (fun e => h (UInt8.toNat_inj.1 (by show c.toNat = 10; omega)))
          have hno2 : Hid (∀ x ∈ Hostp.bads.take 3, c ≠ x) := fun x hx => by
            rw [show Hostp.bads.take 3 = Hostp.bads.take 2 ++ [10] from rfl] at hx
            rcases List.mem_append.1 hx with hx | hx
            · exact hno.out x hx
            · rw [List.mem_singleton.1 hx]; exact h
          clear h hno
          go_wp2_with fail
          go_roundg (gk - 1)
          case measure => omega
          case rel => exact ⟨3, by omega, by go_num, hno2, rfl⟩
      · by_cases h : c = 13
        · subst h
          have hbt : b = true := by rw [← HB.out]; rfl
          subst hbt
          clear hno
          go_wp2_with fail
          go_ret
          exact Ret.of rfl
        · have hb1 : ((13 : Int) == (c.toNat : Int)) = false := beq_eq_false_iff_ne.2 (fun e => h (UInt8.toNat_inj.1 (by show c.toNat = 13; omega)))
          have hno2 : Hid (∀ x ∈ Hostp.bads.take 4, c ≠ x) := fun x hx => by
            rw [show Hostp.bads.take 4 = Hostp.bads.take 3 ++ [13] from rfl] at hx
            rcases List.mem_append.1 hx with hx | hx
            · exact hno.out x hx
            · rw [List.mem_singleton.1 hx]; exact h
          clear h hno
          go_wp2_with fail
          go_roundg (gk - 1)
          case measure => omega
          case rel => exact ⟨4, by omega, by go_num, hno2, rfl⟩
      · by_cases h : c = 32
        · subst h
          have hbt : b = true := by rw [← HB.out]; rfl
          subst hbt
          clear hno
          go_wp2_with fail
          go_ret
          exact Ret.of rfl
        · have hb1 : ((32 : Int) == (c.toNat : Int)) = false := beq_eq_false_iff_ne.2 (fun e => h (UInt8.toNat_inj.1 (by show c.toNat = 32; omega)))
          have hno2 : Hid (∀ x ∈ Hostp.bads.take 5, c ≠ x) := fun x hx => by
            rw [show Hostp.bads.take 5 = Hostp.bads.take 4 ++ [32] from rfl] at hx
            rcases List.mem_append.1 hx with hx | hx
            · exact hno.out x hx
            · rw [List.mem_singleton.1 hx]; exact h
          clear h hno
          go_wp2_with fail
          go_roundg (gk - 1)
          case measure => omega
          case rel => exact ⟨5, by omega, by go_num, hno2, rfl⟩
      · by_cases h : c = 35
        · subst h
          have hbt : b = true := by rw [← HB.out]; rfl
          subst hbt
          clear hno
          go_wp2_with fail
          go_ret
          exact Ret.of rfl
        · have hb1 : ((35 : Int) == (c.toNat : Int)) = false := beq_eq_false_iff_ne.2 (fun e => h (UInt8.toNat_inj.1 (by show c.toNat = 35; omega)))
          have hno2 : Hid (∀ x ∈ Hostp.bads.take 6, c ≠ x) := fun x hx => by
            rw [show Hostp.bads.take 6 = Hostp.bads.take 5 ++ [35] from rfl] at hx
            rcases List.mem_append.1 hx with hx | hx
            · exact hno.out x hx
            · rw [List.mem_singleton.1 hx]; exact h
          clear h hno
          go_wp2_with fail
          go_roundg (gk - 1)
          case measure => omega
          case rel => exact ⟨6, by omega, by go_num, hno2, rfl⟩
      · by_cases h : c = 47
        · subst h
          have hbt : b = true := by rw [← HB.out]; rfl
          subst hbt
          clear hno
          go_wp2_with fail
          go_ret
          exact Ret.of rfl
        · have hb1 : ((47 : Int) == (c.toNat : Int)) = false := beq_eq_false_iff_ne.2 (fun e => h (UInt8.toNat_inj.1 (by show c.toNat = 47; omega)))
          have hno2 : Hid (∀ x ∈ Hostp.bads.take 7, c ≠ x) := fun x hx => by
            rw [show Hostp.bads.take 7 = Hostp.bads.take 6 ++ [47] from rfl] at hx
            rcases List.mem_append.1 hx with hx | hx
            · exact hno.out x hx
            · rw [List.mem_singleton.1 hx]; exact h
          clear h hno
          go_wp2_with fail
          go_roundg (gk - 1)
          case measure => omega
          case rel => exact ⟨7, by omega, by go_num, hno2, rfl⟩
      · by_cases h : c = 58
        · subst h
          have hbt : b = true := by rw [← HB.out]; rfl
          subst hbt
          clear hno
          go_wp2_with fail
          go_ret
          exact Ret.of rfl
        · have hb1 : ((58 : Int) == (c.toNat : Int)) = false := beq_eq_false_iff_ne.2 (fun e => h (UInt8.toNat_inj.1 (by show c.toNat = 58; omega)))
          have hno2 : Hid (∀ x ∈ Hostp.bads.take 8, c ≠ x) := fun x hx => by
            rw [show Hostp.bads.take 8 = Hostp.bads.take 7 ++ [58] from rfl] at hx
            rcases List.mem_append.1 hx with hx | hx
            · exact hno.out x hx
            · rw [List.mem_singleton.1 hx]; exact h
          clear h hno
          go_wp2_with fail
          go_roundg (gk - 1)
          case measure => omega
          case rel => exact ⟨8, by omega, by go_num, hno2, rfl⟩
      · by_cases h : c = 60
        · subst h
          have hbt : b = true := by rw [← HB.out]; rfl
          subst hbt
          clear hno
          go_wp2_with fail
          go_ret
          exact Ret.of rfl
        · have hb1 : ((60 : Int) == (c.toNat : Int)) = false := beq_eq_false_iff_ne.2 (fun e => h (UInt8.toNat_inj.1 (by show c.toNat = 60; omega)))
          have hno2 : Hid (∀ x ∈ Hostp.bads.take 9, c ≠ x) := fun x hx => by
            rw [show Hostp.bads.take 9 = Hostp.bads.take 8 ++ [60] from rfl] at hx
            rcases List.mem_append.1 hx with hx | hx
            · exact hno.out x hx
            · rw [List.mem_singleton.1 hx]; exact h
          clear h hno
          go_wp2_with fail
          go_roundg (gk - 1)
          case measure => omega
          case rel => exact ⟨9, by omega, by go_num, hno2, rfl⟩
      · by_cases h : c = 62
        · subst h
          have hbt : b = true := by rw [← HB.out]; rfl
          subst hbt
          clear hno
          go_wp2_with fail
          go_ret
          exact Ret.of rfl
        · have hb1 : ((62 : Int) == (c.toNat : Int)) = false := beq_eq_false_iff_ne.2 (fun e => h (UInt8.toNat_inj.1 (by show c.toNat = 62; omega)))
          have hno2 : Hid (∀ x ∈ Hostp.bads.take 10, c ≠ x) := fun x hx => by
            rw [show Hostp.bads.take 10 = Hostp.bads.take 9 ++ [62] from rfl] at hx
            rcases List.mem_append.1 hx with hx | hx
            · exact hno.out x hx
            · rw [List.mem_singleton.1 hx]; exact h
          clear h hno
          go_wp2_with fail
          go_roundg (gk - 1)
          case measure => omega
          case rel => exact ⟨10, by omega, by go_num, hno2, rfl⟩
      · by_cases h : c = 63
        · subst h
          have hbt : b = true := by rw [← HB.out]; rfl
          subst hbt
          clear hno
          go_wp2_with fail
          go_ret
          exact Ret.of rfl
        · have hb1 : ((63 : Int) == (c.toNat : Int)) = false := beq_eq_false_iff_ne.2 (fun e => h (UInt8.toNat_inj.1 (by show c.toNat = 63; omega)))
          have hno2 : Hid (∀ x ∈ Hostp.bads.take 11, c ≠ x) := fun x hx => by
            rw [show Hostp.bads.take 11 = Hostp.bads.take 10 ++ [63] from rfl] at hx
            rcases List.mem_append.1 hx with hx | hx
            · exact hno.out x hx
            · rw [List.mem_singleton.1 hx]; exact h
          clear h hno
          go_wp2_with fail
          go_roundg (gk - 1)
          case measure => omega
          case rel => exact ⟨11, by omega, by go_num, hno2, rfl⟩
      · by_cases h : c = 64
        · subst h
          have hbt : b = true := by rw [← HB.out]; rfl
          subst hbt
          clear hno
          go_wp2_with fail
          go_ret
          exact Ret.of rfl
        · have hb1 : ((64 : Int) == (c.toNat : Int)) = false := beq_eq_false_iff_ne.2 (fun e => h (UInt8.toNat_inj.1 (by show c.toNat = 64; omega)))
          have hno2 : Hid (∀ x ∈ Hostp.bads.take 12, c ≠ x) := fun x hx => by
            rw [show Hostp.bads.take 12 = Hostp.bads.take 11 ++ [64] from rfl] at hx
            rcases List.mem_append.1 hx with hx | hx
            · exact hno.out x hx
            · rw [List.mem_singleton.1 hx]; exact h
          clear h hno
          go_wp2_with fail
          go_roundg (gk - 1)
          case measure => omega
          case rel => exact ⟨12, by omega, by go_num, hno2, rfl⟩
      · by_cases h : c = 91
        · subst h
          have hbt : b = true := by rw [← HB.out]; rfl
          subst hbt
          clear hno
          go_wp2_with fail
          go_ret
          exact Ret.of rfl
        · have hb1 : ((91 : Int) == (c.toNat : Int)) = false := beq_eq_false_iff_ne.2 (fun e => h (UInt8.toNat_inj.1 (by show c.toNat = 91; omega)))
          have hno2 : Hid (∀ x ∈ Hostp.bads.take 13, c ≠ x) := fun x hx => by
            rw [show Hostp.bads.take 13 = Hostp.bads.take 12 ++ [91] from rfl] at hx
            rcases List.mem_append.1 hx with hx | hx
            · exact hno.out x hx
            · rw [List.mem_singleton.1 hx]; exact h
          clear h hno
          go_wp2_with fail
          go_roundg (gk - 1)
          case measure => omega
          case rel => exact ⟨13, by omega, by go_num, hno2, rfl⟩
      · by_cases h : c = 92
        · subst h
          have hbt : b = true := by rw [← HB.out]; rfl
          subst hbt
          clear hno
          go_wp2_with fail
          go_ret
          exact Ret.of rfl
        · have hb1 : ((92 : Int) == (c.toNat : Int)) = false := beq_eq_false_iff_ne.2 (fun e => h (UInt8.toNat_inj.1 (by show c.toNat = 92; omega)))
          have hno2 : Hid (∀ x ∈ Hostp.bads.take 14, c ≠ x) := fun x hx => by
            rw [show Hostp.bads.take 14 = Hostp.bads.take 13 ++ [92] from rfl] at hx
            rcases List.mem_append.1 hx with hx | hx
            · exact hno.out x hx
            · rw [List.mem_singleton.1 hx]; exact h
          clear h hno
          go_wp2_with fail
          go_roundg (gk - 1)
          case measure => omega
          case rel => exact ⟨14, by omega, by go_num, hno2, rfl⟩
      · by_cases h : c = 93
        · subst h
          have hbt : b = true := by rw [← HB.out]; rfl
          subst hbt
          clear hno
          go_wp2_with fail
          go_ret
          exact Ret.of rfl
        · have hb1 : ((93 : Int) == (c.toNat : Int)) = false := beq_eq_false_iff_ne.2 (fun e => h (UInt8.toNat_inj.1 (by show c.toNat = 93; omega)))
          have hno2 : Hid (∀ x ∈ Hostp.bads.take 15, c ≠ x) := fun x hx => by
            rw [show Hostp.bads.take 15 = Hostp.bads.take 14 ++ [93] from rfl] at hx
            rcases List.mem_append.1 hx with hx | hx
            · exact hno.out x hx
            · rw [List.mem_singleton.1 hx]; exact h
          clear h hno
          go_wp2_with fail
          go_roundg (gk - 1)
          case measure => omega
          case rel => exact ⟨15, by omega, by go_num, hno2, rfl⟩
      · by_cases h : c = 94
        · subst h
          have hbt : b = true := by rw [← HB.out]; rfl
          subst hbt
          clear hno
          go_wp2_with fail
          go_ret
          exact Ret.of rfl
        · have hb1 : ((94 : Int) == (c.toNat : Int)) = false := beq_eq_false_iff_ne.2 (fun e => h (UInt8.toNat_inj.1 (by show c.toNat = 94; omega)))
          have hno2 : Hid (∀ x ∈ Hostp.bads.take 16, c ≠ x) := fun x hx => by
            rw [show Hostp.bads.take 16 = Hostp.bads.take 15 ++ [94] from rfl] at hx
            rcases List.mem_append.1 hx with hx | hx
            · exact hno.out x hx
            · rw [List.mem_singleton.1 hx]; exact h
          clear h hno
          go_wp2_with fail
          go_roundg (gk - 1)
          case measure => omega
          case rel => exact ⟨16, by omega, by go_num, hno2, rfl⟩
      · by_cases h : c = 124
        · subst h
          have hbt : b = true := by rw [← HB.out]; rfl
          subst hbt
          clear hno
          go_wp2_with fail
          go_ret
          exact Ret.of rfl
        · have hb1 : ((124 : Int) == (c.toNat : Int)) = false := beq_eq_false_iff_ne.2 (fun e => h (UInt8.toNat_inj.1 (by show c.toNat = 124; omega)))
          have hno2 : Hid (∀ x ∈ Hostp.bads.take 17, c ≠ x) := fun x hx => by
            rw [show Hostp.bads.take 17 = Hostp.bads.take 16 ++ [124] from rfl] at hx
            rcases List.mem_append.1 hx with hx | hx
            · exact hno.out x hx
            · rw [List.mem_singleton.1 hx]; exact h
          clear h hno
          go_wp2_with fail
          go_roundg (gk - 1)
          case measure => omega
          case rel => exact ⟨17, by omega, by go_num, hno2, rfl⟩
    · have e : i = 17 := by omega
      subst e
      have : b = false := by
        rw [← HB.out]
        unfold Hostp.bad
        rw [List.contains_eq_any_beq, List.any_eq_false]
        intro x hx
        have := hno.out x (by rw [List.take_of_length_le (by decide)]; exact hx)
        simpa using this
      subst this
      go_wp2_with fail
      go_ret
      exact Ret.of rfl
end Go.Proofs.YtahjndignkhmoaaGreatDoor
