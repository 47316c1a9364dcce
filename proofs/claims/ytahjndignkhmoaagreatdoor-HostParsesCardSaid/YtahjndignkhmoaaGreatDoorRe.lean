/- The reference: digits of a base; a part's number. -/
import Derived.Test.YtahjndignkhmoaaGreatDoorRd
import Derived.Test.YtahjndignkhmoaaGreatDoorR
namespace Go.Proofs.YtahjndignkhmoaaGreatDoor
open Go.RowKit

/-! ### digits -/
def capN : Int := 1099511627776
def digR (base : Int) (s : List UInt8) : Int × Bool := if Hostp.allB base s = true then (min (Hostp.value base s) 1099511627776, true) else (0, false)
theorem sat (a b v : Int) (ha : 0 ≤ a) (hb : 1 ≤ b) (hv : 0 ≤ v) : min (min a 1099511627776 * b + v) 1099511627776 = min (a * b + v) 1099511627776 := by
  by_cases h : a ≤ 1099511627776
  · rw [Int.min_eq_left h]
  · rw [show min a 1099511627776 = 1099511627776 from Int.min_eq_right (by omega)]
    have h1 : 1099511627776 ≤ 1099511627776 * b := by omega
    have h2 : 1099511627776 * b ≤ a * b := Int.mul_le_mul_of_nonneg_right (by omega) (by omega)
    omega
theorem allB_snoc (base : Int) (l : List UInt8) (c : UInt8) : Hostp.allB base (l ++ [c]) = (Hostp.allB base l && Hostp.isDig base c) := by
  unfold Hostp.allB; simp
theorem allB_take_false (base : Int) (s : List UInt8) (i : Nat) (h : i < s.length) (hc : Hostp.isDig base s[i] = false) : Hostp.allB base s = false := by
  rw [← Bool.not_eq_true]
  intro e
  have := List.all_eq_true.1 e s[i] (List.getElem_mem h)
  rw [hc] at this
  cases this
set_option maxHeartbeats 2000000 in
set_option maxRecDepth 100000 in
theorem rDigits (s : List UInt8) (base n : Int) (ok : Bool) (w : World) (hb2 : 2 ≤ base) (hb16 : base ≤ 16) (hl : s.length ≤ 4194304) (hd : Hid (digR base s = (n, ok))) :
    Calls Tryz.prog 56 #[S s, .int .i64 base] w (Ret (.tuple #[.int .i64 n, .bool ok]) w) := by
  go_enter Tryz.func56, Tryz.ntmps56
  go_wp2_with fail
  go_loopg [6, 7] s.length (fun g s6 s7 wx => ∃ (i : Nat) (m : Int), i + g = s.length ∧ s7 = .int .i64 i ∧ s6 = .int .i64 m ∧ 0 ≤ m ∧ m ≤ 1099511627776 ∧ Hid (Hostp.allB base (s.take i) = true ∧ m = min (Hostp.value base (s.take i)) 1099511627776) ∧ wx = w)
  case atStart => exact ⟨0, 0, by omega, rfl, rfl, by decide, by decide, ⟨rfl, rfl⟩, rfl⟩
  case round =>
    obtain ⟨i, m, hi, rfl, rfl, hm0, hm1, hH, rfl⟩ := hrel
    by_cases hlt : i < s.length
    · obtain ⟨c, hc⟩ : ∃ c, s[i] = c := ⟨_, rfl⟩
      obtain ⟨x0, x1⟩ := hex_ge c
      have htk := List.take_succ_eq_append_getElem hlt
      rw [hc] at htk
      have hbad := fun b h => allB_take_false b s i hlt (by rw [hc]; exact h)
      have HTK := hide htk
      have HBAD := hide hbad
      have wc := w32_byte c
      clear htk hbad
      go_wp2_with fail
      refine (rHex c _).mono ?_
      rintro e w2 ⟨rfl, rfl⟩
      generalize hX : Hostp.hex c = X at x0 x1 ⊢
      have HX := hide hX
      clear hX
      obtain ⟨p, hp⟩ : ∃ p, m * base = p := ⟨_, rfl⟩
      have hp0 : 0 ≤ p := by rw [← hp]; exact Int.mul_nonneg hm0 (by omega)
      have hp1 : p ≤ 17592186044416 := by
        rw [← hp]
        have h1 := Int.mul_le_mul_of_nonneg_right hm1 (show 0 ≤ base by omega)
        omega
      by_cases hv : 0 ≤ X ∧ X < base
      · obtain ⟨hv0, hv1⟩ := hv
        go_wp2_with fail
        go_roundg (gk - 1)
        case measure => omega
        case rel =>
          refine ⟨i + 1, min (p + X) 1099511627776, by omega, by go_num, rfl, by omega, by omega, hide ?_, rfl⟩
          obtain ⟨ha, hm⟩ := hH.out
          rw [HTK.out, allB_snoc, Hostp.value_app, ha, HX.out, ← hp, hm]
          have hV : 0 ≤ Hostp.value base (s.take i) := by omega
          exact ⟨by unfold Hostp.isDig; rw [HX.out, decide_eq_true hv0, decide_eq_true hv1]; rfl, sat _ _ _ hV (by omega) hv0⟩
      · have hno : Hostp.isDig base c = false := by
          unfold Hostp.isDig
          rw [HX.out]
          rcases Int.lt_or_le X 0 with h | h
          · rw [decide_eq_false (by omega : ¬ 0 ≤ X)]; rfl
          · rw [decide_eq_false (fun h2 => hv ⟨h, h2⟩), Bool.and_false]
        have hz := hd.out
        rw [digR, if_neg (by rw [HBAD.out base hno]; decide)] at hz
        obtain ⟨rfl, rfl⟩ := Prod.mk.inj hz
        clear hz hno hd
        have hways : X < 0 ∨ (0 ≤ X ∧ base ≤ X) := by omega
        rcases hways with hw | ⟨hw, hw2⟩
        all_goals
          go_wp2_with fail
          refine bodyPost_ret (v := .tuple #[.int .i64 0, .bool false]) (by simp [results, Tryz.results56, go_sem]) rfl ?_
          exact Ret.of rfl
    · have e : i = s.length := by omega
      subst e
      obtain ⟨ha, hm⟩ := hH.out
      rw [List.take_length] at ha hm
      have hz := hd.out
      rw [digR, if_pos ha, ← hm] at hz
      obtain ⟨rfl, rfl⟩ := Prod.mk.inj hz
      clear hz hd hm ha
      go_wp2_with fail
      refine bodyPost_ret (v := .tuple #[.int .i64 m, .bool true]) (by simp [results, Tryz.results56, go_sem]) rfl ?_
      exact Ret.of rfl
end Go.Proofs.YtahjndignkhmoaaGreatDoor
