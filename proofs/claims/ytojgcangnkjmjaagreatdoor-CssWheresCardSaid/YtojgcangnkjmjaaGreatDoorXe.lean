/- The document's answer: letters, digits; what stands at a place: at, escape, ident, number. (Printed by genCssXa.py.) -/
import Derived.Test.YtojgcangnkjmjaaGreatDoorD
import Derived.Test.YtojgcangnkjmjaaGreatDoorI
import Derived.Laws.IdiomStrings
import Derived.Test.YtojgcangnkjmjaaGreatDoorSte
import Derived.Deep.Cut
import Derived.Deep.CutRange
import Derived.Deep.CutBlock
namespace Go.Proofs.YtojgcangnkjmjaaGreatDoor
open Go.RowKit

theorem rAlpha (c : UInt8) (w : World) : Calls Tryz.prog 113 #[.int .i32 c.toNat] w (Ret (.bool (isAlpha c)) w) := by
  go_enter Tryz.func113, Tryz.ntmps113
  go_wp2
  all_goals go_ret
  all_goals exact Ret.of (v_b (by rw [Bool.eq_iff_iff, isAlpha_iff]; simp only [decide_eq_true_eq, Bool.false_eq_true, false_iff, true_iff, Bool.or_eq_true]; omega))
set_option maxRecDepth 100000 in
theorem rHex (c : UInt8) (w : World) : Calls Tryz.prog 56 #[.int .i32 c.toNat] w (Ret (.int .i64 (Cssp.hex c)) w) := by
  have hc := u8_lt c
  go_enter Tryz.func56, Tryz.ntmps56
  go_wp2
  all_goals go_ret
  all_goals refine Ret.of (v_i ?_)
  all_goals unfold Cssp.hex
  all_goals (repeat' split)
  all_goals first | omega | (go_num <;> omega)
theorem rDigit (c : UInt8) (w : World) : Calls Tryz.prog 85 #[.int .u8 c.toNat] w (Ret (.bool (Cssp.digit c)) w) := by
  go_enter Tryz.func85, Tryz.ntmps85
  go_wp2
  all_goals go_ret
  all_goals exact Ret.of (v_b (by rw [Bool.eq_iff_iff, show Cssp.digit c = isDigit c from rfl, isDigit_iff]; simp only [decide_eq_true_eq, Bool.false_eq_true, false_iff]; omega))
theorem rBlank (c : UInt8) (w : World) : Calls Tryz.prog 50 #[.int .u8 c.toNat] w (Ret (.bool (Cssp.blank c)) w) := by
  have h : Cssp.blank c = (decide (c.toNat = 32) || decide (c.toNat = 9) || decide (c.toNat = 10)) := by
    rw [Bool.eq_iff_iff]
    simp only [Cssp.blank, Bool.or_eq_true, beq_iff_eq, decide_eq_true_eq, ← UInt8.toNat_inj]
    exact Iff.rfl
  rw [h]
  go_enter Tryz.func50, Tryz.ntmps50
  go_wp2
  all_goals go_ret
  all_goals exact Ret.of (v_b (by rw [Bool.eq_iff_iff]; simp <;> omega))
theorem rBegins (c : UInt8) (w : World) : Calls Tryz.prog 86 #[.int .u8 c.toNat] w (Ret (.bool (Cssp.begins c)) w) := by
  have hc := u8_lt c
  have h : Cssp.begins c = (decide (128 ≤ c.toNat) || decide (c.toNat = 95) || Cssp.alpha c) := by
    rw [Bool.eq_iff_iff]
    simp only [Cssp.begins, Bool.or_eq_true, beq_iff_eq, decide_eq_true_eq, ← UInt8.toNat_inj]
    exact Iff.rfl
  rw [h]
  go_enter Tryz.func86, Tryz.ntmps86
  by_cases h1 : 128 ≤ c.toNat
  · have d1 : decide ((128 : Int) ≤ (c.toNat : Int)) = true := by simp; omega
    go_wp2_with fail
    go_ret
    exact Ret.of (v_b (by simp [h1]))
  · have d1 : decide ((128 : Int) ≤ (c.toNat : Int)) = false := by simp; omega
    by_cases h2 : c.toNat = 95
    · have d2 : ((c.toNat : Int) == 95) = true := by rw [beq_iff_eq]; omega
      clear h1
      have H2 := hide h2
      clear h2
      go_wp2_with fail
      go_ret
      exact Ret.of (v_b (by simp [H2.out]))
    · have d2 : ((c.toNat : Int) == 95) = false := by rw [beq_eq_false_iff_ne]; omega
      have H1 := hide h1
      have H2 := hide h2
      clear h1 h2
      go_wp2_with fail
      refine (rAlpha c _).mono ?_
      rintro e w' ⟨rfl, rfl⟩
      go_wp2_with fail
      go_ret
      exact Ret.of (v_b (by simp [H1.out, H2.out]))
theorem rGoesOn (c : UInt8) (w : World) : Calls Tryz.prog 52 #[.int .u8 c.toNat] w (Ret (.bool (Cssp.goesOn c)) w) := by
  have h : Cssp.goesOn c = (Cssp.begins c || Cssp.digit c || decide (c.toNat = 45)) := by
    rw [Bool.eq_iff_iff]
    simp only [Cssp.goesOn, Bool.or_eq_true, beq_iff_eq, decide_eq_true_eq, ← UInt8.toNat_inj]
    exact Iff.rfl
  rw [h]
  go_enter Tryz.func52, Tryz.ntmps52
  go_wp2_with fail
  refine (rBegins c _).mono ?_
  rintro e w' ⟨rfl, rfl⟩
  cases hb : Cssp.begins c
  · go_wp2_with fail
    refine (rDigit c _).mono ?_
    rintro e w' ⟨rfl, rfl⟩
    cases hd : Cssp.digit c
    · go_wp2_with fail
      all_goals go_ret
      all_goals exact Ret.of (v_b (by rw [hb, hd, Bool.eq_iff_iff]; simp <;> omega))
    · go_wp2_with fail
      go_ret
      exact Ret.of (v_b (by rw [hb, hd]; rfl))
  · go_wp2_with fail
    go_ret
    exact Ret.of (v_b (by rw [hb]; rfl))
theorem rAt (s : List UInt8) (n : Nat) (w : World) :
    Calls Tryz.prog 84 #[S s, .int .i64 n] w (Ret (.int .u8 (Cssp.at_ s n).toNat) w) := by
  go_enter Tryz.func84, Tryz.ntmps84
  by_cases hn : n < s.length
  · have hb0 : (0 : Int) ≤ (n : Int) := by omega
    have hb1 : (n : Int) < (s.length : Int) := by omega
    obtain ⟨x, hx⟩ : ∃ x, s[n] = x := ⟨_, rfl⟩
    go_wp2_with fail
    go_ret
    exact Ret.of (by rw [Cssp.at_, List.getD_eq_getElem?_getD, List.getElem?_eq_getElem hn, hx]; rfl)
  · have hb1 : ¬ (n : Int) < (s.length : Int) := by omega
    go_wp2_with fail
    go_ret
    exact Ret.of (by rw [Cssp.at_, List.getD_eq_getElem?_getD, List.getElem?_eq_none (by omega)]; rfl)
theorem rEscape (s : List UInt8) (i : Nat) (w : World) (hi4 : i ≤ 140737488355328) (hl : s.length ≤ 140737488355328) :
    Calls Tryz.prog 32 #[S s, .int .i64 i] w (Ret (.bool (Cssp.escAt s i)) w) := by
  obtain ⟨R, hR⟩ : ∃ R, Cssp.escAt s i = R := ⟨_, rfl⟩
  rw [hR]
  have HR := hide hR
  clear hR
  have b0 : (0 : Int) ≤ (i : Int) := by omega
  go_enter Tryz.func32, Tryz.ntmps32
  by_cases hi : i < s.length
  · have b1 : (i : Int) < (s.length : Int) := by omega
    obtain ⟨x, hx⟩ : ∃ x, s[i] = x := ⟨_, rfl⟩
    have hx' : s[i]? = some x := by rw [List.getElem?_eq_getElem hi, hx]
    have HX := hide hx'
    clear hx'
    by_cases h92 : x = 92
    · have q1 : ((x.toNat : Int) == 92) = true := u8t h92
      have H92 := hide h92
      clear h92
      by_cases hn : i + 1 = s.length
      · have q2 : ((i : Int) + 1 == (s.length : Int)) = true := by rw [beq_iff_eq]; omega
        have HN := hide hn
        clear hn
        have hwr : wrap64 ((i : Int) + 1) = (i : Int) + 1 := by unfold wrap64; omega
        go_wp2_with fail
        go_ret
        exact Ret.of (v_b (by rw [← HR.out, esc_last HX.out H92.out HN.out]))
      · have q2 : ((i : Int) + 1 == (s.length : Int)) = false := by rw [beq_eq_false_iff_ne]; omega
        have hn1 : i + 1 < s.length := by omega
        have b2 : (i : Int) + 1 < (s.length : Int) := by omega
        have b3 : (0 : Int) ≤ (i : Int) + 1 := by omega
        have b4 : ((i : Int) + 1).toNat = i + 1 := by omega
        have hwr : wrap64 ((i : Int) + 1) = (i : Int) + 1 := by unfold wrap64; omega
        obtain ⟨y, hy⟩ : ∃ y, s[i + 1] = y := ⟨_, rfl⟩
        have hy' : s[i + 1]? = some y := by rw [List.getElem?_eq_getElem hn1, hy]
        have HY := hide hy'
        clear hy' hn
        by_cases h10 : y = 10
        · have q3 : ((y.toNat : Int) == 10) = true := u8t h10
          have q4 : ((y.toNat : Int) != 10) = false := by rw [bne, q3]; rfl
          have H10 := hide h10
          clear h10
          go_wp2_with fail
          go_ret
          exact Ret.of (v_b (by rw [← HR.out, esc_next HX.out H92.out HY.out, H10.out]; rfl))
        · have q3 : ((y.toNat : Int) == 10) = false := u8f h10
          have q4 : ((y.toNat : Int) != 10) = true := by rw [bne, q3]; rfl
          have H10 := hide h10
          clear h10
          go_wp2_with fail
          go_ret
          exact Ret.of (v_b (by rw [← HR.out, esc_next HX.out H92.out HY.out, beq_eq_false_iff_ne.2 H10.out]; rfl))
    · have q1 : ((x.toNat : Int) == 92) = false := u8f h92
      have H92 := hide h92
      clear h92
      go_wp2_with fail
      go_ret
      exact Ret.of (v_b (by rw [← HR.out, esc_ne HX.out H92.out]))
  · have b1 : ¬ (i : Int) < (s.length : Int) := by omega
    have hd : decide ((i : Int) < (s.length : Int)) = false := by simp; omega
    have HI := hide hi
    clear hi
    go_wp2_with fail
    go_ret
    exact Ret.of (v_b (by rw [← HR.out, esc_no HI.out]))
set_option maxRecDepth 100000 in
theorem rIdent (s : List UInt8) (i : Nat) (w : World) (hl : s.length ≤ 140737488355328) (hi2 : i ≤ 140737488355327) :
    Calls Tryz.prog 49 #[S s, .int .i64 i] w (Ret (.bool (Cssp.identAt s i)) w) := by
  have HE := fun j (hj : j ≤ 140737488355328) => hide (rEscape s j w hj hl)
  obtain ⟨R, hR⟩ : ∃ R, Cssp.identAt s i = R := ⟨_, rfl⟩
  rw [hR]
  have HR := hide hR
  clear hR
  have b0 : (0 : Int) ≤ (i : Int) := by omega
  have hwr : wrap64 ((i : Int) + 1) = (i : Int) + 1 := by unfold wrap64; omega
  have b3 : (0 : Int) ≤ (i : Int) + 1 := by omega
  have b4 : ((i : Int) + 1).toNat = i + 1 := by omega
  have b5 : ((i + 1 : Nat) : Int) = (i : Int) + 1 := by omega
  go_enter Tryz.func49, Tryz.ntmps49
  by_cases hi : i < s.length
  · have b1 : (i : Int) < (s.length : Int) := by omega
    obtain ⟨x, hx⟩ : ∃ x, s[i] = x := ⟨_, rfl⟩
    have hx' : s[i]? = some x := by rw [List.getElem?_eq_getElem hi, hx]
    have HX := hide hx'
    clear hx'
    by_cases h45 : x = 45
    · have q1 : ((x.toNat : Int) == 45) = true := u8t h45
      have H45 := hide h45
      clear h45
      by_cases hn : i + 1 < s.length
      · have b2 : (i : Int) + 1 < (s.length : Int) := by omega
        obtain ⟨y, hy⟩ : ∃ y, s[i + 1] = y := ⟨_, rfl⟩
        have hy' : s[i + 1]? = some y := by rw [List.getElem?_eq_getElem hn, hy]
        have HY := hide hy'
        clear hy'
        have HEQ : Hid (R = (Cssp.begins y || y == 45 || Cssp.escAt s (i + 1))) := by
          unfold Hid
          rw [← HR.out, Cssp.identAt, isAt_get HX.out, H45.out, if_pos (by rfl), isAt_get HY.out]
        go_wp2_with fail
        refine (rBegins y _).mono ?_
        rintro e w' ⟨rfl, rfl⟩
        cases hb : Cssp.begins y
        · by_cases h46 : y = 45
          · have q2 : ((y.toNat : Int) == 45) = true := u8t h46
            have H46 := hide h46
            clear h46
            go_wp2_with fail
            go_ret
            exact Ret.of (v_b (by rw [HEQ.out, H46.out]; simp))
          · have q2 : ((y.toNat : Int) == 45) = false := u8f h46
            have H46 := hide h46
            clear h46
            have hcall := HE (i + 1) (by omega)
            rw [b5] at hcall
            go_wp2_with fail
            refine hcall.out.mono ?_
            rintro e w' ⟨rfl, rfl⟩
            go_wp2_with fail
            go_ret
            exact Ret.of (v_b (by rw [HEQ.out, hb, beq_eq_false_iff_ne.2 H46.out]; rfl))
        · go_wp2_with fail
          go_ret
          exact Ret.of (v_b (by rw [HEQ.out, hb]; rfl))
      · have b2 : ¬ (i : Int) + 1 < (s.length : Int) := by omega
        have hd : decide ((i : Int) + 1 < (s.length : Int)) = false := by simp; omega
        have HEQ : Hid (R = false) := by
          unfold Hid
          rw [← HR.out, Cssp.identAt, isAt_get HX.out, H45.out, if_pos (by rfl), isAt_none hn, esc_no hn]
          rfl
        have HES : Hid (Cssp.escAt s i = false) := by unfold Hid; exact esc_ne HX.out (by rw [H45.out]; decide)
        have hcall := HE i (by omega)
        have hbg : Cssp.begins x = false := by rw [H45.out]; rfl
        clear hn
        go_wp2_with fail
        refine (rBegins x _).mono ?_
        rintro e w' ⟨rfl, rfl⟩
        rw [hbg]
        go_wp2_with fail
        refine hcall.out.mono ?_
        rintro e w' ⟨rfl, rfl⟩
        go_wp2_with fail
        go_ret
        exact Ret.of (v_b (by rw [HEQ.out, HES.out]))
    · have q1 : ((x.toNat : Int) == 45) = false := u8f h45
      have HEQ : Hid (R = (Cssp.begins x || Cssp.escAt s i)) := by
        unfold Hid
        rw [← HR.out, Cssp.identAt, isAt_get HX.out, beq_eq_false_iff_ne.2 h45, if_neg (by simp), isAt_get HX.out]
      have H45 := hide h45
      clear h45
      go_wp2_with fail
      refine (rBegins x _).mono ?_
      rintro e w' ⟨rfl, rfl⟩
      cases hb : Cssp.begins x
      · have hcall := HE i (by omega)
        go_wp2_with fail
        refine hcall.out.mono ?_
        rintro e w' ⟨rfl, rfl⟩
        go_wp2_with fail
        go_ret
        exact Ret.of (v_b (by rw [HEQ.out, hb]; rfl))
      · go_wp2_with fail
        go_ret
        exact Ret.of (v_b (by rw [HEQ.out, hb]; rfl))
  · have b1 : ¬ (i : Int) < (s.length : Int) := by omega
    have hd : decide ((i : Int) < (s.length : Int)) = false := by simp; omega
    have HEQ : Hid (R = Cssp.escAt s i) := by
      unfold Hid
      rw [← HR.out, Cssp.identAt, isAt_none hi, if_neg (by simp), isAt_none hi]
      rfl
    have HES : Hid (Cssp.escAt s i = false) := by unfold Hid; exact esc_no hi
    clear hi
    go_wp2_with fail
    go_ret
    exact Ret.of (v_b (by rw [HEQ.out, HES.out]))
end Go.Proofs.YtojgcangnkjmjaaGreatDoor
namespace Go.Proofs.YtojgcangnkjmjaaGreatDoor
open Go.RowKit

theorem signed_at (s : List UInt8) (i : Nat) : Cssp.signed s i = if Cssp.at_ s i = 43 ∨ Cssp.at_ s i = 45 then 1 else 0 := by
  unfold Cssp.signed Cssp.isAt Cssp.at_
  rw [List.getD_eq_getElem?_getD]
  cases s[i]? with
  | none => rfl
  | some x => simp
set_option maxRecDepth 100000 in
theorem rNumber (s : List UInt8) (i : Nat) (w : World) (_hl : s.length ≤ 140737488355328) (hi : i ≤ 140737488355328) :
    Calls Tryz.prog 48 #[S s, .int .i64 i] w (Ret (.bool (Cssp.numberAt s i)) w) := by
  have hs := signed_at s i
  obtain ⟨c, hc⟩ : ∃ c, Cssp.at_ s i = c := ⟨_, rfl⟩
  rw [hc] at hs
  obtain ⟨k, hk⟩ : ∃ k, Cssp.signed s i = k := ⟨_, rfl⟩
  rw [hk] at hs
  obtain ⟨d, hd⟩ : ∃ d, Cssp.at_ s (i + k) = d := ⟨_, rfl⟩
  obtain ⟨d2, hd2⟩ : ∃ d2, Cssp.at_ s (i + k + 1) = d2 := ⟨_, rfl⟩
  have HEQ : Hid (Cssp.numberAt s i = (Cssp.digit d || d == 46 && Cssp.digit d2)) := by
    unfold Hid
    rw [Cssp.numberAt, hk, hd, hd2]
  rw [HEQ.out]
  have P0 : Hid (Calls Tryz.prog 84 #[S s, .int .i64 i] w (Ret (.int .u8 c.toNat) w)) := by have := rAt s i w; rw [hc] at this; exact this
  clear hk
  go_enter Tryz.func48, Tryz.ntmps48
  go_wp2_with fail
  refine P0.out.mono ?_
  rintro e w' ⟨rfl, rfl⟩
  clear P0
  by_cases h43 : c = 43
  · have q1 : ((c.toNat : Int) == 43) = true := u8t h43
    obtain rfl : k = 1 := by rw [hs, if_pos (.inl h43)]
    have P1 : Hid (Calls Tryz.prog 84 #[S s, .int .i64 ((i : Int) + 1)] w (Ret (.int .u8 d.toNat) w)) := by have := rAt s (i + 1) w; rw [hd, show ((i + 1 : Nat) : Int) = (i : Int) + 1 by omega] at this; exact this
    have P2 : Hid (Calls Tryz.prog 84 #[S s, .int .i64 ((i : Int) + 1 + 1)] w (Ret (.int .u8 d2.toNat) w)) := by have := rAt s (i + 1 + 1) w; rw [hd2, show ((i + 1 + 1 : Nat) : Int) = (i : Int) + 1 + 1 by omega] at this; exact this
    have hw1 : wrap64 ((i : Int) + 1) = (i : Int) + 1 := by unfold wrap64; omega
    have hw2 : wrap64 ((i : Int) + 1 + 1) = (i : Int) + 1 + 1 := by unfold wrap64; omega
    clear h43 hs hd hd2
    go_wp2_with fail
    refine P1.out.mono ?_
    rintro e w' ⟨rfl, rfl⟩
    clear P1
    go_wp2_with fail
    refine (rDigit d _).mono ?_
    rintro e w' ⟨rfl, rfl⟩
    cases hb : Cssp.digit d
    · by_cases h46 : d = 46
      · have q3 : ((d.toNat : Int) == 46) = true := u8t h46
        have H46 := hide h46
        clear h46
        go_wp2_with fail
        refine P2.out.mono ?_
        rintro e w' ⟨rfl, rfl⟩
        go_wp2_with fail
        refine (rDigit d2 _).mono ?_
        rintro e w' ⟨rfl, rfl⟩
        go_wp2_with fail
        go_ret
        exact Ret.of (v_b (by rw [hb, H46.out]; rfl))
      · have q3 : ((d.toNat : Int) == 46) = false := u8f h46
        have H46 := hide h46
        clear h46
        go_wp2_with fail
        go_ret
        exact Ret.of (v_b (by rw [hb, beq_eq_false_iff_ne.2 H46.out]; rfl))
    · go_wp2_with fail
      go_ret
      exact Ret.of (v_b (by rw [hb]; rfl))
  · have q1 : ((c.toNat : Int) == 43) = false := u8f h43
    by_cases h45 : c = 45
    · have q2 : ((c.toNat : Int) == 45) = true := u8t h45
      obtain rfl : k = 1 := by rw [hs, if_pos (.inr h45)]
      have P1 : Hid (Calls Tryz.prog 84 #[S s, .int .i64 ((i : Int) + 1)] w (Ret (.int .u8 d.toNat) w)) := by have := rAt s (i + 1) w; rw [hd, show ((i + 1 : Nat) : Int) = (i : Int) + 1 by omega] at this; exact this
      have P2 : Hid (Calls Tryz.prog 84 #[S s, .int .i64 ((i : Int) + 1 + 1)] w (Ret (.int .u8 d2.toNat) w)) := by have := rAt s (i + 1 + 1) w; rw [hd2, show ((i + 1 + 1 : Nat) : Int) = (i : Int) + 1 + 1 by omega] at this; exact this
      have hw1 : wrap64 ((i : Int) + 1) = (i : Int) + 1 := by unfold wrap64; omega
      have hw2 : wrap64 ((i : Int) + 1 + 1) = (i : Int) + 1 + 1 := by unfold wrap64; omega
      clear h43 h45 hs hd hd2
      go_wp2_with fail
      refine P1.out.mono ?_
      rintro e w' ⟨rfl, rfl⟩
      clear P1
      go_wp2_with fail
      refine (rDigit d _).mono ?_
      rintro e w' ⟨rfl, rfl⟩
      cases hb : Cssp.digit d
      · by_cases h46 : d = 46
        · have q3 : ((d.toNat : Int) == 46) = true := u8t h46
          have H46 := hide h46
          clear h46
          go_wp2_with fail
          refine P2.out.mono ?_
          rintro e w' ⟨rfl, rfl⟩
          go_wp2_with fail
          refine (rDigit d2 _).mono ?_
          rintro e w' ⟨rfl, rfl⟩
          go_wp2_with fail
          go_ret
          exact Ret.of (v_b (by rw [hb, H46.out]; rfl))
        · have q3 : ((d.toNat : Int) == 46) = false := u8f h46
          have H46 := hide h46
          clear h46
          go_wp2_with fail
          go_ret
          exact Ret.of (v_b (by rw [hb, beq_eq_false_iff_ne.2 H46.out]; rfl))
      · go_wp2_with fail
        go_ret
        exact Ret.of (v_b (by rw [hb]; rfl))
    · have q2 : ((c.toNat : Int) == 45) = false := u8f h45
      obtain rfl : k = 0 := by rw [hs, if_neg (by rintro (h | h); exact h43 h; exact h45 h)]
      obtain rfl : c = d := by rw [← hd, ← hc]; rfl
      have P2 : Hid (Calls Tryz.prog 84 #[S s, .int .i64 ((i : Int) + 1)] w (Ret (.int .u8 d2.toNat) w)) := by have := rAt s (i + 0 + 1) w; rw [hd2, show ((i + 0 + 1 : Nat) : Int) = (i : Int) + 1 by omega] at this; exact this
      have hw1 : wrap64 ((i : Int) + 1) = (i : Int) + 1 := by unfold wrap64; omega
      clear h43 h45 hs hd hd2 hc
      go_wp2_with fail
      refine (rDigit c _).mono ?_
      rintro e w' ⟨rfl, rfl⟩
      cases hb : Cssp.digit c
      · by_cases h46 : c = 46
        · have q3 : ((c.toNat : Int) == 46) = true := u8t h46
          have H46 := hide h46
          clear h46
          go_wp2_with fail
          refine P2.out.mono ?_
          rintro e w' ⟨rfl, rfl⟩
          go_wp2_with fail
          refine (rDigit d2 _).mono ?_
          rintro e w' ⟨rfl, rfl⟩
          go_wp2_with fail
          go_ret
          exact Ret.of (v_b (by rw [hb, H46.out]; rfl))
        · have q3 : ((c.toNat : Int) == 46) = false := u8f h46
          have H46 := hide h46
          clear h46
          go_wp2_with fail
          go_ret
          exact Ret.of (v_b (by rw [hb, beq_eq_false_iff_ne.2 H46.out]; rfl))
      · go_wp2_with fail
        go_ret
        exact Ret.of (v_b (by rw [hb]; rfl))
end Go.Proofs.YtojgcangnkjmjaaGreatDoor
namespace Go.Proofs.YtojgcangnkjmjaaGreatDoor
open Go.RowKit

theorem conv_new (w : World) (l : List UInt8) (cs : Array Value) (n : Nat) (hn : l.length = n) (h : cs = (l.map B8).toArray) :
    Sem.run Tryz.prog (convert 32 9 (.slice (some ⟨w.heap.size, 0, none⟩) n n)) (w.alloc (.cells cs 5)) = .ok (S l) (w.alloc (.cells cs 5)) := by
  subst hn
  exact run_convert_bytes_back _ 32 9 5 ⟨w.heap.size, 0, none⟩ l.length l Tryz.underlying32 Tryz.underlying5 Tryz.underlying9 (fun j hj => by
    have e : (⟨w.heap.size, 0, none⟩ : Addr).add j = ⟨w.heap.size, j, none⟩ := by simp [Addr.add]; try (intro h; exact h.symm)
    rw [e, World.cell?_alloc_at _ _ _ _ rfl, h]
    simp [hj])
theorem enc1k (k : Nat) (h : k < 128) : Lib.encodeRune k = [UInt8.ofNat k] := by
  unfold Lib.encodeRune
  rw [Lib.encodeRuneZ_one (by omega) (by omega)]
  simp
theorem enc2k (k : Nat) (h1 : ¬ k < 128) (h : k < 2048) : Lib.encodeRune k = [UInt8.ofNat (192 + k / 64), UInt8.ofNat (128 + k % 64)] := by
  unfold Lib.encodeRune
  rw [Lib.encodeRuneZ_two (by omega) (by omega)]
  simp only [List.map_cons, List.map_nil]
  rw [show (192 + (k : Int) / 64).toNat = 192 + k / 64 by omega, show (128 + (k : Int) % 64).toNat = 128 + k % 64 by omega]
theorem enc3k (k : Nat) (h1 : ¬ k < 2048) (h : k < 65536) (hs : ¬ (55296 ≤ k ∧ k ≤ 57343)) : Lib.encodeRune k = [UInt8.ofNat (224 + k / 4096), UInt8.ofNat (128 + k / 64 % 64), UInt8.ofNat (128 + k % 64)] := by
  unfold Lib.encodeRune
  rw [Lib.encodeRuneZ_three (by omega)]
  simp only [List.map_cons, List.map_nil]
  rw [show (224 + (k : Int) / 4096).toNat = 224 + k / 4096 by omega, show (128 + (k : Int) / 64 % 64).toNat = 128 + k / 64 % 64 by omega, show (128 + (k : Int) % 64).toNat = 128 + k % 64 by omega]
theorem enc4k (k : Nat) (h1 : ¬ k < 65536) (h : k ≤ 1114111) : Lib.encodeRune k = [UInt8.ofNat (240 + k / 262144), UInt8.ofNat (128 + k / 4096 % 64), UInt8.ofNat (128 + k / 64 % 64), UInt8.ofNat (128 + k % 64)] := by
  unfold Lib.encodeRune
  rw [Lib.encodeRuneZ_four (by omega) (by omega)]
  simp only [List.map_cons, List.map_nil]
  rw [show (240 + (k : Int) / 262144).toNat = 240 + k / 262144 by omega, show (128 + (k : Int) / 4096 % 64).toNat = 128 + k / 4096 % 64 by omega, show (128 + (k : Int) / 64 % 64).toNat = 128 + k / 64 % 64 by omega, show (128 + (k : Int) % 64).toNat = 128 + k % 64 by omega]
theorem b8_of (a : Nat) (x : Int) (h : x = a) (ha : a < 256) : Value.int .u8 x = B8 (UInt8.ofNat a) := by
  subst h
  show _ = Value.int .u8 _
  rw [UInt8.toNat_ofNat_of_lt' (by simpa using ha)]

set_option maxRecDepth 100000 in
set_option maxHeartbeats 1000000 in
theorem rBytesZ (r : Int) (w : World) (h0 : 0 ≤ r) (hk : r ≤ 1114111) (hs : r < 55296 ∨ 57343 < r) : Calls Tryz.prog 57 #[.int .i32 r] w (Fresh (S (Lib.encodeRune r)) w) := by
  have hb1 : ∀ o, Below w.heap.size w (w.alloc o) := fun o => (Below.refl _ _).alloc (Nat.le_refl _) o
  have HB1 := hide hb1
  clear hb1
  obtain ⟨l, hl⟩ : ∃ l, Lib.encodeRune r = l := ⟨_, rfl⟩
  obtain ⟨k, hrk⟩ := Int.eq_ofNat_of_zero_le h0
  rw [hl]
  by_cases h1 : r < 128
  · have he : l = [UInt8.ofNat k] := by rw [← hl, hrk]; exact enc1k k (by omega)
    have hrun := conv_new w l #[.int .u8 r] 1 (by rw [he]; rfl) (by rw [he, b8_of k r hrk (by omega)]; rfl)
    clear hl hrk he hs
    go_enter Tryz.func57, Tryz.ntmps57
    go_wp2_with fail
    go_ret
    exact ⟨rfl, HB1.out _⟩
  obtain ⟨c, hc⟩ : ∃ c : Int, r % 64 = c := ⟨_, rfl⟩
  have hc0 : 0 ≤ c ∧ c < 64 := by omega
  by_cases h2 : r < 2048
  · obtain ⟨a, ha⟩ : ∃ a : Int, r / 64 = a := ⟨_, rfl⟩
    have ha0 : 2 ≤ a ∧ a < 32 := by omega
    have he : l = [UInt8.ofNat (192 + k / 64), UInt8.ofNat (128 + k % 64)] := by rw [← hl, hrk]; exact enc2k k (by omega) (by omega)
    have hrun := conv_new w l #[.int .u8 (192 + a), .int .u8 (128 + c)] 2 (by rw [he]; rfl) (by rw [he, b8_of (192 + k / 64) _ (by omega) (by omega), b8_of (128 + k % 64) _ (by omega) (by omega)]; rfl)
    obtain ⟨c0, c1⟩ := hc0
    obtain ⟨a0, a1⟩ := ha0
    clear hl hrk he hs
    go_enter Tryz.func57, Tryz.ntmps57
    go_wp2_with fail
    go_ret
    exact ⟨rfl, HB1.out _⟩
  obtain ⟨b, hb⟩ : ∃ b : Int, r / 64 % 64 = b := ⟨_, rfl⟩
  have hb0 : 0 ≤ b ∧ b < 64 := by omega
  by_cases h3 : r < 65536
  · obtain ⟨a, ha⟩ : ∃ a : Int, r / 4096 = a := ⟨_, rfl⟩
    have ha0 : 0 ≤ a ∧ a < 16 := by omega
    have he : l = [UInt8.ofNat (224 + k / 4096), UInt8.ofNat (128 + k / 64 % 64), UInt8.ofNat (128 + k % 64)] := by rw [← hl, hrk]; exact enc3k k (by omega) (by omega) (by omega)
    have hrun := conv_new w l #[.int .u8 (224 + a), .int .u8 (128 + b), .int .u8 (128 + c)] 3 (by rw [he]; rfl)
      (by rw [he, b8_of (224 + k / 4096) _ (by omega) (by omega), b8_of (128 + k / 64 % 64) _ (by omega) (by omega), b8_of (128 + k % 64) _ (by omega) (by omega)]; rfl)
    obtain ⟨c0, c1⟩ := hc0
    obtain ⟨a0, a1⟩ := ha0
    obtain ⟨b0, b1⟩ := hb0
    clear hl hrk he
    rcases hs with hs | hs
    all_goals
      go_enter Tryz.func57, Tryz.ntmps57
      go_wp2_with fail
      go_ret
      exact ⟨rfl, HB1.out _⟩
  · obtain ⟨a, ha⟩ : ∃ a : Int, r / 4096 % 64 = a := ⟨_, rfl⟩
    obtain ⟨d, hd⟩ : ∃ d : Int, r / 262144 = d := ⟨_, rfl⟩
    have ha0 : 0 ≤ a ∧ a < 64 := by omega
    have hd0 : 0 ≤ d ∧ d < 5 := by omega
    have he : l = [UInt8.ofNat (240 + k / 262144), UInt8.ofNat (128 + k / 4096 % 64), UInt8.ofNat (128 + k / 64 % 64), UInt8.ofNat (128 + k % 64)] := by rw [← hl, hrk]; exact enc4k k (by omega) (by omega)
    have hrun := conv_new w l #[.int .u8 (240 + d), .int .u8 (128 + a), .int .u8 (128 + b), .int .u8 (128 + c)] 4 (by rw [he]; rfl)
      (by rw [he, b8_of (240 + k / 262144) _ (by omega) (by omega), b8_of (128 + k / 4096 % 64) _ (by omega) (by omega), b8_of (128 + k / 64 % 64) _ (by omega) (by omega), b8_of (128 + k % 64) _ (by omega) (by omega)]; rfl)
    obtain ⟨c0, c1⟩ := hc0
    obtain ⟨a0, a1⟩ := ha0
    obtain ⟨b0, b1⟩ := hb0
    obtain ⟨d0, d1⟩ := hd0
    clear hl hrk he hs
    go_enter Tryz.func57, Tryz.ntmps57
    go_wp2_with fail
    go_ret
    exact ⟨rfl, HB1.out _⟩
end Go.Proofs.YtojgcangnkjmjaaGreatDoor
namespace Go.Proofs.YtojgcangnkjmjaaGreatDoor
open Go.RowKit

theorem Cssp.hexV_snoc : ∀ (L : List UInt8) (n : Nat) (c : UInt8), Cssp.hexV n (L ++ [c]) = Cssp.hexV n L * 16 + (Cssp.hex c).toNat
  | [], n, c => rfl
  | d :: L, n, c => by rw [List.cons_append, Cssp.hexV, Cssp.hexV_snoc L, Cssp.hexV]
theorem Cssp.run_next {p : UInt8 → Bool} {L : List UInt8} {k : Nat} {c : UInt8} (hk : k ≤ Cssp.run p L) (hc : L[k]? = some c) : (p c = true → k < Cssp.run p L) ∧ (p c = false → k = Cssp.run p L) := by
  constructor
  · intro h
    rcases Nat.lt_or_ge k (Cssp.run p L) with h1 | h1
    · exact h1
    · have : k = Cssp.run p L := by omega
      have h2 := Cssp.run_drop p L
      rw [← this, isAt_get hc, h] at h2
      cases h2
  · intro h
    rcases Nat.lt_or_ge k (Cssp.run p L) with h1 | h1
    · have h2 := Cssp.run_isAt p L k h1
      rw [isAt_get hc, h] at h2
      cases h2
    · omega
theorem Cssp.run_all_take (p : UInt8 → Bool) : ∀ (L : List UInt8) (k : Nat), k ≤ Cssp.run p L → (L.take k).all p = true
  | _, 0, _ => by simp
  | [], k + 1, h => by simp
  | c :: L, k + 1, h => by
    rw [Cssp.run] at h
    by_cases hc : p c = true
    · rw [if_pos hc] at h
      rw [List.take_succ_cons, List.all_cons, hc, Cssp.run_all_take p L k (by omega)]
      rfl
    · rw [if_neg hc] at h
      omega
theorem enc_sur {v : Nat} (h : 55296 ≤ v ∧ v ≤ 57343) : Lib.encodeRune (v : Int) = Cssp.fffd := by
  unfold Lib.encodeRune
  rw [Lib.encodeRuneZ_bad (by omega)]
  rfl
theorem hex_le (c : UInt8) : Cssp.hex c ≤ 15 ∧ -1 ≤ Cssp.hex c := by
  unfold Cssp.hex
  have := u8_lt c
  split
  · omega
  · split
    · omega
    · split <;> omega

theorem wrap_hex {v : Nat} {H : Int} (hv : v < 16777216) (h0 : 0 ≤ H) (h1 : H ≤ 15) : wrap64 (wrap64 ((v : Int) * 16) + H) = ((v * 16 + H.toNat : Nat) : Int) := by
  unfold wrap64; omega
set_option maxRecDepth 100000 in
set_option maxHeartbeats 1000000 in
theorem rEscaped (s : List UInt8) (i : Nat) (w : World) (hl : s.length ≤ 1048576) (hi : i < s.length) (E : Cssp.Out) (hE : Hid (Cssp.esc (s.drop i) = E)) :
    Calls Tryz.prog 33 #[S s, .int .i64 i] w (Fresh (.tuple #[S E.t, .int .i64 ((i + E.k : Nat) : Int), .bool E.o]) w) := by
  have hwr : wrap64 ((i : Int) + 1) = (i : Int) + 1 := by unfold wrap64; omega
  have hlen : (s.drop i).length = s.length - i := List.length_drop
  by_cases h1 : i + 1 = s.length
  · have q1 : ((i : Int) + 1 == (s.length : Int)) = true := by rw [beq_iff_eq]; omega
    have he : E = ⟨Cssp.fffd, 1, true⟩ := by rw [← hE.out, Cssp.esc, if_pos (by omega)]
    subst he
    clear hlen
    go_enter Tryz.func33, Tryz.ntmps33
    go_wp2_with fail
    refine bodyPost_ret (v := .tuple #[S Cssp.fffd, .int .i64 ((i : Int) + 1), .bool true]) (by simp [results, Tryz.results33, go_sem]; rfl) rfl ?_
    exact ⟨by rw [show ((i + 1 : Nat) : Int) = (i : Int) + 1 by omega], Below.refl _ _⟩
  have q1 : ((i : Int) + 1 == (s.length : Int)) = false := by rw [beq_eq_false_iff_ne]; omega
  obtain ⟨X, hX⟩ : ∃ X, s.drop (i + 1) = X := ⟨_, rfl⟩
  have hX1 : (s.drop i).drop 1 = X := by rw [List.drop_drop, hX]
  have hXl : X.length = s.length - (i + 1) := by rw [← hX, List.length_drop]
  have hXg : ∀ k, X[k]? = s[i + 1 + k]? := fun k => by rw [← hX, List.getElem?_drop]
  obtain ⟨K, hK⟩ : ∃ K, Cssp.run Cssp.isHex (X.take 6) = K := ⟨_, rfl⟩
  have hK6 : K ≤ 6 ∧ K ≤ X.length := by
    have := Cssp.run_le Cssp.isHex (X.take 6)
    rw [hK, List.length_take] at this
    omega
  have hst : ∀ k c, k ≤ K → k < 6 → s[i + 1 + k]? = some c → (Cssp.isHex c = true → k < K) ∧ (Cssp.isHex c = false → k = K) := fun k c h1 h2 h3 => by
    rw [← hK] at h1 ⊢
    exact Cssp.run_next h1 (by rw [List.getElem?_take_of_lt h2, hXg, h3])
  have hall : ∀ k, k ≤ K → (X.take k).all Cssp.isHex = true := fun k hk => by
    have := Cssp.run_all_take Cssp.isHex (X.take 6) k (by omega)
    rwa [List.take_take, Nat.min_eq_left (by omega)] at this
  have hsn : ∀ k c, s[i + 1 + k]? = some c → Cssp.hexV 0 (X.take (k + 1)) = Cssp.hexV 0 (X.take k) * 16 + (Cssp.hex c).toNat := fun k c h => by
    rw [List.take_add_one, hXg, h]
    exact Cssp.hexV_snoc _ _ _
  have hvl : ∀ k, k ≤ K → Cssp.hexV 0 (X.take k) < 16777216 := fun k hk => by
    have h1 := Cssp.hexV_lt (X.take k) 0 (hall k hk)
    have h2 : (X.take k).length ≤ 6 := by rw [List.length_take]; omega
    have h3 : 16 ^ (X.take k).length ≤ 16 ^ 6 := Nat.pow_le_pow_right (by decide) h2
    have h4 : (16 : Nat) ^ 6 = 16777216 := by decide
    omega
  obtain ⟨V, hV⟩ : ∃ V, Cssp.hexV 0 (X.take K) = V := ⟨_, rfl⟩
  have hVl : V < 16777216 := by rw [← hV]; exact hvl K (Nat.le_refl _)
  have hEq : E = if K = 0 then ⟨(X.take 1), 2, false⟩ else ⟨Cssp.chr V, if Cssp.isAt Cssp.blank (s.drop i) (1 + K) = true then 2 + K else 1 + K, decide (1 + K = (s.drop i).length)⟩ := by
    rw [← hE.out, Cssp.esc, if_neg (by omega), hX1, hK, show X.take K = X.take K from rfl, hV]
  have HST := hide hst
  have HSN := hide hsn
  have HVL := hide hvl
  have HV := hide hV
  have HXX := hide hX
  have HVb := hide hVl
  have HEQ := hide hEq
  obtain ⟨k6, kx⟩ := hK6
  clear hst hsn hvl hV hVl hEq hall hXg hX1 hX hK hE hlen
  go_enter Tryz.func33, Tryz.ntmps33
  go_upto_block 0 with fail
  go_cut [7, 8] from 9 (fun s7 s8 wx => s7 = .int .i64 V ∧ s8 = .int .i64 K ∧ w = wx)
  case first =>
    go_wp2_with fail
    go_loopg [7, 8] K (fun g s7 s8 wx => ∃ k v : Nat, k + g = K ∧ s7 = .int .i64 v ∧ s8 = .int .i64 k ∧ w = wx ∧ Hid (v < 16777216) ∧ Hid (Cssp.hexV 0 (X.take k) = v))
    case atStart => exact ⟨0, 0, by omega, rfl, rfl, rfl, (by unfold Hid; omega), by unfold Hid; rfl⟩
    case round =>
      obtain ⟨k, v, hkg, rfl, rfl, hwx, hv, hkv⟩ := hrel
      subst hwx
      have b0 : (0 : Int) ≤ (i : Int) + 1 + (k : Int) := by omega
      have b4 : ((i : Int) + 1 + (k : Int)).toNat = i + 1 + k := by omega
      have hw1 : wrap64 ((i : Int) + 1 + (k : Int)) = (i : Int) + 1 + (k : Int) := by unfold wrap64; omega
      have hw2 : wrap64 ((i : Int) + 1) = (i : Int) + 1 := by unfold wrap64; omega
      by_cases hk : k < K
      · have k1 : k < 6 := by omega
        have b1 : (i : Int) + 1 + (k : Int) < (s.length : Int) := by omega
        have b2 : i + 1 + k < s.length := by omega
        obtain ⟨c, hc⟩ : ∃ c, s[i + 1 + k] = c := ⟨_, rfl⟩
        have hc' : s[i + 1 + k]? = some c := by rw [List.getElem?_eq_getElem b2, hc]
        have hhx : Cssp.isHex c = true := by
          cases h : Cssp.isHex c with
          | true => rfl
          | false => have := (HST.out k c (by omega) k1 hc').2 h; omega
        have hh0 : 0 ≤ Cssp.hex c := by simpa [Cssp.isHex] using hhx
        have hh1 := (hex_le c).1
        have hnx := HSN.out k c hc'
        rw [hkv.out] at hnx
        have HNX := hide hnx
        have hcb := u8_lt c
        clear hnx hc' hhx
        go_wp2_with fail
        refine (rHex c _).mono ?_
        rintro e w' ⟨rfl, rfl⟩
        obtain ⟨H, hH⟩ : ∃ H, Cssp.hex c = H := ⟨_, rfl⟩
        have HH := hide hH
        rw [hH] at hh0 hh1
        rw [hH]
        clear hH
        go_wp2_with fail
        refine (rHex c _).mono ?_
        rintro e w' ⟨rfl, rfl⟩
        rw [HH.out]
        go_wp2_with fail
        go_roundg (gk - 1)
        case measure => omega
        case rel => exact ⟨k + 1, v * 16 + H.toNat, by omega, by rw [wrap_hex hv.out hh0 hh1], by go_num, rfl, (by unfold Hid; have := HVL.out (k + 1) (by omega); rw [HNX.out, HH.out] at this; exact this), by unfold Hid; rw [HNX.out, HH.out]⟩
      · obtain rfl : k = K := by omega
        obtain rfl : v = V := by rw [← HV.out, ← hkv.out]
        by_cases k1 : k < 6
        · have k1' : (k : Int) < 6 := by omega
          by_cases b2 : i + 1 + k < s.length
          · have b1 : (i : Int) + 1 + (k : Int) < (s.length : Int) := by omega
            obtain ⟨c, hc⟩ : ∃ c, s[i + 1 + k] = c := ⟨_, rfl⟩
            have hc' : s[i + 1 + k]? = some c := by rw [List.getElem?_eq_getElem b2, hc]
            have hhx : ¬ Cssp.isHex c = true := fun h => by have := (HST.out k c (by omega) k1 hc').1 h; omega
            have hh0 : ¬ 0 ≤ Cssp.hex c := fun h => hhx (by simpa [Cssp.isHex] using h)
            have hcb := u8_lt c
            clear hc' hhx
            go_wp2_with fail
            refine (rHex c _).mono ?_
            rintro e w' ⟨rfl, rfl⟩
            obtain ⟨H, hH⟩ : ∃ H, Cssp.hex c = H := ⟨_, rfl⟩
            rw [hH] at hh0
            rw [hH]
            clear hH
            go_wp2_with fail
            go_meet
            case rel => exact ⟨rfl, rfl, rfl⟩
          · have b1 : ¬ (i : Int) + 1 + (k : Int) < (s.length : Int) := by omega
            go_wp2_with fail
            go_meet
            case rel => exact ⟨rfl, rfl, rfl⟩
        · have k1' : ¬ (k : Int) < 6 := by omega
          go_wp2_with fail
          go_meet
          case rel => exact ⟨rfl, rfl, rfl⟩
  case rest =>
    obtain ⟨rfl, rfl, rfl⟩ := hcut
    by_cases hK0 : K = 0
    · subst hK0
      have hb1 : (0 : Int) ≤ (i : Int) + 1 := by omega
      have hb2 : (i : Int) + 1 ≤ (i : Int) + 1 + 1 := by omega
      have hb3 : (i : Int) + 1 + 1 ≤ (s.length : Int) := by omega
      have hwr2 : wrap64 ((i : Int) + 1 + 1) = (i : Int) + 1 + 1 := by unfold wrap64; omega
      have hE0 : E = ⟨X.take 1, 2, false⟩ := by rw [HEQ.out, if_pos rfl]
      subst hE0
      go_wp2_with fail
      refine bodyPost_ret (v := .tuple #[S ((s.drop (i + 1)).take 1), .int .i64 ((i : Int) + 1 + 1), .bool false]) (by simp [results, Tryz.results33, go_sem]) rfl ?_
      exact ⟨by rw [HXX.out, show (i : Int) + 1 + 1 = (i : Int) + 2 by omega], Below.refl _ _⟩
    · have qk : ((K : Int) == 0) = false := by rw [beq_eq_false_iff_ne]; omega
      have hwk : wrap64 ((i : Int) + 1 + (K : Int)) = (i : Int) + 1 + (K : Int) := by unfold wrap64; omega
      have hE1 := HEQ.out
      rw [if_neg hK0] at hE1
      have HE1 := hide hE1
      clear hE1
      obtain ⟨B, hB⟩ : ∃ B, decide (¬ V = 0 ∧ V ≤ 1114111 ∧ (V < 55296 ∨ 57343 < V)) = B := ⟨_, rfl⟩
      go_upto_region 13 with (fail)
      go_cut [9, 74] from 10 (fun s9 s74 wx => s9 = S Cssp.fffd ∧ s74 = .bool B ∧ w = wx)
      case first =>
        by_cases v0 : V = 0
        · subst v0
          have hb : B = false := by rw [← hB]; simp
          go_wp2_with fail
          go_meet
          case rel => exact ⟨rfl, by rw [hb], rfl⟩
        have v0' : ((V : Int) != 0) = true := by simpa using v0
        by_cases v1 : 1114111 < V
        · have v1' : ¬ (V : Int) ≤ 1114111 := by omega
          have d1 : decide ((V : Int) ≤ 1114111) = false := decide_eq_false v1'
          have hb : B = false := by rw [← hB, decide_eq_false_iff_not]; omega
          clear hB
          go_wp2_with fail
          go_meet
          case rel => exact ⟨rfl, by rw [hb], rfl⟩
        have v1' : (V : Int) ≤ 1114111 := by omega
        have d1 : decide ((V : Int) ≤ 1114111) = true := decide_eq_true v1'
        by_cases v2 : V < 55296
        · have v2' : (V : Int) < 55296 := by omega
          have d2 : decide ((V : Int) < 55296) = true := decide_eq_true v2'
          have hb : B = true := by rw [← hB, decide_eq_true_eq]; omega
          clear hB
          go_wp2_with fail
          go_meet
          case rel => exact ⟨rfl, by rw [hb], rfl⟩
        · have v2' : ¬ (V : Int) < 55296 := by omega
          have d2 : decide ((V : Int) < 55296) = false := decide_eq_false v2'
          by_cases v3 : 57343 < V
          · have v3' : (57343 : Int) < (V : Int) := by omega
            have d3 : decide ((57343 : Int) < (V : Int)) = true := decide_eq_true v3'
            have hb : B = true := by rw [← hB, decide_eq_true_eq]; omega
            clear hB
            go_wp2_with fail
            go_meet
            case rel => exact ⟨rfl, by rw [hb], rfl⟩
          · have v3' : ¬ (57343 : Int) < (V : Int) := by omega
            have d3 : decide ((57343 : Int) < (V : Int)) = false := decide_eq_false v3'
            have hb : B = false := by rw [← hB, decide_eq_false_iff_not]; omega
            clear hB
            go_wp2_with fail
            go_meet
            case rel => exact ⟨rfl, by rw [hb], rfl⟩
      case rest =>
      obtain ⟨rfl, rfl, rfl⟩ := hcut
      go_upto_if 74 with (fail)
      go_cut [9] from 10 (fun s9 wx => s9 = S (Cssp.chr V) ∧ Hid (Below w.heap.size w wx))
      case first =>
        cases B with
        | false =>
          have hch : Cssp.chr V = Cssp.fffd := by
            rw [decide_eq_false_iff_not] at hB
            unfold Cssp.chr
            split
            · rfl
            · exact enc_sur (by omega)
          clear hB
          go_wp2_with fail
          go_meet
          case rel => exact ⟨by rw [hch], Below.refl _ _⟩
        | true =>
          rw [decide_eq_true_eq] at hB
          obtain ⟨v0, v1, v2⟩ := hB
          have hch : Cssp.chr V = Lib.encodeRune (V : Int) := by rw [Cssp.chr, if_neg (by omega)]
          have HB := hide (rBytesZ (V : Int) w (by omega) (by omega) (by omega))
          have hwv : wrap32 (V : Int) = (V : Int) := by unfold wrap32; omega
          rw [← hch] at HB
          clear hch v2
          go_wp2_with fail
          refine HB.out.mono ?_
          rintro e w2 ⟨rfl, hb⟩
          go_wp2_with fail
          go_meet
          case rel => exact ⟨rfl, hb⟩
      case rest =>
        obtain ⟨rfl, hbx⟩ := hcut
        have b0 : (0 : Int) ≤ (i : Int) + 1 + (K : Int) := by omega
        have b4 : ((i : Int) + 1 + (K : Int)).toNat = i + 1 + K := by omega
        have hlen : (s.drop i).length = s.length - i := List.length_drop
        have hat : Cssp.isAt Cssp.blank (s.drop i) (1 + K) = Cssp.isAt Cssp.blank s (i + 1 + K) := by
          unfold Cssp.isAt
          rw [List.getElem?_drop, show i + (1 + K) = i + 1 + K by omega]
        by_cases hk : i + 1 + K < s.length
        · have b1 : (i : Int) + 1 + (K : Int) < (s.length : Int) := by omega
          have b5 : ((i : Int) + 1 + (K : Int) == (s.length : Int)) = false := by rw [beq_eq_false_iff_ne]; omega
          have hw2 : wrap64 ((i : Int) + 1 + (K : Int) + 1) = (i : Int) + 1 + (K : Int) + 1 := by unfold wrap64; omega
          obtain ⟨c, hc⟩ : ∃ c, s[i + 1 + K] = c := ⟨_, rfl⟩
          have hc' : s[i + 1 + K]? = some c := by rw [List.getElem?_eq_getElem hk, hc]
          rw [isAt_get hc'] at hat
          have HAT := hide hat
          have HLN := hide hlen
          clear hat hlen hc'
          cases hbl : Cssp.blank c with
          | true =>
            have hE2 : E = ⟨Cssp.chr V, 2 + K, false⟩ := by
              rw [HE1.out, HAT.out, hbl, if_pos rfl, HLN.out, decide_eq_false (by omega)]
            subst hE2
            have HBL := hide hbl
            clear hbl
            go_wp2_with fail
            refine (rBlank c _).mono ?_
            rintro e w' ⟨rfl, rfl⟩
            rw [HBL.out]
            go_wp2_with fail
            refine bodyPost_ret (v := .tuple #[S (Cssp.chr V), .int .i64 ((i : Int) + 1 + (K : Int) + 1), .bool false]) (by simp [results, Tryz.results33, go_sem]) rfl ?_
            exact ⟨by rw [show (i : Int) + 1 + (K : Int) + 1 = ((i + (2 + K) : Nat) : Int) by omega], hbx.out⟩
          | false =>
            have hE2 : E = ⟨Cssp.chr V, 1 + K, false⟩ := by
              rw [HE1.out, HAT.out, hbl, if_neg (by decide), HLN.out, decide_eq_false (by omega)]
            subst hE2
            have HBL := hide hbl
            clear hbl
            go_wp2_with fail
            refine (rBlank c _).mono ?_
            rintro e w' ⟨rfl, rfl⟩
            rw [HBL.out]
            go_wp2_with fail
            refine bodyPost_ret (v := .tuple #[S (Cssp.chr V), .int .i64 ((i : Int) + 1 + (K : Int)), .bool false]) (by simp [results, Tryz.results33, go_sem]) rfl ?_
            exact ⟨by rw [show (i : Int) + 1 + (K : Int) = ((i + (1 + K) : Nat) : Int) by omega], hbx.out⟩
        · have b1 : ¬ (i : Int) + 1 + (K : Int) < (s.length : Int) := by omega
          have b5 : ((i : Int) + 1 + (K : Int) == (s.length : Int)) = true := by rw [beq_iff_eq]; omega
          rw [isAt_none hk] at hat
          have hE2 : E = ⟨Cssp.chr V, 1 + K, true⟩ := by
            rw [HE1.out, hat, if_neg (by decide), hlen, decide_eq_true (by omega)]
          subst hE2
          clear hat hlen
          go_wp2_with fail
          refine bodyPost_ret (v := .tuple #[S (Cssp.chr V), .int .i64 ((i : Int) + 1 + (K : Int)), .bool true]) (by simp [results, Tryz.results33, go_sem]) rfl ?_
          exact ⟨by rw [show (i : Int) + 1 + (K : Int) = (i : Int) + (1 + (K : Int)) by omega], hbx.out⟩
end Go.Proofs.YtojgcangnkjmjaaGreatDoor
namespace Go.Proofs.YtojgcangnkjmjaaGreatDoor
open Go.RowKit

theorem Cssp.name_nil : Cssp.name [] = ⟨[], 0, false⟩ := rfl
set_option maxRecDepth 100000 in
set_option maxHeartbeats 1000000 in
theorem rName (s : List UInt8) (i : Nat) (w : World) (hl : s.length ≤ 1048576) (hi : i ≤ s.length) (N : Cssp.Out) (hN : Hid (Cssp.name (s.drop i) = N)) :
    Calls Tryz.prog 53 #[S s, .int .i64 i] w (Fresh (.tuple #[S N.t, .int .i64 ((i + N.k : Nat) : Int), .bool N.o]) w) := by
  go_enter Tryz.func53, Tryz.ntmps53
  go_wp2_with fail
  go_loopg [1, 7, 8] (s.length - i) (fun g s1 s7 s8 wx => ∃ (j : Nat) (acc : List UInt8) (op : Bool), s1 = .int .i64 j ∧ s7 = S acc ∧ s8 = .bool op ∧ g + j = s.length ∧ i ≤ j ∧ acc.length ≤ 4 * j ∧
    Hid (N = ⟨acc ++ (Cssp.name (s.drop j)).t, j - i + (Cssp.name (s.drop j)).k, op || (Cssp.name (s.drop j)).o⟩) ∧ Hid (op = true → j = s.length) ∧ Hid (Below w.heap.size w wx))
  case atStart => exact ⟨i, [], false, rfl, rfl, rfl, by omega, Nat.le_refl _, by simp, (by unfold Hid; rw [← hN.out]; simp), (fun h => by cases h), Below.refl _ _⟩
  case round =>
    obtain ⟨j, acc, op, rfl, rfl, rfl, hgj, hij, hacc, hSt, hOp, hbx⟩ := hrel
    by_cases hj : j < s.length
    · have b1 : (j : Int) < (s.length : Int) := by omega
      have b0 : (0 : Int) ≤ (j : Int) := by omega
      have hop : op = false := by
        cases op with
        | false => rfl
        | true => have := hOp.out rfl; omega
      subst hop
      have HE := hide (rEscape s j wr (by omega) (by omega))
      have hd0 : Cssp.escAt (s.drop j) 0 = Cssp.escAt s j := by rw [Cssp.escAt_drop, Nat.add_zero]
      cases he : Cssp.escAt s j with
      | true =>
        rw [he] at hd0 HE
        obtain ⟨E, hE⟩ : ∃ E, Cssp.esc (s.drop j) = E := ⟨_, rfl⟩
        have hdl : (s.drop j).length = s.length - j := List.length_drop
        have hE1 := Cssp.esc_pos (s.drop j)
        have hE2 := (Cssp.esc_len (s.drop j)).2 (by omega)
        have hE3 := (Cssp.esc_len (s.drop j)).1
        have hE4 := Cssp.esc_open (s.drop j)
        have hnm := Cssp.name_esc hd0
        rw [hE] at hE1 hE2 hE3 hE4 hnm
        rw [List.drop_drop] at hE4 hnm
        have HEs := hide (rEscaped s j wr hl hj E hE)
        have HNM := hide hnm
        have HE4 := hide hE4
        have hEk : j + E.k ≤ s.length := by omega
        have hnext : Hid (N = ⟨(acc ++ E.t) ++ (Cssp.name (s.drop (j + E.k))).t, j + E.k - i + (Cssp.name (s.drop (j + E.k))).k, E.o || (Cssp.name (s.drop (j + E.k))).o⟩) := by
          unfold Hid
          rw [hSt.out, hnm]
          simp only [Bool.false_or, List.append_assoc, Cssp.Out.mk.injEq, true_and, and_true]
          omega
        have hopn : Hid (E.o = true → j + E.k = s.length) := fun h => by
          have := hE4 h
          have h2 := congrArg List.length this
          rw [List.length_drop, List.length_nil] at h2
          omega
        have hal : (acc ++ E.t).length ≤ 4 * (j + E.k) := by rw [List.length_append]; omega
        have HAL := hide hal
        have hap : ¬ 9223372036854775807 < acc.length + E.t.length := by omega
        clear hE hE3 hE4 hnm hdl hd0 hal HNM HE4
        obtain ⟨Et, Ek, Eo⟩ := E
        simp only at hE1 hE2 hnext hopn HAL HEs hEk hap
        go_wp2_with fail
        refine HE.out.mono ?_
        rintro e w' ⟨rfl, rfl⟩
        go_wp2_with fail
        refine HEs.out.mono ?_
        rintro e w2 ⟨rfl, hb2⟩
        have HB2 : Hid (Below w.heap.size w w2) := hbx.out.trans (hb2.mono hbx.out.size)
        clear hb2 HEs HE
        go_wp2_with fail
        go_roundg (gk - Ek)
        case measure => omega
        case rel => exact ⟨j + Ek, acc ++ Et, Eo, rfl, rfl, rfl, by omega, by omega, HAL.out, hnext, hopn, HB2⟩
      | false =>
        rw [he] at hd0 HE
        obtain ⟨c, hc⟩ : ∃ c, s[j] = c := ⟨_, rfl⟩
        have hdj : s.drop j = c :: s.drop (j + 1) := by rw [← hc]; exact List.drop_eq_getElem_cons hj
        have HG := hide (rGoesOn c wr)
        cases hg : Cssp.goesOn c with
        | true =>
          rw [hg] at HG
          have hnm : Cssp.name (s.drop j) = ⟨c :: (Cssp.name (s.drop (j + 1))).t, (Cssp.name (s.drop (j + 1))).k + 1, (Cssp.name (s.drop (j + 1))).o⟩ := by
            rw [hdj] at hd0 ⊢
            exact Cssp.name_cons hd0 hg
          have hnext : Hid (N = ⟨(acc ++ [c]) ++ (Cssp.name (s.drop (j + 1))).t, j + 1 - i + (Cssp.name (s.drop (j + 1))).k, false || (Cssp.name (s.drop (j + 1))).o⟩) := by
            unfold Hid
            rw [hSt.out, hnm]
            simp only [List.append_assoc, List.cons_append, List.nil_append, Cssp.Out.mk.injEq, true_and, and_true]
            omega
          have hsl : (s.drop j).take 1 = [c] := by rw [hdj]; rfl
          have hap : ¬ 9223372036854775807 < acc.length + 1 := by omega
          have hwr : wrap64 ((j : Int) + 1) = (j : Int) + 1 := by unfold wrap64; omega
          have b2 : (j : Int) + 1 ≤ (s.length : Int) := by omega
          have b3 : (j : Int) ≤ (j : Int) + 1 := by omega
          clear hnm hdj hd0 hg he hSt hOp
          go_wp2_with fail
          refine HE.out.mono ?_
          rintro e w' ⟨rfl, rfl⟩
          go_wp2_with fail
          refine HG.out.mono ?_
          rintro e w' ⟨rfl, rfl⟩
          go_wp2_with fail
          go_roundg (gk - 1)
          case measure => omega
          case rel => exact ⟨j + 1, acc ++ [c], false, by go_num, (by rw [← hsl]), rfl, by omega, by omega, (by simp; omega), hnext, (fun h => by cases h), hbx⟩
        | false =>
          rw [hg] at HG
          have hnm : Cssp.name (s.drop j) = ⟨[], 0, false⟩ := Cssp.name_stop hd0 (by rw [hdj]; exact hg)
          have hN2 : N = ⟨acc, j - i, false⟩ := by rw [hSt.out, hnm]; simp
          subst hN2
          clear hnm hdj hd0 hg he hSt hOp hN
          go_wp2_with fail
          refine HE.out.mono ?_
          rintro e w' ⟨rfl, rfl⟩
          go_wp2_with fail
          refine HG.out.mono ?_
          rintro e w' ⟨rfl, rfl⟩
          go_wp2_with fail
          refine bodyPost_ret (v := .tuple #[S acc, .int .i64 (j : Int), .bool false]) (by simp [results, Tryz.results53, go_sem]) rfl ?_
          exact ⟨by rw [show (j : Int) = ((i + (j - i) : Nat) : Int) by omega], hbx.out⟩
    · have b1 : ¬ (j : Int) < (s.length : Int) := by omega
      have hdj : s.drop j = [] := List.drop_eq_nil_of_le (by omega)
      have hN2 : N = ⟨acc, j - i, op⟩ := by rw [hSt.out, hdj, Cssp.name_nil]; simp
      subst hN2
      clear hdj hSt hOp hN
      go_wp2_with fail
      refine bodyPost_ret (v := .tuple #[S acc, .int .i64 (j : Int), .bool op]) (by simp [results, Tryz.results53, go_sem]) rfl ?_
      exact ⟨by rw [show (j : Int) = ((i + (j - i) : Nat) : Int) by omega], hbx.out⟩
end Go.Proofs.YtojgcangnkjmjaaGreatDoor
