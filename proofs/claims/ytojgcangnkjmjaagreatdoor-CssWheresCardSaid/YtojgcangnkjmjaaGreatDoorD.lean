/- identAt, numberAt. -/
import Derived.Test.YtojgcangnkjmjaaGreatDoorC
namespace Go.Proofs.YtojgcangnkjmjaaGreatDoor
open Go.RowKit

set_option maxRecDepth 100000 in
theorem identAt (s t : List UInt8) (b i : Nat) (n o : Bool) (w : World) (h : Lx w b s n o t) (hl : s.length ≤ 140737488355328) (hi2 : i ≤ 4) :
    Calls Tryz.prog 73 #[.pointer (some ⟨b, 0, none⟩), .int .i64 i] w (Ret (.bool (Cssp.identAt s i)) w) := by
  obtain ⟨c0, c1, c2, c3⟩ := h.cells
  have HE := fun j => hide (escapeAt s t b j n o w h hl)
  clear h
  obtain ⟨R, hR⟩ : ∃ R, Cssp.identAt s i = R := ⟨_, rfl⟩
  rw [hR]
  have HR := hide hR
  clear hR
  have b0 : (0 : Int) ≤ (i : Int) := by omega
  have hwr : wrap64 ((i : Int) + 1) = (i : Int) + 1 := by unfold wrap64; omega
  have b3 : (0 : Int) ≤ (i : Int) + 1 := by omega
  have b4 : ((i : Int) + 1).toNat = i + 1 := by omega
  have b5 : ((i + 1 : Nat) : Int) = (i : Int) + 1 := by omega
  go_enter Tryz.func73, Tryz.ntmps73
  by_cases hi : i < s.length
  · have b1 : (i : Int) < (s.length : Int) := by omega
    obtain ⟨x, hx⟩ : ∃ x, s[i] = x := ⟨_, rfl⟩
    have hx' : s[i]? = some x := by rw [List.getElem?_eq_getElem hi, hx]
    have HX := hide hx'
    clear hx'
    by_cases h45 : x = 45
    · have q1 : ((x.toNat : Int) == 45) = true := u8t h45
      have H45 := hide h45
      clear h45
      by_cases hn : i + 1 < s.length
      · have b2 : (i : Int) + 1 < (s.length : Int) := by omega
        obtain ⟨y, hy⟩ : ∃ y, s[i + 1] = y := ⟨_, rfl⟩
        have hy' : s[i + 1]? = some y := by rw [List.getElem?_eq_getElem hn, hy]
        have HY := hide hy'
        clear hy'
        have HEQ : Hid (R = (Cssp.begins y || y == 45 || Cssp.escAt s (i + 1))) := by
          unfold Hid
          rw [← HR.out, Cssp.identAt, isAt_get HX.out, H45.out, if_pos (by rfl), isAt_get HY.out]
        go_wp2_with fail
        refine (cBegins y _).mono ?_
        rintro e w' ⟨rfl, rfl⟩
        cases hb : Cssp.begins y
        · by_cases h46 : y = 45
          · have q2 : ((y.toNat : Int) == 45) = true := u8t h46
            have H46 := hide h46
            clear h46
            go_wp2_with fail
            go_ret
            exact Ret.of (v_b (by rw [HEQ.out, H46.out]; simp))
          · have q2 : ((y.toNat : Int) == 45) = false := u8f h46
            have H46 := hide h46
            clear h46
            have hcall := HE (i + 1)
            rw [b5] at hcall
            go_wp2_with fail
            refine hcall.out.mono ?_
            rintro e w' ⟨rfl, rfl⟩
            go_wp2_with fail
            go_ret
            exact Ret.of (v_b (by rw [HEQ.out, hb, beq_eq_false_iff_ne.2 H46.out]; rfl))
        · go_wp2_with fail
          go_ret
          exact Ret.of (v_b (by rw [HEQ.out, hb]; rfl))
      · have b2 : ¬ (i : Int) + 1 < (s.length : Int) := by omega
        have hd : decide ((i : Int) + 1 < (s.length : Int)) = false := by simp; omega
        have HEQ : Hid (R = false) := by
          unfold Hid
          rw [← HR.out, Cssp.identAt, isAt_get HX.out, H45.out, if_pos (by rfl), isAt_none hn, esc_no hn]
          rfl
        clear hn
        go_wp2_with fail
        go_ret
        exact Ret.of (v_b HEQ.out.symm)
    · have q1 : ((x.toNat : Int) == 45) = false := u8f h45
      have HEQ : Hid (R = (Cssp.begins x || Cssp.escAt s i)) := by
        unfold Hid
        rw [← HR.out, Cssp.identAt, isAt_get HX.out, beq_eq_false_iff_ne.2 h45, if_neg (by simp), isAt_get HX.out]
      have H45 := hide h45
      clear h45
      go_wp2_with fail
      refine (cBegins x _).mono ?_
      rintro e w' ⟨rfl, rfl⟩
      cases hb : Cssp.begins x
      · have hcall := HE i
        go_wp2_with fail
        refine hcall.out.mono ?_
        rintro e w' ⟨rfl, rfl⟩
        go_wp2_with fail
        go_ret
        exact Ret.of (v_b (by rw [HEQ.out, hb]; rfl))
      · go_wp2_with fail
        go_ret
        exact Ret.of (v_b (by rw [HEQ.out, hb]; rfl))
  · have b1 : ¬ (i : Int) < (s.length : Int) := by omega
    have hd : decide ((i : Int) < (s.length : Int)) = false := by simp; omega
    have HEQ : Hid (R = Cssp.escAt s i) := by
      unfold Hid
      rw [← HR.out, Cssp.identAt, isAt_none hi, if_neg (by simp), isAt_none hi]
      rfl
    clear hi
    have hcall := HE i
    go_wp2_with fail
    refine hcall.out.mono ?_
    rintro e w' ⟨rfl, rfl⟩
    go_wp2_with fail
    go_ret
    exact Ret.of (v_b HEQ.out.symm)
set_option maxRecDepth 100000 in
theorem numberAt (s t : List UInt8) (b : Nat) (n o : Bool) (w : World) (h : Lx w b s n o t) :
    Calls Tryz.prog 78 #[.pointer (some ⟨b, 0, none⟩)] w (Ret (.bool (Cssp.numberAt s 0)) w) := by
  have HP := fun j => hide (peek_ s t b j n o w h)
  clear h
  have sg : ∀ c : UInt8, Cssp.at_ s 0 = c → Cssp.signed s 0 = if c = 43 ∨ c = 45 then 1 else 0 := fun c hc => by
    unfold Cssp.signed
    unfold Cssp.at_ at hc
    cases s with
    | nil => simp at hc; subst hc; rfl
    | cons x r =>
      simp at hc
      subst hc
      rw [isAt_get (x := x) rfl]
      simp
  obtain ⟨c, hc⟩ : ∃ c, Cssp.at_ s 0 = c := ⟨_, rfl⟩
  have hs := sg c hc
  obtain ⟨k, hk⟩ : ∃ k, Cssp.signed s 0 = k := ⟨_, rfl⟩
  rw [hk] at hs
  obtain ⟨d, hd⟩ : ∃ d, Cssp.at_ s (0 + k) = d := ⟨_, rfl⟩
  obtain ⟨d2, hd2⟩ : ∃ d2, Cssp.at_ s (0 + k + 1) = d2 := ⟨_, rfl⟩
  have HEQ : Hid (Cssp.numberAt s 0 = (Cssp.digit d || d == 46 && Cssp.digit d2)) := by
    unfold Hid
    rw [Cssp.numberAt, hk, hd, hd2]
  rw [HEQ.out]
  have P0 := HP 0
  have P1 := HP (0 + k)
  have P2 := HP (0 + k + 1)
  rw [hc] at P0
  rw [hd] at P1
  rw [hd2] at P2
  clear HP sg hc hk hd hd2
  go_enter Tryz.func78, Tryz.ntmps78
  go_wp2_with fail
  refine P0.out.mono ?_
  rintro e w' ⟨rfl, rfl⟩
  clear P0
  by_cases h43 : c = 43
  · have q1 : ((c.toNat : Int) == 43) = true := u8t h43
    obtain rfl : k = 1 := by rw [hs, if_pos (.inl h43)]
    clear h43 hs
    go_wp2_with fail
    refine P1.out.mono ?_
    rintro e w' ⟨rfl, rfl⟩
    go_wp2_with fail
    refine (cDigit d _).mono ?_
    rintro e w' ⟨rfl, rfl⟩
    
    cases hb : Cssp.digit d
    · by_cases h46 : d = 46
      · have q3 : ((d.toNat : Int) == 46) = true := u8t h46
        have H46 := hide h46
        clear h46
        go_wp2_with fail
        refine P1.out.mono ?_
        rintro e w' ⟨rfl, rfl⟩
        go_wp2_with fail
        refine P2.out.mono ?_
        rintro e w' ⟨rfl, rfl⟩
        go_wp2_with fail
        refine (cDigit d2 _).mono ?_
        rintro e w' ⟨rfl, rfl⟩
        go_wp2_with fail
        go_ret
        exact Ret.of (v_b (by rw [hb, H46.out]; rfl))
      · have q3 : ((d.toNat : Int) == 46) = false := u8f h46
        have H46 := hide h46
        clear h46
        go_wp2_with fail
        refine P1.out.mono ?_
        rintro e w' ⟨rfl, rfl⟩
        go_wp2_with fail
        go_ret
        exact Ret.of (v_b (by rw [hb, beq_eq_false_iff_ne.2 H46.out]; rfl))
    · go_wp2_with fail
      go_ret
      exact Ret.of (v_b (by rw [hb]; rfl))
  · have q1 : ((c.toNat : Int) == 43) = false := u8f h43
    by_cases h45 : c = 45
    · have q2 : ((c.toNat : Int) == 45) = true := u8t h45
      obtain rfl : k = 1 := by rw [hs, if_pos (.inr h45)]
      clear h43 h45 hs
      go_wp2_with fail
      refine P1.out.mono ?_
      rintro e w' ⟨rfl, rfl⟩
      go_wp2_with fail
      refine (cDigit d _).mono ?_
      rintro e w' ⟨rfl, rfl⟩
      
      cases hb : Cssp.digit d
      · by_cases h46 : d = 46
        · have q3 : ((d.toNat : Int) == 46) = true := u8t h46
          have H46 := hide h46
          clear h46
          go_wp2_with fail
          refine P1.out.mono ?_
          rintro e w' ⟨rfl, rfl⟩
          go_wp2_with fail
          refine P2.out.mono ?_
          rintro e w' ⟨rfl, rfl⟩
          go_wp2_with fail
          refine (cDigit d2 _).mono ?_
          rintro e w' ⟨rfl, rfl⟩
          go_wp2_with fail
          go_ret
          exact Ret.of (v_b (by rw [hb, H46.out]; rfl))
        · have q3 : ((d.toNat : Int) == 46) = false := u8f h46
          have H46 := hide h46
          clear h46
          go_wp2_with fail
          refine P1.out.mono ?_
          rintro e w' ⟨rfl, rfl⟩
          go_wp2_with fail
          go_ret
          exact Ret.of (v_b (by rw [hb, beq_eq_false_iff_ne.2 H46.out]; rfl))
      · go_wp2_with fail
        go_ret
        exact Ret.of (v_b (by rw [hb]; rfl))
    · have q2 : ((c.toNat : Int) == 45) = false := u8f h45
      obtain rfl : k = 0 := by rw [hs, if_neg (by rintro (h | h); exact h43 h; exact h45 h)]
      clear h43 h45 hs
      go_wp2_with fail
      refine P1.out.mono ?_
      rintro e w' ⟨rfl, rfl⟩
      go_wp2_with fail
      refine (cDigit d _).mono ?_
      rintro e w' ⟨rfl, rfl⟩
      
      cases hb : Cssp.digit d
      · by_cases h46 : d = 46
        · have q3 : ((d.toNat : Int) == 46) = true := u8t h46
          have H46 := hide h46
          clear h46
          go_wp2_with fail
          refine P1.out.mono ?_
          rintro e w' ⟨rfl, rfl⟩
          go_wp2_with fail
          refine P2.out.mono ?_
          rintro e w' ⟨rfl, rfl⟩
          go_wp2_with fail
          refine (cDigit d2 _).mono ?_
          rintro e w' ⟨rfl, rfl⟩
          go_wp2_with fail
          go_ret
          exact Ret.of (v_b (by rw [hb, H46.out]; rfl))
        · have q3 : ((d.toNat : Int) == 46) = false := u8f h46
          have H46 := hide h46
          clear h46
          go_wp2_with fail
          refine P1.out.mono ?_
          rintro e w' ⟨rfl, rfl⟩
          go_wp2_with fail
          go_ret
          exact Ret.of (v_b (by rw [hb, beq_eq_false_iff_ne.2 H46.out]; rfl))
      · go_wp2_with fail
        go_ret
        exact Ret.of (v_b (by rw [hb]; rfl))
end Go.Proofs.YtojgcangnkjmjaaGreatDoor
