/- The reference's escape: the plain law. -/
import Derived.Test.YtngccmlcopcghaaGreatDoorXa
import Derived.Test.YtngccmlcopcghaaGreatDoorQl
set_option maxRecDepth 100000
set_option maxHeartbeats 8000000
namespace Go.Proofs.YtngccmlcopcghaaGreatDoor
open Go.RowKit
theorem rAlpha (r : Nat) (w : World) : Calls Tryz.prog 123 #[.int .i32 r] w (Ret (.bool (Jsp.alpha r)) w) := by
 go_enter Tryz.func123, Tryz.ntmps123
 go_wp2
 all_goals go_ret
 all_goals exact Ret.of (v_b (by
  rw [Bool.eq_iff_iff, alpha_iff]
  (try simp only [Bool.or_eq_true, decide_eq_true_eq, Bool.false_eq_true, false_iff, true_iff])
  omega))
theorem rHex (r : Nat) (w : World) (hr : r <= 1114111) : Calls Tryz.prog 163 #[.int .i32 r] w (Ret (.int .i64 (hexR r)) w) := by
 go_enter Tryz.func163, Tryz.ntmps163
 go_wp2
 all_goals go_ret
 all_goals refine Ret.of (v_i ?_)
 all_goals unfold hexR
 all_goals (repeat' split)
 all_goals first | (exfalso; omega) | (go_num <;> omega)
theorem rDig (r : Nat) (w : World) : Calls Tryz.prog 87 #[.int .i32 r] w (Ret (.bool (Jsp.digit r)) w) := by
 go_enter Tryz.func87, Tryz.ntmps87
 go_wp2
 all_goals go_ret
 all_goals exact Ret.of (v_b (by unfold Jsp.digit; rw [Bool.eq_iff_iff]; simp only [Bool.and_eq_true, decide_eq_true_eq, Bool.false_eq_true, false_iff]; omega))
theorem rLineEnd (r : Nat) (w : World) : Calls Tryz.prog 83 #[.int .i32 r] w (Ret (.bool (Jsp.lineEnd r)) w) := by
 have h : Jsp.lineEnd r = (decide (r = 10) || decide (r = 13) || decide (r = 8232) || decide (r = 8233)) := by
  rw [Bool.eq_iff_iff]
  simp only [Jsp.lineEnd, Bool.or_eq_true, beq_iff_eq, decide_eq_true_eq]
 rw [h]
 clear h
 go_enter Tryz.func83, Tryz.ntmps83
 go_wp2
 all_goals go_ret
 all_goals exact Ret.of (v_b (by rw [Bool.eq_iff_iff]; simp <;> omega))
theorem rBlank (r : Nat) (w : World) : Calls Tryz.prog 82 #[.int .i32 r] w (Ret (.bool (Jsp.blank r)) w) := by
 rw [blank_eq]
 go_enter Tryz.func82, Tryz.ntmps82
 go_wp2
 all_goals go_ret
 all_goals refine Ret.of (v_b ?_)
 all_goals rw [Bool.eq_iff_iff]
 all_goals simp only [Bool.or_eq_true, Bool.and_eq_true, decide_eq_true_eq]
 all_goals (try simp only [beq_iff_eq] at *)
 all_goals first | omega | (simp only [true_iff]; omega) | (simp only [false_iff]; omega)
theorem rBegins (r : Nat) (w : World) : Calls Tryz.prog 85 #[.int .i32 r] w (Ret (.bool (Jsp.begins r)) w) := by
 obtain ⟨R, hR⟩ : ∃ R, Jsp.begins r = R := ⟨_, rfl⟩
 rw [hR]
 unfold Jsp.begins at hR
 go_enter Tryz.func85, Tryz.ntmps85
 have HR := hide hR
 clear hR
 go_wp2_with fail
 refine (rAlpha r _).mono ?_
 rintro e w' ⟨rfl, rfl⟩
 cases ha : Jsp.alpha r
 ·by_cases h1 : r = 36
  ·have q1 : ((r : Int) == 36) = true := ji_t h1
   have H1 := hide h1
   clear h1
   go_wp2_with fail
   go_ret
   exact Ret.of (v_b (by rw [<- HR.out, ha, H1.out]; rfl))
  have q1 : ((r : Int) == 36) = false := ji_f h1
  have H1 := hide (show (r == 36) = false from by rw [beq_eq_false_iff_ne]; exact h1)
  clear h1
  by_cases h2 : r = 95
  ·have q2 : ((r : Int) == 95) = true := ji_t h2
   have H2 := hide h2
   clear h2
   go_wp2_with fail
   go_ret
   exact Ret.of (v_b (by rw [<- HR.out, ha, H2.out]; rfl))
  have q2 : ((r : Int) == 95) = false := ji_f h2
  have H2 := hide (show (r == 95) = false from by rw [beq_eq_false_iff_ne]; exact h2)
  clear h2
  by_cases h3 : 128 <= r
  ·have q3 : decide ((128 : Int) <= (r : Int)) = true := by simp; omega
   have H3 := hide h3
   clear h3
   go_wp2_with fail
   refine (rBlank r _).mono ?_
   rintro e w' ⟨rfl, rfl⟩
   cases hb : Jsp.blank r
   ·go_wp2_with fail
    refine (rLineEnd r _).mono ?_
    rintro e w' ⟨rfl, rfl⟩
    go_wp2_with fail
    go_ret
    exact Ret.of (v_b (by rw [<- HR.out, ha, H1.out, H2.out, hb, decide_eq_true H3.out]; simp))
   ·go_wp2_with fail
    go_ret
    exact Ret.of (v_b (by rw [<- HR.out, ha, H1.out, H2.out, hb]; simp))
  ·have q3 : decide ((128 : Int) <= (r : Int)) = false := by simp; omega
   have H3 := hide h3
   clear h3
   go_wp2_with fail
   go_ret
   exact Ret.of (v_b (by rw [<- HR.out, ha, H1.out, H2.out, decide_eq_false H3.out]; simp))
 ·go_wp2_with fail
  go_ret
  exact Ret.of (v_b (by rw [<- HR.out, ha]; rfl))
theorem rGoesOn (r : Nat) (w : World) : Calls Tryz.prog 124 #[.int .i32 r] w (Ret (.bool (Jsp.goesOn r)) w) := by
 go_enter Tryz.func124, Tryz.ntmps124
 go_wp2_with fail
 refine (rBegins r _).mono ?_
 rintro e w' ⟨rfl, rfl⟩
 cases hb : Jsp.begins r
 ·go_wp2_with fail
  refine (rDig r _).mono ?_
  rintro e w' ⟨rfl, rfl⟩
  go_wp2_with fail
  go_ret
  exact Ret.of (v_b (by unfold Jsp.goesOn; rw [hb]; rfl))
 ·go_wp2_with fail
  go_ret
  exact Ret.of (v_b (by unfold Jsp.goesOn; rw [hb]; rfl))
abbrev ptV (s : List UInt8) (i : Nat) : Value := .tuple #[.int .i32 (Jsp.pt (s.drop i) : Nat), .int .i64 (Jsp.pn (s.drop i) : Nat)]
theorem rPoint (s : List UInt8) (i : Nat) (w : World) (hl : s.length <= 1048576) : Calls Tryz.prog 81 #[S s, .int .i64 (i : Int)] w (Fresh (ptV s i) w) := by
 by_cases h : i < s.length
 ·have hne : s.drop i ≠ [] := fun e => by have := congrArg List.length e; rw [List.length_drop, List.length_nil] at this; omega
  obtain ⟨P, hP⟩ : ∃ P, Cssp.piece (s.drop i) = P := ⟨_, rfl⟩
  obtain ⟨C, hC⟩ : ∃ C, Cssp.cpt (s.drop i) = C := ⟨_, rfl⟩
  have e1 : Jsp.pt (s.drop i) = C := by rw [Jsp.pt, if_neg hne, hC]
  have e2 : Jsp.pn (s.drop i) = P.1 := by rw [Jsp.pn, if_neg hne, hP]
  have hPC := fun W => hide (rPiece s i W hl h P hP C hC)
  rw [show ptV s i = .tuple #[.int .i32 (C : Int), .int .i64 (P.1 : Int)] by rw [ptV, e1, e2]]
  have b : ¬ (s.length : Int) <= (i : Int) := by omega
  clear e1 e2 hP hC hne
  go_enter Tryz.func81, Tryz.ntmps81
  go_wp2_with fail
  refine (hPC _).out.mono ?_
  rintro e w' ⟨rfl, hb⟩
  go_wp2_with fail
  go_ret2
  exact ⟨rfl, hb⟩
 ·have e1 : s.drop i = [] := List.drop_eq_nil_of_le (by omega)
  rw [show ptV s i = .tuple #[.int .i32 0, .int .i64 0] by rw [ptV, e1]; rfl]
  have b : (s.length : Int) <= (i : Int) := by omega
  clear e1 h
  go_enter Tryz.func81, Tryz.ntmps81
  go_wp2_with fail
  go_ret2
  exact ⟨rfl, Below.refl _ _⟩
theorem drop_ne {s : List UInt8} {i : Nat} (h : i < s.length) : s.drop i ≠ [] := fun e => by have := congrArg List.length e; rw [List.length_drop, List.length_nil] at this; omega
theorem rRun (s : List UInt8) (k : Nat) (w : World) (hk : k <= s.length) (hl : s.length <= 1048576) : Calls Tryz.prog 86 #[S s, .int .i64 (k : Int)] w (Fresh (.int .i64 ((k + Jsp.name (s.drop k) : Nat) : Int)) w) := by
 obtain ⟨R, hR⟩ : ∃ R, k + Jsp.name (s.drop k) = R := ⟨_, rfl⟩
 rw [hR]
 obtain ⟨M, hM⟩ : ∃ M, w.heap.size = M := ⟨_, rfl⟩
 have HM := hide hM
 have HR := hide hR
 clear hM hR
 go_enter Tryz.func86, Tryz.ntmps86
 go_wp2_with fail
 go_loopg [1] (s.length - k) (fun g s1 wx => ∃ i : Nat, i + g = s.length /\ s1 = .int .i64 (i : Int) /\ Hid (i + Jsp.name (s.drop i) = R) /\ Hid (Below M w wx))
 case atStart => exact ⟨k, by omega, rfl, HR, by unfold Hid; rw [<- HM.out]; exact Below.refl _ _⟩
 case round =>
  obtain ⟨i, hi, rfl, hnm, hbx⟩ := hrel
  have hbs : Hid (M <= wr.heap.size) := by unfold Hid; have := hbx.out.size; rw [<- HM.out]; exact this
  by_cases hlt : i < s.length
  ·have hne := drop_ne hlt
   obtain ⟨p1, p2⟩ := Jsp.pn_le hne
   have hst := Jsp.run_step Jsp.goesOn (s.drop i) hne
   have hle := Jsp.pt_le (s.drop i)
   rw [List.length_drop] at p2
   obtain ⟨r, hr⟩ : ∃ r, Jsp.pt (s.drop i) = r := ⟨_, rfl⟩
   obtain ⟨n, hn⟩ : ∃ n, Jsp.pn (s.drop i) = n := ⟨_, rfl⟩
   have HP := fun W => rPoint s i W hl
   rw [ptV, hr, hn] at HP
   have HP := hide HP
   rw [hr, hn, List.drop_drop] at hst
   rw [hn] at p1 p2
   have q : ((n : Int) == 0) = false := by rw [beq_eq_false_iff_ne]; omega
   have HST := hide hst
   clear hr hn hst hne hle
   go_wp2_with fail
   refine (HP.out _).mono ?_
   rintro e w2 ⟨rfl, hb2⟩
   have HB2 : Hid (Below M w w2) := hbx.out.trans (hb2.mono hbs.out)
   clear hb2 HP
   go_wp2_with fail
   refine (rGoesOn r _).mono ?_
   rintro e w3 ⟨rfl, rfl⟩
   cases hg : Jsp.goesOn r
   ·have e1 : i = R := by
     have := hnm.out
     rw [show Jsp.name (s.drop i) = 0 by rw [Jsp.name, HST.out, hg]; rfl] at this
     omega
    subst e1
    go_wp2_with fail
    go_ret
    exact ⟨rfl, by rw [HM.out]; exact HB2.out⟩
   ·have e1 : Hid ((i + n) + Jsp.name (s.drop (i + n)) = R) := by
     unfold Hid
     have := hnm.out
     rw [show Jsp.name (s.drop i) = n + Jsp.name (s.drop (i + n)) by rw [Jsp.name, HST.out, hg]; rfl] at this
     omega
    go_wp2_with fail
    go_roundg (gk - n)
    case measure => omega
    case rel => exact ⟨i + n, by omega, by go_num, e1, HB2⟩
  ·have e0 : s.drop i = [] := List.drop_eq_nil_of_le (by omega)
   have HP := fun W => rPoint s i W hl
   rw [ptV, e0] at HP
   have HP := hide HP
   have e1 : i = R := by
    have := hnm.out
    rw [e0] at this
    exact this
   subst e1
   clear e0
   go_wp2_with fail
   refine (HP.out _).mono ?_
   rintro e w2 ⟨rfl, hb2⟩
   have HB2 : Hid (Below M w w2) := hbx.out.trans (hb2.mono hbs.out)
   clear hb2 HP
   go_wp2_with fail
   go_ret
   exact ⟨rfl, by rw [HM.out]; exact HB2.out⟩
namespace Jsp
open Go
def hxV (l : List UInt8) : Int := match hexN l with | some n => (n : Int) | none => -1
def hexZ (s : List UInt8) (a b : Nat) : Int := if s.length < b then -1 else hxV ((s.drop a).take (b - a))
theorem hexV_le (c : UInt8) : hexV c <= 15 := by unfold hexV; (repeat' split) <;> omega
theorem hxV_none {l : List UInt8} (h : l.foldl hexStep (some 0) = none) : hxV l = -1 := by
 unfold hxV
 rw [hexN_eq]
 split
 ·rename_i n hn; split at hn <;> simp_all
 ·rfl
theorem hxV_some {l : List UInt8} {n : Nat} (h0 : l ≠ []) (h : l.foldl hexStep (some 0) = some n) : hxV l = (n : Int) := by
 unfold hxV
 rw [hexN_eq, if_neg h0, h]
theorem take_cons {s : List UInt8} {i b : Nat} (hi : i < s.length) (hb : i < b) : (s.drop i).take (b - i) = s[i] :: (s.drop (i + 1)).take (b - (i + 1)) := by
 rw [List.drop_eq_getElem_cons hi, show b - i = (b - (i + 1)) + 1 by omega, List.take_succ_cons]
theorem step_some {n : Nat} {c : UInt8} (h : ¬ hexV c < 0) : hexStep (some n) c = some (n * 16 + (hexV c).toNat) := by
 unfold hexStep
 simp only
 rw [if_neg h]
theorem step_none {n : Nat} {c : UInt8} (h : hexV c < 0) : hexStep (some n) c = none := by
 unfold hexStep
 simp only
 rw [if_pos h]
def lim16 : Nat -> Nat
 | 0 => 1
 | k + 1 => lim16 k * 16
theorem lim16_le : ∀ k, k <= 5 -> lim16 k <= 1048576
 | 0, _ => by decide
 | 1, _ => by decide
 | 2, _ => by decide
 | 3, _ => by decide
 | 4, _ => by decide
 | 5, _ => by decide
 | k + 6, h => by omega
theorem lim16_on {n m k j : Nat} (h : n < lim16 k) (hm : m <= 15) (hj : j = k + 1) : n * 16 + m < lim16 j := by
 subst hj
 rw [lim16]
 omega
end Jsp
theorem wrap_hex {n m : Nat} {v : Int} (hn : n < 1048576) (hm : m <= 15) (hv : v = (m : Int)) : wrap64 (wrap64 ((n : Int) * 16) + v) = ((n * 16 + m : Nat) : Int) := by subst hv; unfold wrap64; omega
theorem w32_byte (c : UInt8) : wrap32 (c.toNat : Int) = (c.toNat : Int) := by have := u8_lt c; unfold wrap32; omega
theorem rHexN (s : List UInt8) (a b : Nat) (w : World) (hab : a <= b) (h6 : b <= a + 6) (hl : s.length <= 1048576) :
  Calls Tryz.prog 166 #[S s, .int .i64 (a : Int), .int .i64 (b : Int)] w (Ret (.int .i64 (Jsp.hexZ s a b)) w) := by
 by_cases h1 : s.length < b
 ·have q1 : (s.length : Int) < (b : Int) := by omega
  rw [Jsp.hexZ, if_pos h1]
  clear h6 hab
  go_enter Tryz.func166, Tryz.ntmps166
  go_wp2_with fail
  go_ret
  exact ⟨rfl, rfl⟩
 rw [Jsp.hexZ, if_neg h1]
 have q1 : ¬ (s.length : Int) < (b : Int) := by omega
 have q1d : decide ((s.length : Int) < (b : Int)) = false := decide_eq_false q1
 by_cases h2 : a = b
 ·subst h2
  rw [Nat.sub_self, List.take_zero]
  clear h6 hab h1
  go_enter Tryz.func166, Tryz.ntmps166
  go_wp2_with fail
  go_ret
  exact ⟨rfl, rfl⟩
 have q2 : ((a : Int) == (b : Int)) = false := by rw [beq_eq_false_iff_ne]; omega
 obtain ⟨L, hL⟩ : ∃ L, (s.drop a).take (b - a) = L := ⟨_, rfl⟩
 obtain ⟨R, hR⟩ : ∃ R, L.foldl Jsp.hexStep (some 0) = R := ⟨_, rfl⟩
 have hL0 : L ≠ [] := fun e => by have := congrArg List.length hL; rw [e, List.length_take, List.length_drop, List.length_nil] at this; omega
 have HRV := hide (show (∀ n : Nat, R = some n -> Jsp.hxV L = (n : Int)) /\ (R = none -> Jsp.hxV L = -1) from ⟨fun n h => Jsp.hxV_some hL0 (by rw [hR, h]), fun h => Jsp.hxV_none (by rw [hR, h])⟩)
 rw [hL]
 obtain ⟨V, hV⟩ : ∃ V, Jsp.hxV L = V := ⟨_, rfl⟩
 rw [hV] at HRV ⊢
 have HS := hide (show ((s.drop a).take (b - a)).foldl Jsp.hexStep (some 0) = R by rw [hL, hR])
 clear hL hR hL0 hV h2
 go_enter Tryz.func166, Tryz.ntmps166
 go_wp2_with fail
 go_loopg [7, 8, 9] (b - a) (fun g s7 s8 s9 wx => ∃ (i n : Nat), i + g = b /\ a <= i /\ s8 = .int .i64 (i : Int) /\ s7 = .int .i64 (n : Int) /\ Hid (n < Jsp.lim16 (i - a)) /\ Hid (((s.drop i).take (b - i)).foldl Jsp.hexStep (some n) = R) /\ w = wx)
 case atStart => exact ⟨a, 0, by omega, Nat.le_refl _, rfl, rfl, by unfold Hid; rw [Nat.sub_self]; exact Nat.one_pos, HS, rfl⟩
 case round =>
  obtain ⟨i, n, hi, hai, rfl, rfl, hn, hst, rfl⟩ := hrel
  have z2 : a <= i + 1 := Nat.le_succ_of_le hai
  by_cases hlt : i < b
  ·have e1 : (i : Int) < (b : Int) := by omega
   have hil : i < s.length := by omega
   have e2 : (0 : Int) <= (i : Int) := by omega
   have e3 : (i : Int) < (s.length : Int) := by omega
   obtain ⟨c, hc⟩ : ∃ c, s[i] = c := ⟨_, rfl⟩
   have hs2 := hst.out
   rw [Jsp.take_cons hil hlt, hc, List.foldl_cons] at hs2
   have hpow := Jsp.lim16_le (i - a) (by omega)
   have hnn : n < 1048576 := Nat.lt_of_lt_of_le hn.out hpow
   obtain ⟨v, hv⟩ : ∃ v, Jsp.hexV c = v := ⟨_, rfl⟩
   have hvl := Jsp.hexV_le c
   rw [hv] at hvl
   have HX := fun W => rHex c.toNat W (by have := u8_lt c; omega)
   rw [hexR_u8, hv] at HX
   have HX := hide HX
   have hw32 := w32_byte c
   by_cases h0 : v < 0
   ·have hR : V = -1 := by
     rw [Jsp.step_none (by rw [hv]; exact h0), Jsp.hexStep_none] at hs2
     exact HRV.out.2 hs2.symm
    subst hR
    clear hs2 hv hst hn hpow hnn hvl HRV HS
    go_wp2_with fail
    refine (HX.out _).mono ?_
    rintro e w2 ⟨rfl, rfl⟩
    go_wp2_with fail
    go_ret
    exact ⟨rfl, rfl⟩
   ·obtain ⟨m, hm⟩ := Int.eq_ofNat_of_zero_le (show 0 <= v by omega)
    rw [Jsp.step_some (by rw [hv]; exact h0), hv, hm, Int.toNat_natCast] at hs2
    have hb2 := hide (Jsp.lim16_on (j := i + 1 - a) hn.out (show m <= 15 by omega) (by omega))
    have HS2 := hide hs2
    have E1 := hide (wrap_hex hnn (show m <= 15 by omega) hm)
    have hw3 : wrap64 ((i : Int) + 1) = (i : Int) + 1 := by unfold wrap64; omega
    have q3 : decide (v < 0) = false := decide_eq_false h0
    clear hm h0
    clear hs2 hv hst hn hpow hvl HRV HS hnn
    go_wp2_with fail
    refine (HX.out _).mono ?_
    rintro e w2 ⟨rfl, rfl⟩
    go_wp2_with fail
    go_roundg (gk - 1)
    case measure => omega
    case rel => exact ⟨i + 1, n * 16 + m, by omega, z2, by go_num, (by rw [E1.out]), hb2, HS2, rfl⟩
  ·have e1 : ¬ (i : Int) < (b : Int) := by omega
   obtain rfl : i = b := by omega
   have hR : V = (n : Int) := by
    have := hst.out
    rw [Nat.sub_self, List.take_zero] at this
    exact HRV.out.1 n this.symm
   subst hR
   clear hst hn HRV HS
   go_wp2_with fail
   go_ret
   exact ⟨rfl, rfl⟩
namespace Jsp
open Go
def unitR (s : List UInt8) (i : Nat) : Int × Nat :=
 if s.length < i + 3 \/ ((s.drop i).take 2 == [92, 117]) = false then (-1, i)
 else if s[i + 2]? = some 123 then
  let k := i + 3 + runH (s.drop (i + 3))
  if s[k]? = some 125 /\ k <= i + 9 then (if 1114111 < hexZ s (i + 3) k then (-1, i) else (hexZ s (i + 3) k, k + 1)) else (-1, i)
 else (hexZ s (i + 2) (i + 6), i + 6)
theorem runH_le : ∀ s : List UInt8, runH s <= s.length
 | [] => Nat.le_refl _
 | c :: r => by
  rw [runH]
  split
  ·exact Nat.zero_le _
  ·have := runH_le r
   simp only [List.length_cons]; omega
theorem runH_at (s : List UInt8) (j : Nat) (hj : j < s.length) : runH (s.drop j) = if hexV s[j] < 0 then 0 else runH (s.drop (j + 1)) + 1 := by
 rw [List.drop_eq_getElem_cons hj, runH]
end Jsp
theorem rUnit (s : List UInt8) (i : Nat) (w : World) (hi : i <= s.length) (hl : s.length <= 1048576) :
  Calls Tryz.prog 165 #[S s, .int .i64 (i : Int)] w (Ret (.tuple #[.int .i64 (Jsp.unitR s i).1, .int .i64 ((Jsp.unitR s i).2 : Int)]) w) := by
 have hw3 : wrap64 ((i : Int) + 3) = (i : Int) + 3 := by unfold wrap64; omega
 have hw2 : wrap64 ((i : Int) + 2) = (i : Int) + 2 := by unfold wrap64; omega
 by_cases h1 : s.length < i + 3
 ·have q1 : (s.length : Int) < (i : Int) + 3 := by omega
  rw [Jsp.unitR, if_pos (.inl h1)]
  clear hl
  go_enter Tryz.func165, Tryz.ntmps165
  go_wp2_with fail
  go_ret2
  exact ⟨rfl, rfl⟩
 have q1 : ¬ (s.length : Int) < (i : Int) + 3 := by omega
 have q1d : decide ((s.length : Int) < (i : Int) + 3) = false := decide_eq_false q1
 have b0 : (0 : Int) <= (i : Int) := by omega
 have b1 : (i : Int) <= (i : Int) + 2 := by omega
 have b2 : (i : Int) + 2 <= (s.length : Int) := by omega
 have b3 : ((i : Int) + 2).toNat - i = 2 := by omega
 cases h2 : (s.drop i).take 2 == [92, 117]
 ·rw [Jsp.unitR, if_pos (.inr h2)]
  clear hl
  go_enter Tryz.func165, Tryz.ntmps165
  go_wp2_with fail
  go_ret2
  exact ⟨rfl, rfl⟩
 have hT : (s.drop i).take 2 = [92, 117] := by simpa using h2
 by_cases h3 : s[i + 2]? = some 123
 ·obtain ⟨hlt2, hc⟩ := List.getElem?_eq_some_iff.1 h3
  have hT3 := h3
  have q3 : ((123 : UInt8) == 123) = true := rfl
  have b4 : (0 : Int) <= (i : Int) + 2 := by omega
  have b5 : (i : Int) + 2 < (s.length : Int) := by omega
  have b6 : ((i : Int) + 2).toNat = i + 2 := by omega
  obtain ⟨U, hU⟩ : ∃ U, Jsp.unitR s i = U := ⟨_, rfl⟩
  rw [hU]
  rw [Jsp.unitR, if_neg (by rw [h2]; simp; omega), if_pos h3] at hU
  obtain ⟨K, hK⟩ : ∃ K, i + 3 + Jsp.runH (s.drop (i + 3)) = K := ⟨_, rfl⟩
  have hKl : i + 3 <= K /\ K <= s.length := by
   have := Jsp.runH_le (s.drop (i + 3))
   rw [List.length_drop] at this
   omega
  simp only [hK] at hU
  have HU := hide hU
  have HK := hide hK
  have hw9 : wrap64 ((i : Int) + 9) = (i : Int) + 9 := by unfold wrap64; omega
  have hwk : wrap64 ((K : Int) + 1) = (K : Int) + 1 := by unfold wrap64; omega
  clear hU hK hT h3 hT3
  go_enter Tryz.func165, Tryz.ntmps165
  go_upto_block 0 with fail
  go_cut [6] from 37 (fun s6 wx => s6 = .int .i64 (K : Int) /\ w = wx)
  case first =>
   go_wp2_with fail
   go_loopg [6] (s.length - (i + 3)) (fun g s6 wx => ∃ k : Nat, k + g = s.length /\ i + 3 <= k /\ s6 = .int .i64 (k : Int) /\ Hid (k + Jsp.runH (s.drop k) = K) /\ w = wx)
   case atStart => exact ⟨i + 3, by omega, Nat.le_refl _, by go_num, HK, rfl⟩
   case round =>
    obtain ⟨k, hk, hik, rfl, hst, rfl⟩ := hrel
    have z2 : i + 3 <= k + 1 := Nat.le_succ_of_le hik
    have z3 : k < s.length -> gk - 1 < gk := fun h => by omega
    have z1 : k < s.length -> k + 1 + (gk - 1) = s.length := fun h => by omega
    by_cases hlt : k < s.length
    ·have e1 : (k : Int) < (s.length : Int) := by omega
     have e2 : (0 : Int) <= (k : Int) := by omega
     obtain ⟨c, hc2⟩ : ∃ c, s[k] = c := ⟨_, rfl⟩
     have hs2 := Jsp.runH_at s k hlt
     rw [hc2] at hs2
     obtain ⟨v, hv⟩ : ∃ v, Jsp.hexV c = v := ⟨_, rfl⟩
     have HX := fun W => rHex c.toNat W (by have := u8_lt c; omega)
     rw [hexR_u8, hv] at HX
     have HX := hide HX
     rw [hv] at hs2
     have hw32 := w32_byte c
     by_cases h0 : v < 0
     ·have q0 : decide (0 <= v) = false := decide_eq_false (by omega)
      have hR : k = K := by have := hst.out; rw [hs2, if_pos h0] at this; omega
      subst hR
      clear hs2 hv hst h0
      go_wp2_with fail
      refine (HX.out _).mono ?_
      rintro e w2 ⟨rfl, rfl⟩
      go_wp2_with fail
      go_meet
      case rel => exact ⟨rfl, rfl⟩
     ·have q0 : decide (0 <= v) = true := decide_eq_true (by omega)
      have hR : Hid (k + 1 + Jsp.runH (s.drop (k + 1)) = K) := by unfold Hid; have := hst.out; rw [hs2, if_neg h0] at this; omega
      have hw3 : wrap64 ((k : Int) + 1) = (k : Int) + 1 := by unfold wrap64; omega
      clear hs2 hv hst h0 hl
      go_wp2_with fail
      refine (HX.out _).mono ?_
      rintro e w2 ⟨rfl, rfl⟩
      go_wp2_with fail
      go_roundg (gk - 1)
      case measure => exact z3 hlt
      case rel => exact ⟨k + 1, z1 hlt, z2, (by rw [hw3]; rfl), hR, rfl⟩
    ·have e1 : ¬ (k : Int) < (s.length : Int) := by omega
     have e1d : decide ((k : Int) < (s.length : Int)) = false := decide_eq_false e1
     have hR : k = K := by have := hst.out; rw [List.drop_eq_nil_of_le (by omega)] at this; exact this
     subst hR
     clear hst
     go_wp2_with fail
     go_meet
     case rel => exact ⟨rfl, rfl⟩
  case rest =>
   obtain ⟨rfl, rfl⟩ := hcut
   obtain ⟨k1, k2⟩ := hKl
   by_cases e : K = s.length
   ·have q4 : ((K : Int) == (s.length : Int)) = true := by rw [beq_iff_eq]; omega
    have hu := HU.out
    rw [if_neg (by rw [List.getElem?_eq_none (by omega)]; rintro ⟨h, _⟩; cases h)] at hu
    subst hu
    clear HU HK k1 k2 e
    go_wp2_with fail
    go_ret2
    exact ⟨rfl, rfl⟩
   have q4 : ((K : Int) == (s.length : Int)) = false := by rw [beq_eq_false_iff_ne]; omega
   have hKlt : K < s.length := by omega
   have e2 : (0 : Int) <= (K : Int) := by omega
   have e3 : (K : Int) < (s.length : Int) := by omega
   obtain ⟨d, hd⟩ : ∃ d, s[K] = d := ⟨_, rfl⟩
   have hd? : s[K]? = some d := by rw [List.getElem?_eq_getElem hKlt, hd]
   by_cases hd125 : d = 125
   rotate_left
   ·have q5 : ((d.toNat : Int) == 125) = false := ji_f (fun e => hd125 (UInt8.toNat_inj.1 e))
    have q5n : ¬ ((d.toNat : Int) = 125) := fun e => hd125 (UInt8.toNat_inj.1 (by have h := e; have h2 : (125 : UInt8).toNat = 125 := rfl; omega))
    have hu := HU.out
    rw [if_neg (by rw [hd?]; rintro ⟨h, _⟩; injection h with h; exact hd125 h)] at hu
    subst hu
    clear HU HK k1 k2 e hd? hd125
    go_wp2_with fail
    go_ret2
    exact ⟨rfl, rfl⟩
   have q5n : ((d.toNat : Int) = 125) := by rw [hd125]; rfl
   by_cases h9 : K <= i + 9
   ·have q6 : decide ((i : Int) + 9 < (K : Int)) = false := decide_eq_false (by omega)
    have hu := HU.out
    rw [if_pos ⟨by rw [hd?, hd125], h9⟩] at hu
    obtain ⟨V, hV⟩ : ∃ V, Jsp.hexZ s (i + 3) K = V := ⟨_, rfl⟩
    have HX := fun W => rHexN s (i + 3) K W (by omega) (by omega) hl
    rw [hV] at HX
    rw [hV] at hu
    have HX := hide HX
    by_cases hbig : (1114111 : Int) < V
    ·have q7 : decide ((1114111 : Int) < V) = true := decide_eq_true hbig
     rw [if_pos hbig] at hu
     subst hu
     clear HU HK k1 k2 e hd? hV h9 hbig hl hd125
     go_wp2_with fail
     refine (HX.out _).mono ?_
     rintro e w2 ⟨rfl, rfl⟩
     go_wp2_with fail
     go_ret2
     exact ⟨rfl, rfl⟩
    ·have q7 : decide ((1114111 : Int) < V) = false := decide_eq_false hbig
     rw [if_neg hbig] at hu
     subst hu
     have hz1 : ((K + 1 : Nat) : Int) = (K : Int) + 1 := by omega
     clear HU HK k1 k2 e hd? hV h9 hbig hl hd125
     have hz1 := hide hz1
     go_wp2_with fail
     refine (HX.out _).mono ?_
     rintro e w2 ⟨rfl, rfl⟩
     go_wp2_with fail
     go_ret2
     exact ⟨by show Ending.returned (Value.tuple #[.int .i64 V, .int .i64 (wrap64 ((K : Int) + 1))]) = Ending.returned (Value.tuple #[.int .i64 V, .int .i64 ((K + 1 : Nat) : Int)]); rw [hz1.out, hwk], rfl⟩
   ·have q6 : decide ((i : Int) + 9 < (K : Int)) = true := decide_eq_true (by omega)
    have hu := HU.out
    rw [if_neg (fun h => h9 h.2)] at hu
    subst hu
    clear HU HK k1 k2 e hd? h9 hd125
    go_wp2_with fail
    go_ret2
    exact ⟨rfl, rfl⟩
 ·obtain ⟨c, hc⟩ : ∃ c, s[i + 2] = c := ⟨_, rfl⟩
  have hcn : c ≠ 123 := fun e => h3 (by rw [List.getElem?_eq_getElem (by omega), hc, e])
  have q3n : ¬ ((c.toNat : Int) = 123) := fun e => hcn (UInt8.toNat_inj.1 (by have h := e; have h2 : (123 : UInt8).toNat = 123 := rfl; omega))
  rw [Jsp.unitR, if_neg (by rw [h2]; simp; omega), if_neg h3]
  have b4 : (0 : Int) <= (i : Int) + 2 := by omega
  have b5 : (i : Int) + 2 < (s.length : Int) := by omega
  have b6 : ((i : Int) + 2).toNat = i + 2 := by omega
  have hw6 : wrap64 ((i : Int) + 6) = (i : Int) + 6 := by unfold wrap64; omega
  have hz6 : ((i + 6 : Nat) : Int) = (i : Int) + 6 := by omega
  obtain ⟨V, hV⟩ : ∃ V, Jsp.hexZ s (i + 2) (i + 6) = V := ⟨_, rfl⟩
  have HX := fun W => rHexN s (i + 2) (i + 6) W (by omega) (by omega) hl
  rw [hV] at HX ⊢
  rw [hz6] at HX
  have HX := hide HX
  have hz6 := hide hz6
  clear hl hV hT h3 hcn
  go_enter Tryz.func165, Tryz.ntmps165
  go_wp2_with fail
  refine (HX.out _).mono ?_
  rintro e w2 ⟨rfl, rfl⟩
  go_wp2_with fail
  go_ret2
  exact ⟨by show Ending.returned (Value.tuple #[.int .i64 V, .int .i64 (wrap64 ((i : Int) + 6))]) = Ending.returned (Value.tuple #[.int .i64 V, .int .i64 ((i + 6 : Nat) : Int)]); rw [hz6.out, hw6], rfl⟩
namespace Jsp
open Go
def unitZ (s : List UInt8) (i : Nat) : Option (Nat × Nat) := if [92, 117].isPrefixOf (s.drop i) = true then unit (s.drop (i + 1)) else none
theorem unitR_eq (s : List UInt8) (i : Nat) : match unitZ s i with
  | some (v, k) => unitR s i = ((v : Int), i + 1 + k)
  | none => (unitR s i).1 = -1 := by
 by_cases hp : [92, 117].isPrefixOf (s.drop i) = true
 ·obtain ⟨D, hD⟩ := List.isPrefixOf_iff_prefix.1 hp
  have hD : s.drop i = 92 :: 117 :: D := hD.symm
  have h1 : s.drop (i + 1) = 117 :: D := by rw [<- List.drop_drop, hD]; rfl
  have h2 : s.drop (i + 2) = D := by rw [<- List.drop_drop, hD]; rfl
  have hlen : s.length = i + 2 + D.length := by have := congrArg List.length hD; rw [List.length_drop] at this; simp at this; omega
  have ht : ((s.drop i).take 2 == [92, 117]) = true := by rw [hD]; rfl
  unfold unitZ
  rw [if_pos hp, h1]
  cases D with
  | nil =>
   have e : unit [117] = none := by decide
   rw [e]
   simp only
   rw [unitR, if_pos (.inl (by simp at hlen; omega))]
  | cons c E =>
   have hn : ¬ (s.length < i + 3 \/ ((s.drop i).take 2 == [92, 117]) = false) := by rw [ht]; simp at hlen ⊢; omega
   have hg : s[i + 2]? = some c := by rw [<- List.head?_drop, h2]; rfl
   by_cases hc : c = 123
   ·subst hc
    have h3 : s.drop (i + 3) = E := by rw [show i + 3 = i + 2 + 1 from rfl, <- List.drop_drop, h2]; rfl
    have hrl := runH_le E
    have hd : (E.take (runH E)).length = runH E := by rw [List.length_take]; omega
    have hlE : s.length = i + 3 + E.length := by simp at hlen; omega
    rw [unitR, if_neg hn, if_pos hg]
    simp only [h3]
    have hz : hexZ s (i + 3) (i + 3 + runH E) = hxV (E.take (runH E)) := by
     rw [hexZ, if_neg (by omega), h3, show i + 3 + runH E - (i + 3) = runH E by omega]
    have hb : isB (fun x => x == 125) ((117 :: 123 :: E).drop (2 + (E.take (runH E)).length)) = true ↔ s[i + 3 + runH E]? = some 125 := by
     rw [hd, show (117 :: 123 :: E).drop (2 + runH E) = s.drop (i + 3 + runH E) by rw [<- List.drop_drop, <- h1]; rw [List.drop_drop, List.drop_drop]; congr 1; omega]
     rw [isB_getElem]
     cases s[i + 3 + runH E]? with
     | none => simp
     | some x => simp
    rw [hz, unit, if_pos (by rfl)]
    simp only [show (117 :: 123 :: E).drop 2 = E from rfl]
    by_cases hk : s[i + 3 + runH E]? = some 125 /\ i + 3 + runH E <= i + 9
    ·rw [if_pos hk, if_pos ⟨hb.2 hk.1, by rw [hd]; omega⟩, hd]
     unfold hxV
     cases hN : hexN (E.take (runH E)) with
     | none => simp
     | some n =>
      simp only
      by_cases hbig : 1114111 < n
      ·rw [if_pos hbig, if_pos (by omega)]
      ·rw [if_neg hbig, if_neg (by omega)]
       simp only
       congr 1
       omega
    ·rw [if_neg hk, if_neg (fun h => hk ⟨hb.1 h.1, by have := h.2; rw [hd] at this; omega⟩)]
   ·rw [unitR, if_neg hn, if_neg (fun h => hc (by rw [hg] at h; injection h)), unit_plain (c :: E) (fun D h => hc (by injection h))]
    unfold hexOf hexZ
    rw [h2, show i + 6 - (i + 2) = 4 by omega]
    by_cases h4 : (c :: E).length < 4
    ·rw [if_pos h4, if_pos (by omega)]
    ·rw [if_neg h4, if_neg (by omega)]
     unfold hxV
     cases hexN ((c :: E).take 4) with
     | none => rfl
     | some n => rfl
 ·unfold unitZ
  rw [if_neg hp]
  simp only
  have hx : ((s.drop i).take 2 == [92, 117]) = false := by
   rw [beq_eq_false_iff_ne]
   intro h
   apply hp
   rw [List.isPrefixOf_iff_prefix]
   exact h ▸ List.take_prefix _ _
  rw [unitR, if_pos (.inr hx)]
open Go
theorem pt_byte {s : List UInt8} (h0 : s ≠ []) (h : pt s < 128) : ∃ c r, s = c :: r /\ c.toNat = pt s /\ pn s = 1 := by
 have hp : pt s = Cssp.cpt s := by rw [pt, if_neg h0]
 have hn : pn s = (Cssp.piece s).1 := by rw [pn, if_neg h0]
 obtain ⟨k1, k2, k3⟩ := Cssp.cpt_ok s h0
 have hle := Cssp.piece_le s h0
 rw [hp] at h
 rw [Cssp.encp1 (Cssp.cpt s) h] at k1
 unfold Cssp.code at k1
 split at k1
 ·cases s with
  | nil => exact absurd rfl h0
  | cons c r =>
   refine ⟨c, r, rfl, ?_, ?_⟩
   ·rw [hp]
    cases hq : (Cssp.piece (c :: r)).1 with
    | zero => rw [hq] at hle; omega
    | succ m =>
     rw [hq, List.take_succ_cons] at k1
     injection k1 with k1 _
     have k4 := congrArg UInt8.toNat k1
     rw [UInt8.toNat_ofNat_of_lt' (by simpa using Nat.lt_trans h (by decide))] at k4
     exact k4.symm
   ·rw [hn]
    have hlen := congrArg List.length k1
    rw [List.length_take, List.length_singleton] at hlen
    omega
 ·exact absurd (congrArg List.length k1) (by unfold Cssp.fffd; simp)
def letterR (r : Nat) : Option UInt8 :=
 if r = 98 then some 8 else if r = 116 then some 9 else if r = 110 then some 10 else if r = 118 then some 11 else if r = 102 then some 12 else if r = 114 then some 13 else none
theorem letterOf_nat (c : UInt8) : letterOf c = letterR c.toNat := by
 have e : ∀ d : UInt8, c = d ↔ c.toNat = d.toNat := fun d => UInt8.toNat_inj.symm
 unfold letterOf letterR
 simp only [e]
 rfl
theorem letterR_big {r : Nat} (h : 128 <= r) : letterR r = none := by
 unfold letterR
 rw [if_neg (by omega), if_neg (by omega), if_neg (by omega), if_neg (by omega), if_neg (by omega), if_neg (by omega)]
theorem letterOf_pt (s : List UInt8) : letterOf (Cssp.at_ s 0) = letterR (pt s) := by
 by_cases h0 : s = []
 ·subst h0; decide
 by_cases h : pt s < 128
 ·obtain ⟨c, r, rfl, hc, _⟩ := pt_byte h0 h
  rw [<- hc]
  exact letterOf_nat c
 ·rw [letterR_big (by omega)]
  cases s with
  | nil => exact absurd rfl h0
  | cons c r =>
   show letterOf c = none
   rw [letterOf_nat]
   apply letterR_big
   apply Classical.byContradiction
   intro hc
   rw [pt_ascii (by omega)] at h
   omega
theorem digit_pt (s : List UInt8) : digit (pt s) = isB (fun c => digit c.toNat) s := by
 cases s with
 | nil => decide
 | cons c r =>
  show _ = digit c.toNat
  by_cases h : c.toNat < 128
  ·rw [pt_ascii h]
  ·have h1 : digit c.toNat = false := by unfold digit; simp; omega
   rw [h1]
   cases hd : digit (pt (c :: r)) with
   | false => rfl
   | true =>
    have h2 := (digit_iff _).1 hd
    obtain ⟨d, t, e, hc, _⟩ := pt_byte (s := c :: r) (by simp) (by omega)
    injection e with e1 e2
    subst e1
    omega
theorem crlf_pt (s : List UInt8) : [13, 10].isPrefixOf s = true ↔ pt s = 13 /\ pt (s.drop 1) = 10 := by
 constructor
 ·intro h
  obtain ⟨t, rfl⟩ := List.isPrefixOf_iff_prefix.1 h
  exact ⟨pt_ascii (c := 13) (by decide) _, pt_ascii (c := 10) (by decide) _⟩
 ·rintro ⟨h1, h2⟩
  have n1 : s ≠ [] := fun e => by subst e; cases h1
  obtain ⟨c, r, rfl, hc, _⟩ := pt_byte n1 (by omega)
  have n2 : r ≠ [] := fun e => by subst e; cases h2
  obtain ⟨d, t, rfl, hd, _⟩ := pt_byte n2 (by have : pt r = 10 := h2; omega)
  have e1 : c = 13 := UInt8.toNat_inj.1 (by rw [hc, h1]; rfl)
  have e2 : d = 10 := UInt8.toNat_inj.1 (by have : pt (d :: t) = 10 := h2; rw [hd, this]; rfl)
  subst e1; subst e2
  rfl
theorem lf_digit_false (s : List UInt8) : (isB (fun c => digit c.toNat) s = false) ↔ digit (pt s) = false := by rw [digit_pt]
theorem esc_eq (s : List UInt8) : escape s = match letterR (pt s) with
  | some c => some ([c], 1)
  | none =>
   if pt s = 120 then (match hexOf (s.drop 1) 2 with
    | some v => some (chr v, 3)
    | none => none)
   else if pt s = 117 then unicode s
   else if pt s = 48 /\ digit (pt (s.drop 1)) = false then some ([0], 1)
   else if digit (pt s) = true then none
   else if pt s = 13 /\ pt (s.drop 1) = 10 then some ([], 2)
   else if lineEnd (pt s) = true then some ([], pn s)
   else some (s.take (pn s), pn s) := by
 unfold escape
 rw [letterOf_pt]
 simp only [lf_digit_false, crlf_pt]
 rfl
theorem hexZ_of (s : List UInt8) (i n : Nat) : hexZ s i (i + n) = match hexOf (s.drop i) n with | some v => (v : Int) | none => -1 := by
 unfold hexZ hexOf
 rw [show i + n - i = n by omega, List.length_drop]
 by_cases h : s.length < i + n
 ·rw [if_pos h]
  by_cases h2 : s.length - i < n
  ·rw [if_pos h2]
  ·have : n = 0 := by omega
   subst this
   rw [if_neg h2]
   rfl
 ·rw [if_neg h, if_neg (by omega)]
  rfl
theorem uni_none {s : List UInt8} {i : Nat} (hz : unitZ s i = none) (hp : [92, 117].isPrefixOf (s.drop i) = true) : unicode (s.drop (i + 1)) = none := by
 unfold unitZ at hz
 rw [if_pos hp] at hz
 unfold unicode
 rw [hz]
theorem uni_some {s : List UInt8} {i v n : Nat} (hz : unitZ s i = some (v, n)) : unicode (s.drop (i + 1)) = if 55296 <= v /\ v < 56320 then (match unitZ s (i + 1 + n) with
   | some (w, k) => if 56320 <= w /\ w < 57344 then some (chr (65536 + (v - 55296) * 1024 + w - 56320), n + 1 + k) else some (chr v, n)
   | none => some (chr v, n)) else some (chr v, n) := by
 have hu : unit (s.drop (i + 1)) = some (v, n) := by
  unfold unitZ at hz
  split at hz
  ·exact hz
  ·cases hz
 unfold unicode
 rw [hu]
 simp only
 rw [List.drop_drop, List.drop_drop]
 unfold unitZ
 by_cases h1 : 55296 <= v /\ v < 56320
 ·by_cases hp : [92, 117].isPrefixOf (s.drop (i + 1 + n)) = true
  ·rw [if_pos ⟨h1.1, h1.2, hp⟩, if_pos h1, if_pos hp]
   rfl
  ·rw [if_neg (fun h => hp h.2.2), if_pos h1, if_neg hp]
 ·rw [if_neg (fun h => h1 ⟨h.1, h.2.1⟩), if_neg h1]
theorem pn_len (s : List UInt8) : pn s <= s.length := by
 by_cases h : s = []
 ·subst h; exact Nat.le_refl _
 ·exact (pn_le h).2
theorem hexStep_lt : ∀ (l : List UInt8) (n v : Nat), l.foldl hexStep (some n) = some v -> v + 1 <= (n + 1) * lim16 l.length
 | [], n, v, h => by injection h with h; subst h; simp [lim16]
 | c :: r, n, v, h => by
  rw [List.foldl_cons] at h
  by_cases hc : hexV c < 0
  ·rw [step_none hc, hexStep_none] at h; cases h
  ·rw [step_some hc] at h
   have ih := hexStep_lt r _ v h
   have := hexV_le c
   rw [List.length_cons, lim16]
   have h2 : (n * 16 + (hexV c).toNat + 1) * lim16 r.length <= ((n + 1) * 16) * lim16 r.length := Nat.mul_le_mul_right _ (by omega)
   rw [show (n + 1) * (lim16 r.length * 16) = ((n + 1) * 16) * lim16 r.length by rw [Nat.mul_comm (lim16 _) 16, Nat.mul_assoc]]
   omega
theorem hexOf2 {s : List UInt8} {v : Nat} (h : hexOf s 2 = some v) : v < 256 := by
 unfold hexOf at h
 split at h
 ·cases h
 ·rw [hexN_eq] at h
  split at h
  ·cases h
  ·have := hexStep_lt _ _ _ h
   rw [show (s.take 2).length = 2 by rw [List.length_take]; omega] at this
   simp [lim16] at this
   omega
theorem hexOf_lt {s : List UInt8} {n v : Nat} (h : hexOf s n = some v) : v < lim16 n /\ n <= s.length := by
 unfold hexOf at h
 split at h
 ·cases h
 ·rw [hexN_eq] at h
  split at h
  ·cases h
  ·have := hexStep_lt _ _ _ h
   rw [show (s.take n).length = n by rw [List.length_take]; omega] at this
   omega
theorem unit_le {s : List UInt8} {v k : Nat} (h : unit s = some (v, k)) : v <= 1114111 /\ k <= s.length := by
 unfold unit at h
 split at h
 ·simp only at h
  split at h
  ·rename_i hk
   split at h
   ·cases h
   ·split at h
    ·cases h
    ·injection h with h
     injection h with h1 h2
     refine ⟨by omega, ?_⟩
     apply Classical.byContradiction
     intro hn
     have h3 := hk.1
     rw [List.drop_eq_nil_of_le (by omega)] at h3
     cases h3
  ·cases h
 ·split at h
  ·cases h
  ·rename_i n hn
   obtain ⟨h3, h4⟩ := hexOf_lt hn
   injection h with h
   injection h with h1 h2
   rw [List.length_drop] at h4
   simp only [lim16] at h3
   omega
theorem unitZ_le {s : List UInt8} {i v k : Nat} (h : unitZ s i = some (v, k)) : v <= 1114111 /\ i + 1 + k <= s.length := by
 unfold unitZ at h
 split at h
 ·rename_i hp
  obtain ⟨D, hD⟩ := List.isPrefixOf_iff_prefix.1 hp
  have hl := congrArg List.length hD
  simp only [List.length_append, List.length_cons, List.length_nil, List.length_drop] at hl
  obtain ⟨h1, h2⟩ := unit_le h
  rw [List.length_drop] at h2
  omega
 ·cases h
theorem chr_bad {v : Nat} (h : 55296 <= v /\ v <= 57343) : chr v = [239, 191, 189] := by
 unfold chr Lib.encodeRune
 rw [Lib.encodeRuneZ_bad (.inr (.inl (by omega)))]
 rfl
theorem pre_u {s : List UInt8} {i : Nat} (h : s[i]? = some 92) (h2 : pt (s.drop (i + 1)) = 117) : [92, 117].isPrefixOf (s.drop i) = true := by
 obtain ⟨hlt, hg⟩ := List.getElem?_eq_some_iff.1 h
 have h0 : s.drop (i + 1) ≠ [] := fun e => by rw [e] at h2; cases h2
 obtain ⟨c, r, e, hc, _⟩ := pt_byte h0 (by omega)
 have hc7 : c = 117 := UInt8.toNat_inj.1 (by rw [hc, h2]; rfl)
 rw [List.drop_eq_getElem_cons hlt, hg, e, hc7]
 rfl
end Jsp
theorem wr1 {i : Nat} (h : i <= 1048580) : wrap64 ((i : Int) + 1) = (i : Int) + 1 := by unfold wrap64; omega
theorem wr2 {i : Nat} (h : i <= 1048580) : wrap64 ((i : Int) + 2) = (i : Int) + 2 := by unfold wrap64; omega
theorem wr11 {i : Nat} (h : i <= 1048580) : wrap64 ((i : Int) + 1 + 1) = (i : Int) + 1 + 1 := by unfold wrap64; omega
theorem Jsp.w32_small {v : Nat} (h : v <= 1114111) : wrap32 (v : Int) = (v : Int) := by unfold wrap32; omega
theorem Jsp.pair_facts {v w : Nat} (h1 : 55296 <= v /\ v < 56320) (h2 : 56320 <= w /\ w < 57344) : ∃ p : Nat, 65536 + (v - 55296) * 1024 + w - 56320 = p /\ (p : Int) <= 1114111 /\ (57343 : Int) < (p : Int) /\ (0 : Int) <= (p : Int) /\
  wrap64 (wrap64 (65536 + wrap64 (wrap64 ((v : Int) - 55296) * 1024)) + (w : Int) - 56320) = (p : Int) /\ wrap64 (wrap64 (wrap64 (65536 + wrap64 (wrap64 ((v : Int) - 55296) * 1024)) + (w : Int)) - 56320) = (p : Int) /\ wrap32 (p : Int) = (p : Int) := by
 refine ⟨_, rfl, ?_, ?_, ?_, ?_, ?_, ?_⟩ <;> (try unfold wrap64) <;> (try unfold wrap32) <;> omega
theorem Jsp.hx_facts {v : Nat} (h : v < 256) : (0 : Int) <= (v : Int) /\ (v : Int) <= 1114111 /\ ((v : Int) < 55296 \/ 57343 < (v : Int)) /\ wrap32 (v : Int) = (v : Int) /\ decide ((0 : Int) <= (v : Int)) = true :=
 ⟨by omega, by omega, by omega, by unfold wrap32; omega, decide_eq_true (by omega)⟩
end Go.Proofs.YtngccmlcopcghaaGreatDoor
