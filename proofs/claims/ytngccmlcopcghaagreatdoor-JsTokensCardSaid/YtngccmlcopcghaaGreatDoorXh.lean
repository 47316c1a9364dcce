/- The reference's hexes, pending; a word among some. -/
import Derived.Test.YtngccmlcopcghaaGreatDoorXf
import Derived.Test.YtngccmlcopcghaaGreatDoorTb
set_option maxRecDepth 100000
set_option maxHeartbeats 8000000
namespace Go.Proofs.YtngccmlcopcghaaGreatDoor
namespace Jsp
open Go
def among (s : List UInt8) : List UInt8 -> List UInt8 -> Bool
 | cur, [] => cur == s && !s.isEmpty
 | cur, c :: r => if c = 32 then (cur == s && !s.isEmpty) || among s [] r else among s (cur ++ [c]) r
def splitW : List UInt8 -> List UInt8 -> List (List UInt8)
 | cur, [] => [cur]
 | cur, c :: r => if c = 32 then cur :: splitW [] r else splitW (cur ++ [c]) r
theorem beq_sym (a b : List UInt8) : (a == b) = (b == a) := by
 rw [Bool.eq_iff_iff, beq_iff_eq, beq_iff_eq]
 exact eq_comm
theorem among_eq (s : List UInt8) : ∀ (r cur : List UInt8), among s cur r = ((splitW cur r).contains s && !s.isEmpty)
 | [], cur => by
  rw [among, splitW, List.contains_cons, List.contains_nil, Bool.or_false, beq_sym]
 | c :: r, cur => by
  rw [among, splitW]
  split
  ·rw [List.contains_cons, among_eq s r [], beq_sym cur s, Bool.and_or_distrib_right]
  ·exact among_eq s r _
theorem among_words {s W : List UInt8} {L : List (List UInt8)} (h : splitW [] W = L) (h0 : L.contains [] = false) : among s [] W = wordsOf L s := by
 rw [among_eq, h, wordsOf]
 cases s with
 | nil => rw [h0]; rfl
 | cons c r => rw [List.isEmpty_cons, Bool.not_false, Bool.and_true]
theorem cut_on (W : List UInt8) {k i : Nat} (hk : k <= i) (hi : i < W.length) : (W.drop k).take (i + 1 - k) = (W.drop k).take (i - k) ++ [W[i]] := by
 rw [show i + 1 - k = (i - k) + 1 by omega, List.take_add_one, List.getElem?_drop, show k + (i - k) = i by omega, List.getElem?_eq_getElem hi]
 rfl
end Jsp
open Go.RowKit
theorem rAmong (s W : List UInt8) (w : World) (hl : W.length <= 4096) : Calls Tryz.prog 53 #[S s, S W] w (Ret (.bool (Jsp.among s [] W)) w) := by
 obtain ⟨R, hR⟩ : ∃ R, Jsp.among s [] W = R := ⟨_, rfl⟩
 rw [hR]
 have HR := hide hR
 clear hR
 go_enter Tryz.func53, Tryz.ntmps53
 go_wp2_with fail
 go_loopg [5, 6] (W.length + 1) (fun g s5 s6 wx => ∃ (k i : Nat), i + g = W.length + 1 /\ k <= i /\ s5 = .int .i64 (k : Int) /\ s6 = .int .i64 (i : Int) /\ Hid (i <= W.length -> Jsp.among s ((W.drop k).take (i - k)) (W.drop i) = R) /\ Hid (i = W.length + 1 -> R = false) /\ w = wx)
 case atStart => exact ⟨0, 0, by omega, Nat.le_refl _, rfl, rfl, fun _ => HR.out, fun h => by omega, rfl⟩
 case round =>
  obtain ⟨k, i, hi, hki, rfl, rfl, hst, hend, rfl⟩ := hrel
  clear HR
  by_cases hle : i <= W.length
  rotate_left
  ·have hR := hend.out (by omega)
   have q0 : decide ((i : Int) <= (W.length : Int)) = false := decide_eq_false (by omega)
   subst hR
   clear hst hend
   go_wp2_with fail
   go_ret
   exact ⟨rfl, rfl⟩
  have q0 : decide ((i : Int) <= (W.length : Int)) = true := decide_eq_true (by omega)
  have hs := hst.out hle
  obtain ⟨C, hC⟩ : ∃ C, (W.drop k).take (i - k) = C := ⟨_, rfl⟩
  have b0 : (0 : Int) <= (k : Int) := by omega
  have b1 : (k : Int) <= (i : Int) := by omega
  have b2 : (i : Int) <= (W.length : Int) := by omega
  have hw1 : wrap64 ((i : Int) + 1) = (i : Int) + 1 := by unfold wrap64; omega
  by_cases hlt : i < W.length
  ·have q1 : ((i : Int) == (W.length : Int)) = false := by rw [beq_eq_false_iff_ne]; omega
   have b3 : (i : Int) < (W.length : Int) := by omega
   have b4 : (0 : Int) <= (i : Int) := by omega
   obtain ⟨c, hc⟩ : ∃ c, W[i] = c := ⟨_, rfl⟩
   rw [List.drop_eq_getElem_cons hlt, hc, hC, Jsp.among] at hs
   have hon := Jsp.cut_on W hki hlt
   rw [hC, hc] at hon
   by_cases h32 : c = 32
   ·have q2 : ((c.toNat : Int) == 32) = true := u8t h32
    rw [if_pos h32] at hs
    by_cases hm : (C == s && !s.isEmpty) = true
    ·obtain ⟨m1, m2⟩ := Bool.and_eq_true_iff.1 hm
     have m3 : (s == []) = false := by cases s with | nil => cases m2 | cons => rfl
     have m4 : ¬ s = [] := fun e => by subst e; cases m2
     have m5 : s.isEmpty = false := by cases s with | nil => cases m2 | cons => rfl
     have hR : R = true := by rw [<- hs, hm]; rfl
     subst hR
     clear hs hm hst hend h32 hon m2
     go_wp2_with fail
     go_ret
     exact ⟨rfl, rfl⟩
    ·have hm : (C == s && !s.isEmpty) = false := by simpa using hm
     rw [hm, Bool.false_or] at hs
     have hs2 : Hid (i + 1 <= W.length -> Jsp.among s ((W.drop (i + 1)).take (i + 1 - (i + 1))) (W.drop (i + 1)) = R) := fun _ => by rw [Nat.sub_self, List.take_zero]; exact hs
     have hs3 : Hid (i + 1 = W.length + 1 -> R = false) := fun e => by omega
     have z1 : i + 1 + (gk - 1) = W.length + 1 := by omega
     have z2 : gk - 1 < gk := by omega
     clear hs hst hend h32 hon
     cases hm1 : C == s
     ·clear hm
      go_wp2_with fail
      go_roundg (gk - 1)
      case measure => exact z2
      case rel => exact ⟨i + 1, i + 1, z1, Nat.le_refl _, (by first | rfl | (rw [hw1]; rfl)), (by first | rfl | (rw [hw1]; rfl)), hs2, hs3, rfl⟩
     ·have m0 : s = [] := by
       rw [hm1, Bool.true_and] at hm
       cases s with
       | nil => rfl
       | cons => cases hm
      subst m0
      clear hm
      go_wp2_with fail
      go_roundg (gk - 1)
      case measure => exact z2
      case rel => exact ⟨i + 1, i + 1, z1, Nat.le_refl _, (by first | rfl | (rw [hw1]; rfl)), (by first | rfl | (rw [hw1]; rfl)), hs2, hs3, rfl⟩
   ·have q2 : ((c.toNat : Int) == 32) = false := u8f h32
    rw [if_neg h32, <- hon] at hs
    have hs2 : Hid (i + 1 <= W.length -> Jsp.among s ((W.drop k).take (i + 1 - k)) (W.drop (i + 1)) = R) := fun _ => hs
    have hs3 : Hid (i + 1 = W.length + 1 -> R = false) := fun e => by omega
    have z1 : i + 1 + (gk - 1) = W.length + 1 := by omega
    have z2 : gk - 1 < gk := by omega
    have z3 : k <= i + 1 := by omega
    clear hs hst hend h32 hon
    go_wp2_with fail
    go_roundg (gk - 1)
    case measure => exact z2
    case rel => exact ⟨k, i + 1, z1, z3, rfl, (by first | rfl | (rw [hw1]; rfl)), hs2, hs3, rfl⟩
  ·have hie : i = W.length := by omega
   have q1 : ((i : Int) == (W.length : Int)) = true := by rw [beq_iff_eq]; omega
   rw [show W.drop i = [] from List.drop_eq_nil_of_le (by omega), hC, Jsp.among] at hs
   by_cases hm : (C == s && !s.isEmpty) = true
   ·obtain ⟨m1, m2⟩ := Bool.and_eq_true_iff.1 hm
    have m3 : (s == []) = false := by cases s with | nil => cases m2 | cons => rfl
    have m4 : ¬ s = [] := fun e => by subst e; cases m2
    have m5 : s.isEmpty = false := by cases s with | nil => cases m2 | cons => rfl
    have hR : R = true := by rw [<- hs, hm]
    subst hR
    clear hs hm hst hend m2 hie
    go_wp2_with fail
    go_ret
    exact ⟨rfl, rfl⟩
   ·have hm : (C == s && !s.isEmpty) = false := by simpa using hm
    rw [hm] at hs
    have hs2 : Hid (i + 1 <= W.length -> Jsp.among s ((W.drop (i + 1)).take (i + 1 - (i + 1))) (W.drop (i + 1)) = R) := fun h => by omega
    have hs3 : Hid (i + 1 = W.length + 1 -> R = false) := fun _ => hs.symm
    have z1 : i + 1 + (gk - 1) = W.length + 1 := by omega
    have z2 : gk - 1 < gk := by omega
    clear hs hst hend hie
    cases hm1 : C == s
    ·clear hm
     go_wp2_with fail
     go_roundg (gk - 1)
     case measure => exact z2
     case rel => exact ⟨i + 1, i + 1, z1, Nat.le_refl _, (by first | rfl | (rw [hw1]; rfl)), (by first | rfl | (rw [hw1]; rfl)), hs2, hs3, rfl⟩
    ·have m0 : s = [] := by
      rw [hm1, Bool.true_and] at hm
      cases s with
      | nil => rfl
      | cons => cases hm
     subst m0
     clear hm
     go_wp2_with fail
     go_roundg (gk - 1)
     case measure => exact z2
     case rel => exact ⟨i + 1, i + 1, z1, Nat.le_refl _, (by first | rfl | (rw [hw1]; rfl)), (by first | rfl | (rw [hw1]; rfl)), hs2, hs3, rfl⟩
def RetB (w : World) (e : Ending) (w' : World) : Prop := ∃ v : Bool, e = .returned (.bool v) /\ w = w'
theorem rHexes (s : List UInt8) (w : World) (hl : s.length <= 1048577) : Calls Tryz.prog 164 #[S s] w (RetB w) := by
 go_enter Tryz.func164, Tryz.ntmps164
 go_wp2_with fail
 go_loopg [3] s.length (fun g s3 wx => ∃ i : Nat, i + g = s.length /\ s3 = .int .i64 (i : Int) /\ w = wx)
 case atStart => exact ⟨0, by omega, rfl, rfl⟩
 case round =>
  obtain ⟨i, hi, rfl, rfl⟩ := hrel
  by_cases hlt : i < s.length
  ·have b0 : (0 : Int) <= (i : Int) := by omega
   have b1 : (i : Int) < (s.length : Int) := by omega
   obtain ⟨c, hc⟩ : ∃ c, s[i] = c := ⟨_, rfl⟩
   obtain ⟨v, hv⟩ : ∃ v, Jsp.hexV c = v := ⟨_, rfl⟩
   have HX := fun W => rHex c.toNat W (by have := u8_lt c; omega)
   rw [hexR_u8, hv] at HX
   have HX := hide HX
   have hw32 := w32_byte c
   have hw1 : wrap64 ((i : Int) + 1) = (i : Int) + 1 := by unfold wrap64; omega
   have z1 : i + 1 + (gk - 1) = s.length := by omega
   have z2 : gk - 1 < gk := by omega
   clear hv hl
   by_cases h0 : v < 0
   ·have q0 : decide (v < 0) = true := decide_eq_true h0
    clear h0
    go_wp2_with fail
    refine (HX.out _).mono ?_
    rintro e w2 ⟨rfl, rfl⟩
    go_wp2_with fail
    go_ret
    exact ⟨_, rfl, rfl⟩
   ·have q0 : decide (v < 0) = false := decide_eq_false h0
    clear h0
    go_wp2_with fail
    refine (HX.out _).mono ?_
    rintro e w2 ⟨rfl, rfl⟩
    go_wp2_with fail
    go_roundg (gk - 1)
    case measure => exact z2
    case rel => exact ⟨i + 1, z1, (by first | rfl | (rw [hw1]; rfl)), rfl⟩
  ·have b1 : ¬ (i : Int) < (s.length : Int) := by omega
   go_wp2_with fail
   go_ret
   exact ⟨_, rfl, rfl⟩
theorem rPendingC (U t : List UInt8) (c : UInt8) (hU : U = c :: t) (w : World) (hl : U.length <= 1048575) : Calls Tryz.prog 153 #[S U] w (RetB w) := by
 have hlp : (0 : Int) < (U.length : Int) := by subst hU; simp
 have hlI : (1 : Int) <= (U.length : Int) := by omega
 have hcat : ¬ 9223372036854775807 < 1 + U.length := by omega
 have hwl : wrap64 ((U.length : Int) + 1) = (U.length : Int) + 1 := by unfold wrap64; omega
 have hc0 : ∀ h : 0 < U.length, U[0]'h = c := fun h => by subst hU; rfl
 have ht1 : U.tail = t := by subst hU; rfl
 have ht2 : List.take (U.length - 1) t = t := List.take_of_length_le (by subst hU; simp)
 have hd1 : List.drop 1 U = t := by subst hU; rfl
 have htl : t.length <= 1048575 := by subst hU; simp at hl; omega
 have HUN := rUnit (92 :: U) 0
 obtain ⟨Y, hY⟩ : ∃ Y, Jsp.unitR (92 :: U) 0 = Y := ⟨_, rfl⟩
 rw [hY] at HUN
 obtain ⟨u1, u2⟩ := Y
 have HUN := hide (fun W => HUN W (Nat.zero_le _) (by simp; omega))
 have HHX := hide (fun W => rHexes t W (by omega))
 have HTL := hide htl
 have HL := hide hl
 have hne : (U == []) = false := by subst hU; rfl
 clear hU hY htl hl
 go_enter Tryz.func153, Tryz.ntmps153
 go_wp2_with fail
 go_loopg [3, 4, 5] U.length (fun g s3 s4 s5 wx => ∃ (i : Nat) (all shut : Bool), i + g = U.length /\ s3 = .bool all /\ s4 = .bool shut /\ s5 = .int .i64 (i : Int) /\ w = wx)
 case atStart => exact ⟨0, true, false, by omega, rfl, rfl, rfl, rfl⟩
 case round =>
  obtain ⟨i, all, shut, hi, rfl, rfl, rfl, rfl⟩ := hrel
  by_cases hlt : i < U.length
  ·have b0 : (0 : Int) <= (i : Int) := by omega
   have b1 : (i : Int) < (U.length : Int) := by omega
   obtain ⟨d, hd⟩ : ∃ d, U[i] = d := ⟨_, rfl⟩
   have hw32 := w32_byte d
   have hw1 : wrap64 ((i : Int) + 1) = (i : Int) + 1 := by have := HL.out; unfold wrap64; omega
   have z1 : i + 1 + (gk - 1) = U.length := by omega
   have z2 : gk - 1 < gk := by omega
   have HD := hide (fun W => rDig d.toNat W)
   clear ht1 ht2 hd1 hc0 hwl hlp hlI hne
   cases all
   ·cases shut
    ·by_cases c1 : d = 62
     ·have q1 : ((d.toNat : Int) == 62) = true := u8t c1
      clear c1
      go_wp2_with fail
      go_roundg (gk - 1)
      case measure => exact z2
      case rel => exact ⟨i + 1, _, _, z1, rfl, rfl, (by first | rfl | (rw [hw1]; rfl)), rfl⟩
     ·have q1 : ((d.toNat : Int) == 62) = false := u8f c1
      clear c1
      go_wp2_with fail
      go_roundg (gk - 1)
      case measure => exact z2
      case rel => exact ⟨i + 1, _, _, z1, rfl, rfl, (by first | rfl | (rw [hw1]; rfl)), rfl⟩
    ·go_wp2_with fail
     go_roundg (gk - 1)
     case measure => exact z2
     case rel => exact ⟨i + 1, _, _, z1, rfl, rfl, (by first | rfl | (rw [hw1]; rfl)), rfl⟩
   ·cases shut
    ·by_cases c1 : d = 62
     ·have q1 : ((d.toNat : Int) == 62) = true := u8t c1
      clear c1
      go_wp2_with fail
      refine (HD.out _).mono ?_
      rintro e w2 ⟨rfl, rfl⟩
      go_wp2_with fail
      go_roundg (gk - 1)
      case measure => exact z2
      case rel => exact ⟨i + 1, _, _, z1, rfl, rfl, (by first | rfl | (rw [hw1]; rfl)), rfl⟩
     ·have q1 : ((d.toNat : Int) == 62) = false := u8f c1
      clear c1
      go_wp2_with fail
      refine (HD.out _).mono ?_
      rintro e w2 ⟨rfl, rfl⟩
      go_wp2_with fail
      go_roundg (gk - 1)
      case measure => exact z2
      case rel => exact ⟨i + 1, _, _, z1, rfl, rfl, (by first | rfl | (rw [hw1]; rfl)), rfl⟩
    ·go_wp2_with fail
     refine (HD.out _).mono ?_
     rintro e w2 ⟨rfl, rfl⟩
     go_wp2_with fail
     go_roundg (gk - 1)
     case measure => exact z2
     case rel => exact ⟨i + 1, _, _, z1, rfl, rfl, (by first | rfl | (rw [hw1]; rfl)), rfl⟩
  ·have b1 : ¬ (i : Int) < (U.length : Int) := by omega
   clear hi hlt
   cases all
   rotate_left
   ·go_wp2_with fail
    go_ret
    exact ⟨_, rfl, rfl⟩
   cases g13 : U == [13]
   rotate_left
   ·go_wp2_with fail
    go_ret
    exact ⟨_, rfl, rfl⟩
   cases g99 : U == [99]
   rotate_left
   ·go_wp2_with fail
    go_ret
    exact ⟨_, rfl, rfl⟩
   have hcb := u8_lt c
   by_cases c1 : c = 120
   ·have q1 : ((c.toNat : Int) == 120) = true := u8t c1
    clear c1
    by_cases h2 : t.length < 2
    ·have g2 : decide ((t.length : Int) < 2) = true := by simp; omega
     clear h2
     go_wp2_with fail
     refine (HHX.out _).mono ?_
     rintro e w2 ⟨v2, rfl, rfl⟩
     go_wp2_with fail
     go_ret
     exact ⟨_, rfl, rfl⟩
    ·have g2 : decide ((t.length : Int) < 2) = false := by simp; omega
     clear h2
     go_wp2_with fail
     go_ret
     exact ⟨_, rfl, rfl⟩
   have q1 : ((c.toNat : Int) == 120) = false := u8f c1
   clear c1
   by_cases c2 : c = 117
   ·have q2 : ((c.toNat : Int) == 117) = true := u8t c2
    clear c2
    by_cases n1 : 55296 <= u1
    ·have p1 : decide (55296 <= u1) = true := decide_eq_true n1
     by_cases n2 : u1 <= 56319
     ·have p2 : decide (u1 <= 56319) = true := decide_eq_true n2
      clear n1 n2
      cases n3 : ((u2 : Int) == (U.length : Int) + 1)
      ·cases t with
       | nil =>
        have g0 : decide ((([] : List UInt8).length : Int) < 4) = true := rfl
        go_wp2_with fail
        refine (HUN.out _).mono ?_
        rintro e w2 ⟨rfl, rfl⟩
        go_wp2_with fail
        refine (HHX.out _).mono ?_
        rintro e w2 ⟨v2, rfl, rfl⟩
        go_wp2_with fail
        go_ret
        exact ⟨_, rfl, rfl⟩
       | cons d t2 =>
        have g0 : (d :: t2 == []) = false := rfl
        have g1 : (0 : Int) < ((d :: t2).length : Int) := by simp
        have g3 : (1 : Int) <= ((t2.length : Int) + 1) := by omega
        have hdb := u8_lt d
        by_cases h123 : d = 123
        ·have g4 : ((d.toNat : Int) == 123) = true := u8t h123
         clear h123
         have HH2 := hide (fun W => rHexes t2 W (by have := HTL.out; simp at this; omega))
         go_wp2_with fail
         refine (HUN.out _).mono ?_
         rintro e w2 ⟨rfl, rfl⟩
         go_wp2_with fail
         refine (HH2.out _).mono ?_
         rintro e w2 ⟨v2, rfl, rfl⟩
         go_wp2_with fail
         go_ret
         exact ⟨_, rfl, rfl⟩
        ·have g4 : ((d.toNat : Int) == 123) = false := u8f h123
         clear h123
         by_cases h4 : (d :: t2).length < 4
         ·have g5 : decide (((t2.length : Int) + 1) < 4) = true := by simp at h4 ⊢; omega
          clear h4
          go_wp2_with fail
          refine (HUN.out _).mono ?_
          rintro e w2 ⟨rfl, rfl⟩
          go_wp2_with fail
          refine (HHX.out _).mono ?_
          rintro e w2 ⟨v2, rfl, rfl⟩
          go_wp2_with fail
          go_ret
          exact ⟨_, rfl, rfl⟩
         ·have g5 : decide (((t2.length : Int) + 1) < 4) = false := by simp at h4 ⊢; omega
          clear h4
          go_wp2_with fail
          refine (HUN.out _).mono ?_
          rintro e w2 ⟨rfl, rfl⟩
          go_wp2_with fail
          go_ret
          exact ⟨_, rfl, rfl⟩
      ·go_wp2_with fail
       refine (HUN.out _).mono ?_
       rintro e w2 ⟨rfl, rfl⟩
       go_wp2_with fail
       go_ret
       exact ⟨_, rfl, rfl⟩
     ·have p2 : decide (u1 <= 56319) = false := decide_eq_false n2
      clear n1 n2
      cases t with
      | nil =>
       have g0 : decide ((([] : List UInt8).length : Int) < 4) = true := rfl
       go_wp2_with fail
       refine (HUN.out _).mono ?_
       rintro e w2 ⟨rfl, rfl⟩
       go_wp2_with fail
       refine (HHX.out _).mono ?_
       rintro e w2 ⟨v2, rfl, rfl⟩
       go_wp2_with fail
       go_ret
       exact ⟨_, rfl, rfl⟩
      | cons d t2 =>
       have g0 : (d :: t2 == []) = false := rfl
       have g1 : (0 : Int) < ((d :: t2).length : Int) := by simp
       have g3 : (1 : Int) <= ((t2.length : Int) + 1) := by omega
       have hdb := u8_lt d
       by_cases h123 : d = 123
       ·have g4 : ((d.toNat : Int) == 123) = true := u8t h123
        clear h123
        have HH2 := hide (fun W => rHexes t2 W (by have := HTL.out; simp at this; omega))
        go_wp2_with fail
        refine (HUN.out _).mono ?_
        rintro e w2 ⟨rfl, rfl⟩
        go_wp2_with fail
        refine (HH2.out _).mono ?_
        rintro e w2 ⟨v2, rfl, rfl⟩
        go_wp2_with fail
        go_ret
        exact ⟨_, rfl, rfl⟩
       ·have g4 : ((d.toNat : Int) == 123) = false := u8f h123
        clear h123
        by_cases h4 : (d :: t2).length < 4
        ·have g5 : decide (((t2.length : Int) + 1) < 4) = true := by simp at h4 ⊢; omega
         clear h4
         go_wp2_with fail
         refine (HUN.out _).mono ?_
         rintro e w2 ⟨rfl, rfl⟩
         go_wp2_with fail
         refine (HHX.out _).mono ?_
         rintro e w2 ⟨v2, rfl, rfl⟩
         go_wp2_with fail
         go_ret
         exact ⟨_, rfl, rfl⟩
        ·have g5 : decide (((t2.length : Int) + 1) < 4) = false := by simp at h4 ⊢; omega
         clear h4
         go_wp2_with fail
         refine (HUN.out _).mono ?_
         rintro e w2 ⟨rfl, rfl⟩
         go_wp2_with fail
         go_ret
         exact ⟨_, rfl, rfl⟩
    ·have p1 : decide (55296 <= u1) = false := decide_eq_false n1
     clear n1
     cases t with
     | nil =>
      have g0 : decide ((([] : List UInt8).length : Int) < 4) = true := rfl
      go_wp2_with fail
      refine (HUN.out _).mono ?_
      rintro e w2 ⟨rfl, rfl⟩
      go_wp2_with fail
      refine (HHX.out _).mono ?_
      rintro e w2 ⟨v2, rfl, rfl⟩
      go_wp2_with fail
      go_ret
      exact ⟨_, rfl, rfl⟩
     | cons d t2 =>
      have g0 : (d :: t2 == []) = false := rfl
      have g1 : (0 : Int) < ((d :: t2).length : Int) := by simp
      have g3 : (1 : Int) <= ((t2.length : Int) + 1) := by omega
      have hdb := u8_lt d
      by_cases h123 : d = 123
      ·have g4 : ((d.toNat : Int) == 123) = true := u8t h123
       clear h123
       have HH2 := hide (fun W => rHexes t2 W (by have := HTL.out; simp at this; omega))
       go_wp2_with fail
       refine (HUN.out _).mono ?_
       rintro e w2 ⟨rfl, rfl⟩
       go_wp2_with fail
       refine (HH2.out _).mono ?_
       rintro e w2 ⟨v2, rfl, rfl⟩
       go_wp2_with fail
       go_ret
       exact ⟨_, rfl, rfl⟩
      ·have g4 : ((d.toNat : Int) == 123) = false := u8f h123
       clear h123
       by_cases h4 : (d :: t2).length < 4
       ·have g5 : decide (((t2.length : Int) + 1) < 4) = true := by simp at h4 ⊢; omega
        clear h4
        go_wp2_with fail
        refine (HUN.out _).mono ?_
        rintro e w2 ⟨rfl, rfl⟩
        go_wp2_with fail
        refine (HHX.out _).mono ?_
        rintro e w2 ⟨v2, rfl, rfl⟩
        go_wp2_with fail
        go_ret
        exact ⟨_, rfl, rfl⟩
       ·have g5 : decide (((t2.length : Int) + 1) < 4) = false := by simp at h4 ⊢; omega
        clear h4
        go_wp2_with fail
        refine (HUN.out _).mono ?_
        rintro e w2 ⟨rfl, rfl⟩
        go_wp2_with fail
        go_ret
        exact ⟨_, rfl, rfl⟩
   have q2 : ((c.toNat : Int) == 117) = false := u8f c2
   clear c2
   by_cases c3 : c = 107
   ·have q3 : ((c.toNat : Int) == 107) = true := u8t c3
    clear c3
    go_wp2_with fail
    go_ret
    exact ⟨_, rfl, rfl⟩
   have q3 : ((c.toNat : Int) == 107) = false := u8f c3
   clear c3
   by_cases c4 : c = 112
   ·have q4 : ((c.toNat : Int) == 112) = true := u8t c4
    clear c4
    go_wp2_with fail
    go_ret
    exact ⟨_, rfl, rfl⟩
   have q4 : ((c.toNat : Int) == 112) = false := u8f c4
   clear c4
   by_cases c5 : c = 80
   ·have q5 : ((c.toNat : Int) == 80) = true := u8t c5
    clear c5
    go_wp2_with fail
    go_ret
    exact ⟨_, rfl, rfl⟩
   have q5 : ((c.toNat : Int) == 80) = false := u8f c5
   clear c5
   go_wp2_with fail
   go_ret
   exact ⟨_, rfl, rfl⟩
theorem rPendingNil (w : World) : Calls Tryz.prog 153 #[S []] w (RetB w) := by
 go_enter Tryz.func153, Tryz.ntmps153
 go_wp2_with fail
 go_loopg [3, 4, 5] 0 (fun g s3 s4 s5 wx => g = 0 /\ s3 = .bool true /\ s4 = .bool false /\ s5 = .int .i64 0 /\ w = wx)
 case atStart => exact ⟨rfl, rfl, rfl, rfl, rfl⟩
 case round =>
  obtain ⟨rfl, rfl, rfl, rfl, rfl⟩ := hrel
  go_wp2_with fail
  go_ret
  exact ⟨_, rfl, rfl⟩
theorem rPending (s : List UInt8) (w : World) (hl : s.length <= 1048575) : Calls Tryz.prog 153 #[S s] w (RetB w) := by
 cases s with
 | nil => exact rPendingNil w
 | cons c t => exact rPendingC (c :: t) t c rfl w hl
end Go.Proofs.YtngccmlcopcghaaGreatDoor
