/- The reference's digits, Lower of a byte, number. -/
import Derived.Test.YtngccmlcopcghaaGreatDoorXf
import Derived.Test.YtngccmlcopcghaaGreatDoorUf
import Derived.Test.YtngccmlcopcghaaGreatDoorTb
set_option maxRecDepth 100000
set_option maxHeartbeats 8000000
namespace Go.Proofs.YtngccmlcopcghaaGreatDoor
open Go.RowKit
def ckV (i : Nat) : List UInt8 ⊕ Nat -> Value
 | .inl v => .tuple #[S v, .int .i64 (-1)]
 | .inr k => .tuple #[S [], .int .i64 ((i + k : Nat) : Int)]
theorem esc_len4 {s : List UInt8} {x : List UInt8} {n : Nat} (h : Jsp.escape s = some (x, n)) : x.length <= 4 := by
 by_cases h0 : s = []
 ·subst h0
  have : x = [] := by
   have h2 : Jsp.escape [] = some ([], 0) := by decide
   rw [h2] at h
   injection h with h
   injection h with h _
   exact h.symm
  rw [this]; exact Nat.zero_le _
 ·exact escape_len h0 h
theorem mp_on {R : List UInt8 ⊕ Nat} {A : List UInt8} {m i k j : Nat} {X : List UInt8 ⊕ Nat} (h : R = Jsp.mp A (m + (i - k)) X) (hki : k <= i) (hj : j = i + m) : R = Jsp.mp A (j - k) X /\ k <= j :=
 ⟨by rw [h]; congr 1; omega, by omega⟩
theorem al_on {acc x : List UInt8} {i j : Nat} (h : acc.length <= 4 * i) (hx : x.length <= 4) (hj : i + 1 <= j) : (acc ++ x).length <= 4 * j := by rw [List.length_append]; omega
theorem no_cat {a b i : Nat} (h : a <= 4 * i) (hi : i <= 1048580) (hb : b <= 4) : ¬ 9223372036854775807 < a + b := by omega
theorem gas_dec {a i j : Nat} (h : i < a) (hj : i < j) : a - j < a - i := by omega
theorem ck_at {i k : Nat} (h : k <= i) : k + (i - k) = i := by omega
theorem rCooked (s : List UInt8) (k tq : Nat) (t : Bool) (w : World) (hto : tq <= s.length) (_hk : k <= 1048576) (hl : s.length <= 1048576) :
  Calls Tryz.prog 129 #[S s, .int .i64 (k : Int), .int .i64 (tq : Int), .bool t] w (Fresh (ckV k (Jsp.cook t ((s.take tq).drop k))) w) := by
 obtain ⟨M, hM⟩ : ∃ M, w.heap.size = M := ⟨_, rfl⟩
 have HB0 : Hid (Below M w w) := by unfold Hid; rw [<- hM]; exact Below.refl _ _
 have HM := hide hM
 clear hM
 obtain ⟨T, hT⟩ : ∃ T, s.take tq = T := ⟨_, rfl⟩
 obtain ⟨R, hR⟩ : ∃ R, Jsp.cook t ((s.take tq).drop k) = R := ⟨_, rfl⟩
 rw [hR]
 rw [hT] at hR
 have hTl : T.length = tq := by rw [<- hT, List.length_take]; omega
 have hTg : ∀ i (h : i < tq) (h2 : i < s.length), T[i]? = some s[i] := fun i h h2 => by rw [<- hT, List.getElem?_take_of_lt h, List.getElem?_eq_getElem h2]
 have HTG := hide hTg
 have HTL := hide hTl
 have HR := hide hR
 have t0 : (0 : Int) <= (tq : Int) := by omega
 have t1 : (tq : Int) <= (s.length : Int) := by omega
 clear hR hTl hTg
 go_enter Tryz.func129, Tryz.ntmps129
 go_wp2_with fail
 go_loopg [10, 11] (tq - k) (fun g s10 s11 wx => ∃ (i : Nat) (acc : List UInt8), g = tq - i /\ s10 = S acc /\ s11 = .int .i64 (i : Int) /\ acc.length <= 4 * i /\ Hid (R = Jsp.mp acc (i - k) (Jsp.cook t (T.drop i)) /\ k <= i) /\ Hid (Below M w wx))
 case atStart => exact ⟨k, [], rfl, rfl, rfl, Nat.zero_le _, ⟨by rw [Nat.sub_self, Jsp.mp_nil, HR.out], Nat.le_refl _⟩, HB0⟩
 case round =>
  obtain ⟨i, acc, rfl, rfl, rfl, hacc, hst, hbx⟩ := hrel
  clear HR HB0
  have hbs : Hid (M <= wr.heap.size) := by unfold Hid; have := hbx.out.size; rw [<- HM.out]; exact this
  by_cases hlt : i < tq
  rotate_left
  ·have q0 : decide ((i : Int) < (tq : Int)) = false := decide_eq_false (by omega)
   obtain ⟨hs, hki⟩ := hst.out
   rw [List.drop_eq_nil_of_le (by rw [HTL.out]; omega), Jsp.cook_nil, Jsp.mp, List.append_nil] at hs
   subst hs
   clear hst hT hl _hk hacc
   go_wp2_with fail
   refine bodyPost_ret (v := .tuple #[S acc, .int .i64 (-1)]) (by simp [results, Tryz.results129, go_sem]) rfl ?_
   exact ⟨rfl, by rw [HM.out]; exact hbx.out⟩
  have q0 : decide ((i : Int) < (tq : Int)) = true := decide_eq_true (by omega)
  have hil : i < s.length := by omega
  have b0 : (0 : Int) <= (i : Int) := by omega
  have b1 : (i : Int) < (s.length : Int) := by omega
  have b2 : (i : Int) + 1 <= (s.length : Int) := by omega
  have b3 : (i : Int) <= (i : Int) + 1 := by omega
  have b4 : ((i : Int) + 1).toNat - i = 1 := by omega
  have hw1 := wr1 (i := i) (by omega)
  obtain ⟨c, hc⟩ : ∃ c, s[i] = c := ⟨_, rfl⟩
  obtain ⟨r, hr⟩ : ∃ r, T.drop (i + 1) = r := ⟨_, rfl⟩
  have hTi : T[i]? = some c := by rw [HTG.out i hlt hil, hc]
  have hTd : T.drop i = c :: r := by
   obtain ⟨h1, h2⟩ := List.getElem?_eq_some_iff.1 hTi
   rw [List.drop_eq_getElem_cons h1, h2, hr]
  obtain ⟨hs, hki⟩ := hst.out
  rw [hTd, Jsp.cook_cons] at hs
  have hap1 := no_cat (b := 1) hacc (by omega) (by decide)
  have hone : (s.drop i).take 1 = [c] := by rw [List.drop_eq_getElem_cons hil, hc]; rfl
  by_cases h92 : c = 92
  ·have q1 : ((c.toNat : Int) == 92) = true := u8t h92
   rw [if_pos h92] at hs
   have HE := rEscape T i wr (by rw [HTL.out]; exact hlt) (by rw [hTi, h92]) (by rw [HTL.out]; omega)
   have HE := hide HE
   cases hesc : Jsp.escape r with
   | none =>
    rw [hesc] at hs
    simp only [Jsp.mp, Nat.zero_add] at hs
    have HS := hide hs
    have HES := hide hesc
    have HRR := hide hr
    have hki2 := hide hki
    have hok : ∀ e w', EscP T i wr e w' -> ∃ (x : List UInt8) (n : Int), e = .returned (.tuple #[S x, .int .i64 n, .bool false]) /\ Below wr.heap.size wr w' := fun e w' h => by
     obtain ⟨x, n, ok, h1, h2, h3⟩ := h
     rw [HRR.out, HES.out] at h3
     subst h3
     exact ⟨x, n, h1, h2⟩
    have HOK := hide hok
    clear hesc hs hr hok hst hTd hTi h92 hone hki _hk hl hacc
    go_wp2_with fail
    refine HE.out.mono ?_
    rintro e w2 hp
    obtain ⟨x, n, rfl, hb2⟩ := HOK.out _ _ hp
    have HB2 : Hid (Below M w w2) := hbx.out.trans (hb2.mono hbs.out)
    clear hb2 hp
    go_wp2_with fail
    refine bodyPost_ret (v := .tuple #[S [], .int .i64 (i : Int)]) (by simp [results, Tryz.results129, go_sem]) rfl ?_
    exact ⟨by rw [HS.out, ckV, ck_at hki2.out], by rw [HM.out]; exact HB2.out⟩
   | some p =>
    obtain ⟨x, n⟩ := p
    rw [hesc] at hs
    simp only at hs
    rw [Jsp.mp_mp, <- hr, List.drop_drop] at hs
    have hxl := esc_len4 hesc
    have hap := no_cat hacc (by omega) hxl
    have hal := al_on (j := i + 1 + n) hacc hxl (Nat.le_add_right _ _)
    have HAL := hide hal
    have HS := hide (show R = Jsp.mp (acc ++ x) (i + 1 + n - k) (Jsp.cook t (T.drop (i + 1 + n))) /\ k <= i + 1 + n from mp_on hs hki (by omega))
    have HES := hide hesc
    have HRR := hide hr
    have hok : ∀ e w', EscP T i wr e w' -> e = .returned (.tuple #[S x, .int .i64 ((i + 1 + n : Nat) : Int), .bool true]) /\ Below wr.heap.size wr w' := fun e w' h => by
     obtain ⟨x', n', ok, h1, h2, h3⟩ := h
     rw [HRR.out, HES.out] at h3
     obtain ⟨rfl, rfl, rfl⟩ := h3
     exact ⟨h1, h2⟩
    have HOK := hide hok
    have z2 : tq - (i + 1 + n) < tq - i := gas_dec hlt (by rw [Nat.add_assoc, Nat.add_comm 1]; exact Nat.lt_add_of_pos_right (Nat.succ_pos n))
    clear hesc hs hr hok hst hTd hTi h92 hone hki _hk hl hacc hal hxl
    go_wp2_with fail
    refine HE.out.mono ?_
    rintro e w2 hp
    obtain ⟨rfl, hb2⟩ := HOK.out _ _ hp
    have HB2 : Hid (Below M w w2) := hbx.out.trans (hb2.mono hbs.out)
    clear hb2 hp
    go_wp2_with fail
    go_roundg (tq - (i + 1 + n))
    case measure => exact z2
    case rel => exact ⟨i + 1 + n, acc ++ x, rfl, rfl, rfl, HAL.out, HS, HB2⟩
  have q1 : ((c.toNat : Int) == 92) = false := u8f h92
  rw [if_neg h92] at hs
  have hall : ∀ (d : UInt8) (j : Nat), i + 1 <= j -> (acc ++ [d]).length <= 4 * j := fun d j hj => al_on hacc (by simp) hj
  have z2 : tq - (i + 1) < tq - i := gas_dec hlt (Nat.lt_succ_self i)
  by_cases h13 : t = true /\ c = 13
  ·obtain ⟨rfl, hc13⟩ := h13
   have q2 : ((c.toNat : Int) == 13) = true := u8t hc13
   rw [if_pos ⟨rfl, hc13⟩] at hs
   by_cases hlt2 : i + 1 < tq
   ·have q3 : decide ((i : Int) + 1 < (tq : Int)) = true := decide_eq_true (by omega)
    have c0 : (0 : Int) <= (i : Int) + 1 := by omega
    have c1 : (i : Int) + 1 < (s.length : Int) := by omega
    have c2 : ((i : Int) + 1).toNat = i + 1 := by omega
    have hw2 := wr11 (i := i) (by omega)
    have hil2 : i + 1 < s.length := Nat.lt_of_lt_of_le hlt2 hto
    obtain ⟨d, hd⟩ : ∃ d, s[i + 1] = d := ⟨_, rfl⟩
    have hrd : r.head? = some d := by rw [<- hr, List.head?_drop, HTG.out (i + 1) hlt2 hil2, hd]
    by_cases h10 : d = 10
    ·have q4 : ((d.toNat : Int) == 10) = true := u8t h10
     rw [if_pos (by rw [hrd, h10]), Jsp.mp_mp, <- hr, List.drop_drop] at hs
     have HS := hide (show R = Jsp.mp (acc ++ [10]) (i + 2 - k) (Jsp.cook true (T.drop (i + 2))) /\ k <= i + 2 from mp_on hs hki rfl)
     have HAL := hide (hall 10 (i + 2) (Nat.le_succ _))
     have z3 : tq - (i + 2) < tq - i := gas_dec hlt (Nat.lt_add_of_pos_right (by decide))
     clear hs hr hst hTd hTi h92 hone hki _hk hl hacc hall hrd h10 hc13
     go_wp2_with fail
     go_roundg (tq - (i + 2))
     case measure => exact z3
     case rel => exact ⟨i + 2, acc ++ [10], rfl, rfl, (by first | rfl | (rw [hw2]; rfl)), HAL.out, HS, hbx⟩
    ·have q4 : ((d.toNat : Int) == 10) = false := u8f h10
     rw [if_neg (by rw [hrd]; intro e; injection e with e; exact h10 e), Jsp.mp_mp, <- hr] at hs
     have HS := hide (show R = Jsp.mp (acc ++ [10]) (i + 1 - k) (Jsp.cook true (T.drop (i + 1))) /\ k <= i + 1 from mp_on hs hki rfl)
     have HAL := hide (hall 10 (i + 1) (Nat.le_refl _))
     clear hs hr hst hTd hTi h92 hone hki _hk hl hacc hall hrd h10 hc13
     go_wp2_with fail
     go_roundg (tq - (i + 1))
     case measure => exact z2
     case rel => exact ⟨i + 1, acc ++ [10], rfl, rfl, (by first | rfl | (rw [hw1]; rfl)), HAL.out, HS, hbx⟩
   ·have q3 : decide ((i : Int) + 1 < (tq : Int)) = false := decide_eq_false (by omega)
    have hrn : r = [] := by rw [<- hr]; exact List.drop_eq_nil_of_le (by rw [HTL.out]; omega)
    rw [if_neg (by rw [hrn]; intro e; cases e), Jsp.mp_mp, <- hr] at hs
    have HS := hide (show R = Jsp.mp (acc ++ [10]) (i + 1 - k) (Jsp.cook true (T.drop (i + 1))) /\ k <= i + 1 from mp_on hs hki rfl)
    have HAL := hide (hall 10 (i + 1) (Nat.le_refl _))
    clear hs hr hst hTd hTi h92 hone hki _hk hl hacc hall hc13 hrn
    go_wp2_with fail
    go_roundg (tq - (i + 1))
    case measure => exact z2
    case rel => exact ⟨i + 1, acc ++ [10], rfl, rfl, (by first | rfl | (rw [hw1]; rfl)), HAL.out, HS, hbx⟩
  ·rw [if_neg h13, Jsp.mp_mp, <- hr] at hs
   have HS := hide (show R = Jsp.mp (acc ++ [c]) (i + 1 - k) (Jsp.cook t (T.drop (i + 1))) /\ k <= i + 1 from mp_on hs hki rfl)
   have HAL := hide (hall c (i + 1) (Nat.le_refl _))
   cases t
   ·clear hs hr hst hTd hTi h92 hki _hk hl hacc hall h13
    go_wp2_with fail
    go_roundg (tq - (i + 1))
    case measure => exact z2
    case rel => exact ⟨i + 1, acc ++ [c], rfl, (by first | rfl | (rw [hone])), (by first | rfl | (rw [hw1]; rfl)), HAL.out, HS, hbx⟩
   ·have q2 : ((c.toNat : Int) == 13) = false := u8f (fun e => h13 ⟨rfl, e⟩)
    clear hs hr hst hTd hTi h92 hki _hk hl hacc hall h13
    go_wp2_with fail
    go_roundg (tq - (i + 1))
    case measure => exact z2
    case rel => exact ⟨i + 1, acc ++ [c], rfl, (by first | rfl | (rw [hone])), (by first | rfl | (rw [hw1]; rfl)), HAL.out, HS, hbx⟩
theorem l95 {c : UInt8} (h : (c != 95) = false) : (c.toNat : Int) = 95 := by
 have : c = 95 := by simpa using h
 rw [this]; rfl
theorem n95 {c : UInt8} (h : (c != 95) = true) : ¬ (c.toNat : Int) = 95 := fun e => by
 have h2 : c = 95 := u8_inj e
 subst h2
 cases h
theorem pr_of {k n R1 d1 : Nat} {R2 d2 : Bool} (h : (k + R1, R2) = (d1 + n, d2)) : ((k + R1 : Nat) : Int) = ((d1 + n : Nat) : Int) /\ R2 = d2 := by
 injection h with h1 h2
 exact ⟨by rw [h1], h2⟩
theorem rDigits (s : List UInt8) (k : Nat) (base : Int) (w : World) (hk : k <= s.length) (hl : s.length <= 1048576) :
  Calls Tryz.prog 152 #[S s, .int .i64 (k : Int), .int .i64 base] w (Ret (.tuple #[.int .i64 ((k + (Jsp.digits base (s.drop k)).1 : Nat) : Int), .bool (Jsp.digits base (s.drop k)).2]) w) := by
 obtain ⟨R1, R2, hR⟩ : ∃ R1 R2, Jsp.digits base (s.drop k) = (R1, R2) := ⟨_, _, rfl⟩
 rw [hR]
 simp only
 have HR := hide hR
 clear hR
 go_enter Tryz.func152, Tryz.ntmps152
 go_wp2_with fail
 go_loopg [1, 8, 9] (s.length - k) (fun g s1 s8 s9 wx => ∃ (n : Nat) (last : UInt8) (any : Bool), s1 = .int .i64 (n : Int) /\ s8 = .int .u8 last.toNat /\ s9 = .bool any /\ w = wx /\ k <= n /\ g + n = s.length /\ Hid ((k + R1, R2) = ((Jsp.digitsF base last any (s.drop n)).1 + n, (Jsp.digitsF base last any (s.drop n)).2)))
 case atStart => exact ⟨k, 95, false, rfl, rfl, rfl, rfl, Nat.le_refl _, by omega, by
  have h := HR.out
  unfold Jsp.digits at h
  unfold Hid
  rw [h, Nat.add_comm]⟩
 case round =>
  obtain ⟨n, last, any, rfl, rfl, rfl, rfl, hkn, hgn, hD⟩ := hrel
  clear HR
  have hlb := u8_lt last
  by_cases hlt : n < s.length
  ·have b0 : (0 : Int) <= (n : Int) := by omega
   have b1 : (n : Int) < (s.length : Int) := by omega
   obtain ⟨c, hc⟩ : ∃ c, s[n] = c := ⟨_, rfl⟩
   have hd := hD.out
   rw [List.drop_eq_getElem_cons hlt, hc, digitsF_cons] at hd
   have hcb := u8_lt c
   have hw32 := w32_byte c
   have hw1 : wrap64 ((n : Int) + 1) = (n : Int) + 1 := by unfold wrap64; omega
   obtain ⟨v, hv⟩ : ∃ v, Jsp.hexV c = v := ⟨_, rfl⟩
   have HX := fun W => rHex c.toNat W (by have := u8_lt c; omega)
   rw [hexR_u8, hv] at HX
   rw [hv] at hd
   have HX := hide HX
   have z1 : gk - 1 + (n + 1) = s.length := by omega
   have z2 : gk - 1 < gk := by omega
   have z3 : k <= n + 1 := by omega
   clear hD hv hl
   by_cases h95 : c = 95
   ·rw [if_pos h95] at hd
    subst h95
    have HX := hide (fun W => rHex 95 W (by decide))
    have hw32 : wrap32 95 = 95 := by unfold wrap32; omega
    by_cases hl95 : last = 95
    ·have q3 : ((last.toNat : Int) == 95) = true := u8t hl95
     rw [if_pos hl95] at hd
     obtain ⟨e1, rfl⟩ := pr_of hd
     have E1 := hide (show ((k + R1 : Nat) : Int) = (n : Int) by rw [e1]; simp)
     clear e1 hl95 hd
     go_wp2_with fail
     refine (HX.out _).mono ?_
     rintro e w2 ⟨rfl, rfl⟩
     go_wp2_with fail
     refine bodyPost_ret (v := .tuple #[.int .i64 (n : Int), .bool false]) (by simp [results, Tryz.results152, go_sem]) rfl ?_
     exact ⟨by rw [E1.out], rfl⟩
    ·have q3 : ((last.toNat : Int) == 95) = false := u8f hl95
     rw [if_neg hl95] at hd
     have HD : Hid ((k + R1, R2) = ((Jsp.digitsF base 95 true (s.drop (n + 1))).1 + (n + 1), (Jsp.digitsF base 95 true (s.drop (n + 1))).2)) := by unfold Hid; rw [hd]; simp only [Prod.mk.injEq, and_true]; omega
     clear hl95 hd
     go_wp2_with fail
     refine (HX.out _).mono ?_
     rintro e w2 ⟨rfl, rfl⟩
     go_wp2_with fail
     go_roundg (gk - 1)
     case measure => exact z2
     case rel => exact ⟨n + 1, 95, true, (by first | rfl | (rw [hw1]; rfl)), rfl, rfl, rfl, z3, z1, HD⟩
   have q1 : ((c.toNat : Int) == 95) = false := u8f h95
   have q1p : ¬ (c.toNat : Int) = 95 := by simpa using q1
   rw [if_neg h95] at hd
   by_cases hb : v < 0 \/ base <= v
   ·rw [if_pos hb] at hd
    obtain ⟨e1, rfl⟩ := pr_of hd
    have E1 := hide (show ((k + R1 : Nat) : Int) = (n : Int) by rw [e1]; congr 1; omega)
    have q4 : decide (v < 0) = true \/ (decide (v < 0) = false /\ decide (base <= v) = true) := by
     simp only [decide_eq_true_eq, decide_eq_false_iff_not]; omega
    clear e1 hd hb h95
    rcases q4 with q4 | ⟨q4, q5⟩
    ·cases any
     ·go_wp2_with fail
      refine (HX.out _).mono ?_
      rintro e w2 ⟨rfl, rfl⟩
      go_wp2_with fail
      refine bodyPost_ret (v := .tuple #[.int .i64 (n : Int), .bool false]) (by simp [results, Tryz.results152, go_sem]) rfl ?_
      exact ⟨by rw [E1.out]; rfl, rfl⟩
     ·cases hlast : (last != 95)
      ·have q6 : (last.toNat : Int) = 95 := l95 hlast
       have HLA := hide hlast
       clear hlast
       go_wp2_with fail
       refine (HX.out _).mono ?_
       rintro e w2 ⟨rfl, rfl⟩
       go_wp2_with fail
       refine bodyPost_ret (v := .tuple #[.int .i64 (n : Int), .bool false]) (by simp [results, Tryz.results152, go_sem]) rfl ?_
       exact ⟨by rw [E1.out, HLA.out]; rfl, rfl⟩
      ·have q6 : ¬ (last.toNat : Int) = 95 := n95 hlast
       have HLA := hide hlast
       clear hlast
       go_wp2_with fail
       refine (HX.out _).mono ?_
       rintro e w2 ⟨rfl, rfl⟩
       go_wp2_with fail
       refine bodyPost_ret (v := .tuple #[.int .i64 (n : Int), .bool true]) (by simp [results, Tryz.results152, go_sem, q6]) rfl ?_
       exact ⟨by rw [E1.out, HLA.out]; rfl, rfl⟩
    ·cases any
     ·go_wp2_with fail
      refine (HX.out _).mono ?_
      rintro e w2 ⟨rfl, rfl⟩
      go_wp2_with fail
      refine bodyPost_ret (v := .tuple #[.int .i64 (n : Int), .bool false]) (by simp [results, Tryz.results152, go_sem]) rfl ?_
      exact ⟨by rw [E1.out]; rfl, rfl⟩
     ·cases hlast : (last != 95)
      ·have q6 : (last.toNat : Int) = 95 := l95 hlast
       have HLA := hide hlast
       clear hlast
       go_wp2_with fail
       refine (HX.out _).mono ?_
       rintro e w2 ⟨rfl, rfl⟩
       go_wp2_with fail
       refine bodyPost_ret (v := .tuple #[.int .i64 (n : Int), .bool false]) (by simp [results, Tryz.results152, go_sem]) rfl ?_
       exact ⟨by rw [E1.out, HLA.out]; rfl, rfl⟩
      ·have q6 : ¬ (last.toNat : Int) = 95 := n95 hlast
       have HLA := hide hlast
       clear hlast
       go_wp2_with fail
       refine (HX.out _).mono ?_
       rintro e w2 ⟨rfl, rfl⟩
       go_wp2_with fail
       refine bodyPost_ret (v := .tuple #[.int .i64 (n : Int), .bool true]) (by simp [results, Tryz.results152, go_sem, q6]) rfl ?_
       exact ⟨by rw [E1.out, HLA.out]; rfl, rfl⟩
   ·rw [if_neg hb] at hd
    have HD : Hid ((k + R1, R2) = ((Jsp.digitsF base c true (s.drop (n + 1))).1 + (n + 1), (Jsp.digitsF base c true (s.drop (n + 1))).2)) := by unfold Hid; rw [hd]; simp only [Prod.mk.injEq, and_true]; omega
    have q4 : decide (v < 0) = false := decide_eq_false (by omega)
    have q5 : decide (base <= v) = false := decide_eq_false (by omega)
    clear h95 hb hd
    go_wp2_with fail
    refine (HX.out _).mono ?_
    rintro e w2 ⟨rfl, rfl⟩
    go_wp2_with fail
    go_roundg (gk - 1)
    case measure => exact z2
    case rel => exact ⟨n + 1, c, true, (by first | rfl | (rw [hw1]; rfl)), rfl, rfl, rfl, z3, z1, HD⟩
  ·have b1 : ¬ (n : Int) < (s.length : Int) := by omega
   have hd := hD.out
   rw [show s.drop n = [] from List.drop_eq_nil_of_le (by omega), Jsp.digitsF] at hd
   obtain ⟨e1, rfl⟩ := pr_of hd
   have E1 := hide (show ((k + R1 : Nat) : Int) = (n : Int) by rw [e1]; congr 1; omega)
   have E1 := hide (show (k : Int) + (R1 : Int) = (n : Int) by have := E1.out; omega)
   clear hD hd e1 hl
   cases any
   ·go_wp2_with fail
    refine bodyPost_ret (v := .tuple #[.int .i64 (n : Int), .bool false]) (by simp [results, Tryz.results152, go_sem]) rfl ?_
    exact ⟨by first | (rw [E1.out]; done) | (rw [E1.out]; rfl), rfl⟩
   ·cases hlast : (last != 95)
    ·have q6 : (last.toNat : Int) = 95 := l95 hlast
     have HLA := hide hlast
     clear hlast
     go_wp2_with fail
     refine bodyPost_ret (v := .tuple #[.int .i64 (n : Int), .bool false]) (by simp [results, Tryz.results152, go_sem]) rfl ?_
     exact ⟨by first | (rw [E1.out, HLA.out]; done) | (rw [E1.out, HLA.out]; rfl), rfl⟩
    ·have q6 : ¬ (last.toNat : Int) = 95 := n95 hlast
     have HLA := hide hlast
     clear hlast
     go_wp2_with fail
     refine bodyPost_ret (v := .tuple #[.int .i64 (n : Int), .bool true]) (by simp [results, Tryz.results152, go_sem, q6]) rfl ?_
     exact ⟨by first | (rw [E1.out, HLA.out]; done) | (rw [E1.out, HLA.out]; rfl), rfl⟩
end Go.Proofs.YtngccmlcopcghaaGreatDoor
