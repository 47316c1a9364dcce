/- The reference's escape. -/
import Derived.Test.YtngccmlcopcghaaGreatDoorXe
set_option maxRecDepth 100000
set_option maxHeartbeats 8000000
namespace Go.Proofs.YtngccmlcopcghaaGreatDoor
open Go.RowKit
theorem rBytesNeg (w : World) : Calls Tryz.prog 50 #[.int .i32 (-1)] w (fun e w' => ∃ y, Fresh (S y) w e w') := by
 go_enter Tryz.func50, Tryz.ntmps50
 go_wp2_with fail
 go_ret
 exact ⟨_, rfl, Below.refl _ _⟩
def EscP (s : List UInt8) (i : Nat) (w : World) (e : Ending) (w' : World) : Prop :=
 ∃ (x : List UInt8) (n : Int) (ok : Bool), e = .returned (.tuple #[S x, .int .i64 n, .bool ok]) /\ Below w.heap.size w w' /\
  match Jsp.escape (s.drop (i + 1)) with
  | some (y, k) => x = y /\ n = ((i + 1 + k : Nat) : Int) /\ ok = true
  | none => ok = false
theorem EscP.some {s : List UInt8} {i : Nat} {w w' : World} {y : List UInt8} {k : Nat} {E : Option (List UInt8 × Nat)} (hE : Jsp.escape (s.drop (i + 1)) = E) (h : E = some (y, k)) (hb : Below w.heap.size w w') {n : Int} (hn : n = ((i + 1 + k : Nat) : Int)) : EscP s i w (.returned (.tuple #[S y, .int .i64 n, .bool true])) w' :=
 ⟨y, n, true, rfl, hb, by rw [hE, h]; exact ⟨rfl, hn, rfl⟩⟩
theorem EscP.none {s : List UInt8} {i : Nat} {w w' : World} {x : List UInt8} {n : Int} {E : Option (List UInt8 × Nat)} (hE : Jsp.escape (s.drop (i + 1)) = E) (h : E = none) (hb : Below w.heap.size w w') : EscP s i w (.returned (.tuple #[S x, .int .i64 n, .bool false])) w' :=
 ⟨x, n, false, rfl, hb, by rw [hE, h]⟩
theorem rEscape (s : List UInt8) (i : Nat) (w : World) (hi : i < s.length) (h92 : s[i]? = some 92) (hl : s.length <= 1048576) :
  Calls Tryz.prog 154 #[S s, .int .i64 (i : Int)] w (EscP s i w) := by
 obtain ⟨M, hM⟩ : ∃ M, w.heap.size = M := ⟨_, rfl⟩
 have HM := hide hM
 have HB0 : Hid (Below M w w) := by unfold Hid; rw [<- hM]; exact Below.refl _ _
 clear hM
 obtain ⟨r, hr⟩ : ∃ r, Jsp.pt (s.drop (i + 1)) = r := ⟨_, rfl⟩
 obtain ⟨n, hn⟩ : ∃ n, Jsp.pn (s.drop (i + 1)) = n := ⟨_, rfl⟩
 have HP := fun W => rPoint s (i + 1) W hl
 rw [ptV, hr, hn] at HP
 have HP := hide HP
 have HE := hide (Jsp.esc_eq (s.drop (i + 1)))
 have hw1 : wrap64 ((i : Int) + 1) = (i : Int) + 1 := by unfold wrap64; omega
 have hw2 : wrap64 ((i : Int) + 2) = (i : Int) + 2 := by unfold wrap64; omega
 have HR := hide hr
 have HN := hide hn
 have HL := hide hl
 have HI := hide hi
 have H92 := hide h92
 clear hr hn hl hi h92
 go_enter Tryz.func154, Tryz.ntmps154
 go_wp2_with fail
 refine (HP.out _).mono ?_
 rintro e w1 ⟨rfl, hb1⟩
 have HB1 : Hid (Below M w w1) := by unfold Hid; rw [<- HM.out] at *; exact hb1
 clear hb1 HP
 go_wp2_with fail
 go_loopg [9] 6 (fun g s9 wx => ∃ k : Nat, k + g = 6 /\ s9 = .int .i64 (k : Int) /\ Hid ((0 < k -> r ≠ 98) /\ (1 < k -> r ≠ 116) /\ (2 < k -> r ≠ 110) /\ (3 < k -> r ≠ 118) /\ (4 < k -> r ≠ 102) /\ (5 < k -> r ≠ 114)) /\ Hid (Below M w wx))
 case atStart => exact ⟨0, rfl, rfl, by unfold Hid; omega, HB1⟩
 case round =>
  obtain ⟨k, hk, rfl, hR, hbx⟩ := hrel
  have hk7 : k = 0 \/ k = 1 \/ k = 2 \/ k = 3 \/ k = 4 \/ k = 5 \/ k = 6 := by omega
  rcases hk7 with rfl | rfl | rfl | rfl | rfl | rfl | rfl
  ·by_cases h : r = 98
   ·have q : ((r : Int) == 98) = true := ji_t h
    have hE := hide (show Jsp.escape (s.drop (i + 1)) = some ([8], 1) by rw [HE.out, HR.out, h]; rfl)
    clear h HE hR
    go_wp2_with fail
    refine bodyPost_ret (v := .tuple #[S [8], .int .i64 ((i : Int) + 2), .bool true]) (by simp [results, Tryz.results154, go_sem, hw2]) rfl ?_
    exact EscP.some hE.out rfl (by rw [HM.out]; exact hbx.out) (by omega)
   ·have q : ((r : Int) == 98) = false := ji_f h
    have hR2 : Hid ((0 < 1 -> r ≠ 98) /\ (1 < 1 -> r ≠ 116) /\ (2 < 1 -> r ≠ 110) /\ (3 < 1 -> r ≠ 118) /\ (4 < 1 -> r ≠ 102) /\ (5 < 1 -> r ≠ 114)) := by unfold Hid; have := hR.out; omega
    clear h hR
    go_wp2_with fail
    go_roundg (gk - 1)
    case measure => omega
    case rel => exact ⟨1, by omega, rfl, hR2, hbx⟩
  ·by_cases h : r = 116
   ·have q : ((r : Int) == 116) = true := ji_t h
    have hE := hide (show Jsp.escape (s.drop (i + 1)) = some ([9], 1) by rw [HE.out, HR.out, h]; rfl)
    clear h HE hR
    go_wp2_with fail
    refine bodyPost_ret (v := .tuple #[S [9], .int .i64 ((i : Int) + 2), .bool true]) (by simp [results, Tryz.results154, go_sem, hw2]) rfl ?_
    exact EscP.some hE.out rfl (by rw [HM.out]; exact hbx.out) (by omega)
   ·have q : ((r : Int) == 116) = false := ji_f h
    have hR2 : Hid ((0 < 2 -> r ≠ 98) /\ (1 < 2 -> r ≠ 116) /\ (2 < 2 -> r ≠ 110) /\ (3 < 2 -> r ≠ 118) /\ (4 < 2 -> r ≠ 102) /\ (5 < 2 -> r ≠ 114)) := by unfold Hid; have := hR.out; omega
    clear h hR
    go_wp2_with fail
    go_roundg (gk - 1)
    case measure => omega
    case rel => exact ⟨2, by omega, rfl, hR2, hbx⟩
  ·by_cases h : r = 110
   ·have q : ((r : Int) == 110) = true := ji_t h
    have hE := hide (show Jsp.escape (s.drop (i + 1)) = some ([10], 1) by rw [HE.out, HR.out, h]; rfl)
    clear h HE hR
    go_wp2_with fail
    refine bodyPost_ret (v := .tuple #[S [10], .int .i64 ((i : Int) + 2), .bool true]) (by simp [results, Tryz.results154, go_sem, hw2]) rfl ?_
    exact EscP.some hE.out rfl (by rw [HM.out]; exact hbx.out) (by omega)
   ·have q : ((r : Int) == 110) = false := ji_f h
    have hR2 : Hid ((0 < 3 -> r ≠ 98) /\ (1 < 3 -> r ≠ 116) /\ (2 < 3 -> r ≠ 110) /\ (3 < 3 -> r ≠ 118) /\ (4 < 3 -> r ≠ 102) /\ (5 < 3 -> r ≠ 114)) := by unfold Hid; have := hR.out; omega
    clear h hR
    go_wp2_with fail
    go_roundg (gk - 1)
    case measure => omega
    case rel => exact ⟨3, by omega, rfl, hR2, hbx⟩
  ·by_cases h : r = 118
   ·have q : ((r : Int) == 118) = true := ji_t h
    have hE := hide (show Jsp.escape (s.drop (i + 1)) = some ([11], 1) by rw [HE.out, HR.out, h]; rfl)
    clear h HE hR
    go_wp2_with fail
    refine bodyPost_ret (v := .tuple #[S [11], .int .i64 ((i : Int) + 2), .bool true]) (by simp [results, Tryz.results154, go_sem, hw2]) rfl ?_
    exact EscP.some hE.out rfl (by rw [HM.out]; exact hbx.out) (by omega)
   ·have q : ((r : Int) == 118) = false := ji_f h
    have hR2 : Hid ((0 < 4 -> r ≠ 98) /\ (1 < 4 -> r ≠ 116) /\ (2 < 4 -> r ≠ 110) /\ (3 < 4 -> r ≠ 118) /\ (4 < 4 -> r ≠ 102) /\ (5 < 4 -> r ≠ 114)) := by unfold Hid; have := hR.out; omega
    clear h hR
    go_wp2_with fail
    go_roundg (gk - 1)
    case measure => omega
    case rel => exact ⟨4, by omega, rfl, hR2, hbx⟩
  ·by_cases h : r = 102
   ·have q : ((r : Int) == 102) = true := ji_t h
    have hE := hide (show Jsp.escape (s.drop (i + 1)) = some ([12], 1) by rw [HE.out, HR.out, h]; rfl)
    clear h HE hR
    go_wp2_with fail
    refine bodyPost_ret (v := .tuple #[S [12], .int .i64 ((i : Int) + 2), .bool true]) (by simp [results, Tryz.results154, go_sem, hw2]) rfl ?_
    exact EscP.some hE.out rfl (by rw [HM.out]; exact hbx.out) (by omega)
   ·have q : ((r : Int) == 102) = false := ji_f h
    have hR2 : Hid ((0 < 5 -> r ≠ 98) /\ (1 < 5 -> r ≠ 116) /\ (2 < 5 -> r ≠ 110) /\ (3 < 5 -> r ≠ 118) /\ (4 < 5 -> r ≠ 102) /\ (5 < 5 -> r ≠ 114)) := by unfold Hid; have := hR.out; omega
    clear h hR
    go_wp2_with fail
    go_roundg (gk - 1)
    case measure => omega
    case rel => exact ⟨5, by omega, rfl, hR2, hbx⟩
  ·by_cases h : r = 114
   ·have q : ((r : Int) == 114) = true := ji_t h
    have hE := hide (show Jsp.escape (s.drop (i + 1)) = some ([13], 1) by rw [HE.out, HR.out, h]; rfl)
    clear h HE hR
    go_wp2_with fail
    refine bodyPost_ret (v := .tuple #[S [13], .int .i64 ((i : Int) + 2), .bool true]) (by simp [results, Tryz.results154, go_sem, hw2]) rfl ?_
    exact EscP.some hE.out rfl (by rw [HM.out]; exact hbx.out) (by omega)
   ·have q : ((r : Int) == 114) = false := ji_f h
    have hR2 : Hid ((0 < 6 -> r ≠ 98) /\ (1 < 6 -> r ≠ 116) /\ (2 < 6 -> r ≠ 110) /\ (3 < 6 -> r ≠ 118) /\ (4 < 6 -> r ≠ 102) /\ (5 < 6 -> r ≠ 114)) := by unfold Hid; have := hR.out; omega
    clear h hR
    go_wp2_with fail
    go_roundg (gk - 1)
    case measure => omega
    case rel => exact ⟨6, by omega, rfl, hR2, hbx⟩
  ·have hLR : Jsp.letterR r = none := by
    have := hR.out
    unfold Jsp.letterR
    rw [if_neg (by omega), if_neg (by omega), if_neg (by omega), if_neg (by omega), if_neg (by omega), if_neg (by omega)]
   have hE2 := HE.out
   rw [HR.out, hLR] at hE2
   simp only at hE2
   rw [HN.out, List.drop_drop] at hE2
   obtain ⟨m, hm⟩ : ∃ m, Jsp.pn (s.drop (i + 2)) = m := ⟨_, rfl⟩
   obtain ⟨x, hx⟩ : ∃ x, Jsp.pt (s.drop (i + 2)) = x := ⟨_, rfl⟩
   rw [show i + 1 + 1 = i + 2 from rfl, hx] at hE2
   have HP2 := fun W => rPoint s (i + 2) W HL.out
   rw [ptV, hx, hm] at HP2
   have HP2 := hide HP2
   obtain ⟨E, hE⟩ : ∃ E, Jsp.escape (s.drop (i + 1)) = E := ⟨_, rfl⟩
   rw [hE] at hE2
   have HE1 := hide hE
   have HE2 := hide hE2
   have hbs : Hid (M <= wr.heap.size) := by unfold Hid; have := hbx.out.size; rw [<- HM.out]; exact this
   clear hLR hE2 hm hx hE HE hR
   go_wp2_with fail
   refine (HP2.out _).mono ?_
   rintro e w2 ⟨rfl, hb2⟩
   have HB2 : Hid (Below M w w2) := hbx.out.trans (hb2.mono hbs.out)
   have hb2s : Hid (M <= w2.heap.size) := Nat.le_trans hbs.out hb2.size
   clear hb2 HP2
   by_cases c1 : r = 120
   ·have q1 : ((r : Int) == 120) = true := ji_t c1
    have hE3 := HE2.out
    rw [if_pos c1] at hE3
    have hz := Jsp.hexZ_of s (i + 2) 2
    obtain ⟨V, hV⟩ : ∃ V, Jsp.hexZ s (i + 2) (i + 2 + 2) = V := ⟨_, rfl⟩
    have HXN := fun W => rHexN s (i + 2) (i + 2 + 2) W (by omega) (by omega) HL.out
    rw [hV] at HXN hz
    have HXN := hide HXN
    have hil := HI.out
    have hll := HL.out
    have hw4 : wrap64 ((i : Int) + 4) = (i : Int) + 4 := by unfold wrap64; omega
    cases hq : Jsp.hexOf (s.drop (i + 2)) 2 with
    | none =>
     rw [hq] at hE3 hz
     simp only at hE3 hz
     have HE3 := hide hE3
     subst hz
     clear HE2 hE3 hV hil hll c1 hq
     go_wp2_with fail
     refine (HXN.out _).mono ?_
     rintro e w3 ⟨rfl, rfl⟩
     go_wp2_with fail
     refine (rBytesNeg _).mono ?_
     rintro e w3 ⟨y, rfl, hb3⟩
     have HB3 : Hid (Below M w w3) := HB2.out.trans (hb3.mono hb2s.out)
     clear hb3
     go_wp2_with fail
     refine bodyPost_ret (v := .tuple #[S y, .int .i64 ((i : Int) + 4), .bool false]) (by simp [results, Tryz.results154, go_sem, hw4]) rfl ?_
     exact EscP.none HE1.out HE3.out (by rw [HM.out]; exact HB3.out)
    | some v =>
     rw [hq] at hE3 hz
     simp only at hE3 hz
     have HE3 := hide hE3
     have hv := Jsp.hexOf2 hq
     obtain ⟨g1, g2, g3, hw5, q7⟩ := Jsp.hx_facts hv
     have HBZ := fun W => rBytesZ (v : Int) W g1 g2 g3
     clear g1 g2 g3
     rw [<- hz] at HBZ hw5 q7
     have HBZ := hide HBZ
     have HZ := hide hz
     clear HE2 hE3 hV hil hll c1 hq hv hz
     go_wp2_with fail
     refine (HXN.out _).mono ?_
     rintro e w3 ⟨rfl, rfl⟩
     go_wp2_with fail
     refine (HBZ.out _).mono ?_
     rintro e w3 ⟨rfl, hb3⟩
     have HB3 : Hid (Below M w w3) := HB2.out.trans (hb3.mono hb2s.out)
     clear hb3
     go_wp2_with fail
     refine bodyPost_ret (v := .tuple #[S (Lib.encodeRune V), .int .i64 ((i : Int) + 4), .bool true]) (by simp [results, Tryz.results154, go_sem, hw4]) rfl ?_
     rw [HZ.out]
     exact EscP.some HE1.out HE3.out (by rw [HM.out]; exact HB3.out) (by omega)
   by_cases c2 : r = 117
   ·have q1 : ((r : Int) == 120) = false := ji_f c1
    have q2 : ((r : Int) == 117) = true := ji_t c2
    have hE3 := HE2.out
    rw [if_neg c1, if_pos c2] at hE3
    have hpre := Jsp.pre_u H92.out (HR.out.trans c2)
    have HU0 := fun W => rUnit s i W (Nat.le_of_lt HI.out) HL.out
    have hz := Jsp.unitR_eq s i
    obtain ⟨U, hU⟩ : ∃ U, Jsp.unitR s i = U := ⟨_, rfl⟩
    rw [hU] at hz
    simp only [hU] at HU0
    cases hq : Jsp.unitZ s i with
    | none =>
     rw [hq] at hz
     obtain ⟨u1, u2⟩ := U
     simp only at hz HU0
     subst hz
     rw [Jsp.uni_none hq hpre] at hE3
     have HE3 := hide hE3
     have HU := hide HU0
     clear HE2 hE3 c1 c2 hpre HU0 hU hq
     go_wp2_with fail
     refine (HU.out _).mono ?_
     rintro e w3 ⟨rfl, rfl⟩
     go_wp2_with fail
     refine bodyPost_ret (v := .tuple #[S [], .int .i64 (i : Int), .bool false]) (by simp [results, Tryz.results154, go_sem]) rfl ?_
     exact EscP.none HE1.out HE3.out (by rw [HM.out]; exact HB2.out)
    | some p =>
     obtain ⟨v, k⟩ := p
     rw [hq] at hz
     simp only at hz
     subst hz
     obtain ⟨hv, hk⟩ := Jsp.unitZ_le hq
     rw [Jsp.uni_some hq] at hE3
     obtain ⟨T, hT⟩ : ∃ T, i + 1 + k = T := ⟨_, rfl⟩
     simp only [hT] at HU0
     rw [hT] at hE3 hk
     have HU := hide HU0
     have HT := hide hT
     have q3 : decide ((v : Int) < 0) = false := decide_eq_false (by omega)
     by_cases d1 : 55296 <= v /\ v < 56320
     ·have q4 : decide ((55296 : Int) <= (v : Int)) = true := decide_eq_true (by omega)
      have q5 : decide ((v : Int) <= 56319) = true := decide_eq_true (by omega)
      have q6 : decide ((v : Int) <= 57343) = true := decide_eq_true (by omega)
      have hbad := hide (Jsp.chr_bad (v := v) (by omega))
      have HU1 := fun W => rUnit s T W hk HL.out
      have hz := Jsp.unitR_eq s T
      obtain ⟨U2, hU2⟩ : ∃ U, Jsp.unitR s T = U := ⟨_, rfl⟩
      rw [hU2] at hz
      simp only [hU2] at HU1
      rw [if_pos d1] at hE3
      cases hq2 : Jsp.unitZ s T with
      | none =>
       rw [hq2] at hz hE3
       obtain ⟨u1, u2⟩ := U2
       simp only at hz HU1 hE3
       subst hz
       rw [hbad.out] at hE3
       have HE3 := hide hE3
       have HU2 := hide HU1
       clear HE2 hE3 c1 c2 hpre HU0 hU hq HU1 hU2 hq2 hT d1 hv hk
       go_wp2_with fail
       refine (HU.out _).mono ?_
       rintro e w3 ⟨rfl, rfl⟩
       go_wp2_with fail
       refine (HU2.out _).mono ?_
       rintro e w3 ⟨rfl, rfl⟩
       go_wp2_with fail
       refine bodyPost_ret (v := .tuple #[S [239, 191, 189], .int .i64 (T : Int), .bool true]) (by simp [results, Tryz.results154, go_sem]) rfl ?_
       exact EscP.some HE1.out HE3.out (by rw [HM.out]; exact HB2.out) (by rw [HT.out])
      | some p2 =>
       obtain ⟨x2, k2⟩ := p2
       rw [hq2] at hz hE3
       simp only at hz hE3
       subst hz
       obtain ⟨hv2, hk2⟩ := Jsp.unitZ_le hq2
       by_cases d2 : 56320 <= x2 /\ x2 < 57344
       ·rw [if_pos d2] at hE3
        obtain ⟨p, hp, p1, p2, p3, p4, p5, p6⟩ := Jsp.pair_facts d1 d2
        rw [hp] at hE3
        have q7 : decide ((56320 : Int) <= (x2 : Int)) = true := decide_eq_true (by omega)
        have q8 : decide ((x2 : Int) <= 57343) = true := decide_eq_true (by omega)
        obtain ⟨T2, hT2⟩ : ∃ T2, T + 1 + k2 = T2 := ⟨_, rfl⟩
        simp only [hT2] at HU1
        have HT2 := hide (show i + 1 + (k + 1 + k2) = T2 by omega)
        have HU2 := hide HU1
        have HE3 := hide hE3
        have HBZ := hide (fun W => rBytesZ (p : Int) W p3 p1 (.inr p2))
        clear HE2 hE3 c1 c2 hpre HU0 hU hq HU1 hU2 hq2 hT d1 hv hk d2 hv2 hk2 p1 p2 p3 hp hT2
        go_wp2_with fail
        refine (HU.out _).mono ?_
        rintro e w3 ⟨rfl, rfl⟩
        go_wp2_with fail
        refine (HU2.out _).mono ?_
        rintro e w3 ⟨rfl, rfl⟩
        go_wp2_with fail
        refine (HBZ.out _).mono ?_
        rintro e w3 ⟨rfl, hb3⟩
        have HB3 : Hid (Below M w w3) := HB2.out.trans (hb3.mono hb2s.out)
        clear hb3
        go_wp2_with fail
        refine bodyPost_ret (v := .tuple #[S (Lib.encodeRune (p : Int)), .int .i64 (T2 : Int), .bool true]) (by simp [results, Tryz.results154, go_sem]) rfl ?_
        exact EscP.some HE1.out HE3.out (by rw [HM.out]; exact HB3.out) (by rw [HT2.out])
       ·rw [if_neg d2] at hE3
        have q7 : (decide ((56320 : Int) <= (x2 : Int)) && decide ((x2 : Int) <= 57343)) = false := by rw [Bool.and_eq_false_iff]; simp only [decide_eq_false_iff_not]; omega
        have HU2 := hide HU1
        rw [hbad.out] at hE3
        have HE3 := hide hE3
        clear HE2 hE3 c1 c2 hpre HU0 hU hq HU1 hU2 hq2 hT d1 hv hk hv2 hk2
        by_cases d3 : 56320 <= x2
        ·have q8 : decide ((56320 : Int) <= (x2 : Int)) = true := decide_eq_true (by omega)
         have q9 : decide ((x2 : Int) <= 57343) = false := decide_eq_false (by omega)
         clear q7 d2 d3
         go_wp2_with fail
         refine (HU.out _).mono ?_
         rintro e w3 ⟨rfl, rfl⟩
         go_wp2_with fail
         refine (HU2.out _).mono ?_
         rintro e w3 ⟨rfl, rfl⟩
         go_wp2_with fail
         refine bodyPost_ret (v := .tuple #[S [239, 191, 189], .int .i64 (T : Int), .bool true]) (by simp [results, Tryz.results154, go_sem]) rfl ?_
         exact EscP.some HE1.out HE3.out (by rw [HM.out]; exact HB2.out) (by rw [HT.out])
        ·have q8 : decide ((56320 : Int) <= (x2 : Int)) = false := decide_eq_false (by omega)
         clear q7 d2 d3
         go_wp2_with fail
         refine (HU.out _).mono ?_
         rintro e w3 ⟨rfl, rfl⟩
         go_wp2_with fail
         refine (HU2.out _).mono ?_
         rintro e w3 ⟨rfl, rfl⟩
         go_wp2_with fail
         refine bodyPost_ret (v := .tuple #[S [239, 191, 189], .int .i64 (T : Int), .bool true]) (by simp [results, Tryz.results154, go_sem]) rfl ?_
         exact EscP.some HE1.out HE3.out (by rw [HM.out]; exact HB2.out) (by rw [HT.out])
     ·rw [if_neg d1] at hE3
      by_cases d2 : 56320 <= v /\ v < 57344
      ·have q4 : decide ((55296 : Int) <= (v : Int)) = true := decide_eq_true (by omega)
       have q5 : decide ((v : Int) <= 56319) = false := decide_eq_false (by omega)
       have q6 : decide ((v : Int) <= 57343) = true := decide_eq_true (by omega)
       rw [Jsp.chr_bad (v := v) (by omega)] at hE3
       have HE3 := hide hE3
       clear HE2 hE3 c1 c2 hpre HU0 hU hq hT d1 hv hk d2
       go_wp2_with fail
       refine (HU.out _).mono ?_
       rintro e w3 ⟨rfl, rfl⟩
       go_wp2_with fail
       refine bodyPost_ret (v := .tuple #[S [239, 191, 189], .int .i64 (T : Int), .bool true]) (by simp [results, Tryz.results154, go_sem]) rfl ?_
       exact EscP.some HE1.out HE3.out (by rw [HM.out]; exact HB2.out) (by rw [HT.out])
      ·have hw32 := Jsp.w32_small hv
       have HBZ := hide (fun W => rBytesZ (v : Int) W (by omega) (by omega) (by omega))
       have HE3 := hide hE3
       clear HE2 hE3 c1 c2 hpre HU0 hU hq hT hv hk
       by_cases d3 : 55296 <= v
       ·have q4 : decide ((55296 : Int) <= (v : Int)) = true := decide_eq_true (by omega)
        have q5 : decide ((v : Int) <= 56319) = false := decide_eq_false (by omega)
        have q6 : decide ((v : Int) <= 57343) = false := decide_eq_false (by omega)
        clear d1 d2 d3
        go_wp2_with fail
        refine (HU.out _).mono ?_
        rintro e w3 ⟨rfl, rfl⟩
        go_wp2_with fail
        refine (HBZ.out _).mono ?_
        rintro e w3 ⟨rfl, hb3⟩
        have HB3 : Hid (Below M w w3) := HB2.out.trans (hb3.mono hb2s.out)
        clear hb3
        go_wp2_with fail
        refine bodyPost_ret (v := .tuple #[S (Lib.encodeRune (v : Int)), .int .i64 (T : Int), .bool true]) (by simp [results, Tryz.results154, go_sem]) rfl ?_
        exact EscP.some HE1.out HE3.out (by rw [HM.out]; exact HB3.out) (by rw [HT.out])
       ·have q4 : decide ((55296 : Int) <= (v : Int)) = false := decide_eq_false (by omega)
        clear d1 d2 d3
        go_wp2_with fail
        refine (HU.out _).mono ?_
        rintro e w3 ⟨rfl, rfl⟩
        go_wp2_with fail
        refine (HBZ.out _).mono ?_
        rintro e w3 ⟨rfl, hb3⟩
        have HB3 : Hid (Below M w w3) := HB2.out.trans (hb3.mono hb2s.out)
        clear hb3
        go_wp2_with fail
        refine bodyPost_ret (v := .tuple #[S (Lib.encodeRune (v : Int)), .int .i64 (T : Int), .bool true]) (by simp [results, Tryz.results154, go_sem]) rfl ?_
        exact EscP.some HE1.out HE3.out (by rw [HM.out]; exact HB3.out) (by rw [HT.out])
   have q1 : ((r : Int) == 120) = false := ji_f c1
   have q2 : ((r : Int) == 117) = false := ji_f c2
   have hE3 := HE2.out
   rw [if_neg c1, if_neg c2] at hE3
   have HE3 := hide hE3
   clear HE2 hE3 c1 c2
   by_cases c3 : r = 48
   ·have q3 : ((r : Int) == 48) = true := ji_t c3
    have hdg : Jsp.digit r = true := by rw [c3]; rfl
    cases hdx : Jsp.digit x
    ·have hE4 := HE3.out
     rw [if_pos ⟨c3, hdx⟩] at hE4
     have HE4 := hide hE4
     clear HE3 hE4 c3 hdg
     go_wp2_with fail
     refine (rDig x _).mono ?_
     rintro e w3 ⟨rfl, rfl⟩
     go_wp2_with fail
     refine bodyPost_ret (v := .tuple #[S [0], .int .i64 ((i : Int) + 2), .bool true]) (by simp [results, Tryz.results154, go_sem]) rfl ?_
     exact EscP.some HE1.out HE4.out (by rw [HM.out]; exact HB2.out) (by omega)
    ·have hE4 := HE3.out
     rw [if_neg (by rw [hdx]; simp), if_pos hdg] at hE4
     have HE4 := hide hE4
     clear HE3 hE4 c3 hdg
     go_wp2_with fail
     refine (rDig x _).mono ?_
     rintro e w3 ⟨rfl, rfl⟩
     go_wp2_with fail
     refine bodyPost_ret (v := .tuple #[S [0], .int .i64 ((i : Int) + 2), .bool false]) (by simp [results, Tryz.results154, go_sem]) rfl ?_
     exact EscP.none HE1.out HE4.out (by rw [HM.out]; exact HB2.out)
   have q3 : ((r : Int) == 48) = false := ji_f c3
   have hE4 := HE3.out
   rw [if_neg (fun h => c3 h.1)] at hE4
   have HE4 := hide hE4
   clear HE3 hE4 c3
   cases hdg : Jsp.digit r
   rotate_left
   ·have hE5 := HE4.out
    rw [if_pos hdg] at hE5
    have HE5 := hide hE5
    clear HE4 hE5
    go_wp2_with fail
    refine (rDig r _).mono ?_
    rintro e w3 ⟨rfl, rfl⟩
    go_wp2_with fail
    refine bodyPost_ret (v := .tuple #[S [], .int .i64 (i : Int), .bool false]) (by simp [results, Tryz.results154, go_sem]) rfl ?_
    exact EscP.none HE1.out HE5.out (by rw [HM.out]; exact HB2.out)
   have hE5 := HE4.out
   rw [if_neg (by rw [hdg]; simp)] at hE5
   have HE5 := hide hE5
   have hnl := Jsp.pn_len (s.drop (i + 1))
   rw [HN.out, List.length_drop] at hnl
   have hil := HI.out
   have hll := HL.out
   have hw3 : wrap64 ((i : Int) + 3) = (i : Int) + 3 := by unfold wrap64; omega
   have hwn : wrap64 ((i : Int) + 1 + (n : Int)) = (i : Int) + 1 + (n : Int) := by unfold wrap64; omega
   have b0 : (0 : Int) <= (i : Int) + 1 := by omega
   have b1 : (i : Int) + 1 <= (i : Int) + 1 + (n : Int) := by omega
   have b2 : (i : Int) + 1 + (n : Int) <= (s.length : Int) := by omega
   have b3 : ((i : Int) + 1).toNat = i + 1 := by omega
   have b4 : ((i : Int) + 1 + (n : Int)).toNat - (i + 1) = n := by omega
   clear HE4 hE5 hnl hil hll
   by_cases c5 : r = 13
   ·have q5 : ((r : Int) == 13) = true := ji_t c5
    have hle : Jsp.lineEnd r = true := by rw [c5]; rfl
    by_cases c6 : x = 10
    ·have q6 : ((x : Int) == 10) = true := ji_t c6
     have hE6 := HE5.out
     rw [if_pos ⟨c5, c6⟩] at hE6
     have HE6 := hide hE6
     clear HE5 hE6 c5 c6 hle
     go_wp2_with fail
     refine (rDig r _).mono ?_
     rintro e w3 ⟨rfl, rfl⟩
     go_wp2_with fail
     refine bodyPost_ret (v := .tuple #[S [], .int .i64 ((i : Int) + 3), .bool true]) (by simp [results, Tryz.results154, go_sem, hw3]) rfl ?_
     exact EscP.some HE1.out HE6.out (by rw [HM.out]; exact HB2.out) (by omega)
    ·have q6 : ((x : Int) == 10) = false := ji_f c6
     have hE6 := HE5.out
     rw [if_neg (fun h => c6 h.2), if_pos hle] at hE6
     have HE6 := hide hE6
     clear HE5 hE6 c5 c6
     go_wp2_with fail
     refine (rDig r _).mono ?_
     rintro e w3 ⟨rfl, rfl⟩
     go_wp2_with fail
     refine (rLineEnd r _).mono ?_
     rintro e w3 ⟨rfl, rfl⟩
     go_wp2_with fail
     refine bodyPost_ret (v := .tuple #[S [], .int .i64 ((i : Int) + 1 + (n : Int)), .bool true]) (by simp [results, Tryz.results154, go_sem, hwn]) rfl ?_
     exact EscP.some HE1.out HE6.out (by rw [HM.out]; exact HB2.out) (by omega)
   have q5 : ((r : Int) == 13) = false := ji_f c5
   have hE6 := HE5.out
   rw [if_neg (fun h => c5 h.1)] at hE6
   have HE6 := hide hE6
   clear HE5 hE6 c5
   cases hle : Jsp.lineEnd r
   ·have hE7 := HE6.out
    rw [if_neg (by rw [hle]; simp)] at hE7
    have HE7 := hide hE7
    clear HE6 hE7
    go_wp2_with fail
    refine (rDig r _).mono ?_
    rintro e w3 ⟨rfl, rfl⟩
    go_wp2_with fail
    refine (rLineEnd r _).mono ?_
    rintro e w3 ⟨rfl, rfl⟩
    go_wp2_with fail
    refine bodyPost_ret (v := .tuple #[S ((s.drop (i + 1)).take n), .int .i64 ((i : Int) + 1 + (n : Int)), .bool true]) (by simp [results, Tryz.results154, go_sem, hwn]) rfl ?_
    exact EscP.some HE1.out HE7.out (by rw [HM.out]; exact HB2.out) (by omega)
   ·have hE7 := HE6.out
    rw [if_pos hle] at hE7
    have HE7 := hide hE7
    clear HE6 hE7
    go_wp2_with fail
    refine (rDig r _).mono ?_
    rintro e w3 ⟨rfl, rfl⟩
    go_wp2_with fail
    refine (rLineEnd r _).mono ?_
    rintro e w3 ⟨rfl, rfl⟩
    go_wp2_with fail
    refine bodyPost_ret (v := .tuple #[S [], .int .i64 ((i : Int) + 1 + (n : Int)), .bool true]) (by simp [results, Tryz.results154, go_sem, hwn]) rfl ?_
    exact EscP.some HE1.out HE7.out (by rw [HM.out]; exact HB2.out) (by omega)
end Go.Proofs.YtngccmlcopcghaaGreatDoor
