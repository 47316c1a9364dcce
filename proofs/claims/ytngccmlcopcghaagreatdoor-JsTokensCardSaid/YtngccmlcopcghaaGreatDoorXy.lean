/- The reference's number without a base of its own. -/
import Derived.Test.YtngccmlcopcghaaGreatDoorXv
set_option maxRecDepth 100000
set_option maxHeartbeats 8000000
namespace Go.Proofs.YtngccmlcopcghaaGreatDoor
open Go.RowKit
theorem rNumberD (s : List UInt8) (k : Nat) (w : World) (hD : ¬ Jsp.hexed s k) (hk : k < s.length) (hl : s.length <= 1048570) : Calls Tryz.prog 125 #[S s, .int .i64 (k : Int)] w (NumP s k w) := by
 obtain ⟨z, hz⟩ : ∃ z, s[k] = z := ⟨_, rfl⟩
 have hzb := u8_lt z
 have k0 : (0 : Int) <= (k : Int) := by omega
 have k1 : (k : Int) < (s.length : Int) := by omega
 have hdk : s.drop k = z :: s.drop (k + 1) := by rw [List.drop_eq_getElem_cons hk, hz]
 have h48 : Jsp.isB (· == 48) (s.drop k) = (z == 48) := by rw [hdk]; rfl
 have h46 : Jsp.isB (· == 46) (s.drop k) = (z == 46) := by rw [hdk]; rfl
 have H48 := hide h48
 have H46 := hide h46
 have HL := hide hl
 have HD0 := hide hD
 clear hD
 have hkw1 : wrap64 ((k : Int) + 1) = (k : Int) + 1 := wv (m := 1) (Nat.le_of_lt hk) (by omega) (by decide)
 have hkw2 : wrap64 ((k : Int) + 2) = (k : Int) + 2 := wv (m := 2) (Nat.le_of_lt hk) (by omega) (by decide)
 have k2 : (0 : Int) <= (k : Int) + 1 := by omega
 have k3 : (k : Int) + 1 <= (k : Int) + 2 := by omega
 have k4 : ((k : Int) + 2).toNat - (k + 1) = 1 := by omega
 have k5 : ((k : Int) + 1).toNat = k + 1 := by omega
 clear hdk h48 h46 hl
 obtain ⟨V, hV⟩ : ∃ V : Bool, decide (k + 1 < s.length /\ z = 48) = V := ⟨_, rfl⟩
 have HVV := hide hV
 go_enter Tryz.func125, Tryz.ntmps125
 go_upto_region 2 with (fail)
 go_cut [22] from 12 (fun s22 wx => s22 = .bool V /\ w = wx)
 case first =>
  by_cases hlt : k + 1 < s.length
  ·have b1 : (k : Int) + 1 < (s.length : Int) := by omega
   have b1d : decide ((k : Int) + 1 < (s.length : Int)) = true := decide_eq_true b1
   by_cases c48 : z = 48
   ·have q48 : ((z.toNat : Int) == 48) = true := u8t c48
    obtain rfl : V = true := by rw [<- hV]; exact decide_eq_true ⟨hlt, c48⟩
    clear hV c48
    go_wp2_with fail
    go_meet
    case rel => exact ⟨rfl, rfl⟩
   ·have q48 : ((z.toNat : Int) == 48) = false := u8f c48
    obtain rfl : V = false := by rw [<- hV]; exact decide_eq_false (fun h => c48 h.2)
    clear hV c48
    go_wp2_with fail
    go_meet
    case rel => exact ⟨rfl, rfl⟩
  ·have b1 : ¬ (k : Int) + 1 < (s.length : Int) := by omega
   have b1d : decide ((k : Int) + 1 < (s.length : Int)) = false := decide_eq_false b1
   obtain rfl : V = false := by rw [<- hV]; exact decide_eq_false (fun h => hlt h.1)
   clear hV
   go_wp2_with fail
   go_meet
   case rel => exact ⟨rfl, rfl⟩
 case rest =>
  obtain ⟨rfl, rfl⟩ := hcut
  clear hV
  go_upto_if 22 with (fail)
  go_cut [6] from 23 (fun s6 wx => ∃ l : UInt8, s6 = .int .u8 l.toNat /\ Hid ((Jsp.hexed s k /\ ∃ c, s[k + 1]? = some c /\ l = Jsp.lowR c) \/ (¬ Jsp.hexed s k /\ l ≠ 120 /\ l ≠ 111 /\ l ≠ 98)) /\ Hid (Below w.heap.size w wx))
  case first =>
   cases V
   ·have hnh : ¬ Jsp.hexed s k := fun h => by
     have h1 : z = 48 := by have := h.1; rw [H48.out] at this; simpa using this
     exact absurd (decide_eq_true (p := k + 1 < s.length /\ z = 48) ⟨Jsp.isIn_lt h.2, h1⟩) (by rw [HVV.out]; decide)
    have HNH := hide hnh
    clear hnh
    go_wp2_with fail
    go_meet
    case rel => exact ⟨0, rfl, .inr ⟨HNH.out, by decide, by decide, by decide⟩, Below.refl _ _⟩
   ·obtain ⟨hlt, h48⟩ := of_decide_eq_true HVV.out
    obtain ⟨c, hc⟩ : ∃ c, s[k + 1] = c := ⟨_, rfl⟩
    have hsl : (s.drop (k + 1)).take 1 = [c] := by rw [List.drop_eq_getElem_cons hlt, hc]; rfl
    have hg : s[k + 1]? = some c := by rw [List.getElem?_eq_getElem hlt, hc]
    have k6 : (k : Int) + 2 <= (s.length : Int) := by omega
    have HLO := hide (fun W => rLower1 c W)
    have h0 : ([Jsp.lowR c] : List UInt8)[0] = Jsp.lowR c := rfl
    have hway : (Jsp.hexed s k /\ ∃ d, s[k + 1]? = some d /\ Jsp.lowR c = Jsp.lowR d) \/ (¬ Jsp.hexed s k /\ Jsp.lowR c ≠ 120 /\ Jsp.lowR c ≠ 111 /\ Jsp.lowR c ≠ 98) := by
     have hb := Jsp.isIn_base s (k + 1) c hg
     obtain ⟨l1, l2, l3, l4⟩ := Jsp.low_base c
     by_cases hx : Jsp.hexed s k
     ·exact .inl ⟨hx, c, hg, rfl⟩
     ·refine .inr ⟨hx, ?_⟩
      have h0 : Jsp.baseOf c = 0 := by
       apply Classical.byContradiction
       intro hne
       exact hx ⟨by rw [H48.out, h48]; rfl, by rw [hb]; simpa using hne⟩
      refine ⟨fun e => ?_, fun e => ?_, fun e => ?_⟩
      ·rw [l1 e] at h0; exact absurd h0 (by decide)
      ·rw [l2 e] at h0; exact absurd h0 (by decide)
      ·rw [l3 e] at h0; exact absurd h0 (by decide)
    have HWAY := hide hway
    clear hway hg h48 hc hlt
    go_wp2_with fail
    refine (HLO.out _).mono ?_
    rintro e w2 ⟨rfl, hb2⟩
    have HB2 := hide hb2
    clear hb2
    go_wp2_with fail
    go_meet
    case rel => exact ⟨_, rfl, HWAY.out, HB2.out⟩
  case rest =>
   obtain ⟨l, rfl, hway, hb⟩ := hcut
   have hlb := u8_lt l
   clear HVV k2 k3 k4 k5
   rcases hway.out with ⟨hx, c, hg, hlc⟩ | ⟨hnx, n120, n111, n98⟩
   ·exact absurd hx HD0.out
   have q120 : ((l.toNat : Int) == 120) = false := u8f n120
   have q111 : ((l.toNat : Int) == 111) = false := u8f n111
   have q98 : ((l.toNat : Int) == 98) = false := u8f n98
   have HNX := hide hnx
   clear hway hnx n120 n111 n98
   go_upto_if 69 with (fail)
   obtain ⟨G, hG⟩ : ∃ G, ((z.toNat : Int) != 46) = G := ⟨_, rfl⟩
   rw [hG]
   have HG := hide hG
   clear hG
   go_cut [1, 11] from 70 (fun s1 s11 wx => ∃ n : Nat, s1 = .int .i64 (n : Int) /\ s11 = .bool true /\ wc = wx /\ Hid (n <= s.length /\ Jsp.numA s k = Jsp.numC s n))
   case first =>
    cases G
    ·have z46 : z = 46 := u8_inj (by have h := HG.out; simpa using h)
     have HR := hide (show k <= s.length /\ Jsp.numA s k = Jsp.numC s k from ⟨Nat.le_of_lt hk, Jsp.numA_dot (by rw [H46.out, z46]; rfl)⟩)
     clear z46
     go_wp2_with fail
     go_meet
     case rel => exact ⟨k, rfl, rfl, rfl, HR.out⟩
    have z46 : ¬ z = 46 := fun e => by
     have h := HG.out
     rw [e] at h
     cases h
    have h46f : Jsp.isB (· == 46) (s.drop k) = false := by rw [H46.out, beq_eq_false_iff_ne]; exact z46
    obtain ⟨d1, d2, hd⟩ : ∃ d1 d2, Jsp.digits 10 (s.drop k) = (d1, d2) := ⟨_, _, rfl⟩
    obtain ⟨n, hn⟩ : ∃ n, k + d1 = n := ⟨_, rfl⟩
    have hnl : n <= s.length := by
     have := Jsp.digits_bound 10 s k (Nat.le_of_lt hk)
     rw [hd] at this
     simp only at this
     omega
    have HD := hide (fun W => rDig1 s k 10 hd hn W (Nat.le_of_lt hk) (Nat.le_trans HL.out (by decide)))
    obtain ⟨U, hU⟩ : ∃ U : Bool, decide (d2 = false \/ (z = 48 /\ 1 < d1)) = U := ⟨_, rfl⟩
    have hbad : U = true -> Jsp.numA s k = (n, false) := fun h => by
     rw [<- hn]
     refine Jsp.numA_bad HNX.out h46f hd ?_
     rw [<- hU] at h
     rcases of_decide_eq_true h with h | ⟨h1, h2⟩
     ·exact .inl h
     ·exact .inr ⟨by rw [H48.out, h1]; rfl, h2⟩
    have hgood : U = false -> ¬ (d2 = false \/ (Jsp.isB (· == 48) (s.drop k) = true /\ 1 < d1)) := fun h h2 => by
     rw [<- hU] at h
     refine of_decide_eq_false h ?_
     rcases h2 with h2 | ⟨h1, h2⟩
     ·exact .inl h2
     ·exact .inr ⟨by rw [H48.out] at h1; simpa using h1, h2⟩
    have hn1 : U = false -> Jsp.isIn [110] s n = true -> Jsp.numA s k = (n + 1, true) := fun h h2 => by
     rw [<- hn] at h2 ⊢
     exact Jsp.numA_n HNX.out h46f hd (hgood h) h2
    have hn0 : U = false -> Jsp.isIn [110] s n = false -> Jsp.numA s k = Jsp.numC s n := fun h h2 => by
     rw [<- hn] at h2 ⊢
     exact Jsp.numA_C HNX.out h46f hd (hgood h) h2
    have hd2 : U = false -> d2 = true := fun h => by
     cases d2
     ·exact absurd (.inl rfl) (hgood h)
     ·rfl
    have HD2 := hide hd2
    have HBAD := hide hbad
    have HN1 := hide hn1
    have HN0 := hide hn0
    have HNL := hide hnl
    have HUU := hide hU
    have hnk : (decide (1 < d1) = true -> decide ((k : Int) + 1 < (n : Int)) = true) /\ (decide (1 < d1) = false -> decide ((k : Int) + 1 < (n : Int)) = false) := by
     simp only [decide_eq_true_eq, decide_eq_false_iff_not]; omega
    have HNK := hide hnk
    clear h46f hd hn hnl hU hbad hgood hn1 hn0 z46 hnk hd2
    go_wp2_with fail
    refine (HD.out _).mono ?_
    rintro e w2 ⟨rfl, rfl⟩
    go_upto_region 21 with (fail)
    go_cut [89] from 76 (fun s89 wx => s89 = .bool U /\ wc = wx)
    case first =>
     cases d2
     ·have HV : Hid (U = true) := by unfold Hid; rw [<- HUU.out]; exact decide_eq_true (.inl rfl)
      go_wp2_with fail
      go_meet
      case rel => exact ⟨congrArg Value.bool HV.out.symm, rfl⟩
     ·by_cases z48 : z = 48
      ·have q48 : ((z.toNat : Int) == 48) = true := u8t z48
       cases hd1 : decide (1 < d1)
       ·have qn := HNK.out.2 hd1
        have HV : Hid (U = false) := by
         unfold Hid; rw [<- HUU.out]
         refine decide_eq_false (fun h => ?_)
         rcases h with h | h
         ·cases h
         ·exact of_decide_eq_false hd1 h.2
        clear z48 hd1
        go_wp2_with fail
        go_meet
        case rel => exact ⟨congrArg Value.bool HV.out.symm, rfl⟩
       ·have qn := HNK.out.1 hd1
        have HV : Hid (U = true) := by
         unfold Hid; rw [<- HUU.out]
         exact decide_eq_true (.inr ⟨z48, of_decide_eq_true hd1⟩)
        clear z48 hd1
        go_wp2_with fail
        go_meet
        case rel => exact ⟨congrArg Value.bool HV.out.symm, rfl⟩
      ·have q48 : ((z.toNat : Int) == 48) = false := u8f z48
       have HV : Hid (U = false) := by
        unfold Hid; rw [<- HUU.out]
        refine decide_eq_false (fun h => ?_)
        rcases h with h | h
        ·cases h
        ·exact z48 h.1
       clear z48
       go_wp2_with fail
       go_meet
       case rel => exact ⟨congrArg Value.bool HV.out.symm, rfl⟩
    case rest =>
     obtain ⟨rfl, rfl⟩ := hcut
     clear HUU HNK
     cases U
     rotate_left
     ·go_wp2_with fail
      refine bodyPost_ret (v := .tuple #[.int .i64 (n : Int), .bool false]) (by simp [results, Tryz.results125, go_sem]) rfl ?_
      exact NumP.of (HBAD.out (by simp)) ⟨rfl, hb.out⟩
     obtain rfl : d2 = true := HD2.out (by simp)
     go_upto_region 23 with (fail)
     go_cut [100] from 91 (fun s100 wx => s100 = .bool (Jsp.isIn [110] s n) /\ wc = wx)
     case first =>
      by_cases hlt : n < s.length
      ·have b0 : (0 : Int) <= (n : Int) := by omega
       have b1 : (n : Int) < (s.length : Int) := by omega
       have b1d : decide ((n : Int) < (s.length : Int)) = true := decide_eq_true b1
       obtain ⟨c, hc⟩ : ∃ c, s[n] = c := ⟨_, rfl⟩
       have hcb := u8_lt c
       have hv := Jsp.isIn_get (set := [110]) (s := s) (n := n)
       rw [List.getElem?_eq_getElem hlt, hc] at hv
       simp only at hv
       by_cases c110 : c = 110
       ·have q110 : ((c.toNat : Int) == 110) = true := u8t c110
        have HV := hide (show Jsp.isIn [110] s n = true from by rw [hv, c110]; rfl)
        clear hv c110
        go_wp2_with fail
        go_meet
        case rel => exact ⟨congrArg Value.bool HV.out.symm, rfl⟩
       have q110 : ((c.toNat : Int) == 110) = false := u8f c110
       have HV := hide (show Jsp.isIn [110] s n = false from by rw [hv]; simp [List.contains, List.elem, beq_eq_false_iff_ne.2 c110])
       clear hv c110
       go_wp2_with fail
       go_meet
       case rel => exact ⟨congrArg Value.bool HV.out.symm, rfl⟩
      ·have b1 : ¬ (n : Int) < (s.length : Int) := by omega
       have b1d : decide ((n : Int) < (s.length : Int)) = false := decide_eq_false b1
       have HV : Hid (Jsp.isIn [110] s n = false) := by unfold Hid; rw [Jsp.isIn_get, List.getElem?_eq_none (by omega)]
       go_wp2_with fail
       go_meet
       case rel => exact ⟨congrArg Value.bool HV.out.symm, rfl⟩
     case rest =>
      obtain ⟨rfl, rfl⟩ := hcut
      obtain ⟨J, hJ⟩ : ∃ J, Jsp.isIn [110] s n = J := ⟨_, rfl⟩
      rw [hJ]
      have HJ := hide hJ
      clear hJ
      have hwn : wrap64 ((n : Int) + 1) = ((n + 1 : Nat) : Int) := wv1 (L := s.length) HNL.out HL.out
      cases J
      ·have HR := hide (show n <= s.length /\ Jsp.numA s k = Jsp.numC s n from ⟨HNL.out, HN0.out (by simp) HJ.out⟩)
       go_wp2_with fail
       go_meet
       case rel => exact ⟨n, rfl, rfl, rfl, HR.out⟩
      ·go_wp2_with fail
       refine bodyPost_ret (v := .tuple #[.int .i64 ((n + 1 : Nat) : Int), .bool true]) (by simp [results, Tryz.results125, go_sem]) rfl ?_
       exact NumP.of (HN1.out (by simp) HJ.out) ⟨rfl, hb.out⟩
   case rest =>
    obtain ⟨n, rfl, rfl, rfl, hnC⟩ := hcut
    clear q120 q111 q98 HNX
    go_upto_region 25 with (fail)
    go_cut [112] from 103 (fun s112 wx => s112 = .bool (Jsp.isIn [46] s n) /\ wc = wx)
    case first =>
     by_cases hlt : n < s.length
     ·have b0 : (0 : Int) <= (n : Int) := by omega
      have b1 : (n : Int) < (s.length : Int) := by omega
      have b1d : decide ((n : Int) < (s.length : Int)) = true := decide_eq_true b1
      obtain ⟨c, hc⟩ : ∃ c, s[n] = c := ⟨_, rfl⟩
      have hcb := u8_lt c
      have hv := Jsp.isIn_get (set := [46]) (s := s) (n := n)
      rw [List.getElem?_eq_getElem hlt, hc] at hv
      simp only at hv
      by_cases c46 : c = 46
      ·have q46 : ((c.toNat : Int) == 46) = true := u8t c46
       have HV := hide (show Jsp.isIn [46] s n = true from by rw [hv, c46]; rfl)
       clear hv c46
       go_wp2_with fail
       go_meet
       case rel => exact ⟨congrArg Value.bool HV.out.symm, rfl⟩
      have q46 : ((c.toNat : Int) == 46) = false := u8f c46
      have HV := hide (show Jsp.isIn [46] s n = false from by rw [hv]; simp [List.contains, List.elem, beq_eq_false_iff_ne.2 c46])
      clear hv c46
      go_wp2_with fail
      go_meet
      case rel => exact ⟨congrArg Value.bool HV.out.symm, rfl⟩
     ·have b1 : ¬ (n : Int) < (s.length : Int) := by omega
      have b1d : decide ((n : Int) < (s.length : Int)) = false := decide_eq_false b1
      have HV : Hid (Jsp.isIn [46] s n = false) := by unfold Hid; rw [Jsp.isIn_get, List.getElem?_eq_none (by omega)]
      go_wp2_with fail
      go_meet
      case rel => exact ⟨congrArg Value.bool HV.out.symm, rfl⟩
    case rest =>
     obtain ⟨rfl, rfl⟩ := hcut
     obtain ⟨J, hJ⟩ : ∃ J, Jsp.isIn [46] s n = J := ⟨_, rfl⟩
     rw [hJ]
     have HJ := hide hJ
     clear hJ
     go_upto_if 112 with (fail)
     go_cut [1] from 113 (fun s1 wx => ∃ n2 : Nat, s1 = .int .i64 (n2 : Int) /\ wc = wx /\ Hid (n2 <= s.length /\ Jsp.numA s k = Jsp.numD s n2))
     case first =>
      cases J
      ·have HR := hide (show n <= s.length /\ Jsp.numA s k = Jsp.numD s n from ⟨hnC.out.1, by rw [hnC.out.2, Jsp.numC_no HJ.out]⟩)
       go_wp2_with fail
       go_meet
       case rel => exact ⟨n, rfl, rfl, HR.out⟩
      ·have hlt := Jsp.isIn_lt HJ.out
       obtain ⟨m, hm⟩ : ∃ m, n + 1 = m := ⟨_, rfl⟩
       have hwm : wrap64 ((n : Int) + 1) = (m : Int) := by rw [<- hm]; exact wv1 (L := s.length) (Nat.le_of_lt hlt) HL.out
       have hml : m <= s.length := by omega
       have HML := hide hml
       have HM := hide hm
       clear hlt hml hm
       go_upto_region 27 with (fail)
       rw [hwm]
       go_cut [131] from 115 (fun s131 wx => s131 = .bool (Jsp.isIn [48, 49, 50, 51, 52, 53, 54, 55, 56, 57, 95] s m) /\ wc = wx)
       case first =>
        by_cases hlt : m < s.length
        ·have b0 : (0 : Int) <= (m : Int) := by omega
         have b1 : (m : Int) < (s.length : Int) := by omega
         have b1d : decide ((m : Int) < (s.length : Int)) = true := decide_eq_true b1
         obtain ⟨c, hc⟩ : ∃ c, s[m] = c := ⟨_, rfl⟩
         have hcb := u8_lt c
         have hv := Jsp.isIn_get (set := [48, 49, 50, 51, 52, 53, 54, 55, 56, 57, 95]) (s := s) (n := m)
         rw [List.getElem?_eq_getElem hlt, hc] at hv
         simp only at hv
         have hw32 := w32_byte c
         have hdd := Jsp.digs_all ⟨c.toNat, c.toNat_lt⟩
         simp only [UInt8.ofNat_toNat] at hdd
         obtain ⟨dg, hdg⟩ : ∃ dg, Jsp.digit c.toNat = dg := ⟨_, rfl⟩
         have HDG := fun W => rDig c.toNat W
         rw [hdg] at HDG hdd
         have HDG := hide HDG
         rw [hdd] at hv
         clear hdd hdg
         cases dg
         ·by_cases c95 : c = 95
          ·have q95 : ((c.toNat : Int) == 95) = true := u8t c95
           have HV := hide (show Jsp.isIn [48, 49, 50, 51, 52, 53, 54, 55, 56, 57, 95] s m = true from by rw [hv, c95]; rfl)
           clear hv c95
           go_wp2_with fail
           refine (HDG.out _).mono ?_
           rintro e w9 ⟨rfl, rfl⟩
           go_wp2_with fail
           go_meet
           case rel => exact ⟨congrArg Value.bool HV.out.symm, rfl⟩
          ·have q95 : ((c.toNat : Int) == 95) = false := u8f c95
           have HV := hide (show Jsp.isIn [48, 49, 50, 51, 52, 53, 54, 55, 56, 57, 95] s m = false from by rw [hv, beq_eq_false_iff_ne.2 c95]; rfl)
           clear hv c95
           go_wp2_with fail
           refine (HDG.out _).mono ?_
           rintro e w9 ⟨rfl, rfl⟩
           go_wp2_with fail
           go_meet
           case rel => exact ⟨congrArg Value.bool HV.out.symm, rfl⟩
         ·have HV := hide (show Jsp.isIn [48, 49, 50, 51, 52, 53, 54, 55, 56, 57, 95] s m = true from by rw [hv]; rfl)
          clear hv
          go_wp2_with fail
          refine (HDG.out _).mono ?_
          rintro e w9 ⟨rfl, rfl⟩
          go_wp2_with fail
          go_meet
          case rel => exact ⟨congrArg Value.bool HV.out.symm, rfl⟩
        ·have b1 : ¬ (m : Int) < (s.length : Int) := by omega
         have b1d : decide ((m : Int) < (s.length : Int)) = false := decide_eq_false b1
         have HV : Hid (Jsp.isIn [48, 49, 50, 51, 52, 53, 54, 55, 56, 57, 95] s m = false) := by unfold Hid; rw [Jsp.isIn_get, List.getElem?_eq_none (by omega)]
         go_wp2_with fail
         go_meet
         case rel => exact ⟨congrArg Value.bool HV.out.symm, rfl⟩
       case rest =>
        obtain ⟨rfl, rfl⟩ := hcut
        obtain ⟨J2, hJ2⟩ : ∃ J, Jsp.isIn [48, 49, 50, 51, 52, 53, 54, 55, 56, 57, 95] s m = J := ⟨_, rfl⟩
        rw [hJ2]
        have HJ2 := hide hJ2
        clear hJ2
        cases J2
        ·have HR := hide (show m <= s.length /\ Jsp.numA s k = Jsp.numD s m from ⟨HML.out, by rw [hnC.out.2, <- HM.out]; exact Jsp.numC_plain HJ.out (by rw [HM.out]; exact HJ2.out)⟩)
         go_wp2_with fail
         go_meet
         case rel => exact ⟨m, rfl, rfl, HR.out⟩
        ·obtain ⟨d1, d2, hd⟩ : ∃ d1 d2, Jsp.digits 10 (s.drop m) = (d1, d2) := ⟨_, _, rfl⟩
         obtain ⟨n3, hn3⟩ : ∃ n3, m + d1 = n3 := ⟨_, rfl⟩
         have hnl : n3 <= s.length := by
          have := Jsp.digits_bound 10 s m HML.out
          rw [hd] at this
          simp only at this
          omega
         have HD := hide (fun W => rDig1 s m 10 hd hn3 W HML.out (Nat.le_trans HL.out (by decide)))
         cases d2
         ·have HR := hide (show Jsp.numA s k = (n3, false) by rw [hnC.out.2, <- hn3, <- HM.out]; exact Jsp.numC_bad HJ.out (by rw [HM.out]; exact HJ2.out) (by rw [HM.out]; exact hd))
          clear hd hn3 hnl
          go_wp2_with fail
          refine (HD.out _).mono ?_
          rintro e w2 ⟨rfl, rfl⟩
          go_wp2_with fail
          refine bodyPost_ret (v := .tuple #[.int .i64 (n3 : Int), .bool false]) (by simp [results, Tryz.results125, go_sem]) rfl ?_
          exact NumP.of HR.out ⟨rfl, hb.out⟩
         ·have HR := hide (show n3 <= s.length /\ Jsp.numA s k = Jsp.numD s n3 from ⟨hnl, by rw [hnC.out.2, <- hn3, <- HM.out]; exact Jsp.numC_dig HJ.out (by rw [HM.out]; exact HJ2.out) (by rw [HM.out]; exact hd)⟩)
          clear hd hn3 hnl
          go_wp2_with fail
          refine (HD.out _).mono ?_
          rintro e w2 ⟨rfl, rfl⟩
          go_wp2_with fail
          go_meet
          case rel => exact ⟨n3, rfl, rfl, HR.out⟩
     case rest =>
      obtain ⟨n2, rfl, rfl, hnD⟩ := hcut
      clear HJ hnC
      go_upto_region 31 with (fail)
      go_cut [156] from 141 (fun s156 wx => s156 = .bool (Jsp.isIn [101, 69] s n2) /\ wc = wx)
      case first =>
       by_cases hlt : n2 < s.length
       ·have b0 : (0 : Int) <= (n2 : Int) := by omega
        have b1 : (n2 : Int) < (s.length : Int) := by omega
        have b1d : decide ((n2 : Int) < (s.length : Int)) = true := decide_eq_true b1
        obtain ⟨c, hc⟩ : ∃ c, s[n2] = c := ⟨_, rfl⟩
        have hcb := u8_lt c
        have hv := Jsp.isIn_get (set := [101, 69]) (s := s) (n := n2)
        rw [List.getElem?_eq_getElem hlt, hc] at hv
        simp only at hv
        by_cases c101 : c = 101
        ·have q101 : ((c.toNat : Int) == 101) = true := u8t c101
         have HV := hide (show Jsp.isIn [101, 69] s n2 = true from by rw [hv, c101]; rfl)
         clear hv c101
         go_wp2_with fail
         go_meet
         case rel => exact ⟨congrArg Value.bool HV.out.symm, rfl⟩
        have q101 : ((c.toNat : Int) == 101) = false := u8f c101
        by_cases c69 : c = 69
        ·have q69 : ((c.toNat : Int) == 69) = true := u8t c69
         have HV := hide (show Jsp.isIn [101, 69] s n2 = true from by rw [hv, c69]; rfl)
         clear hv c69
         go_wp2_with fail
         go_meet
         case rel => exact ⟨congrArg Value.bool HV.out.symm, rfl⟩
        have q69 : ((c.toNat : Int) == 69) = false := u8f c69
        have HV := hide (show Jsp.isIn [101, 69] s n2 = false from by rw [hv]; simp [List.contains, List.elem, beq_eq_false_iff_ne.2 c101, beq_eq_false_iff_ne.2 c69])
        clear hv c101 c69
        go_wp2_with fail
        go_meet
        case rel => exact ⟨congrArg Value.bool HV.out.symm, rfl⟩
       ·have b1 : ¬ (n2 : Int) < (s.length : Int) := by omega
        have b1d : decide ((n2 : Int) < (s.length : Int)) = false := decide_eq_false b1
        have HV : Hid (Jsp.isIn [101, 69] s n2 = false) := by unfold Hid; rw [Jsp.isIn_get, List.getElem?_eq_none (by omega)]
        go_wp2_with fail
        go_meet
        case rel => exact ⟨congrArg Value.bool HV.out.symm, rfl⟩
      case rest =>
       obtain ⟨rfl, rfl⟩ := hcut
       obtain ⟨J, hJ⟩ : ∃ J, Jsp.isIn [101, 69] s n2 = J := ⟨_, rfl⟩
       rw [hJ]
       have HJ := hide hJ
       clear hJ
       cases J
       ·go_wp2_with fail
        refine bodyPost_ret (v := .tuple #[.int .i64 (n2 : Int), .bool true]) (by simp [results, Tryz.results125, go_sem]) rfl ?_
        exact NumP.of (by rw [hnD.out.2, Jsp.numD_no HJ.out]) ⟨rfl, hb.out⟩
       ·have hlt := Jsp.isIn_lt HJ.out
        obtain ⟨m, hm⟩ : ∃ m, n2 + 1 = m := ⟨_, rfl⟩
        have hwm : wrap64 ((n2 : Int) + 1) = (m : Int) := by rw [<- hm]; exact wv1 (L := s.length) (Nat.le_of_lt hlt) HL.out
        have hml : m <= s.length := by omega
        have HML := hide hml
        have HM := hide hm
        clear hlt hml hm
        go_upto_region 33 with (fail)
        rw [hwm]
        go_cut [174] from 159 (fun s174 wx => s174 = .bool (Jsp.isIn [43, 45] s m) /\ wc = wx)
        case first =>
         by_cases hlt : m < s.length
         ·have b0 : (0 : Int) <= (m : Int) := by omega
          have b1 : (m : Int) < (s.length : Int) := by omega
          have b1d : decide ((m : Int) < (s.length : Int)) = true := decide_eq_true b1
          obtain ⟨c, hc⟩ : ∃ c, s[m] = c := ⟨_, rfl⟩
          have hcb := u8_lt c
          have hv := Jsp.isIn_get (set := [43, 45]) (s := s) (n := m)
          rw [List.getElem?_eq_getElem hlt, hc] at hv
          simp only at hv
          by_cases c43 : c = 43
          ·have q43 : ((c.toNat : Int) == 43) = true := u8t c43
           have HV := hide (show Jsp.isIn [43, 45] s m = true from by rw [hv, c43]; rfl)
           clear hv c43
           go_wp2_with fail
           go_meet
           case rel => exact ⟨congrArg Value.bool HV.out.symm, rfl⟩
          have q43 : ((c.toNat : Int) == 43) = false := u8f c43
          by_cases c45 : c = 45
          ·have q45 : ((c.toNat : Int) == 45) = true := u8t c45
           have HV := hide (show Jsp.isIn [43, 45] s m = true from by rw [hv, c45]; rfl)
           clear hv c45
           go_wp2_with fail
           go_meet
           case rel => exact ⟨congrArg Value.bool HV.out.symm, rfl⟩
          have q45 : ((c.toNat : Int) == 45) = false := u8f c45
          have HV := hide (show Jsp.isIn [43, 45] s m = false from by rw [hv]; simp [List.contains, List.elem, beq_eq_false_iff_ne.2 c43, beq_eq_false_iff_ne.2 c45])
          clear hv c43 c45
          go_wp2_with fail
          go_meet
          case rel => exact ⟨congrArg Value.bool HV.out.symm, rfl⟩
         ·have b1 : ¬ (m : Int) < (s.length : Int) := by omega
          have b1d : decide ((m : Int) < (s.length : Int)) = false := decide_eq_false b1
          have HV : Hid (Jsp.isIn [43, 45] s m = false) := by unfold Hid; rw [Jsp.isIn_get, List.getElem?_eq_none (by omega)]
          go_wp2_with fail
          go_meet
          case rel => exact ⟨congrArg Value.bool HV.out.symm, rfl⟩
        case rest =>
         obtain ⟨rfl, rfl⟩ := hcut
         obtain ⟨J2, hJ2⟩ : ∃ J, Jsp.isIn [43, 45] s m = J := ⟨_, rfl⟩
         rw [hJ2]
         have HJ2 := hide hJ2
         clear hJ2
         cases J2
         ·obtain ⟨d1, d2, hd⟩ : ∃ d1 d2, Jsp.digits 10 (s.drop m) = (d1, d2) := ⟨_, _, rfl⟩
          obtain ⟨n3, hn3⟩ : ∃ n3, m + d1 = n3 := ⟨_, rfl⟩
          have HD := hide (fun W => rDig1 s m 10 hd hn3 W HML.out (Nat.le_trans HL.out (by decide)))
          have HR := hide (show Jsp.numA s k = (n3, d2) by rw [hnD.out.2, <- hn3, <- HM.out]; exact Jsp.numD_plain HJ.out (by rw [HM.out]; exact HJ2.out) (by rw [HM.out]; exact hd))
          clear hd hn3
          go_wp2_with fail
          refine (HD.out _).mono ?_
          rintro e w2 ⟨rfl, rfl⟩
          go_wp2_with fail
          refine bodyPost_ret (v := .tuple #[.int .i64 (n3 : Int), .bool d2]) (by simp [results, Tryz.results125, go_sem]) rfl ?_
          exact NumP.of HR.out ⟨rfl, hb.out⟩
         ·have hlt2 := Jsp.isIn_lt HJ2.out
          obtain ⟨m2, hm2⟩ : ∃ m2, m + 1 = m2 := ⟨_, rfl⟩
          have hwm2 : wrap64 ((m : Int) + 1) = (m2 : Int) := by rw [<- hm2]; exact wv1 (L := s.length) (Nat.le_of_lt hlt2) HL.out
          have hml2 : m2 <= s.length := by omega
          obtain ⟨d1, d2, hd⟩ : ∃ d1 d2, Jsp.digits 10 (s.drop m2) = (d1, d2) := ⟨_, _, rfl⟩
          obtain ⟨n3, hn3⟩ : ∃ n3, m2 + d1 = n3 := ⟨_, rfl⟩
          have HD := hide (fun W => rDig1 s m2 10 hd hn3 W hml2 (Nat.le_trans HL.out (by decide)))
          have hm3 : n2 + 2 = m2 := by have := HM.out; omega
          have HR := hide (show Jsp.numA s k = (n3, d2) by rw [hnD.out.2, <- hn3, <- hm3]; exact Jsp.numD_sign HJ.out (by rw [HM.out]; exact HJ2.out) (by rw [hm3]; exact hd))
          clear hd hn3 hlt2 hml2 hm3 hm2
          go_wp2_with fail
          refine (HD.out _).mono ?_
          rintro e w2 ⟨rfl, rfl⟩
          go_wp2_with fail
          refine bodyPost_ret (v := .tuple #[.int .i64 (n3 : Int), .bool d2]) (by simp [results, Tryz.results125, go_sem]) rfl ?_
          exact NumP.of HR.out ⟨rfl, hb.out⟩
theorem rNumber (s : List UInt8) (k : Nat) (w : World) (hk : k < s.length) (hl : s.length <= 1048570) : Calls Tryz.prog 125 #[S s, .int .i64 (k : Int)] w (NumP s k w) := by
 by_cases h : Jsp.hexed s k
 ·exact rNumberH s k w h hk hl
 ·exact rNumberD s k w h hk hl
end Go.Proofs.YtngccmlcopcghaaGreatDoor
