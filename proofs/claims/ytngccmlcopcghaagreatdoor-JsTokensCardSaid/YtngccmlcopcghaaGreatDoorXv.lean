/- The reference's number. -/
import Derived.Test.YtngccmlcopcghaaGreatDoorXj
import Derived.Test.YtngccmlcopcghaaGreatDoorSa
import Derived.Test.YtngccmlcopcghaaGreatDoorQl
import Derived.Test.YtngccmlcopcghaaGreatDoorTc
import Derived.Deep.Cut
import Derived.Deep.CutRange
import Derived.Outline
set_option maxRecDepth 100000
set_option maxHeartbeats 8000000
namespace Go.Proofs.YtngccmlcopcghaaGreatDoor
namespace Jsp
open Go
def lowR (c : UInt8) : UInt8 := if 65 <= c.toNat /\ c.toNat <= 90 then UInt8.ofNat (c.toNat + 32) else c
theorem low_all : ∀ n : Fin 256, (lowR (UInt8.ofNat n.val) = 120 -> baseOf (UInt8.ofNat n.val) = 16) /\ (lowR (UInt8.ofNat n.val) = 111 -> baseOf (UInt8.ofNat n.val) = 8) /\ (lowR (UInt8.ofNat n.val) = 98 -> baseOf (UInt8.ofNat n.val) = 2) /\
  (lowR (UInt8.ofNat n.val) ≠ 120 -> lowR (UInt8.ofNat n.val) ≠ 111 -> lowR (UInt8.ofNat n.val) ≠ 98 -> baseOf (UInt8.ofNat n.val) = 0) := by decide +kernel
theorem low_base (c : UInt8) : (lowR c = 120 -> baseOf c = 16) /\ (lowR c = 111 -> baseOf c = 8) /\ (lowR c = 98 -> baseOf c = 2) /\ (lowR c ≠ 120 -> lowR c ≠ 111 -> lowR c ≠ 98 -> baseOf c = 0) := by
 have := low_all ⟨c.toNat, c.toNat_lt⟩
 simpa only [UInt8.ofNat_toNat] using this
end Jsp
open Go.RowKit
theorem RowAt.free {w : World} {g : Nat} {xs : List UInt8} (h : RowAt w g xs) (j : Nat) (hj : j < xs.length) : w.frozen? ⟨g, j, none⟩ = false := by
 obtain ⟨C, N, hg, hN, hc⟩ := h
 simp [World.frozen?, hg]
 omega
theorem RowAt.set {w : World} {g : Nat} {xs : List UInt8} (h : RowAt w g xs) (j : Nat) (c : UInt8) : RowAt (w.setCell ⟨g, j, none⟩ (B8 c)) g (xs.set j c) := by
 obtain ⟨C, N, hg, hN, hc⟩ := h
 refine ⟨C.setIfInBounds j (B8 c), N, by simp [World.setCell, Array.getElem?_modify, hg], by simpa using hN, fun k hk => ?_⟩
 rw [List.length_set] at hk
 have := hc k hk
 rw [Array.getElem?_setIfInBounds, List.getElem_set]
 by_cases e : j = k
 ·subst e
  have hlt : j < C.size := (Array.getElem?_eq_some_iff.1 this).1
  simp [hlt]
 ·simp [e, this]
theorem rLower1 (c : UInt8) (w : World) : Calls Tryz.prog 151 #[S [c]] w (Fresh (S [Jsp.lowR c]) w) := by
 have hr := rowAt_new w [c]
 have hb := below_bytes w 5 ⟨[c].toArray⟩
 have hcv := Lib.run_convert_string_bytes (P := Tryz.prog) w 9 39 5 ⟨[c].toArray⟩ Tryz.underlying9 Tryz.underlying39 Tryz.underlying5
 rw [bl_size] at hcv
 obtain ⟨B, hB⟩ : ∃ B, B = w.heap.size := ⟨_, rfl⟩
 obtain ⟨w1, hw1⟩ : ∃ x, x = Lib.bytesWorld w 5 ⟨[c].toArray⟩ := ⟨_, rfl⟩
 obtain ⟨cap, hcap⟩ : ∃ x, x = grownCap w [c].length 0 5 := ⟨_, rfl⟩
 rw [<- hw1, <- hB] at hr hb
 rw [<- hw1, <- hB, <- hcap] at hcv
 have hB' := hide hB
 have hcb := u8_lt c
 clear hw1 hB hcap
 go_enter Tryz.func151, Tryz.ntmps151
 go_wp2_with fail
 clear hcv
 go_loopg [4] 1 (fun g s4 wx => (g = 1 /\ s4 = .int .i64 0 /\ RowAt wx B [c] /\ Below B w wx) \/ (g = 0 /\ s4 = .int .i64 1 /\ RowAt wx B [Jsp.lowR c] /\ Below B w wx))
 case atStart => exact .inl ⟨rfl, rfl, hr, hb⟩
 case round =>
  rcases hrel with ⟨rfl, rfl, hrx, hbx⟩ | ⟨rfl, rfl, hrx, hbx⟩
  ·have hc0 := hrx.cell 0 (by simp)
   have hf0 := hrx.free 0 (by simp)
   have hc0 : wr.cell? ⟨B, 0, none⟩ = some (B8 c) := hc0
   clear hr hb
   by_cases h65 : 65 <= c.toNat /\ c.toNat <= 90
   ·obtain ⟨h1, h2⟩ := h65
    have hv : ((Jsp.lowR c).toNat : Int) = (c.toNat : Int) + 32 := by
     unfold Jsp.lowR
     rw [if_pos ⟨h1, h2⟩, UInt8.toNat_ofNat_of_lt' (by show c.toNat + 32 < 256; omega)]
     omega
    have hr2 := hrx.set 0 (Jsp.lowR c)
    have hr2 : RowAt (wr.setCell ⟨B, 0, none⟩ (B8 (Jsp.lowR c))) B [Jsp.lowR c] := hr2
    have HR2 := hide hr2
    have HV := hide hv
    have HBX := hide hbx
    clear hr2 hv hrx hbx
    go_wp2_with fail
    rw [<- HV.out]
    go_roundg 0
    case measure => omega
    case rel => exact .inr ⟨rfl, rfl, HR2.out, HBX.out.setCell (Nat.le_refl _) _⟩
   ·have h3 : c.toNat < 65 \/ (65 <= c.toNat /\ 90 < c.toNat) := by omega
    have hl : Jsp.lowR c = c := by unfold Jsp.lowR; rw [if_neg h65]
    have HR2 := hide (show RowAt wr B [Jsp.lowR c] by rw [hl]; exact hrx)
    have HBX := hide hbx
    clear h65 hl hrx hbx
    rcases h3 with h3 | ⟨h3, h4⟩
    all_goals
     go_wp2_with fail
     go_roundg 0
     (case measure => omega)
     (case rel => exact .inr ⟨rfl, rfl, HR2.out, HBX.out⟩)
  ·have hcv := run_convert_bytes_back (P := Tryz.prog) wr 39 9 5 ⟨B, 0, none⟩ cap [Jsp.lowR c] Tryz.underlying39 Tryz.underlying5 Tryz.underlying9 (fun j hj => by
    have := hrx.cell j hj
    rw [show (⟨B, 0, none⟩ : Addr).add j = ⟨B, j, none⟩ by unfold Addr.add; split <;> simp_all]
    exact this)
   rw [show [Jsp.lowR c].length = 1 from rfl] at hcv
   have HBX := hide hbx
   clear hr hb hrx hbx
   go_wp2_with fail
   go_ret
   exact ⟨rfl, by rw [<- hB'.out]; exact HBX.out⟩
theorem rDig1 (s : List UInt8) (k : Nat) (base : Int) {d1 n1 : Nat} {d2 : Bool} (hd : Jsp.digits base (s.drop k) = (d1, d2)) (hn : k + d1 = n1) (w : World) (hk : k <= s.length) (hl : s.length <= 1048576) :
  Calls Tryz.prog 152 #[S s, .int .i64 (k : Int), .int .i64 base] w (Ret (.tuple #[.int .i64 (n1 : Int), .bool d2]) w) := by
 have h := rDigits s k base w hk hl
 rw [hd] at h
 simp only [hn] at h
 exact h
theorem wv {n m L : Nat} (h : n <= L) (hL : L <= 1048576) (hm : m <= 4) : wrap64 ((n : Int) + (m : Int)) = (n : Int) + (m : Int) := by unfold wrap64; omega
theorem wv1 {n L : Nat} (h : n <= L) (hL : L <= 1048570) : wrap64 ((n : Int) + 1) = ((n + 1 : Nat) : Int) := by unfold wrap64; omega
theorem rNumberH (s : List UInt8) (k : Nat) (w : World) (hD : Jsp.hexed s k) (hk : k < s.length) (hl : s.length <= 1048570) : Calls Tryz.prog 125 #[S s, .int .i64 (k : Int)] w (NumP s k w) := by
 obtain ⟨z, hz⟩ : ∃ z, s[k] = z := ⟨_, rfl⟩
 have hzb := u8_lt z
 have k0 : (0 : Int) <= (k : Int) := by omega
 have k1 : (k : Int) < (s.length : Int) := by omega
 have hdk : s.drop k = z :: s.drop (k + 1) := by rw [List.drop_eq_getElem_cons hk, hz]
 have h48 : Jsp.isB (· == 48) (s.drop k) = (z == 48) := by rw [hdk]; rfl
 have h46 : Jsp.isB (· == 46) (s.drop k) = (z == 46) := by rw [hdk]; rfl
 have H48 := hide h48
 have HL := hide hl
 have HD0 := hide hD
 clear hD
 have hkw1 : wrap64 ((k : Int) + 1) = (k : Int) + 1 := wv (m := 1) (Nat.le_of_lt hk) (by omega) (by decide)
 have hkw2 : wrap64 ((k : Int) + 2) = (k : Int) + 2 := wv (m := 2) (Nat.le_of_lt hk) (by omega) (by decide)
 have k2 : (0 : Int) <= (k : Int) + 1 := by omega
 have k3 : (k : Int) + 1 <= (k : Int) + 2 := by omega
 have k4 : ((k : Int) + 2).toNat - (k + 1) = 1 := by omega
 have k5 : ((k : Int) + 1).toNat = k + 1 := by omega
 clear hdk h48 h46 hl
 obtain ⟨V, hV⟩ : ∃ V : Bool, decide (k + 1 < s.length /\ z = 48) = V := ⟨_, rfl⟩
 have HVV := hide hV
 go_enter Tryz.func125, Tryz.ntmps125
 go_upto_region 2 with (fail)
 go_cut [22] from 12 (fun s22 wx => s22 = .bool V /\ w = wx)
 case first =>
  by_cases hlt : k + 1 < s.length
  ·have b1 : (k : Int) + 1 < (s.length : Int) := by omega
   have b1d : decide ((k : Int) + 1 < (s.length : Int)) = true := decide_eq_true b1
   by_cases c48 : z = 48
   ·have q48 : ((z.toNat : Int) == 48) = true := u8t c48
    obtain rfl : V = true := by rw [<- hV]; exact decide_eq_true ⟨hlt, c48⟩
    clear hV c48
    go_wp2_with fail
    go_meet
    case rel => exact ⟨rfl, rfl⟩
   ·have q48 : ((z.toNat : Int) == 48) = false := u8f c48
    obtain rfl : V = false := by rw [<- hV]; exact decide_eq_false (fun h => c48 h.2)
    clear hV c48
    go_wp2_with fail
    go_meet
    case rel => exact ⟨rfl, rfl⟩
  ·have b1 : ¬ (k : Int) + 1 < (s.length : Int) := by omega
   have b1d : decide ((k : Int) + 1 < (s.length : Int)) = false := decide_eq_false b1
   obtain rfl : V = false := by rw [<- hV]; exact decide_eq_false (fun h => hlt h.1)
   clear hV
   go_wp2_with fail
   go_meet
   case rel => exact ⟨rfl, rfl⟩
 case rest =>
  obtain ⟨rfl, rfl⟩ := hcut
  clear hV
  go_upto_if 22 with (fail)
  go_cut [6] from 23 (fun s6 wx => ∃ l : UInt8, s6 = .int .u8 l.toNat /\ Hid ((Jsp.hexed s k /\ ∃ c, s[k + 1]? = some c /\ l = Jsp.lowR c) \/ (¬ Jsp.hexed s k /\ l ≠ 120 /\ l ≠ 111 /\ l ≠ 98)) /\ Hid (Below w.heap.size w wx))
  case first =>
   cases V
   ·have hnh : ¬ Jsp.hexed s k := fun h => by
     have h1 : z = 48 := by have := h.1; rw [H48.out] at this; simpa using this
     exact absurd (decide_eq_true (p := k + 1 < s.length /\ z = 48) ⟨Jsp.isIn_lt h.2, h1⟩) (by rw [HVV.out]; decide)
    have HNH := hide hnh
    clear hnh
    go_wp2_with fail
    go_meet
    case rel => exact ⟨0, rfl, .inr ⟨HNH.out, by decide, by decide, by decide⟩, Below.refl _ _⟩
   ·obtain ⟨hlt, h48⟩ := of_decide_eq_true HVV.out
    obtain ⟨c, hc⟩ : ∃ c, s[k + 1] = c := ⟨_, rfl⟩
    have hsl : (s.drop (k + 1)).take 1 = [c] := by rw [List.drop_eq_getElem_cons hlt, hc]; rfl
    have hg : s[k + 1]? = some c := by rw [List.getElem?_eq_getElem hlt, hc]
    have k6 : (k : Int) + 2 <= (s.length : Int) := by omega
    have HLO := hide (fun W => rLower1 c W)
    have h0 : ([Jsp.lowR c] : List UInt8)[0] = Jsp.lowR c := rfl
    have hway : (Jsp.hexed s k /\ ∃ d, s[k + 1]? = some d /\ Jsp.lowR c = Jsp.lowR d) \/ (¬ Jsp.hexed s k /\ Jsp.lowR c ≠ 120 /\ Jsp.lowR c ≠ 111 /\ Jsp.lowR c ≠ 98) := by
     have hb := Jsp.isIn_base s (k + 1) c hg
     obtain ⟨l1, l2, l3, l4⟩ := Jsp.low_base c
     by_cases hx : Jsp.hexed s k
     ·exact .inl ⟨hx, c, hg, rfl⟩
     ·refine .inr ⟨hx, ?_⟩
      have h0 : Jsp.baseOf c = 0 := by
       apply Classical.byContradiction
       intro hne
       exact hx ⟨by rw [H48.out, h48]; rfl, by rw [hb]; simpa using hne⟩
      refine ⟨fun e => ?_, fun e => ?_, fun e => ?_⟩
      ·rw [l1 e] at h0; exact absurd h0 (by decide)
      ·rw [l2 e] at h0; exact absurd h0 (by decide)
      ·rw [l3 e] at h0; exact absurd h0 (by decide)
    have HWAY := hide hway
    clear hway hg h48 hc hlt
    go_wp2_with fail
    refine (HLO.out _).mono ?_
    rintro e w2 ⟨rfl, hb2⟩
    have HB2 := hide hb2
    clear hb2
    go_wp2_with fail
    go_meet
    case rel => exact ⟨_, rfl, HWAY.out, HB2.out⟩
  case rest =>
   obtain ⟨l, rfl, hway, hb⟩ := hcut
   have hlb := u8_lt l
   clear HVV k2 k3 k4 k5
   rcases hway.out with ⟨hx, c, hg, hlc⟩ | ⟨hnx, n120, n111, n98⟩
   ·obtain ⟨l1, l2, l3, l4⟩ := Jsp.low_base c
    have hl3 : l = 120 \/ l = 111 \/ l = 98 := by
     have hb0 : Jsp.baseOf c ≠ 0 := by
      have h2 := hx.2
      rw [Jsp.isIn_base s (k + 1) c hg] at h2
      simpa using h2
     rw [hlc]
     apply Classical.byContradiction
     intro hno
     exact hb0 (l4 (fun e => hno (.inl e)) (fun e => hno (.inr (.inl e))) (fun e => hno (.inr (.inr e))))
    clear hway
    obtain ⟨B, hB⟩ : ∃ B, Jsp.baseOf c = B := ⟨_, rfl⟩
    have hBp : (l = 120 /\ B = 16) \/ (l = 111 /\ B = 8) \/ (l = 98 /\ B = 2) := by
     rcases hl3 with hl | hl | hl
     ·exact .inl ⟨hl, hB.symm.trans (l1 (hlc.symm.trans hl))⟩
     ·exact .inr (.inl ⟨hl, hB.symm.trans (l2 (hlc.symm.trans hl))⟩)
     ·exact .inr (.inr ⟨hl, hB.symm.trans (l3 (hlc.symm.trans hl))⟩)
    have hB0 : decide ((0 : Int) < B) = true := decide_eq_true (by rcases hBp with ⟨_, h⟩ | ⟨_, h⟩ | ⟨_, h⟩ <;> omega)
    have HBP := hide hBp
    have HBB := hide hB
    clear hl3 hlc l1 l2 l3 l4 hB hBp
    go_upto_block 0 with fail
    go_cut [7] from 31 (fun s7 wx => s7 = .int .i64 B /\ wc = wx)
    case first =>
     rcases HBP.out with ⟨hl, h⟩ | ⟨hl, h⟩ | ⟨hl, h⟩
     ·have q120 : ((l.toNat : Int) == 120) = true := u8t hl
      have HE := hide h
      clear hl h
      go_wp2_with fail
      go_meet
      case rel => exact ⟨by rw [HE.out], rfl⟩
     ·have q120 : ((l.toNat : Int) == 120) = false := by rw [hl]; rfl
      have q111 : ((l.toNat : Int) == 111) = true := u8t hl
      have HE := hide h
      clear hl h
      go_wp2_with fail
      go_meet
      case rel => exact ⟨by rw [HE.out], rfl⟩
     ·have q120 : ((l.toNat : Int) == 120) = false := by rw [hl]; rfl
      have q111 : ((l.toNat : Int) == 111) = false := by rw [hl]; rfl
      have q98 : ((l.toNat : Int) == 98) = true := u8t hl
      have HE := hide h
      clear hl h
      go_wp2_with fail
      go_meet
      case rel => exact ⟨by rw [HE.out], rfl⟩
    case rest =>
     obtain ⟨rfl, rfl⟩ := hcut
     obtain ⟨d1, d2, hd⟩ : ∃ d1 d2, Jsp.digits B (s.drop (k + 2)) = (d1, d2) := ⟨_, _, rfl⟩
     obtain ⟨n, hn⟩ : ∃ n, k + 2 + d1 = n := ⟨_, rfl⟩
     have hnl : n <= s.length := by
      have := Jsp.digits_bound B s (k + 2) (Jsp.isIn_lt hx.2)
      rw [hd] at this
      simp only at this
      omega
     have HD := hide (fun W => rDig1 s (k + 2) B hd hn W (Jsp.isIn_lt hx.2) (Nat.le_trans HL.out (by decide)))
     have hA := Jsp.numA_hex (d1 := d1) (d2 := d2) hx hg (by rw [HBB.out]; exact hd)
     rw [hn] at hA
     have HA := hide hA
     have HNL := hide hnl
     clear hd hn hnl hA hg hx
     go_wp2_with fail
     refine (HD.out _).mono ?_
     rintro e w2 ⟨rfl, rfl⟩
     go_upto_region 14 with (fail)
     go_cut [60] from 48 (fun s60 wx => s60 = .bool (d2 && Jsp.isIn [110] s n) /\ wc = wx)
     case first =>
      cases d2
      ·go_wp2_with fail
       go_meet
       case rel => exact ⟨rfl, rfl⟩
      ·by_cases hlt : n < s.length
       ·have b0 : (0 : Int) <= (n : Int) := by omega
        have b1 : (n : Int) < (s.length : Int) := by omega
        have b1d : decide ((n : Int) < (s.length : Int)) = true := decide_eq_true b1
        obtain ⟨x, hx⟩ : ∃ x, s[n] = x := ⟨_, rfl⟩
        have hxb := u8_lt x
        have hv := Jsp.isIn_get (set := [110]) (s := s) (n := n)
        rw [List.getElem?_eq_getElem hlt, hx] at hv
        simp only at hv
        by_cases c110 : x = 110
        ·have q110 : ((x.toNat : Int) == 110) = true := u8t c110
         have HV := hide (show (true && Jsp.isIn [110] s n) = true from by rw [hv, c110]; rfl)
         clear hv c110
         go_wp2_with fail
         go_meet
         case rel => exact ⟨congrArg Value.bool HV.out.symm, rfl⟩
        ·have q110 : ((x.toNat : Int) == 110) = false := u8f c110
         have HV := hide (show (true && Jsp.isIn [110] s n) = false from by rw [hv, Jsp.contains_one, beq_eq_false_iff_ne.2 c110]; rfl)
         clear hv c110
         go_wp2_with fail
         go_meet
         case rel => exact ⟨congrArg Value.bool HV.out.symm, rfl⟩
       ·have b1 : ¬ (n : Int) < (s.length : Int) := by omega
        have b1d : decide ((n : Int) < (s.length : Int)) = false := decide_eq_false b1
        have HV : Hid ((true && Jsp.isIn [110] s n) = false) := by unfold Hid; rw [Jsp.isIn_get, List.getElem?_eq_none (by omega)]; rfl
        go_wp2_with fail
        go_meet
        case rel => exact ⟨congrArg Value.bool HV.out.symm, rfl⟩
     case rest =>
      obtain ⟨rfl, rfl⟩ := hcut
      have hwn : wrap64 ((n : Int) + 1) = ((n + 1 : Nat) : Int) := by have := HNL.out; have := HL.out; exact wv1 (L := s.length) HNL.out HL.out
      obtain ⟨J, hJ⟩ : ∃ J, (d2 && Jsp.isIn [110] s n) = J := ⟨_, rfl⟩
      rw [hJ]
      have HJ := hide hJ
      clear hJ
      cases J
      ·go_wp2_with fail
       refine bodyPost_ret (v := .tuple #[.int .i64 (n : Int), .bool d2]) (by simp [results, Tryz.results125, go_sem]) rfl ?_
       exact NumP.of (by rw [HA.out, if_neg (by rw [<- Bool.and_eq_true, HJ.out]; decide)]) ⟨rfl, hb.out⟩
      ·go_wp2_with fail
       refine bodyPost_ret (v := .tuple #[.int .i64 ((n + 1 : Nat) : Int), .bool d2]) (by simp [results, Tryz.results125, go_sem, hwn]) rfl ?_
       have hJ2 := Bool.and_eq_true_iff.1 HJ.out
       exact NumP.of (by rw [HA.out, if_pos hJ2, hJ2.1]) ⟨rfl, hb.out⟩
   exact absurd HD0.out hnx
end Go.Proofs.YtngccmlcopcghaaGreatDoor
