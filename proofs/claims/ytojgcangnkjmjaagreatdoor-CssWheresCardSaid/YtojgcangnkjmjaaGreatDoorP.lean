/- numeric. (Printed by genCssP.py.) -/
import Derived.Test.YtojgcangnkjmjaaGreatDoorO
namespace Go.Proofs.YtojgcangnkjmjaaGreatDoor
open Go.RowKit

namespace Cssp
theorem or_e_all : ∀ n : Fin 256, (bits BinOp.or .u8 (n.val : Int) 32 == 101) = (UInt8.ofNat n.val == 101 || UInt8.ofNat n.val == 69) := by decide +kernel
theorem or_e (c : UInt8) : (bits BinOp.or .u8 (c.toNat : Int) 32 == 101) = (c == 101 || c == 69) := by
  have := or_e_all ⟨c.toNat, c.toNat_lt⟩
  simpa using this
end Cssp
theorem Xt.setKU {w : World} {B : Nat} {x : Cssp.Tk} (h : Xt w B x) (k : Nat) (u : List UInt8) : Xt ((w.setCell ⟨B, 0, none⟩ (.int .u8 k)).setCell ⟨B, 2, none⟩ (S u)) B ⟨k, x.t, u, x.flag⟩ := by
  have h' : w.heap[B]? = _ := h
  simp [Xt, World.setCell, Array.getElem?_modify, h']
theorem Xt.setKF {w : World} {B : Nat} {x : Cssp.Tk} (h : Xt w B x) (k : Nat) (u : Bool) : Xt ((w.setCell ⟨B, 0, none⟩ (.int .u8 k)).setCell ⟨B, 3, none⟩ (.bool u)) B ⟨k, x.t, x.u, u⟩ := by
  have h' : w.heap[B]? = _ := h
  simp [Xt, World.setCell, Array.getElem?_modify, h']
set_option maxRecDepth 100000 in
set_option maxHeartbeats 4000000 in
theorem numeric_ (s t : List UInt8) (b : Nat) (w : World) (h : Lx w b s false false t) (h1 : 1 ≤ s.length) (hl : s.length ≤ 1048576) :
    Calls Tryz.prog 79 #[.pointer (some ⟨b, 0, none⟩)] w (TokP (Cssp.numeric s) s w b) := by
  obtain ⟨c, hc⟩ : ∃ c, s[0] = c := ⟨_, rfl⟩
  have hat : Cssp.at_ s 0 = c := by rw [Cssp.at_, List.getD_eq_getElem?_getD, List.getElem?_eq_getElem (by omega), hc]; rfl
  obtain ⟨sg, hsg⟩ : ∃ sg, (c == 43 || c == 45) = sg := ⟨_, rfl⟩
  obtain ⟨n0, hn0⟩ : ∃ n, Cssp.signed s 0 = n := ⟨_, rfl⟩
  have hn0' : n0 = if sg = true then 1 else 0 := by rw [← hn0, Cssp.signed_at, hat, hsg]
  obtain ⟨d0, hd0⟩ : ∃ d, s.drop n0 = d := ⟨_, rfl⟩
  obtain ⟨a0, ha0⟩ : ∃ a, s.take n0 = a := ⟨_, rfl⟩
  obtain ⟨R0, hR0⟩ : ∃ R, Cssp.run Cssp.digit d0 = R := ⟨_, rfl⟩
  have hR0l := Cssp.run_le Cssp.digit d0
  have hd0l : d0.length + n0 = s.length := by rw [← hd0, List.length_drop]; split at hn0' <;> omega
  have ha0l : a0.length ≤ 1048576 := by rw [← ha0, List.length_take]; omega
  rw [hR0] at hR0l
  obtain ⟨d1, hd1⟩ : ∃ d, d0.drop R0 = d := ⟨_, rfl⟩
  obtain ⟨e0, he0⟩ : ∃ a, d0.take R0 = a := ⟨_, rfl⟩
  have he0l : e0.length ≤ 1048576 := by rw [← he0, List.length_take]; omega
  have hd1l : d1.length + (n0 + R0) = s.length := by rw [← hd1, List.length_drop]; omega
  obtain ⟨k0, hk0⟩ : ∃ k, n0 + R0 = k := ⟨_, rfl⟩
  have hd1' : s.drop k0 = d1 := by rw [← hd1, ← hd0, List.drop_drop, hk0]
  have ha1' : s.take k0 = a0 ++ e0 := by rw [← ha0, ← he0, ← hd0, ← hk0, List.take_add]
  rw [hk0] at hd1l
  have ha1l : (a0 ++ e0).length ≤ 1048576 := by rw [← ha1', List.length_take]; omega
  obtain ⟨a1, ha1⟩ : ∃ a, a0 ++ e0 = a := ⟨_, rfl⟩
  rw [ha1] at ha1l ha1'
  -- the point
  obtain ⟨c0, hc0⟩ : ∃ c, Cssp.at_ d1 0 = c := ⟨_, rfl⟩
  obtain ⟨c1, hc1⟩ : ∃ c, Cssp.at_ d1 1 = c := ⟨_, rfl⟩
  have hc0s : Cssp.at_ s k0 = c0 := by rw [← hc0, ← hd1', Cssp.at_drop, Nat.add_zero]
  have hc1s : Cssp.at_ s (k0 + 1) = c1 := by rw [← hc1, ← hd1', Cssp.at_drop]
  obtain ⟨pt, hpt⟩ : ∃ p, (c0 == 46 && Cssp.digit c1) = p := ⟨_, rfl⟩
  obtain ⟨d1t, hd1t⟩ : ∃ d, d1.drop 1 = d := ⟨_, rfl⟩
  obtain ⟨d1h, hd1h⟩ : ∃ d, d1.take 1 = d := ⟨_, rfl⟩
  obtain ⟨R1, hR1⟩ : ∃ R, Cssp.run Cssp.digit d1t = R := ⟨_, rfl⟩
  obtain ⟨k1, hk1⟩ : ∃ k, (if pt = true then k0 + 1 + R1 else k0) = k := ⟨_, rfl⟩
  have hpoint : Cssp.point s k0 = (k1, !pt) := by
    rw [Cssp.point, hc0s, hc1s, ← hk1, ← hR1, ← hd1t, ← hd1', List.drop_drop, ← hpt]
    cases h46 : (c0 == 46) <;> cases hdg : Cssp.digit c1 <;> simp_all
  obtain ⟨d2, hd2⟩ : ∃ d, s.drop k1 = d := ⟨_, rfl⟩
  obtain ⟨a2, ha2⟩ : ∃ a, s.take k1 = a := ⟨_, rfl⟩
  have hR1l := Cssp.run_le Cssp.digit d1t
  have hd1tl : d1t.length = d1.length - 1 := by rw [← hd1t, List.length_drop]
  have hpt1 : pt = true → 1 ≤ d1.length ∧ k1 = k0 + 1 + R1 ∧ d2 = d1t.drop R1 ∧ a2 = a1 ++ (d1h ++ d1t.take R1) := fun hp => by
    rw [if_pos hp] at hk1
    rw [hp, Bool.and_eq_true] at hpt
    have := Cssp.digit_lt (hc1s ▸ hpt.2)
    refine ⟨by omega, hk1.symm, ?_, ?_⟩
    · rw [← hd2, ← hk1, ← hd1t, ← hd1', List.drop_drop, List.drop_drop, Nat.add_assoc]
    · rw [← ha2, ← hk1, List.take_add, List.take_add, ha1', hd1', ← List.drop_drop, hd1', hd1t, hd1h, List.append_assoc]
  have hpt0 : pt = false → k1 = k0 ∧ d2 = d1 ∧ a2 = a1 := fun hp => by
    rw [if_neg (by rw [hp]; decide)] at hk1
    exact ⟨hk1.symm, by rw [← hd2, ← hk1, hd1'], by rw [← ha2, ← hk1, ha1']⟩
  have hk1l : k1 ≤ s.length := by
    cases hp : pt
    · have := (hpt0 hp).1; omega
    · have := (hpt1 hp).2.1; have := (hpt1 hp).1; omega
  have hd2l : d2.length + k1 = s.length := by rw [← hd2, List.length_drop]; omega
  have ha2l : a2.length ≤ 1048576 := by rw [← ha2, List.length_take]; omega
  have hd1hl : d1h.length ≤ 1 := by rw [← hd1h, List.length_take]; omega
  -- the power
  obtain ⟨x0, hx0⟩ : ∃ c, Cssp.at_ d2 0 = c := ⟨_, rfl⟩
  obtain ⟨x1, hx1⟩ : ∃ c, Cssp.at_ d2 1 = c := ⟨_, rfl⟩
  have hx0s : Cssp.at_ s k1 = x0 := by rw [← hx0, ← hd2, Cssp.at_drop, Nat.add_zero]
  have hx1s : Cssp.at_ s (k1 + 1) = x1 := by rw [← hx1, ← hd2, Cssp.at_drop]
  obtain ⟨sg2, hsg2⟩ : ∃ sg, (x1 == 43 || x1 == 45) = sg := ⟨_, rfl⟩
  obtain ⟨n1, hn1⟩ : ∃ n, (if sg2 = true then 2 else 1) = n := ⟨_, rfl⟩
  have hn1' : 1 + Cssp.signed s (k1 + 1) = n1 := by rw [Cssp.signed_at, hx1s, hsg2, ← hn1]; cases sg2 <;> rfl
  obtain ⟨x2, hx2⟩ : ∃ c, Cssp.at_ d2 n1 = c := ⟨_, rfl⟩
  have hx2s : Cssp.at_ s (k1 + n1) = x2 := by rw [← hx2, ← hd2, Cssp.at_drop]
  obtain ⟨pw, hpw⟩ : ∃ p, ((x0 == 101 || x0 == 69) && Cssp.digit x2) = p := ⟨_, rfl⟩
  obtain ⟨d2t, hd2t⟩ : ∃ d, d2.drop n1 = d := ⟨_, rfl⟩
  obtain ⟨d2h, hd2h⟩ : ∃ d, d2.take n1 = d := ⟨_, rfl⟩
  obtain ⟨R2, hR2⟩ : ∃ R, Cssp.run Cssp.digit d2t = R := ⟨_, rfl⟩
  obtain ⟨k2, hk2⟩ : ∃ k, (if pw = true then k1 + n1 + R2 else k1) = k := ⟨_, rfl⟩
  have hpower : Cssp.power s k1 = (k2, !pw) := by
    rw [Cssp.power, hx0s, show k1 + 1 + Cssp.signed s (k1 + 1) = k1 + n1 by omega, hx2s, ← hk2, ← hR2, ← hd2t, ← hd2, List.drop_drop, ← hpw]
    cases h101 : (x0 == 101) <;> cases h69 : (x0 == 69) <;> cases hdg : Cssp.digit x2 <;> simp_all
  obtain ⟨d3, hd3⟩ : ∃ d, s.drop k2 = d := ⟨_, rfl⟩
  obtain ⟨a3, ha3⟩ : ∃ a, s.take k2 = a := ⟨_, rfl⟩
  have hR2l := Cssp.run_le Cssp.digit d2t
  have hd2tl : d2t.length = d2.length - n1 := by rw [← hd2t, List.length_drop]
  have hpw1 : pw = true → n1 ≤ d2.length ∧ k2 = k1 + n1 + R2 ∧ d3 = d2t.drop R2 ∧ a3 = a2 ++ (d2h ++ d2t.take R2) := fun hp => by
    rw [if_pos hp] at hk2
    rw [hp, Bool.and_eq_true] at hpw
    have := Cssp.digit_lt (hx2s ▸ hpw.2)
    refine ⟨by omega, hk2.symm, ?_, ?_⟩
    · rw [← hd3, ← hk2, ← hd2t, ← hd2, List.drop_drop, List.drop_drop, Nat.add_assoc]
    · rw [← ha3, ← hk2, List.take_add, List.take_add, ha2, hd2, ← List.drop_drop, hd2, hd2t, hd2h, List.append_assoc]
  have hpw0 : pw = false → k2 = k1 ∧ d3 = d2 ∧ a3 = a2 := fun hp => by
    rw [if_neg (by rw [hp]; decide)] at hk2
    exact ⟨hk2.symm, by rw [← hd3, ← hk2, hd2], by rw [← ha3, ← hk2, ha2]⟩
  have hk2l : k2 ≤ s.length := by
    cases hp : pw
    · have := (hpw0 hp).1; omega
    · have := (hpw1 hp).2.1; have := (hpw1 hp).1; omega
  have hd3l : d3.length + k2 = s.length := by rw [← hd3, List.length_drop]; omega
  have ha3l : a3.length ≤ 1048576 := by rw [← ha3, List.length_take]; omega
  have hd2hl : d2h.length ≤ 1048576 := by rw [← hd2h, List.length_take]; omega
  have hnum : Cssp.numLen s = (k2, !pt && !pw) := by
    unfold Cssp.numLen
    simp only [hn0, hd0, hR0, hk0, hpoint, hpower]
  obtain ⟨wh, hwh⟩ : ∃ x, (!pt && !pw) = x := ⟨_, rfl⟩
  rw [hwh] at hnum
  obtain ⟨W, hW⟩ : ∃ x, Cssp.numeric s = x := ⟨_, rfl⟩
  have hid3 : Cssp.identAt s k2 = Cssp.identAt d3 0 := by rw [← hd3, Cssp.identAt_drop]; rfl
  have hat3 : Cssp.at_ s k2 = Cssp.at_ d3 0 := by rw [← hd3, Cssp.at_drop]; rfl
  have hW' := hW
  unfold Cssp.numeric at hW'
  simp only [hnum, hid3, hat3, hd3, ha3] at hW'
  rw [hW]
  have HNN := hide hW'
  have HD3 := hide hd3
  have HSG := hide hsg
  have HN0 := hide hn0'
  have HPT := hide hpt
  have HPW := hide hpw
  have HPT1 := hide hpt1
  have HPT0 := hide hpt0
  have HPW1 := hide hpw1
  have HPW0 := hide hpw0
  have HWH := hide hwh
  have HSG2 := hide hsg2
  have HN1 := hide hn1
  have HC0 := hide hc0
  have HC1 := hide hc1
  have HX0 := hide hx0
  have HX1 := hide hx1
  have HX2' := hide hx2
  have HA0 := hide ha0
  have HD0 := hide hd0
  have HE0 := hide he0
  have HD1 := hide hd1
  have HA1 := hide ha1
  have HR0 := hide hR0
  have HR1 := hide hR1
  have HR2 := hide hR2
  have HH1 := hide hd1h
  have HT1 := hide hd1t
  have HH2 := hide hd2h
  have HT2 := hide hd2t
  clear hW hW' hnum hid3 hat3 hd3 ha3 hsg hn0 hn0' hpt hpw hpt1 hpt0 hpw1 hpw0 hwh hsg2 hn1 hn1' hc0 hc1 hx0 hx1 hx2 hc0s hc1s hx0s hx1s hx2s ha0 hd0 he0 hd1 hd1' ha1 ha1' hR0 hR1 hR2 hd1h hd1t hd2h hd2t hd2 ha2 hk0 hk1 hk2 hpoint hpower hat
  have hz := Zt.new w
  have hal := (Below.refl w.heap.size w).alloc (Nat.le_refl _) (.cells #[.int .u8 0, S [], S [], .bool false] 27)
  have hx := h.below hal
  have hlt := h.lt
  go_enter Tryz.func79, Tryz.ntmps79
  go_upto_region 1 with (fail)
  change Code.wp _ _ _ _ (w.alloc (.cells #[.int .u8 0, S [], S [], .bool false] 27))
  generalize hgen : w.alloc (.cells #[.int .u8 0, S [], S [], .bool false] 27) = w1 at hz hal hx ⊢
  clear hgen h
  have hsz1 := hal.size
  have hzlt := hz.lt
  have HX1' := hide hx
  have HZ1 := hide hz
  have HU1 := hide (p := Upto b w w1) (Upto.of_below hal)
  clear hz hal hx
  go_upto_region 2 with (fail)
  change Code.wp _ _ _ _ (w1.alloc (.cells #[.pointer none, .slice none 0 0] 99))
  have hbl := bld_new w1
  have hal := (Below.refl w1.heap.size w1).alloc (Nat.le_refl _) (.cells #[.pointer none, .slice none 0 0] 99)
  generalize hgen : w1.alloc (.cells #[.pointer none, .slice none 0 0] 99) = w2 at hbl hal ⊢
  clear hgen
  have HX2 := hide (HX1'.out.below hal)
  have HU2 := hide (p := Upto b w1 w2) (Upto.of_below hal)
  have HB2 := hide hbl
  have hsz2 := hal.size
  clear hal hbl HX1'
  obtain ⟨l0, l1, l2, l3⟩ := HX2.out.cells
  have hb1 : (0 : Int) < (s.length : Int) := by omega
  have hcb := u8_lt c
  go_upto_region 4 with (fail)
  clear l0 l1 l2 l3 hb1 hc
  go_cut [19] from 9 (fun s19 wx => s19 = .bool sg ∧ w2 = wx)
  case first =>
    by_cases p43 : c = 43
    · have e1 : ((c.toNat : Int) == 43) = true := u8t p43
      go_wp2_with fail
      go_meet
      case rel => exact ⟨by rw [← HSG.out]; exact congrArg Value.bool (show _ = (c == 43 || c == 45) from (by rw [p43]; rfl : (c == 43 || c == 45) = _).symm), rfl⟩
    · have e1 : ((c.toNat : Int) == 43) = false := u8f p43
      by_cases p45 : c = 45
      · have e2 : ((c.toNat : Int) == 45) = true := u8t p45
        go_wp2_with fail
        go_meet
        case rel => exact ⟨by rw [← HSG.out]; exact congrArg Value.bool (show _ = (c == 43 || c == 45) from (by rw [p45]; rfl : (c == 43 || c == 45) = _).symm), rfl⟩
      · have e2 : ((c.toNat : Int) == 45) = false := u8f p45
        go_wp2_with fail
        go_meet
        case rel => exact ⟨by rw [← HSG.out]; exact congrArg Value.bool (show _ = (c == 43 || c == 45) from (by simp [p43, p45] : (c == 43 || c == 45) = _).symm), rfl⟩
  case rest =>
    obtain ⟨rfl, rfl⟩ := hcut
    go_upto_if 19 with (fail)
    go_cut [] from 9 (fun wx => ∃ tt : List UInt8, Hid (Lx wx b d0 false false tt) ∧ Hid (Bld w1.heap.size w1.heap.size a0 wx) ∧ Hid (Upto b w1 wx))
    case first =>
      cases sg with
      | false =>
        have hn := HN0.out
        rw [if_neg (by decide)] at hn
        have hL : Hid (Lx w2 b d0 false false t) := by unfold Hid; rw [← HD0.out, hn]; exact HX2.out
        have hB : Hid (Bld w1.heap.size w1.heap.size a0 w2) := by unfold Hid; rw [← HA0.out, hn]; exact HB2.out
        clear hn
        go_wp2_with fail
        go_meet
        case rel => exact ⟨t, hL, hB, HU2.out⟩
      | true =>
        have hn := HN0.out
        rw [if_pos rfl] at hn
        have HT0 := take_ s t b 1 false false w2 HX2.out h1
        rw [show s.drop 1 = d0 by rw [← HD0.out, hn], show s.take 1 = a0 by rw [← HA0.out, hn]] at HT0
        have HT := hide HT0
        clear HT0 hn
        go_wp2_with fail
        refine HT.out.mono ?_
        rintro e w3 ⟨rfl, hx, hu⟩
        have HX3 := hide hx
        have HU3 := hide (HU2.out.trans hu)
        have HWS := hide (writeString w1.heap.size w1.heap.size [] a0 w3 (bld_upto HB2.out hu (by omega)) HU3.out.size (by simp; omega))
        clear HT hx hu
        go_wp2_with fail
        refine HWS.out.mono ?_
        rintro e w4 ⟨rfl, hB, hk⟩
        have HX4 := hide (HX3.out.keep hk.below (by omega))
        have HU4 := hide (HU3.out.keep hk.below)
        have HB4 := hide (p := Bld w1.heap.size w1.heap.size a0 w4) (.inr hB)
        clear HWS hB hk
        go_wp2_with fail
        go_meet
        case rel => exact ⟨t, HX4.out, HB4.out, HU4.out⟩
    case rest =>
      obtain ⟨tt, HXa, HBa, HUa⟩ := hcut
      clear HX2 HU2 HB2 HN0 HSG
      have hbs := HUa.out.size
      have HTT := whileDigit d0 tt b false false wc HXa.out (by omega)
      rw [HR0.out, HE0.out, HD1.out] at HTT
      have HT := hide HTT
      clear HTT
      go_wp2_with fail
      refine HT.out.mono ?_
      rintro e w3 ⟨rfl, hx, hu⟩
      have HX3 := hide hx
      have HU3 := hide (HUa.out.trans hu)
      have HWS := hide (writeString w1.heap.size w1.heap.size a0 e0 w3 (bld_upto HBa.out hu (by omega)) HU3.out.size (by omega))
      clear HT hx hu HXa HBa HUa hbs
      go_wp2_with fail
      refine HWS.out.mono ?_
      rintro e w4 ⟨rfl, hB, hk⟩
      rw [HA1.out] at hB
      have HX4 := hide (HX3.out.keep hk.below (by omega))
      have HU4 := hide (HU3.out.keep hk.below)
      have HB4 := hide (p := Bld w1.heap.size w1.heap.size a1 w4) (.inr hB)
      clear HWS hB hk HX3 HU3
      go_upto_region 7 with (fail)
      go_cut [33] from 9 (fun s33 wx => s33 = .bool pt ∧ w4 = wx)
      case first =>
        have HP0 := peek_ d1 tt b 0 false false w4 HX4.out
        have HP1 := peek_ d1 tt b 1 false false w4 HX4.out
        rw [HC0.out] at HP0
        rw [HC1.out] at HP1
        have HPa := hide HP0
        have HPb := hide HP1
        have HDg := hide (cDigit c1 w4)
        clear HP0 HP1
        go_wp2_with fail
        refine HPa.out.mono ?_
        rintro e w' ⟨rfl, rfl⟩
        clear HPa
        by_cases h46 : c0 = 46
        · have e1 : ((c0.toNat : Int) == 46) = true := u8t h46
          have H46 := hide h46
          clear h46
          go_wp2_with fail
          refine HPb.out.mono ?_
          rintro e w' ⟨rfl, rfl⟩
          clear HPb
          go_wp2_with fail
          refine HDg.out.mono ?_
          rintro e w' ⟨rfl, rfl⟩
          clear HDg
          go_wp2_with fail
          go_meet
          case rel => exact ⟨by rw [← HPT.out, H46.out]; rfl, rfl⟩
        · have e1 : ((c0.toNat : Int) == 46) = false := u8f h46
          have H46 := hide h46
          clear h46
          go_wp2_with fail
          go_meet
          case rel => exact ⟨by rw [← HPT.out, beq_eq_false_iff_ne.2 H46.out]; rfl, rfl⟩
      case rest =>
        obtain ⟨rfl, rfl⟩ := hcut
        clear HPT HC0 HC1
        go_upto_if 33 with (fail)
        go_cut [4] from 9 (fun s4 wx => s4 = .bool (!pt) ∧ ∃ tt : List UInt8, Hid (Lx wx b d2 false false tt) ∧ Hid (Bld w1.heap.size w1.heap.size a2 wx) ∧ Hid (Upto b w1 wx))
        case first =>
          cases pt with
          | false =>
            obtain ⟨-, r1, r2⟩ := HPT0.out rfl
            have R1' := hide r1
            have R2' := hide r2
            clear r1 r2
            go_wp2_with fail
            go_meet
            case rel => exact ⟨rfl, tt, by rw [R1'.out]; exact HX4.out, by rw [R2'.out]; exact HB4.out, HU4.out⟩
          | true =>
            obtain ⟨r0, -, r1, r2⟩ := HPT1.out rfl
            have R1' := hide r1
            have R2' := hide r2
            have HTT := take_ d1 tt b 1 false false w4 HX4.out r0
            rw [HH1.out, HT1.out] at HTT
            have HT := hide HTT
            clear r1 r2 HTT
            go_wp2_with fail
            refine HT.out.mono ?_
            rintro e w5 ⟨rfl, hx, hu⟩
            have HX5 := hide hx
            have HU5 := hide (HU4.out.trans hu)
            have HB5 := hide (bld_upto HB4.out hu (by omega))
            have HTT := whileDigit d1t tt b false false w5 HX5.out (by omega)
            obtain ⟨q1, hq1⟩ : ∃ q, d1t.take R1 = q := ⟨_, rfl⟩
            obtain ⟨q2, hq2⟩ : ∃ q, d1t.drop R1 = q := ⟨_, rfl⟩
            rw [HR1.out, hq1, hq2] at HTT
            have hql : (d1h ++ q1).length ≤ 2097152 := by rw [List.length_append, ← hq1, List.length_take]; omega
            have hqn : ¬ 9223372036854775807 < d1h.length + q1.length := by rw [← hq1, List.length_take]; omega
            have HQ1 := hide hq1
            have HQ2 := hide hq2
            clear HT hx hu hq1 hq2
            have HT := hide HTT
            clear HTT
            go_wp2_with fail
            refine HT.out.mono ?_
            rintro e w6 ⟨rfl, hx, hu⟩
            have HX6 := hide hx
            have HU6 := hide (HU5.out.trans hu)
            have HWS := hide (writeString w1.heap.size w1.heap.size a1 (d1h ++ q1) w6 (bld_upto HB5.out hu (by omega)) HU6.out.size (by omega))
            clear HT hx hu
            go_wp2_with fail
            refine HWS.out.mono ?_
            rintro e w7 ⟨rfl, hB, hk⟩
            have HX7 := hide (HX6.out.keep hk.below (by omega))
            have HU7 := hide (HU6.out.keep hk.below)
            have HB7 := hide (p := Bld w1.heap.size w1.heap.size (a1 ++ (d1h ++ q1)) w7) (.inr hB)
            clear HWS hB hk HX6 HU6
            go_wp2_with fail
            go_meet
            case rel => exact ⟨rfl, tt, by rw [R1'.out, HQ2.out]; exact HX7.out, by rw [R2'.out, HQ1.out]; exact HB7.out, HU7.out⟩
        case rest =>
          obtain ⟨rfl, tv, HXb, HBb, HUb⟩ := hcut
          clear HPT1 HPT0 HX4 HU4 HB4 HH1 HT1 HR1
          have HPa := hide (peek_ d2 tv b 1 false false wc HXb.out)
          have HPb := hide (peek_ d2 tv b 0 false false wc HXb.out)
          have HPc := peek_ d2 tv b n1 false false wc HXb.out
          have HDg := hide (cDigit x2 wc)
          have hx1b := u8_lt x1
          rw [HX1.out] at HPa
          rw [HX0.out] at HPb
          rw [HX2'.out] at HPc
          have HPc := hide HPc
          have hbs := HUb.out.size
          go_wp2_with fail
          refine HPa.out.mono ?_
          rintro e w' ⟨rfl, rfl⟩
          clear HPa
          go_upto_region 12 with (fail)
          go_cut [47] from 9 (fun s47 wx => s47 = .bool sg2 ∧ wc = wx)
          case first =>
            by_cases p43 : x1 = 43
            · have e1 : ((x1.toNat : Int) == 43) = true := u8t p43
              go_wp2_with fail
              go_meet
              case rel => exact ⟨by rw [← HSG2.out]; exact congrArg Value.bool (show _ = (x1 == 43 || x1 == 45) from (by rw [p43]; rfl : (x1 == 43 || x1 == 45) = _).symm), rfl⟩
            · have e1 : ((x1.toNat : Int) == 43) = false := u8f p43
              by_cases p45 : x1 = 45
              · have e2 : ((x1.toNat : Int) == 45) = true := u8t p45
                go_wp2_with fail
                go_meet
                case rel => exact ⟨by rw [← HSG2.out]; exact congrArg Value.bool (show _ = (x1 == 43 || x1 == 45) from (by rw [p45]; rfl : (x1 == 43 || x1 == 45) = _).symm), rfl⟩
              · have e2 : ((x1.toNat : Int) == 45) = false := u8f p45
                go_wp2_with fail
                go_meet
                case rel => exact ⟨by rw [← HSG2.out]; exact congrArg Value.bool (show _ = (x1 == 43 || x1 == 45) from (by simp [p43, p45] : (x1 == 43 || x1 == 45) = _).symm), rfl⟩
          case rest =>
            obtain ⟨rfl, rfl⟩ := hcut
            clear HSG2
            go_upto_if 47 with (fail)
            go_cut [6] from 9 (fun s6 wx => s6 = .int .i64 n1 ∧ wc = wx)
            case first =>
              cases sg2 with
              | true =>
                have hn := HN1.out
                rw [if_pos rfl] at hn
                have HN := hide hn
                clear hn
                go_wp2_with fail
                go_meet
                case rel => exact ⟨by rw [← HN.out]; rfl, rfl⟩
              | false =>
                have hn := HN1.out
                rw [if_neg (by decide)] at hn
                have HN := hide hn
                clear hn
                go_wp2_with fail
                go_meet
                case rel => exact ⟨by rw [← HN.out]; rfl, rfl⟩
            case rest =>
              obtain ⟨rfl, rfl⟩ := hcut
              clear HN1
              go_upto_region 14 with (fail)
              go_cut [59] from 9 (fun s59 wx => s59 = .bool pw ∧ wc = wx)
              case first =>
                have hore := Cssp.or_e x0
                go_wp2_with fail
                refine HPb.out.mono ?_
                rintro e w' ⟨rfl, rfl⟩
                clear HPb
                cases he : (x0 == 101 || x0 == 69) with
                | true =>
                  rw [he] at hore
                  have HE := hide he
                  clear he
                  go_wp2_with fail
                  refine HPc.out.mono ?_
                  rintro e w' ⟨rfl, rfl⟩
                  clear HPc
                  go_wp2_with fail
                  refine HDg.out.mono ?_
                  rintro e w' ⟨rfl, rfl⟩
                  clear HDg
                  go_wp2_with fail
                  go_meet
                  case rel => exact ⟨by rw [← HPW.out, HE.out]; rfl, rfl⟩
                | false =>
                  rw [he] at hore
                  have HE := hide he
                  clear he
                  go_wp2_with fail
                  go_meet
                  case rel => exact ⟨by rw [← HPW.out, HE.out]; rfl, rfl⟩
              case rest =>
                obtain ⟨rfl, rfl⟩ := hcut
                clear HPW HX0 HX1 HX2' HPb HPc HDg
                go_upto_if 59 with (fail)
                go_cut [4] from 9 (fun s4 wx => s4 = .bool wh ∧ ∃ tt : List UInt8, Hid (Lx wx b d3 false false tt) ∧ Hid (Bld w1.heap.size w1.heap.size a3 wx) ∧ Hid (Upto b w1 wx))
                case first =>
                  cases pw with
                  | false =>
                    obtain ⟨-, r1, r2⟩ := HPW0.out rfl
                    have R1' := hide r1
                    have R2' := hide r2
                    clear r1 r2
                    go_wp2_with fail
                    go_meet
                    case rel => exact ⟨by rw [← HWH.out]; simp, tv, by rw [R1'.out]; exact HXb.out, by rw [R2'.out]; exact HBb.out, HUb.out⟩
                  | true =>
                    obtain ⟨r0, -, r1, r2⟩ := HPW1.out rfl
                    have R1' := hide r1
                    have R2' := hide r2
                    have HTT := take_ d2 tv b n1 false false wc HXb.out r0
                    rw [HH2.out, HT2.out] at HTT
                    have HT := hide HTT
                    clear r1 r2 HTT
                    go_wp2_with fail
                    refine HT.out.mono ?_
                    rintro e w5 ⟨rfl, hx, hu⟩
                    have HX5 := hide hx
                    have HU5 := hide (HUb.out.trans hu)
                    have HB5 := hide (bld_upto HBb.out hu (by omega))
                    have HTT := whileDigit d2t tv b false false w5 HX5.out (by omega)
                    obtain ⟨q1, hq1⟩ : ∃ q, d2t.take R2 = q := ⟨_, rfl⟩
                    obtain ⟨q2, hq2⟩ : ∃ q, d2t.drop R2 = q := ⟨_, rfl⟩
                    rw [HR2.out, hq1, hq2] at HTT
                    have hql : (d2h ++ q1).length ≤ 2097152 := by rw [List.length_append, ← hq1, List.length_take]; omega
                    have hqn : ¬ 9223372036854775807 < d2h.length + q1.length := by rw [← hq1, List.length_take]; omega
                    have HQ1 := hide hq1
                    have HQ2 := hide hq2
                    clear HT hx hu hq1 hq2
                    have HT := hide HTT
                    clear HTT
                    go_wp2_with fail
                    refine HT.out.mono ?_
                    rintro e w6 ⟨rfl, hx, hu⟩
                    have HX6 := hide hx
                    have HU6 := hide (HU5.out.trans hu)
                    have HWS := hide (writeString w1.heap.size w1.heap.size a2 (d2h ++ q1) w6 (bld_upto HB5.out hu (by omega)) HU6.out.size (by omega))
                    clear HT hx hu
                    go_wp2_with fail
                    refine HWS.out.mono ?_
                    rintro e w7 ⟨rfl, hB, hk⟩
                    have HX7 := hide (HX6.out.keep hk.below (by omega))
                    have HU7 := hide (HU6.out.keep hk.below)
                    have HB7 := hide (p := Bld w1.heap.size w1.heap.size (a2 ++ (d2h ++ q1)) w7) (.inr hB)
                    clear HWS hB hk HX6 HU6
                    go_wp2_with fail
                    go_meet
                    case rel => exact ⟨by rw [← HWH.out]; simp, tv, by rw [R1'.out, HQ2.out]; exact HX7.out, by rw [R2'.out, HQ1.out]; exact HB7.out, HU7.out⟩
                case rest =>
                  obtain ⟨rfl, tv2, HXc, HBc, HUc⟩ := hcut
                  clear HPW1 HPW0 HXb HBb HUb HH2 HT2 HR2 HWH
                  have HST := hide (Tryz.Builder_String_any w1.heap.size w1.heap.size a3 wc HBc.out HUc.out.size)
                  go_wp2_with fail
                  refine HST.out.mono ?_
                  rintro e w5 ⟨rfl, hb5⟩
                  have HX5 := hide (HXc.out.keep hb5 (by omega))
                  have HU5 := hide (HUc.out.keep hb5)
                  clear HST hb5 HXc HBc HUc
                  have HT := hide (token_ 11 a3 w5 (by decide))
                  go_wp2_with fail
                  refine HT.out.mono ?_
                  rintro e w6 ⟨rfl, hb⟩
                  have HX6 := hide (HX5.out.below hb)
                  have HU6 := hide (HU5.out.trans (Upto.of_below hb))
                  clear HT hb HX5 HU5
                  go_upto_region 19 with (fail)
                  change Code.wp _ _ _ _ (w6.alloc (.cells (cellsT (⟨11, a3, [], wh⟩)) 27))
                  have hxt := Xt.new w6 (⟨11, a3, [], wh⟩)
                  have hal := (Below.refl w6.heap.size w6).alloc (Nat.le_refl _) (.cells (cellsT (⟨11, a3, [], wh⟩)) 27)
                  generalize hgen : w6.alloc (.cells (cellsT (⟨11, a3, [], wh⟩)) 27) = w7 at hxt hal ⊢
                  clear hgen
                  have HX7 := hide (HX6.out.below hal)
                  have HU7 := hide (HU1.out.trans (HU6.out.trans (Upto.of_below hal)))
                  have HZ7 := hide ((HZ1.out.upto HU6.out (by omega)).below hal)
                  have HT7 := hide hxt
                  have hs6 := HU6.out.size
                  have hs7 := hal.size
                  clear hal hxt HX6 HU6
                  have HID := hide (identAt d3 tv2 b 0 false false w7 HX7.out (by omega) (by decide))
                  go_wp2_with fail
                  refine HID.out.mono ?_
                  rintro e w' ⟨rfl, rfl⟩
                  clear HID
                  cases hid : Cssp.identAt d3 0 with
                  | true =>
                    have hw := HNN.out
                    rw [hid, if_pos rfl] at hw
                    have HW := hide hw
                    clear hid hw HNN
                    have HN := hide (name_ d3 tv2 b false false w7 HX7.out (by omega))
                    obtain ⟨N, hN⟩ : ∃ N, Cssp.name d3 = N := ⟨_, rfl⟩
                    have HW2 := HW.out
                    rw [hN] at HN HW2
                    have HW3 := hide HW2
                    clear HW HW2 hN
                    go_wp2_with fail
                    refine HN.out.mono ?_
                    rintro e w8 ⟨t8, rfl, hx, hu⟩
                    have hs8 := hu.size
                    have hxt8 := HT7.out.upto hu (by omega)
                    obtain ⟨y0, y1, y2, y3⟩ := hxt8.cells
                    have k0' := hxt8.frozen 0
                    have k2' := hxt8.frozen 2
                    have hxt9 := hxt8.setKU 13 N.t
                    have HX8 := hide hx
                    have HU8 := hide (HU7.out.trans hu)
                    have HZ8 := hide (HZ7.out.upto hu (by omega))
                    clear HN hx hu
                    go_upto_region 24 with (fail)
                    change Code.wp _ _ _ _ ((w8.setCell ⟨w6.heap.size, 0, none⟩ (.int .u8 (13 : Nat))).setCell ⟨w6.heap.size, 2, none⟩ (S N.t))
                    have hbw : Below w6.heap.size w8 ((w8.setCell ⟨w6.heap.size, 0, none⟩ (.int .u8 (13 : Nat))).setCell ⟨w6.heap.size, 2, none⟩ (S N.t)) := ((Below.refl w6.heap.size w8).setCell (p := ⟨w6.heap.size, 0, none⟩) (Nat.le_refl _) _).setCell (p := ⟨w6.heap.size, 2, none⟩) (Nat.le_refl _) _
                    generalize hgen : (w8.setCell ⟨w6.heap.size, 0, none⟩ (.int .u8 (13 : Nat))).setCell ⟨w6.heap.size, 2, none⟩ (S N.t) = we at hxt9 hbw ⊢
                    clear hgen y0 y1 y2 y3 k0' k2' hxt8
                    have HXe := hide (HX8.out.keep hbw (by omega))
                    have HUe := hide (HU8.out.keep (hbw.mono (by omega)))
                    have HZe := hide (p := Zt we w.heap.size) ((hbw.block w.heap.size (by omega)).trans HZ8.out)
                    have HTe := hide hxt9
                    clear hbw hxt9
                    obtain ⟨y0, y1, y2, y3⟩ := HTe.out.cells
                    obtain ⟨z0, z1, z2, z3⟩ := HZe.out.cells
                    have g0 := HZe.out.frozen 0
                    have g1 := HZe.out.frozen 1
                    have g2 := HZe.out.frozen 2
                    have g3 := HZe.out.frozen 3
                    go_wp2_with fail
                    change bodyPost _ _ _ _ ⟨_, _⟩ (putT we w.heap.size (⟨13, a3, N.t, wh⟩))
                    obtain ⟨q0, q1, q2, q3⟩ := putT_cells HZe.out (⟨13, a3, N.t, wh⟩)
                    obtain ⟨e1, e2⟩ := putT_keep HUe.out HXe.out hlt (Nat.le_refl _) (⟨13, a3, N.t, wh⟩)
                    refine bodyPost_ret (v := TV (⟨13, a3, N.t, wh⟩)) (by simp [results, Tryz.results79, go_sem, q0, q1, q2, q3]) rfl ?_
                    rw [← HW3.out]
                    refine ⟨t8, ⟨rfl, ?_, e2⟩, fun h => by cases h⟩
                    show Lx _ _ (s.drop (k2 + N.k)) false N.o _
                    rw [← List.drop_drop, HD3.out, ← Bool.false_or N.o]
                    exact e1
                  | false =>
                    have hw := HNN.out
                    rw [hid, if_neg (by decide)] at hw
                    have HW := hide hw
                    clear hid hw HNN
                    have HP := peek_ d3 tv2 b 0 false false w7 HX7.out
                    obtain ⟨z, hz⟩ : ∃ z, Cssp.at_ d3 0 = z := ⟨_, rfl⟩
                    have hw := HW.out
                    rw [hz] at hw HP
                    have HZz := hide hz
                    have HW := hide hw
                    have HP' := hide HP
                    clear hw hz HP
                    go_wp2_with fail
                    refine HP'.out.mono ?_
                    rintro e w' ⟨rfl, rfl⟩
                    clear HP'
                    by_cases h37 : z = 37
                    · have e1 : ((z.toNat : Int) == 37) = true := u8t h37
                      have hw := HW.out
                      rw [if_pos h37] at hw
                      have HW := hide hw
                      have hd3n : 1 ≤ d3.length := Cssp.at_lt (by rw [HZz.out, h37]; decide)
                      clear h37 hw
                      have HTk := hide (take_ d3 tv2 b 1 false false w7 HX7.out hd3n)
                      obtain ⟨d4, hd4⟩ : ∃ d, d3.drop 1 = d := ⟨_, rfl⟩
                      obtain ⟨d4h, hd4h⟩ : ∃ d, d3.take 1 = d := ⟨_, rfl⟩
                      rw [hd4, hd4h] at HTk
                      have HD4 := hide hd4
                      clear hd4 hd4h
                      go_wp2_with fail
                      refine HTk.out.mono ?_
                      rintro e w8 ⟨rfl, hx, hu⟩
                      have hs8 := hu.size
                      have hxt8 := HT7.out.upto hu (by omega)
                      obtain ⟨y0, y1, y2, y3⟩ := hxt8.cells
                      have k0' := hxt8.frozen 0
                      have k2' := hxt8.frozen 3
                      have hxt9 := hxt8.setKF 12 false
                      have HX8 := hide hx
                      have HU8 := hide (HU7.out.trans hu)
                      have HZ8 := hide (HZ7.out.upto hu (by omega))
                      clear HTk hx hu e1
                      go_upto_region 24 with (fail)
                      change Code.wp _ _ _ _ ((w8.setCell ⟨w6.heap.size, 0, none⟩ (.int .u8 (12 : Nat))).setCell ⟨w6.heap.size, 3, none⟩ (.bool false))
                      have hbw : Below w6.heap.size w8 ((w8.setCell ⟨w6.heap.size, 0, none⟩ (.int .u8 (12 : Nat))).setCell ⟨w6.heap.size, 3, none⟩ (.bool false)) := ((Below.refl w6.heap.size w8).setCell (p := ⟨w6.heap.size, 0, none⟩) (Nat.le_refl _) _).setCell (p := ⟨w6.heap.size, 3, none⟩) (Nat.le_refl _) _
                      generalize hgen : (w8.setCell ⟨w6.heap.size, 0, none⟩ (.int .u8 (12 : Nat))).setCell ⟨w6.heap.size, 3, none⟩ (.bool false) = we at hxt9 hbw ⊢
                      clear hgen y0 y1 y2 y3 k0' k2' hxt8
                      have HXe := hide (HX8.out.keep hbw (by omega))
                      have HUe := hide (HU8.out.keep (hbw.mono (by omega)))
                      have HZe := hide (p := Zt we w.heap.size) ((hbw.block w.heap.size (by omega)).trans HZ8.out)
                      have HTe := hide hxt9
                      clear hbw hxt9
                      obtain ⟨y0, y1, y2, y3⟩ := HTe.out.cells
                      obtain ⟨z0, z1, z2, z3⟩ := HZe.out.cells
                      have g0 := HZe.out.frozen 0
                      have g1 := HZe.out.frozen 1
                      have g2 := HZe.out.frozen 2
                      have g3 := HZe.out.frozen 3
                      go_wp2_with fail
                      change bodyPost _ _ _ _ ⟨_, _⟩ (putT we w.heap.size (⟨12, a3, [], false⟩))
                      obtain ⟨q0, q1, q2, q3⟩ := putT_cells HZe.out (⟨12, a3, [], false⟩)
                      obtain ⟨e1, e2⟩ := putT_keep HUe.out HXe.out hlt (Nat.le_refl _) (⟨12, a3, [], false⟩)
                      refine bodyPost_ret (v := TV (⟨12, a3, [], false⟩)) (by simp [results, Tryz.results79, go_sem, q0, q1, q2, q3]) rfl ?_
                      rw [← HW.out]
                      refine ⟨tv2, ⟨rfl, ?_, e2⟩, fun h => by cases h⟩
                      show Lx _ _ (s.drop (k2 + 1)) false false _
                      rw [← List.drop_drop, HD3.out, HD4.out]
                      exact e1
                    · have e1 : ((z.toNat : Int) == 37) = false := u8f h37
                      have hw := HW.out
                      rw [if_neg h37] at hw
                      have HW := hide hw
                      clear h37 hw
                      obtain ⟨y0, y1, y2, y3⟩ := HT7.out.cells
                      obtain ⟨z0, z1, z2, z3⟩ := HZ7.out.cells
                      have g0 := HZ7.out.frozen 0
                      have g1 := HZ7.out.frozen 1
                      have g2 := HZ7.out.frozen 2
                      have g3 := HZ7.out.frozen 3
                      go_wp2_with fail
                      change bodyPost _ _ _ _ ⟨_, _⟩ (putT w7 w.heap.size (⟨11, a3, [], wh⟩))
                      obtain ⟨q0, q1, q2, q3⟩ := putT_cells HZ7.out (⟨11, a3, [], wh⟩)
                      obtain ⟨e1, e2⟩ := putT_keep HU7.out HX7.out hlt (Nat.le_refl _) (⟨11, a3, [], wh⟩)
                      refine bodyPost_ret (v := TV (⟨11, a3, [], wh⟩)) (by simp [results, Tryz.results79, go_sem, q0, q1, q2, q3]) rfl ?_
                      rw [← HW.out]
                      refine ⟨tv2, ⟨rfl, ?_, e2⟩, fun h => by cases h⟩
                      show Lx _ _ (s.drop k2) false false _
                      rw [HD3.out]
                      exact e1
end Go.Proofs.YtojgcangnkjmjaaGreatDoor
