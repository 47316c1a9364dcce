/- word. (Printed by genCssR.py.) -/
import Derived.Test.YtojgcangnkjmjaaGreatDoorQ
import Derived.Shelf.Strings.SlTrimAscii
namespace Go.Proofs.YtojgcangnkjmjaaGreatDoor
open Go.RowKit

theorem Cssp.url_kind (s : List UInt8) : (Cssp.url s).x.kind ≠ 6 := by
  show (ite _ _ _ : Cssp.Tk).kind ≠ 6
  split
  · exact (show (9 : Nat) ≠ 6 by decide)
  · exact (show (8 : Nat) ≠ 6 by decide)
theorem trimB (l r : List UInt8) (w : World) (hr : Hid (Cssp.lead l = r)) : Calls Tryz.prog 107 #[S (l.take 2), S [32, 9, 10]] w (Fresh (S r) w) := by
  have h := Any.strings_TrimLeft_laid Tryz.lays161 (by kernel_rfl) ⟨(l.take 2).toArray⟩ ⟨([32, 9, 10] : List UInt8).toArray⟩ w (by decide) (by intro j b hj; match j with | 0 | 1 | 2 => simp at hj; subst hj; decide | j + 3 => simp at hj)
  have e : Lib.trimLeftS (l.take 2) [32, 9, 10] = r := by
    rw [← hr.out, Lib.trimLeftS, Cssp.lead]
    congr 1
    funext c
    exact Cssp.blank_contains c
  rw [← e]
  exact h
set_option maxRecDepth 100000 in
set_option maxHeartbeats 4000000 in
theorem word_ (s t : List UInt8) (b : Nat) (w : World) (h : Lx w b s false false t) (hl : s.length ≤ 1048576) :
    Calls Tryz.prog 81 #[.pointer (some ⟨b, 0, none⟩)] w (TokP (Cssp.word s) s w b) := by
  obtain ⟨N, hN⟩ : ∃ N, Cssp.name s = N := ⟨_, rfl⟩
  obtain ⟨r1, hr1⟩ : ∃ r, s.drop N.k = r := ⟨_, rfl⟩
  obtain ⟨x, hx1⟩ : ∃ x, Cssp.at_ r1 0 = x := ⟨_, rfl⟩
  have hxs : Cssp.at_ s N.k = x := by rw [← hx1, ← hr1, Cssp.at_drop, Nat.add_zero]
  obtain ⟨W, hW⟩ : ∃ W, Cssp.word s = W := ⟨_, rfl⟩
  have hnl := (Cssp.name_len s.length s (Nat.le_refl _))
  obtain ⟨r2, hr2⟩ : ∃ r, s.drop (N.k + 1) = r := ⟨_, rfl⟩
  have hr12 : r1.drop 1 = r2 := by rw [← hr1, ← hr2, List.drop_drop]
  have hW' := hW
  unfold Cssp.word at hW'
  simp only [hN, hxs, hr2] at hW'
  rw [hN] at hnl
  rw [hW]
  have hr1l : r1.length ≤ s.length := by rw [← hr1, List.length_drop]; omega
  have hr2l : r2.length ≤ s.length := by rw [← hr2, List.length_drop]; omega
  have HWW := hide hW'
  have HR1 := hide hr1
  have HR2 := hide hr2
  have HR12 := hide hr12
  have HX1' := hide hx1
  have HNM := fun (W : World) (hW : Lx W b s false false t) => name_ s t b false false W hW hl
  rw [hN, hr1] at HNM
  obtain ⟨NT, NK, NO⟩ := N
  simp only at hnl
  simp only [Bool.false_or] at HNM
  have hntl : NT.length ≤ 4194304 := by omega
  obtain ⟨u, hu0⟩ : ∃ u, Cssp.lower NT = u := ⟨_, rfl⟩
  have HLW := hide hu0
  clear hW hW' hN hr1 hr2 hr12 hx1 hxs hu0
  have hz := Zt.new w
  have hal := (Below.refl w.heap.size w).alloc (Nat.le_refl _) (.cells #[.int .u8 0, S [], S [], .bool false] 27)
  have hx := h.below hal
  have hlt := h.lt
  go_enter Tryz.func81, Tryz.ntmps81
  go_upto_region 1 with (fail)
  change Code.wp _ _ _ _ (w.alloc (.cells #[.int .u8 0, S [], S [], .bool false] 27))
  generalize hgen : w.alloc (.cells #[.int .u8 0, S [], S [], .bool false] 27) = w1 at hz hal hx ⊢
  clear hgen h
  have hsz1 := hal.size
  have hzlt := hz.lt
  have HZ1 := hide hz
  have HU1 := hide (p := Upto b w w1) (Upto.of_below hal)
  have HN := hide (HNM w1 hx)
  clear hz hal hx HNM
  go_wp2_with fail
  refine HN.out.mono ?_
  rintro e w2 ⟨t2, rfl, hx, hu⟩
  have HX2 := hide hx
  have HU2 := hide (HU1.out.trans hu)
  have HZ2 := hide (HZ1.out.upto hu (by omega))
  have hsz2 := hu.size
  have HP := peek_ r1 t2 b 0 false NO w2 hx
  rw [HX1'.out] at HP
  have HP' := hide HP
  have HX1q := HX1'
  clear HN hx hu HX1' HU1 HZ1 HP
  go_wp2_with fail
  refine HP'.out.mono ?_
  rintro e w' ⟨rfl, rfl⟩
  clear HP'
  by_cases h40 : x = 40
  · have e1 : ((x.toNat : Int) != 40) = false := u8y h40
    have hw := HWW.out
    rw [if_neg (by rw [h40]; decide)] at hw
    have hr1n : 1 ≤ r1.length := Cssp.at_lt (s := r1) (i := 0) (by rw [HX1q.out, h40]; decide)
    have HTk := take_ r1 t2 b 1 false NO w2 HX2.out hr1n
    rw [HR12.out] at HTk
    obtain ⟨tk1, htk1⟩ : ∃ x, r1.take 1 = x := ⟨_, rfl⟩
    rw [htk1] at HTk
    have HW := hide hw
    have HT := hide HTk
    clear HWW h40 hw htk1 HTk
    go_wp2_with fail
    refine HT.out.mono ?_
    rintro e w3 ⟨rfl, hx, hu⟩
    have hx4 := hx.set2 false
    have hu4 := (HU2.out.trans hu).setCell 2 (.bool false)
    have hz4 := (HZ2.out.upto hu (by omega)).upto ((Upto.refl b w3).setCell 2 (.bool false)) (by omega)
    obtain ⟨c0, c1, c2, c3⟩ := hx.cells
    have f2 := hx.frozen 2
    clear HT hu
    go_upto_region 6 with (fail)
    change Code.wp _ _ _ _ (w3.setCell ⟨b, 2, none⟩ (.bool false))
    generalize hgen : w3.setCell ⟨b, 2, none⟩ (.bool false) = w4 at hx4 hu4 hz4 ⊢
    clear hgen c0 c1 c2 c3 f2 hx e1
    have HX4 := hide hx4
    have HU4 := hide hu4
    have HZ4 := hide hz4
    have HL := hide (tLower NT u w4 (by omega) HLW.out)
    clear hx4 hu4 hz4 HX2 HU2 HZ2
    go_wp2_with fail
    refine HL.out.mono ?_
    rintro e w5 ⟨rfl, hb⟩
    have HX5 := hide (HX4.out.below hb)
    have HU5 := hide (HU4.out.trans (Upto.of_below hb))
    have HZ5 := hide (HZ4.out.below hb)
    have hsz5 := HU5.out.size
    clear HL hb HX4 HU4 HZ4
    by_cases hurl : u = [117, 114, 108]
    · have hub : (u == [117, 114, 108]) = true := by rw [hurl]; rfl
      have hw := HW.out
      rw [HLW.out, if_neg (by simp [hurl])] at hw
      have HW2 := hide hw
      have HUR := hide hurl
      clear HW HLW hw hurl
      go_upto_block 0 with (fail)
      clear hub
      go_cut [] from 5 (fun wx => ∃ (l tt : List UInt8), Hid (Lx wx b l false false tt) ∧ Hid (Upto b w5 wx) ∧ Hid (Cssp.twos l = 0 ∧ r2.drop (Cssp.twos r2) = l) ∧ l.length ≤ 1048576)
      case first =>
        go_wp2_with fail
        go_loopg [22] r2.length (fun g _ wx => ∃ (l tt : List UInt8) (k : Nat), l.length ≤ g ∧ g ≤ r2.length ∧ Hid (Lx wx b l false false tt) ∧ Hid (Upto b w5 wx) ∧ Hid (r2.drop k = l ∧ Cssp.twos r2 = k + Cssp.twos l))
        case atStart => exact ⟨r2, t2, 0, Nat.le_refl _, Nat.le_refl _, HX5.out, Upto.refl _ _, rfl, by simp⟩
        case round =>
          obtain ⟨l, tt, k, hlg, hgs, hLx, hUp, hSt⟩ := hrel
          obtain ⟨c0, c1, c2, c3⟩ := hLx.out.cells
          cases l with
          | nil =>
            go_wp2_with fail
            go_meet
            case rel => exact ⟨[], tt, hLx.out, hUp.out, ⟨rfl, by rw [hSt.out.2, show Cssp.twos [] = 0 from rfl, Nat.add_zero, hSt.out.1]⟩, by simp⟩
          | cons c l =>
            cases l with
            | nil =>
              have hTw : Cssp.twos [c] = 0 := by simp [Cssp.twos, Cssp.isAt]
              have HTw := hide hTw
              clear hTw
              go_wp2_with fail
              go_meet
              case rel => exact ⟨[c], tt, hLx.out, hUp.out, ⟨HTw.out, by rw [hSt.out.2, HTw.out, Nat.add_zero, hSt.out.1]⟩, by simp⟩
            | cons d r =>
              have b1 : (1 : Int) < ((c :: d :: r).length : Int) := by simp; omega
              have d1 : decide ((1 : Int) < ((c :: d :: r).length : Int)) = true := by simp; omega
              have HTw : Hid (Cssp.twos (c :: d :: r) = if Cssp.blank c = true ∧ Cssp.blank d = true then Cssp.twos (d :: r) + 1 else 0) := rfl
              have HCb := hide (cBlank c wr)
              have HDb := hide (cBlank d wr)
              have hll : (c :: d :: r).length ≤ 1048576 := by omega
              simp only [List.length_cons] at hlg
              go_wp2_with fail
              refine HCb.out.mono ?_
              rintro e w' ⟨rfl, rfl⟩
              clear HCb
              cases hcb : Cssp.blank c with
              | false =>
                have HT0 : Hid (Cssp.twos (c :: d :: r) = 0) := by unfold Hid; rw [HTw.out, hcb]; simp
                clear hcb HTw
                go_wp2_with fail
                go_meet
                case rel => exact ⟨c :: d :: r, tt, hLx.out, hUp.out, ⟨HT0.out, by rw [hSt.out.2, HT0.out, Nat.add_zero, hSt.out.1]⟩, hll⟩
              | true =>
                have HCB := hide hcb
                clear hcb
                go_wp2_with fail
                refine HDb.out.mono ?_
                rintro e w' ⟨rfl, rfl⟩
                clear HDb
                cases hdb : Cssp.blank d with
                | false =>
                  have HT0 : Hid (Cssp.twos (c :: d :: r) = 0) := by unfold Hid; rw [HTw.out, hdb]; simp
                  clear hdb HTw
                  go_wp2_with fail
                  go_meet
                  case rel => exact ⟨c :: d :: r, tt, hLx.out, hUp.out, ⟨HT0.out, by rw [hSt.out.2, HT0.out, Nat.add_zero, hSt.out.1]⟩, hll⟩
                | true =>
                  have HT0 : Hid (Cssp.twos (c :: d :: r) = Cssp.twos (d :: r) + 1) := by unfold Hid; rw [HTw.out, hdb, HCB.out]; simp
                  have HTk := hide (take_ (c :: d :: r) tt b 1 false false wr hLx.out (by simp))
                  clear hdb HTw
                  go_wp2_with fail
                  refine HTk.out.mono ?_
                  rintro e w6 ⟨rfl, hx, hu⟩
                  have HX6 := hide (p := Lx w6 b (d :: r) false false tt) hx
                  have HU6 := hide (hUp.out.trans hu)
                  clear HTk hx hu
                  go_wp2_with fail
                  go_roundg (gk - 1)
                  case measure => omega
                  case rel => exact ⟨d :: r, tt, k + 1, by simp only [List.length_cons]; omega, by omega, HX6.out, HU6.out, by rw [← List.drop_drop, hSt.out.1]; rfl, by rw [hSt.out.2, HT0.out]; omega⟩
      case rest =>
        obtain ⟨l, tt, HL, HUc, HSt, hll⟩ := hcut
        have hc : ∃ m, Cssp.twos r2 = m := ⟨_, rfl⟩
        obtain ⟨m, hm⟩ := hc
        have hst := HSt.out
        have hw := HW2.out
        rw [hm] at hst hw
        rw [hst.2] at hw
        have hq := Cssp.lead_quoted l hst.1
        obtain ⟨L, hL⟩ : ∃ L, Cssp.lead l = L := ⟨_, rfl⟩
        rw [hL] at hq
        rw [← hq] at hw
        have hsd : s.drop (NK + 1 + m) = l := by rw [← List.drop_drop, HR2.out, hst.2]
        have HSD := hide hsd
        have HLD := hide hL
        have HW3 := hide hw
        clear HX5 HW2 HSt hst hw hq hsd hL hm
        obtain ⟨c0, c1, c2, c3⟩ := HL.out.cells
        obtain ⟨k, hk1, hk2, hk3⟩ : ∃ k : Nat, min (2 : Int) (l.length : Int) = (k : Int) ∧ k ≤ l.length ∧ l.take k = l.take 2 := by
          by_cases h2 : l.length < 2
          · exact ⟨l.length, by omega, Nat.le_refl _, by rw [List.take_of_length_le (Nat.le_refl _), List.take_of_length_le (by omega)]⟩
          · exact ⟨2, by omega, by omega, rfl⟩
        have hb0 : (0 : Int) ≤ (k : Int) := by omega
        have hb1 : (k : Int) ≤ (l.length : Int) := by omega
        have HTR := fun W => hide (trimB l L W HLD.out)
        rw [← hk3] at HTR
        clear hk3 hk2
        go_upto_region 10 with (fail)
        go_cut [4] from 5 (fun s4 wx => s4 = S L ∧ Below wc.heap.size wc wx)
        case first =>
          go_still_tail 11, (by kernel_rfl)
          change wpList _ _ _ _ _ (wc.drewN 1)
          have hB1 := belowN wc 1
          generalize wc.drewN 1 = wd at hB1 ⊢
          go_wp2_with fail
          refine (HTR _).out.mono ?_
          rintro e w9 ⟨rfl, hb9⟩
          go_wp2_with fail
          go_meet
          case rel => exact ⟨rfl, hB1.trans (hb9.mono hB1.size)⟩
        case rest =>
          obtain ⟨rfl, hbc⟩ := hcut
          have HX7 := hide (HL.out.below hbc)
          have HU7 := hide (HUc.out.trans (Upto.of_below hbc))
          clear hbc HL HUc HTR c0 c1 c2 c3 hb0 hb1 hk1
          by_cases hqd : Cssp.isAt (fun c => c == 34 || c == 39) L 0 = true
          · obtain ⟨c, r, rfl, hcq⟩ : ∃ c r, L = c :: r ∧ (c = 34 ∨ c = 39) := by
              cases L with
              | nil => cases hqd
              | cons c r =>
                refine ⟨c, r, rfl, ?_⟩
                have : (c == 34 || c == 39) = true := hqd
                simpa using this
            have hw := HW3.out
            rw [if_pos hqd] at hw
            have HW4 := hide hw
            clear HW3 hw hqd HLD
            have HT := hide (token_ 3 NT wc (by decide))
            have hq3 : ((c.toNat : Int) == 34) = true ∨ (((c.toNat : Int) == 34) = false ∧ ((c.toNat : Int) == 39) = true) := by
              rcases hcq with rfl | rfl
              · exact .inl rfl
              · exact .inr ⟨rfl, rfl⟩
            clear hcq
            rcases hq3 with q34 | ⟨q34, q39⟩
            all_goals
              go_wp2_with fail
              refine HT.out.mono ?_
              rintro e wz ⟨rfl, hbz⟩
              have HXz := hide (HX7.out.below hbz)
              have HUy := hide (HU7.out.trans (Upto.of_below hbz))
              have HUz := hide (HU5.out.trans HUy.out)
              have HZz := hide (HZ5.out.upto HUy.out (by omega))
              clear HT hbz
              obtain ⟨z0, z1, z2, z3⟩ := HZz.out.cells
              have g0 := HZz.out.frozen 0
              have g1 := HZz.out.frozen 1
              have g2 := HZz.out.frozen 2
              have g3 := HZz.out.frozen 3
              go_wp2_with fail
              change bodyPost _ _ _ _ ⟨_, _⟩ (putT wz w.heap.size (Cssp.tk 3 NT))
              obtain ⟨q0, q1, q2, q3⟩ := putT_cells HZz.out (Cssp.tk 3 NT)
              obtain ⟨e1, e2⟩ := putT_keep HUz.out HXz.out hlt (Nat.le_refl _) (Cssp.tk 3 NT)
              refine bodyPost_ret (v := TV (Cssp.tk 3 NT)) (by simp [results, Tryz.results81, go_sem, q0, q1, q2, q3]) rfl ?_
              rw [← HW4.out]
              refine ⟨tt, ⟨rfl, ?_, e2⟩, fun h => by cases h⟩
              rw [← HSD.out] at e1
              exact e1
          · have hw := HW3.out
            rw [if_neg hqd] at hw
            have hkd := Cssp.url_kind l
            obtain ⟨U, hU⟩ : ∃ U, Cssp.url l = U := ⟨_, rfl⟩
            have HT0 := url_ l tt b false wc HX7.out hll
            rw [hU] at hw hkd HT0
            obtain ⟨xx, uk, uo, ui, ue⟩ := U
            have HKD := hide hkd
            have HT := hide HT0
            have HW4 := hide hw
            clear HW3 hw HLD hU hkd HT0
            have hq3 : L = [] ∨ ∃ c r, L = c :: r ∧ ((c.toNat : Int) == 34) = false ∧ ((c.toNat : Int) == 39) = false := by
              cases L with
              | nil => exact .inl rfl
              | cons c r =>
                have : (c == 34 || c == 39) = false := eq_false_of_ne_true hqd
                rw [Bool.or_eq_false_iff, beq_eq_false_iff_ne, beq_eq_false_iff_ne] at this
                exact .inr ⟨c, r, rfl, u8f this.1, u8f this.2⟩
            clear hqd
            rcases hq3 with rfl | ⟨c, r, rfl, q34, q39⟩
            all_goals
              go_wp2_with fail
              refine HT.out.mono ?_
              rintro e wz ⟨tz, ⟨rfl, hxz, huz⟩, -⟩
              have HXz := hide hxz
              have HUy := hide (HU7.out.trans huz)
              have HUz := hide (HU5.out.trans HUy.out)
              have HZz := hide (HZ5.out.upto HUy.out (by omega))
              clear HT hxz huz
              obtain ⟨z0, z1, z2, z3⟩ := HZz.out.cells
              have g0 := HZz.out.frozen 0
              have g1 := HZz.out.frozen 1
              have g2 := HZz.out.frozen 2
              have g3 := HZz.out.frozen 3
              go_wp2_with fail
              change bodyPost _ _ _ _ ⟨_, _⟩ (putT wz w.heap.size xx)
              obtain ⟨q0, q1, q2, q3⟩ := putT_cells HZz.out xx
              obtain ⟨e1, e2⟩ := putT_keep HUz.out HXz.out hlt (Nat.le_refl _) xx
              refine bodyPost_ret (v := TV xx) (by simp [results, Tryz.results81, go_sem, q0, q1, q2, q3]) rfl ?_
              rw [← HW4.out]
              refine ⟨tz, ⟨rfl, ?_, e2⟩, fun _ _ h => absurd h HKD.out⟩
              show Lx _ _ (s.drop (NK + 1 + m + uk)) ui uo _
              rw [← List.drop_drop, HSD.out]
              exact e1
    · have hub : (u == [117, 114, 108]) = false := beq_eq_false_iff_ne.2 hurl
      have hw := HW.out
      rw [HLW.out, if_pos hurl] at hw
      have HW2 := hide hw
      clear HW HLW hw hurl
      have HT := hide (token_ 3 NT w5 (by decide))
      go_wp2_with fail
      refine HT.out.mono ?_
      rintro e wz ⟨rfl, hbz⟩
      have HXz := hide (HX5.out.below hbz)
      have HUz := hide (HU5.out.trans (Upto.of_below hbz))
      have HZz := hide (HZ5.out.below hbz)
      clear HT hbz
      obtain ⟨z0, z1, z2, z3⟩ := HZz.out.cells
      have g0 := HZz.out.frozen 0
      have g1 := HZz.out.frozen 1
      have g2 := HZz.out.frozen 2
      have g3 := HZz.out.frozen 3
      go_wp2_with fail
      change bodyPost _ _ _ _ ⟨_, _⟩ (putT wz w.heap.size (Cssp.tk 3 NT))
      obtain ⟨q0, q1, q2, q3⟩ := putT_cells HZz.out (Cssp.tk 3 NT)
      obtain ⟨e1, e2⟩ := putT_keep HUz.out HXz.out hlt (Nat.le_refl _) (Cssp.tk 3 NT)
      refine bodyPost_ret (v := TV (Cssp.tk 3 NT)) (by simp [results, Tryz.results81, go_sem, q0, q1, q2, q3]) rfl ?_
      rw [← HW2.out]
      refine ⟨t2, ⟨rfl, ?_, e2⟩, fun h => by cases h⟩
      rw [← HR2.out] at e1
      exact e1
  · have e1 : ((x.toNat : Int) != 40) = true := u8n h40
    have hw := HWW.out
    rw [if_pos h40] at hw
    have HW := hide hw
    clear HWW h40 hw
    have HT := hide (token_ 2 NT w2 (by decide))
    go_wp2_with fail
    refine HT.out.mono ?_
    rintro e wz ⟨rfl, hbz⟩
    have HXz := hide (HX2.out.below hbz)
    have HUz := hide (HU2.out.trans (Upto.of_below hbz))
    have HZz := hide (HZ2.out.below hbz)
    clear HT hbz
    obtain ⟨z0, z1, z2, z3⟩ := HZz.out.cells
    have g0 := HZz.out.frozen 0
    have g1 := HZz.out.frozen 1
    have g2 := HZz.out.frozen 2
    have g3 := HZz.out.frozen 3
    go_wp2_with fail
    change bodyPost _ _ _ _ ⟨_, _⟩ (putT wz w.heap.size (Cssp.tk 2 NT))
    obtain ⟨q0, q1, q2, q3⟩ := putT_cells HZz.out (Cssp.tk 2 NT)
    obtain ⟨e1, e2⟩ := putT_keep HUz.out HXz.out hlt (Nat.le_refl _) (Cssp.tk 2 NT)
    refine bodyPost_ret (v := TV (Cssp.tk 2 NT)) (by simp [results, Tryz.results81, go_sem, q0, q1, q2, q3]) rfl ?_
    rw [← HW.out]
    refine ⟨t2, ⟨rfl, ?_, e2⟩, fun h => by cases h⟩
    rw [← HR1.out] at e1
    exact e1
end Go.Proofs.YtojgcangnkjmjaaGreatDoor
