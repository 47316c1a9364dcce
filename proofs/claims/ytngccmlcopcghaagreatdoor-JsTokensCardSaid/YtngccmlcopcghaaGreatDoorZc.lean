/- The reference's one: numbers, strings. -/
import Derived.Test.YtngccmlcopcghaaGreatDoorZa
import Derived.Deep.CutBlock
import Derived.Deep.Cut
import Derived.Outline
set_option maxRecDepth 100000
set_option maxHeartbeats 8000000
namespace Go.Proofs.YtngccmlcopcghaaGreatDoor
open Go.RowKit
theorem rOne_Zc (b : Nat) (F : List UInt8) (n : Nat) (st : Jsp.St) (p0 : Int) (fr : Fr) (w : World) (h : MB w b F (n : Int) st.stk (!st.goal) st.last st.some 0 p0 fr) (hn : n < F.length) (hk : st.stk.length <= 200) (_hso : st.some = false -> st.last = []) (hl : F.length <= 1048570) (hcl : (Jsp.begins (Jsp.pt (F.drop n)) = false /\ ¬ Jsp.pt (F.drop n) = 35 /\ (Jsp.digit (Jsp.pt (F.drop n)) = true \/ (Jsp.pt (F.drop n) = 46 /\ Jsp.digit (Jsp.pt (F.drop (n + 1))) = true))) \/ (Jsp.pt (F.drop n) = 34) \/ (Jsp.pt (F.drop n) = 39)) :
  Calls Tryz.prog 52 #[.pointer (some ⟨b, 0, none⟩)] w (NxR b F n st w) := by
 obtain ⟨x, hx⟩ : ∃ x, Jsp.pt (F.drop n) = x := ⟨_, rfl⟩
 obtain ⟨x2, hx2⟩ : ∃ x, Jsp.pt (F.drop (n + 1)) = x := ⟨_, rfl⟩
 obtain ⟨y2, hy2⟩ : ∃ y, Jsp.pn (F.drop (n + 1)) = y := ⟨_, rfl⟩
 have HP := fun W => rPoint F n W (Nat.le_trans hl (by decide))
 have HP2 := fun W => rPoint F (n + 1) W (Nat.le_trans hl (by decide))
 rw [ptV, hx2, hy2] at HP2
 rw [ptV, hx] at HP
 have HP := hide HP
 have HP2 := hide HP2
 obtain ⟨ih, hih⟩ : ∃ v, (Jsp.top st == 36) = v := ⟨_, rfl⟩
 have htop := top_eq st
 have HCL := hide hcl
 have HT1 := hide (Ti.start h)
 obtain ⟨w1, hw1⟩ : ∃ w1, w1 = w.alloc (.cells tokC 29) := ⟨_, rfl⟩
 obtain ⟨r, hr⟩ : ∃ r, w.heap.size = r := ⟨_, rfl⟩
 rw [<- hw1, hr] at HT1
 have HW := hide hw1
 have HR := hide hr
 have HX := hide hx
 have HX2 := hide hx2
 have HY2 := hide hy2
 have HIH := hide hih
 have HK := hide hk
 have HL := hide hl
 have HN := hide hn
 have HTOP := hide htop
 have c0 := HT1.out.m.cells.1
 have c1 := HT1.out.m.cells.2.1
 clear h hw1 hr hx hx2 hy2 hih hk _hso htop hcl
 go_enter Tryz.func52, Tryz.ntmps52
 go_upto_region 1 with (fail)
 change Code.wp _ _ _ _ (w.alloc (.cells tokC 29))
 rw [<- HW.out, HR.out]
 clear HW
 have hS : ∀ V, Below w1.heap.size w1 V -> V.cell? ⟨b, 0, none⟩ = some (S F) /\ V.cell? ⟨b, 1, none⟩ = some (.int .i64 (n : Int)) := fun V hV => ⟨cell_below c0 hV, cell_below c1 hV⟩
 go_region_held3 (fun V => V.cell? ⟨b, 0, none⟩ = some (S F) /\ V.cell? ⟨b, 1, none⟩ = some (.int .i64 (n : Int))) (first | exact ⟨c0, c1⟩ | exact hS _ (((Below.refl w1.heap.size w1).drew).trans hb)) ((go_at_call 81; refine (HP.out _).mono ?_; rintro e w2 ⟨rfl, hb⟩))
 have hb2 := ((Below.refl w1.heap.size w1).drew).trans hb
 have HT2 := hide (HT1.out.below hb2)
 clear hb hb2 hS c0 c1 HT1
 have c0 := HT2.out.m.cells.1
 have c1 := HT2.out.m.cells.2.1
 have hw1 := wr1 (i := n) (by omega)
 have hwi : IntKind.i64.wrap ((n : Int) + 1) = (n : Int) + 1 := by rw [IntKind.wrap_i64]; omega
 have hw3 : ¬ (9223372036854775807 : Int) < (n : Int) + 1 := by omega
 clear hl hn
 go_wp2_with fail
 have hS : ∀ V, Below w2.heap.size w2 V -> V.cell? ⟨b, 0, none⟩ = some (S F) /\ V.cell? ⟨b, 1, none⟩ = some (.int .i64 (n : Int)) := fun V hV => ⟨cell_below c0 hV, cell_below c1 hV⟩
 go_region_held3 (fun V => V.cell? ⟨b, 0, none⟩ = some (S F) /\ V.cell? ⟨b, 1, none⟩ = some (.int .i64 (n : Int))) (first | exact ⟨c0, c1⟩ | exact hS _ (((Below.refl w2.heap.size w2).drew).trans hb)) ((go_at_call 81; refine (HP2.out _).mono ?_; rintro e w3 ⟨rfl, hb⟩))
 have hb2 := ((Below.refl w2.heap.size w2).drew).trans hb
 have HT3 := hide (HT2.out.below hb2)
 clear hb hb2 hS c0 c1 HT2
 have c2 := HT3.out.m.cells.2.2.1
 go_upto_region 3 with (fail)
 go_cut [7] from 36 (fun s7 wx => s7 = .bool ih /\ ∃ fr, Hid (Ti w wx b r F (n : Int) st.stk (!st.goal) st.last st.some 0 p0 fr))
 case first =>
  rcases HTOP.out with ⟨h0, ht0⟩ | ⟨hlt, h0, ht0⟩
  ·have hl0 : st.stk.length = 0 := by rw [h0]; rfl
   have q0 : decide ((0 : Int) < (st.stk.length : Int)) = false := by rw [hl0]; rfl
   have q0n : decide (0 < st.stk.length) = false := by rw [hl0]; rfl
   obtain rfl : ih = false := by rw [<- HIH.out, ht0]; rfl
   clear h0 hl0 ht0
   go_wp2_with fail
   go_quiet (fail)
   go_wp2_with fail
   go_meet
   case rel => exact ⟨rfl, _, HT3.out.drewN _⟩
  ·have hpos : 0 < st.stk.length := by omega
   have q0 : decide ((0 : Int) < (st.stk.length : Int)) = true := decide_eq_true (by omega)
   have q0n : decide (0 < st.stk.length) = true := decide_eq_true hpos
   have b0 : (0 : Int) <= (st.stk.length : Int) - 1 := by omega
   have b1 : (st.stk.length : Int) - 1 < (st.stk.length : Int) := by omega
   have b2 : ((st.stk.length : Int) - 1).toNat = st.stk.length - 1 := by omega
   have hw := wl1 hpos (by have := HK.out; omega)
   obtain ⟨z, hz⟩ : ∃ z, st.stk[st.stk.length - 1] = z := ⟨_, rfl⟩
   have hzb := u8_lt z
   have hzz : (z == 36) = ih := by rw [<- HIH.out, ht0, hz]
   cases ih
   ·have q36 : ((z.toNat : Int) == 36) = false := u8f (by simpa using hzz)
    have q36b : ((st.stk[st.stk.length - 1].toNat : Int) == 36) = false := by rw [hz]; exact q36
    clear hzz h0 ht0 hpos
    go_wp2_with fail
    go_quiet (fail)
    go_wp2_with fail
    go_meet
    case rel => exact ⟨rfl, _, HT3.out.drewN _⟩
   ·have q36 : ((z.toNat : Int) == 36) = true := u8t (by simpa using hzz)
    have q36b : ((st.stk[st.stk.length - 1].toNat : Int) == 36) = true := by rw [hz]; exact q36
    clear hzz h0 ht0 hpos
    go_wp2_with fail
    go_quiet (fail)
    go_wp2_with fail
    go_meet
    case rel => exact ⟨rfl, _, HT3.out.drewN _⟩
 case rest =>
  obtain ⟨rfl, fr1, ht3⟩ := hcut
  clear HT3 c2 HP HP2
  go_upto_block 0 with fail
  change Code.wp _ _ _ _ (wc.alloc (.cells tokC 29))
  have hto := To.start ht3.out
  generalize wc.alloc (.cells tokC 29) = w4 at hto ⊢
  generalize wc.heap.size = q at hto ⊢
  have HTO := hide hto
  clear hto ht3
  go_cut [] from 9 (fun wx => Hid (OnR w b r q F n st wx))
  case first =>
   have hx := HX.out
   have hx2 := HX2.out
   have hy2 := HY2.out
   have hih := HIH.out
   have hn := HN.out
   have hl := HL.out
   have hclv := HCL.out
   clear HCL
   rcases hclv with ⟨hbg, h35, hd⟩ | h34 | h39
   ·have HFN := hide (fun w0 e w' => NmP.fin (b := b) (F := F) (n := n) (st := st) (w0 := w0) (e := e) (w' := w') hbg h35 hd)
    rw [hx] at hbg h35 hd
    rw [hx2] at hd
    have q35 : ((x : Int) == 35) = false := by rw [beq_eq_false_iff_ne]; omega
    have HBG := fun W => rBegins x W
    rw [show Jsp.begins x = false from hbg] at HBG
    have HBG := hide HBG
    have HD := hide hd
    clear hx hx2 hy2 hih hn hl hbg h35 hd
    have HNM := hide (rNumeral b F n st.stk (!st.goal) st.last st.some p0 fr1 w4 HTO.out.ti.m HN.out HL.out)
    rcases HD.out with hdg | ⟨h46, hd2⟩
    ·have HDG := fun W => rDig x W
     rw [hdg] at HDG
     have HDG := hide HDG
     clear hdg
     go_wp2_with fail
     refine (HBG.out _).mono ?_
     rintro e w4' ⟨rfl, rfl⟩
     go_wp2_with fail
     refine (HDG.out _).mono ?_
     rintro e w4a ⟨rfl, rfl⟩
     go_wp2_with fail
     refine HNM.out.mono ?_
     rintro e w5 hp
     obtain ⟨x9, t9, v9, a9, k9, d9, l9, so9, er9, pl9, fr9, rfl, hk5, hm5, hfin⟩ := HFN.out _ _ _ hp
     have HT5 := hide (HTO.out.call hm5 hk5)
     have HFIN := hide hfin
     clear hk5 hm5 hfin hp HTO
     obtain ⟨s0, s1, s2⟩ := HT5.out.tk.cells
     have g0 := HT5.out.tk.frozen 0
     have g1 := HT5.out.tk.frozen 1
     have g2 := HT5.out.tk.frozen 2
     go_wp2_with fail
     go_meet
     case rel => exact HFIN.out _ _ _ _ (HT5.out.put x9 t9 v9)
    ·have q46 : ((x : Int) == 46) = true := by rw [h46]; rfl
     have HDG := fun W => rDig x W
     rw [show Jsp.digit x = false by rw [h46]; rfl] at HDG
     have HDG := hide HDG
     have HD2 := fun W => rDig x2 W
     rw [hd2] at HD2
     have HD2 := hide HD2
     clear h46 hd2
     go_wp2_with fail
     refine (HBG.out _).mono ?_
     rintro e w4' ⟨rfl, rfl⟩
     go_wp2_with fail
     refine (HDG.out _).mono ?_
     rintro e w4a ⟨rfl, rfl⟩
     go_wp2_with fail
     refine (HD2.out _).mono ?_
     rintro e w4b ⟨rfl, rfl⟩
     go_wp2_with fail
     refine HNM.out.mono ?_
     rintro e w5 hp
     obtain ⟨x9, t9, v9, a9, k9, d9, l9, so9, er9, pl9, fr9, rfl, hk5, hm5, hfin⟩ := HFN.out _ _ _ hp
     have HT5 := hide (HTO.out.call hm5 hk5)
     have HFIN := hide hfin
     clear hk5 hm5 hfin hp HTO
     obtain ⟨s0, s1, s2⟩ := HT5.out.tk.cells
     have g0 := HT5.out.tk.frozen 0
     have g1 := HT5.out.tk.frozen 1
     have g2 := HT5.out.tk.frozen 2
     go_wp2_with fail
     go_meet
     case rel => exact HFIN.out _ _ _ _ (HT5.out.put x9 t9 v9)
   ·have HFN := hide (fun w0 e w' => TxtP.fin (b := b) (F := F) (n := n) (st := st) (w0 := w0) (e := e) (w' := w') (.inl h34))
    have hxc := hx.symm.trans h34
    obtain ⟨qc, T, hF, hqc, -⟩ := Jsp.pt_byte (drop_ne hn) (by rw [h34]; decide)
    rw [h34] at hqc
    have hqc : qc = 34 := UInt8.toNat_inj.1 hqc
    have HF := hide hF
    have HQC := hide (show qc = 34 \/ qc = 39 from .inl hqc)
    have q35 : ((x : Int) == 35) = false := by rw [hxc]; rfl
    have q46 : ((x : Int) == 46) = false := by rw [hxc]; rfl
    have q34 : ((x : Int) == 34) = true := by rw [hxc]; rfl
    have q39 : ((x : Int) == 39) = false := by rw [hxc]; rfl
    have q96 : ((x : Int) == 96) = false := by rw [hxc]; rfl
    have q125 : ((x : Int) == 125) = false := by rw [hxc]; rfl
    have q47 : ((x : Int) == 47) = false := by rw [hxc]; rfl
    have HBG := fun W => rBegins x W
    rw [show Jsp.begins x = false from by rw [hxc]; rfl] at HBG
    have HBG := hide HBG
    have HDG := fun W => rDig x W
    rw [show Jsp.digit x = false from by rw [hxc]; rfl] at HDG
    have HDG := hide HDG
    clear hx hx2 hy2 hih hn hl h34 hxc hF hqc
    have HTX := hide (rText b F n qc T st.stk (!st.goal) st.last st.some p0 fr1 w4 HTO.out.ti.m HF.out HQC.out (Nat.le_trans HL.out (by decide)))
    go_wp2_with fail
    refine (HBG.out _).mono ?_
    rintro e w4' ⟨rfl, rfl⟩
    go_wp2_with fail
    refine (HDG.out _).mono ?_
    rintro e w4a ⟨rfl, rfl⟩
    go_wp2_with fail
    refine HTX.out.mono ?_
    rintro e w5 hp
    obtain ⟨x9, t9, v9, a9, k9, d9, l9, so9, er9, pl9, fr9, rfl, hk5, hm5, hfin⟩ := HFN.out _ _ _ hp
    have HT5 := hide (HTO.out.call hm5 hk5)
    have HFIN := hide hfin
    clear hk5 hm5 hfin hp HTO
    obtain ⟨s0, s1, s2⟩ := HT5.out.tk.cells
    have g0 := HT5.out.tk.frozen 0
    have g1 := HT5.out.tk.frozen 1
    have g2 := HT5.out.tk.frozen 2
    go_wp2_with fail
    go_meet
    case rel => exact HFIN.out _ _ _ _ (HT5.out.put x9 t9 v9)
   ·have HFN := hide (fun w0 e w' => TxtP.fin (b := b) (F := F) (n := n) (st := st) (w0 := w0) (e := e) (w' := w') (.inr h39))
    have hxc := hx.symm.trans h39
    obtain ⟨qc, T, hF, hqc, -⟩ := Jsp.pt_byte (drop_ne hn) (by rw [h39]; decide)
    rw [h39] at hqc
    have hqc : qc = 39 := UInt8.toNat_inj.1 hqc
    have HF := hide hF
    have HQC := hide (show qc = 34 \/ qc = 39 from .inr hqc)
    have q35 : ((x : Int) == 35) = false := by rw [hxc]; rfl
    have q46 : ((x : Int) == 46) = false := by rw [hxc]; rfl
    have q34 : ((x : Int) == 34) = false := by rw [hxc]; rfl
    have q39 : ((x : Int) == 39) = true := by rw [hxc]; rfl
    have q96 : ((x : Int) == 96) = false := by rw [hxc]; rfl
    have q125 : ((x : Int) == 125) = false := by rw [hxc]; rfl
    have q47 : ((x : Int) == 47) = false := by rw [hxc]; rfl
    have HBG := fun W => rBegins x W
    rw [show Jsp.begins x = false from by rw [hxc]; rfl] at HBG
    have HBG := hide HBG
    have HDG := fun W => rDig x W
    rw [show Jsp.digit x = false from by rw [hxc]; rfl] at HDG
    have HDG := hide HDG
    clear hx hx2 hy2 hih hn hl h39 hxc hF hqc
    have HTX := hide (rText b F n qc T st.stk (!st.goal) st.last st.some p0 fr1 w4 HTO.out.ti.m HF.out HQC.out (Nat.le_trans HL.out (by decide)))
    go_wp2_with fail
    refine (HBG.out _).mono ?_
    rintro e w4' ⟨rfl, rfl⟩
    go_wp2_with fail
    refine (HDG.out _).mono ?_
    rintro e w4a ⟨rfl, rfl⟩
    go_wp2_with fail
    refine HTX.out.mono ?_
    rintro e w5 hp
    obtain ⟨x9, t9, v9, a9, k9, d9, l9, so9, er9, pl9, fr9, rfl, hk5, hm5, hfin⟩ := HFN.out _ _ _ hp
    have HT5 := hide (HTO.out.call hm5 hk5)
    have HFIN := hide hfin
    clear hk5 hm5 hfin hp HTO
    obtain ⟨s0, s1, s2⟩ := HT5.out.tk.cells
    have g0 := HT5.out.tk.frozen 0
    have g1 := HT5.out.tk.frozen 1
    have g2 := HT5.out.tk.frozen 2
    go_wp2_with fail
    go_meet
    case rel => exact HFIN.out _ _ _ _ (HT5.out.put x9 t9 v9)
  case rest =>
   clear HTO
   obtain ⟨x, t, v, er, o, a, k, d, l, so, fr9, hnx, her, hto⟩ | ⟨x, t, v, kk, st2, pl, fr9, hnx, hto, hs2, hw⟩ := hcut.out
   ·have HT9 := hide hto
    have HNX := hide hnx
    obtain ⟨ez, hez⟩ : ∃ ez : Int, (er : Int) = ez := ⟨_, rfl⟩
    rw [hez] at HT9
    have q6 : ¬ ez = 0 := by omega
    have q6b : (ez != 0) = true := by rw [bne_iff_ne]; exact q6
    have q6c : (ez == 0) = false := by rw [beq_eq_false_iff_ne]; exact q6
    have HEZ := hide hez
    clear hto hnx hcut her hez
    generalize wc = w9 at HT9 ⊢
    have c6 := HT9.out.ti.m.cells.2.2.2.2.2.2.1
    obtain ⟨y0, y1, y2⟩ := HT9.out.tk.cells
    obtain ⟨s0, s1, s2, s3, s4, s5⟩ := HT9.out.ti.cells
    go_wp2_with fail
    change bodyPost _ _ _ _ ⟨_, _⟩ (tokW w9 r x t v)
    obtain ⟨E1, E2⟩ := HT9.out.ti.fin x t v
    refine bodyPost_ret (v := tokV x t v) (tok_ret Tryz.results52 _ _ _ HT9.out.ti.tk x _ v rfl) rfl ?_
    unfold NxR
    rw [HNX.out]
    exact ⟨_, _, _, rfl, E2, _, _, _, _, _, _, by rw [HEZ.out]; exact E1⟩
   ·have HT5 := hide hto
    have HNX := hide hnx
    have HSO2 := hide hs2
    clear hto hnx hcut hs2
    generalize wc = w5 at HT5 ⊢
    have c6 := HT5.out.ti.m.cells.2.2.2.2.2.2.1
    have c5 := HT5.out.ti.m.cells.2.2.2.2.2.1
    have f5 := HT5.out.ti.m.frozen 5
    go_upto_region 30 with (fail)
    change Code.wp _ _ _ _ (w5.setCell ⟨b, 5, none⟩ (.bool true))
    have ht6 := HT5.out.set5 true
    generalize w5.setCell ⟨b, 5, none⟩ (.bool true) = w6 at ht6 ⊢
    have HT6 := hide ht6
    clear ht6 HT5 c5 c6 f5
    have c4 := HT6.out.ti.m.cells.2.2.2.2.1
    have f4 := HT6.out.ti.m.frozen 4
    go_upto_region 31 with (fail)
    change Code.wp _ _ _ _ (w6.setCell ⟨b, 4, none⟩ (S []))
    have ht7 := HT6.out.set4 []
    generalize w6.setCell ⟨b, 4, none⟩ (S []) = w7 at ht7 ⊢
    have HT7 := hide ht7
    clear ht7 HT6 c4 f4
    have c3 := HT7.out.ti.m.cells.2.2.2.1
    have f3 := HT7.out.ti.m.frozen 3
    have y0 := HT7.out.tk.cells.1
    rcases hw with ⟨rfl, hl2, hg2⟩ | ⟨hx1, hl2, hg2⟩
    ·have HL2 := hide hl2
     have HG2 := hide hg2
     clear hl2 hg2
     have HAV := hide (fun W => rAmongV t W)
     go_upto_region 32 with (fail)
     change Code.wp _ _ _ _ (w7.setCell ⟨b, 3, none⟩ (.bool true))
     have ht8 := HT7.out.set3 true
     generalize w7.setCell ⟨b, 3, none⟩ (.bool true) = w8 at ht8 ⊢
     have HT8 := hide ht8
     clear ht8 HT7 c3 f3 y0
     have c4 := HT8.out.ti.m.cells.2.2.2.2.1
     have f4 := HT8.out.ti.m.frozen 4
     have y0 := HT8.out.tk.cells.1
     have y1 := HT8.out.tk.cells.2.1
     go_upto_region 34 with (fail)
     change Code.wp _ _ _ _ (w8.setCell ⟨b, 4, none⟩ (S t))
     have hta := HT8.out.set4 t
     generalize w8.setCell ⟨b, 4, none⟩ (S t) = wa at hta ⊢
     have HTA := hide hta
     clear hta HT8 c4 f4 y0 y1
     have c3 := HTA.out.ti.m.cells.2.2.2.1
     have f3 := HTA.out.ti.m.frozen 3
     have y1 := HTA.out.tk.cells.2.1
     go_wp2_with fail
     refine (HAV.out _).mono ?_
     rintro e wa' ⟨rfl, rfl⟩
     go_upto_region 35 with (fail)
     change Code.wp _ _ _ _ (wa.setCell ⟨b, 3, none⟩ (.bool (!Jsp.wordsOf Jsp.aheadV t)))
     have ht9 := HTA.out.set3 (!Jsp.wordsOf Jsp.aheadV t)
     generalize wa.setCell ⟨b, 3, none⟩ (.bool (!Jsp.wordsOf Jsp.aheadV t)) = w9 at ht9 ⊢
     have HT9 := hide ht9
     clear ht9 HTA c3 f3 y1
     obtain ⟨y0, y1, y2⟩ := HT9.out.tk.cells
     obtain ⟨s0, s1, s2, s3, s4, s5⟩ := HT9.out.ti.cells
     go_wp2_with fail
     change bodyPost _ _ _ _ ⟨_, _⟩ (tokW w9 r 1 t v)
     obtain ⟨E1, E2⟩ := HT9.out.ti.fin 1 t v
     refine bodyPost_ret (v := tokV 1 t v) (tok_ret Tryz.results52 _ _ _ HT9.out.ti.tk 1 _ v rfl) rfl ?_
     unfold NxR
     rw [HNX.out]
     exact ⟨rfl, E2, _, _, by rw [HSO2.out, HL2.out, HG2.out]; exact E1⟩
    ·have HL2 := hide hl2
     by_cases x7 : x = 7
     ·subst x7
      have HG2 := hide (show st2.goal = true from hg2)
      clear hl2 hg2 hx1
      go_upto_region 32 with (fail)
      change Code.wp _ _ _ _ (w7.setCell ⟨b, 3, none⟩ (.bool false))
      have ht8 := HT7.out.set3 false
      generalize w7.setCell ⟨b, 3, none⟩ (.bool false) = w8 at ht8 ⊢
      have HT8 := hide ht8
      clear ht8 HT7 c3 f3 y0
      have y0 := HT8.out.tk.cells.1
      generalize w8 = w9 at HT8 y0 ⊢
      have HT9 := HT8
      clear HT8 y0
      obtain ⟨y0, y1, y2⟩ := HT9.out.tk.cells
      obtain ⟨s0, s1, s2, s3, s4, s5⟩ := HT9.out.ti.cells
      go_wp2_with fail
      change bodyPost _ _ _ _ ⟨_, _⟩ (tokW w9 r 7 t v)
      obtain ⟨E1, E2⟩ := HT9.out.ti.fin 7 t v
      refine bodyPost_ret (v := tokV 7 t v) (tok_ret Tryz.results52 _ _ _ HT9.out.ti.tk 7 _ v rfl) rfl ?_
      unfold NxR
      rw [HNX.out]
      exact ⟨rfl, E2, _, _, by rw [HSO2.out, HL2.out, HG2.out]; exact E1⟩
     by_cases x8 : x = 8
     ·subst x8
      have HG2 := hide (show st2.goal = true from hg2)
      clear hl2 hg2 hx1 x7
      go_upto_region 32 with (fail)
      change Code.wp _ _ _ _ (w7.setCell ⟨b, 3, none⟩ (.bool false))
      have ht8 := HT7.out.set3 false
      generalize w7.setCell ⟨b, 3, none⟩ (.bool false) = w8 at ht8 ⊢
      have HT8 := hide ht8
      clear ht8 HT7 c3 f3 y0
      have y0 := HT8.out.tk.cells.1
      generalize w8 = w9 at HT8 y0 ⊢
      have HT9 := HT8
      clear HT8 y0
      obtain ⟨y0, y1, y2⟩ := HT9.out.tk.cells
      obtain ⟨s0, s1, s2, s3, s4, s5⟩ := HT9.out.ti.cells
      go_wp2_with fail
      change bodyPost _ _ _ _ ⟨_, _⟩ (tokW w9 r 8 t v)
      obtain ⟨E1, E2⟩ := HT9.out.ti.fin 8 t v
      refine bodyPost_ret (v := tokV 8 t v) (tok_ret Tryz.results52 _ _ _ HT9.out.ti.tk 8 _ v rfl) rfl ?_
      unfold NxR
      rw [HNX.out]
      exact ⟨rfl, E2, _, _, by rw [HSO2.out, HL2.out, HG2.out]; exact E1⟩
     have HG2 := hide (show st2.goal = false from by rw [hg2]; simp [x7, x8])
     have z7 : ¬ (x : Int) = 7 := by omega
     have z8 : ¬ (x : Int) = 8 := by omega
     have z7b : ((x : Int) != 7) = true := by rw [bne_iff_ne]; exact z7
     have z8b : ((x : Int) != 8) = true := by rw [bne_iff_ne]; exact z8
     have z1 : ((x : Int) == 1) = false := by rw [beq_eq_false_iff_ne]; omega
     clear hl2 hg2 hx1 x7 x8
     go_upto_region 32 with (fail)
     change Code.wp _ _ _ _ (w7.setCell ⟨b, 3, none⟩ (.bool true))
     have ht8 := HT7.out.set3 true
     generalize w7.setCell ⟨b, 3, none⟩ (.bool true) = w8 at ht8 ⊢
     have HT8 := hide ht8
     clear ht8 HT7 c3 f3 y0
     have y0 := HT8.out.tk.cells.1
     generalize w8 = w9 at HT8 y0 ⊢
     have HT9 := HT8
     clear HT8
     obtain ⟨y0, y1, y2⟩ := HT9.out.tk.cells
     obtain ⟨s0, s1, s2, s3, s4, s5⟩ := HT9.out.ti.cells
     go_wp2_with fail
     change bodyPost _ _ _ _ ⟨_, _⟩ (tokW w9 r x t v)
     obtain ⟨E1, E2⟩ := HT9.out.ti.fin x t v
     refine bodyPost_ret (v := tokV x t v) (tok_ret Tryz.results52 _ _ _ HT9.out.ti.tk x _ v rfl) rfl ?_
     unfold NxR
     rw [HNX.out]
     exact ⟨rfl, E2, _, _, by rw [HSO2.out, HL2.out, HG2.out]; exact E1⟩
end Go.Proofs.YtngccmlcopcghaaGreatDoor
