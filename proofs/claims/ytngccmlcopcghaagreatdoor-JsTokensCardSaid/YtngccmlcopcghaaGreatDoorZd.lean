/- The reference's one: marks. -/
import Derived.Test.YtngccmlcopcghaaGreatDoorZa
import Derived.Deep.CutBlock
import Derived.Deep.Cut
import Derived.Outline
set_option maxRecDepth 100000
set_option maxHeartbeats 8000000
namespace Go.Proofs.YtngccmlcopcghaaGreatDoor
open Go.RowKit
theorem rOne_Zd (b : Nat) (F : List UInt8) (n : Nat) (st : Jsp.St) (p0 : Int) (fr : Fr) (w : World) (h : MB w b F (n : Int) st.stk (!st.goal) st.last st.some 0 p0 fr) (hn : n < F.length) (hk : st.stk.length <= 200) (hso : st.some = false -> st.last = []) (hl : F.length <= 1048570) (hcl : (Jsp.pt (F.drop n) = 35 /\ Jsp.begins (Jsp.pt (F.drop (n + 1))) = false /\ F.drop (n + 1) ≠ []) \/ (Jsp.begins (Jsp.pt (F.drop n)) = false /\ ¬ Jsp.pt (F.drop n) = 35 /\ ¬ (Jsp.digit (Jsp.pt (F.drop n)) = true \/ (Jsp.pt (F.drop n) = 46 /\ Jsp.digit (Jsp.pt (F.drop (n + 1))) = true)) /\ ¬ (Jsp.pt (F.drop n) = 34 \/ Jsp.pt (F.drop n) = 39) /\ ¬ (Jsp.pt (F.drop n) = 96 \/ (Jsp.pt (F.drop n) = 125 /\ Jsp.top st = 36)) /\ ¬ (Jsp.pt (F.drop n) = 47 /\ st.goal = true) /\ (Jsp.pt (F.drop n) = 46 \/ Jsp.pt (F.drop n) = 125 \/ Jsp.pt (F.drop n) = 47 \/ (¬ Jsp.pt (F.drop n) = 46 /\ ¬ Jsp.pt (F.drop n) = 125 /\ ¬ Jsp.pt (F.drop n) = 47)))) :
  Calls Tryz.prog 52 #[.pointer (some ⟨b, 0, none⟩)] w (NxR b F n st w) := by
 obtain ⟨x, hx⟩ : ∃ x, Jsp.pt (F.drop n) = x := ⟨_, rfl⟩
 obtain ⟨x2, hx2⟩ : ∃ x, Jsp.pt (F.drop (n + 1)) = x := ⟨_, rfl⟩
 obtain ⟨y2, hy2⟩ : ∃ y, Jsp.pn (F.drop (n + 1)) = y := ⟨_, rfl⟩
 have HP := fun W => rPoint F n W (Nat.le_trans hl (by decide))
 have HP2 := fun W => rPoint F (n + 1) W (Nat.le_trans hl (by decide))
 rw [ptV, hx2, hy2] at HP2
 rw [ptV, hx] at HP
 have HP := hide HP
 have HP2 := hide HP2
 obtain ⟨ih, hih⟩ : ∃ v, (Jsp.top st == 36) = v := ⟨_, rfl⟩
 have htop := top_eq st
 have HCL := hide hcl
 have HT1 := hide (Ti.start h)
 obtain ⟨w1, hw1⟩ : ∃ w1, w1 = w.alloc (.cells tokC 29) := ⟨_, rfl⟩
 obtain ⟨r, hr⟩ : ∃ r, w.heap.size = r := ⟨_, rfl⟩
 rw [<- hw1, hr] at HT1
 have HW := hide hw1
 have HR := hide hr
 have HX := hide hx
 have HX2 := hide hx2
 have HY2 := hide hy2
 have HIH := hide hih
 have HK := hide hk
 have HSO := hide hso
 have HL := hide hl
 have HN := hide hn
 have HTOP := hide htop
 have c0 := HT1.out.m.cells.1
 have c1 := HT1.out.m.cells.2.1
 clear h hw1 hr hx hx2 hy2 hih hk hso htop hcl
 go_enter Tryz.func52, Tryz.ntmps52
 go_upto_region 1 with (fail)
 change Code.wp _ _ _ _ (w.alloc (.cells tokC 29))
 rw [<- HW.out, HR.out]
 clear HW
 have hS : ∀ V, Below w1.heap.size w1 V -> V.cell? ⟨b, 0, none⟩ = some (S F) /\ V.cell? ⟨b, 1, none⟩ = some (.int .i64 (n : Int)) := fun V hV => ⟨cell_below c0 hV, cell_below c1 hV⟩
 go_region_held3 (fun V => V.cell? ⟨b, 0, none⟩ = some (S F) /\ V.cell? ⟨b, 1, none⟩ = some (.int .i64 (n : Int))) (first | exact ⟨c0, c1⟩ | exact hS _ (((Below.refl w1.heap.size w1).drew).trans hb)) ((go_at_call 81; refine (HP.out _).mono ?_; rintro e w2 ⟨rfl, hb⟩))
 have hb2 := ((Below.refl w1.heap.size w1).drew).trans hb
 have HT2 := hide (HT1.out.below hb2)
 clear hb hb2 hS c0 c1 HT1
 have c0 := HT2.out.m.cells.1
 have c1 := HT2.out.m.cells.2.1
 have hw1 := wr1 (i := n) (by omega)
 have hwi : IntKind.i64.wrap ((n : Int) + 1) = (n : Int) + 1 := by rw [IntKind.wrap_i64]; omega
 have hw3 : ¬ (9223372036854775807 : Int) < (n : Int) + 1 := by omega
 clear hl hn
 go_wp2_with fail
 have hS : ∀ V, Below w2.heap.size w2 V -> V.cell? ⟨b, 0, none⟩ = some (S F) /\ V.cell? ⟨b, 1, none⟩ = some (.int .i64 (n : Int)) := fun V hV => ⟨cell_below c0 hV, cell_below c1 hV⟩
 go_region_held3 (fun V => V.cell? ⟨b, 0, none⟩ = some (S F) /\ V.cell? ⟨b, 1, none⟩ = some (.int .i64 (n : Int))) (first | exact ⟨c0, c1⟩ | exact hS _ (((Below.refl w2.heap.size w2).drew).trans hb)) ((go_at_call 81; refine (HP2.out _).mono ?_; rintro e w3 ⟨rfl, hb⟩))
 have hb2 := ((Below.refl w2.heap.size w2).drew).trans hb
 have HT3 := hide (HT2.out.below hb2)
 clear hb hb2 hS c0 c1 HT2
 have c2 := HT3.out.m.cells.2.2.1
 go_upto_region 3 with (fail)
 go_cut [7] from 36 (fun s7 wx => s7 = .bool ih /\ ∃ fr, Hid (Ti w wx b r F (n : Int) st.stk (!st.goal) st.last st.some 0 p0 fr))
 case first =>
  rcases HTOP.out with ⟨h0, ht0⟩ | ⟨hlt, h0, ht0⟩
  ·have hl0 : st.stk.length = 0 := by rw [h0]; rfl
   have q0 : decide ((0 : Int) < (st.stk.length : Int)) = false := by rw [hl0]; rfl
   have q0n : decide (0 < st.stk.length) = false := by rw [hl0]; rfl
   obtain rfl : ih = false := by rw [<- HIH.out, ht0]; rfl
   clear h0 hl0 ht0
   go_wp2_with fail
   go_quiet (fail)
   go_wp2_with fail
   go_meet
   case rel => exact ⟨rfl, _, HT3.out.drewN _⟩
  ·have hpos : 0 < st.stk.length := by omega
   have q0 : decide ((0 : Int) < (st.stk.length : Int)) = true := decide_eq_true (by omega)
   have q0n : decide (0 < st.stk.length) = true := decide_eq_true hpos
   have b0 : (0 : Int) <= (st.stk.length : Int) - 1 := by omega
   have b1 : (st.stk.length : Int) - 1 < (st.stk.length : Int) := by omega
   have b2 : ((st.stk.length : Int) - 1).toNat = st.stk.length - 1 := by omega
   have hw := wl1 hpos (by have := HK.out; omega)
   obtain ⟨z, hz⟩ : ∃ z, st.stk[st.stk.length - 1] = z := ⟨_, rfl⟩
   have hzb := u8_lt z
   have hzz : (z == 36) = ih := by rw [<- HIH.out, ht0, hz]
   cases ih
   ·have q36 : ((z.toNat : Int) == 36) = false := u8f (by simpa using hzz)
    have q36b : ((st.stk[st.stk.length - 1].toNat : Int) == 36) = false := by rw [hz]; exact q36
    clear hzz h0 ht0 hpos
    go_wp2_with fail
    go_quiet (fail)
    go_wp2_with fail
    go_meet
    case rel => exact ⟨rfl, _, HT3.out.drewN _⟩
   ·have q36 : ((z.toNat : Int) == 36) = true := u8t (by simpa using hzz)
    have q36b : ((st.stk[st.stk.length - 1].toNat : Int) == 36) = true := by rw [hz]; exact q36
    clear hzz h0 ht0 hpos
    go_wp2_with fail
    go_quiet (fail)
    go_wp2_with fail
    go_meet
    case rel => exact ⟨rfl, _, HT3.out.drewN _⟩
 case rest =>
  obtain ⟨rfl, fr1, ht3⟩ := hcut
  clear HT3 c2 HP HP2
  go_upto_block 0 with fail
  change Code.wp _ _ _ _ (wc.alloc (.cells tokC 29))
  have hto := To.start ht3.out
  generalize wc.alloc (.cells tokC 29) = w4 at hto ⊢
  generalize wc.heap.size = q at hto ⊢
  have HTO := hide hto
  clear hto ht3
  have hx := HX.out
  have hx2 := HX2.out
  have hy2 := HY2.out
  have hih := HIH.out
  have hn := HN.out
  have hl := HL.out
  have hclv := HCL.out
  clear HCL
  rcases hclv with ⟨h35, hb2, hne2⟩ | ⟨hbg, h35, hd, hq, ht, hrg, hc | hc | hc | ⟨h46, h125, h47⟩⟩
  ·have hnx : Jsp.next st (F.drop n) = match Jsp.markOf (F.drop n) with
     | none => .no 170 0
     | some m => match Jsp.bracket st m with
      | none => .no 177 0
      | some st2 => .ok ⟨3, m, []⟩ m.length { st2 with last := m, some := true } := by
    rw [Jsp.mark35 h35]; exact Jsp.nx_hash h35 hb2
   have hy1 := (Jsp.pn_le hne2).1
   rw [hx2] at hb2
   have hxc := hx.symm.trans h35
   have q35 : ((x : Int) == 35) = true := by rw [hxc]; rfl
   have q46 : ((x : Int) == 46) = false := by rw [hxc]; rfl
   have q34 : ((x : Int) == 34) = false := by rw [hxc]; rfl
   have q39 : ((x : Int) == 39) = false := by rw [hxc]; rfl
   have q96 : ((x : Int) == 96) = false := by rw [hxc]; rfl
   have q125 : ((x : Int) == 125) = false := by rw [hxc]; rfl
   have q47 : ((x : Int) == 47) = false := by rw [hxc]; rfl
   rw [hy2] at hy1
   have y0 : decide ((0 : Int) < (y2 : Int)) = true := decide_eq_true (by omega)
   have y0n : decide (0 < y2) = true := decide_eq_true (by omega)
   have y0e : ((y2 : Int) == 0) = false := by rw [beq_eq_false_iff_ne]; omega
   have HBG := fun W => rBegins x W
   rw [show Jsp.begins x = false from by rw [hxc]; rfl] at HBG
   have HBG := hide HBG
   have HDG := fun W => rDig x W
   rw [show Jsp.digit x = false from by rw [hxc]; rfl] at HDG
   have HDG := hide HDG
   have HB2 := fun W => rBegins x2 W
   rw [hb2] at HB2
   have HB2 := hide HB2
   have HNX := hide hnx
   clear hx hx2 hy2 hih hn hl h35 hb2 hne2 hy1 hxc hnx
   have HMK := hide (rMark b F n st p0 fr1 w4 HTO.out.ti.m HN.out HK.out HSO.out (Nat.le_trans HL.out (by decide)))
   go_wp2_with fail
   refine (HBG.out _).mono ?_
   rintro e w4' ⟨rfl, rfl⟩
   go_wp2_with fail
   refine (HB2.out _).mono ?_
   rintro e w4a ⟨rfl, rfl⟩
   go_wp2_with fail
   refine (HDG.out _).mono ?_
   rintro e w4b ⟨rfl, rfl⟩
   go_wp2_with fail
   refine HMK.out.mono ?_
   rintro e w5 hp
   obtain ⟨x9, t9, v9, a9, k9, d9, l9, so9, er9, pl9, fr9, rfl, hk5, hm5, hfin⟩ := MkP.fin HNX.out hp
   have HT5 := hide (HTO.out.call hm5 hk5)
   have HFIN := hide hfin
   clear hk5 hm5 hfin hp HTO
   obtain ⟨s0, s1, s2⟩ := HT5.out.tk.cells
   have g0 := HT5.out.tk.frozen 0
   have g1 := HT5.out.tk.frozen 1
   have g2 := HT5.out.tk.frozen 2
   go_upto_region 6 with (fail)
   change Code.wp _ _ _ _ (tokW w5 q x9 t9 v9)
   have HT6 := hide (HT5.out.put x9 t9 v9)
   generalize tokW w5 q x9 t9 v9 = w6 at HT6 ⊢
   clear HT5 s0 s1 s2 g0 g1 g2
   have c5 := HT6.out.ti.m.cells.2.2.2.2.2.1
   have f5 := HT6.out.ti.m.frozen 5
   go_upto_region 7 with (fail)
   change Code.wp _ _ _ _ (w6.setCell ⟨b, 5, none⟩ (.bool true))
   have HT7 := hide (HT6.out.set5 true)
   generalize w6.setCell ⟨b, 5, none⟩ (.bool true) = w7 at HT7 ⊢
   clear HT6 c5 f5
   have c4 := HT7.out.ti.m.cells.2.2.2.2.1
   have f4 := HT7.out.ti.m.frozen 4
   have y1 := HT7.out.tk.cells.2.1
   go_upto_region 8 with (fail)
   change Code.wp _ _ _ _ (w7.setCell ⟨b, 4, none⟩ (S t9))
   have HT9 := hide (HT7.out.set4 t9)
   generalize w7.setCell ⟨b, 4, none⟩ (S t9) = w9 at HT9 ⊢
   clear HT7 c4 f4 y1
   obtain ⟨y0, y1, y2⟩ := HT9.out.tk.cells
   obtain ⟨s0, s1, s2, s3, s4, s5⟩ := HT9.out.ti.cells
   go_wp2_with fail
   change bodyPost _ _ _ _ ⟨_, _⟩ (tokW w9 r x9 t9 v9)
   obtain ⟨E1, E2⟩ := HT9.out.ti.fin x9 t9 v9
   refine bodyPost_ret (v := tokV x9 t9 v9) (tok_ret Tryz.results52 _ _ _ HT9.out.ti.tk x9 _ v9 rfl) rfl ?_
   exact HFIN.out _ _ _ E2 E1
  ·have HNX := hide (Jsp.nx_mark (st := st) hbg h35 hd hq ht hrg)
   have hxc := hx.symm.trans hc
   have q35 : ((x : Int) == 35) = false := by rw [hxc]; rfl
   have q46 : ((x : Int) == 46) = true := by rw [hxc]; rfl
   have q34 : ((x : Int) == 34) = false := by rw [hxc]; rfl
   have q39 : ((x : Int) == 39) = false := by rw [hxc]; rfl
   have q96 : ((x : Int) == 96) = false := by rw [hxc]; rfl
   have q125 : ((x : Int) == 125) = false := by rw [hxc]; rfl
   have q47 : ((x : Int) == 47) = false := by rw [hxc]; rfl
   have HBG := fun W => rBegins x W
   rw [show Jsp.begins x = false from by rw [hxc]; rfl] at HBG
   have HBG := hide HBG
   have HDG := fun W => rDig x W
   rw [show Jsp.digit x = false from by rw [hxc]; rfl] at HDG
   have HDG := hide HDG
   have HD2 := fun W => rDig x2 W
   rw [show Jsp.digit x2 = false by rw [<- hx2]; exact Bool.eq_false_iff.2 fun h => hd (.inr ⟨hc, h⟩)] at HD2
   have HD2 := hide HD2
   clear hx hx2 hy2 hih hn hl hbg h35 hd hq ht hrg hc hxc
   have HMK := hide (rMark b F n st p0 fr1 w4 HTO.out.ti.m HN.out HK.out HSO.out (Nat.le_trans HL.out (by decide)))
   go_wp2_with fail
   refine (HBG.out _).mono ?_
   rintro e w4' ⟨rfl, rfl⟩
   go_wp2_with fail
   refine (HDG.out _).mono ?_
   rintro e w4a ⟨rfl, rfl⟩
   go_wp2_with fail
   refine (HD2.out _).mono ?_
   rintro e w4b ⟨rfl, rfl⟩
   go_wp2_with fail
   refine HMK.out.mono ?_
   rintro e w5 hp
   obtain ⟨x9, t9, v9, a9, k9, d9, l9, so9, er9, pl9, fr9, rfl, hk5, hm5, hfin⟩ := MkP.fin HNX.out hp
   have HT5 := hide (HTO.out.call hm5 hk5)
   have HFIN := hide hfin
   clear hk5 hm5 hfin hp HTO
   obtain ⟨s0, s1, s2⟩ := HT5.out.tk.cells
   have g0 := HT5.out.tk.frozen 0
   have g1 := HT5.out.tk.frozen 1
   have g2 := HT5.out.tk.frozen 2
   go_upto_region 6 with (fail)
   change Code.wp _ _ _ _ (tokW w5 q x9 t9 v9)
   have HT6 := hide (HT5.out.put x9 t9 v9)
   generalize tokW w5 q x9 t9 v9 = w6 at HT6 ⊢
   clear HT5 s0 s1 s2 g0 g1 g2
   have c5 := HT6.out.ti.m.cells.2.2.2.2.2.1
   have f5 := HT6.out.ti.m.frozen 5
   go_upto_region 7 with (fail)
   change Code.wp _ _ _ _ (w6.setCell ⟨b, 5, none⟩ (.bool true))
   have HT7 := hide (HT6.out.set5 true)
   generalize w6.setCell ⟨b, 5, none⟩ (.bool true) = w7 at HT7 ⊢
   clear HT6 c5 f5
   have c4 := HT7.out.ti.m.cells.2.2.2.2.1
   have f4 := HT7.out.ti.m.frozen 4
   have y1 := HT7.out.tk.cells.2.1
   go_upto_region 8 with (fail)
   change Code.wp _ _ _ _ (w7.setCell ⟨b, 4, none⟩ (S t9))
   have HT9 := hide (HT7.out.set4 t9)
   generalize w7.setCell ⟨b, 4, none⟩ (S t9) = w9 at HT9 ⊢
   clear HT7 c4 f4 y1
   obtain ⟨y0, y1, y2⟩ := HT9.out.tk.cells
   obtain ⟨s0, s1, s2, s3, s4, s5⟩ := HT9.out.ti.cells
   go_wp2_with fail
   change bodyPost _ _ _ _ ⟨_, _⟩ (tokW w9 r x9 t9 v9)
   obtain ⟨E1, E2⟩ := HT9.out.ti.fin x9 t9 v9
   refine bodyPost_ret (v := tokV x9 t9 v9) (tok_ret Tryz.results52 _ _ _ HT9.out.ti.tk x9 _ v9 rfl) rfl ?_
   exact HFIN.out _ _ _ E2 E1
  ·have HNX := hide (Jsp.nx_mark (st := st) hbg h35 hd hq ht hrg)
   have hxc := hx.symm.trans hc
   have q35 : ((x : Int) == 35) = false := by rw [hxc]; rfl
   have q46 : ((x : Int) == 46) = false := by rw [hxc]; rfl
   have q34 : ((x : Int) == 34) = false := by rw [hxc]; rfl
   have q39 : ((x : Int) == 39) = false := by rw [hxc]; rfl
   have q96 : ((x : Int) == 96) = false := by rw [hxc]; rfl
   have q125 : ((x : Int) == 125) = true := by rw [hxc]; rfl
   have q47 : ((x : Int) == 47) = false := by rw [hxc]; rfl
   have HBG := fun W => rBegins x W
   rw [show Jsp.begins x = false from by rw [hxc]; rfl] at HBG
   have HBG := hide HBG
   have HDG := fun W => rDig x W
   rw [show Jsp.digit x = false from by rw [hxc]; rfl] at HDG
   have HDG := hide HDG
   have HIV := hide (show ih = false from by rw [<- hih, beq_eq_false_iff_ne]; exact fun h => ht (.inr ⟨hc, h⟩))
   clear hx hx2 hy2 hih hn hl hbg h35 hd hq ht hrg hc hxc
   obtain rfl : ih = false := HIV.out
   have HMK := hide (rMark b F n st p0 fr1 w4 HTO.out.ti.m HN.out HK.out HSO.out (Nat.le_trans HL.out (by decide)))
   go_wp2_with fail
   refine (HBG.out _).mono ?_
   rintro e w4' ⟨rfl, rfl⟩
   go_wp2_with fail
   refine (HDG.out _).mono ?_
   rintro e w4a ⟨rfl, rfl⟩
   go_wp2_with fail
   refine HMK.out.mono ?_
   rintro e w5 hp
   obtain ⟨x9, t9, v9, a9, k9, d9, l9, so9, er9, pl9, fr9, rfl, hk5, hm5, hfin⟩ := MkP.fin HNX.out hp
   have HT5 := hide (HTO.out.call hm5 hk5)
   have HFIN := hide hfin
   clear hk5 hm5 hfin hp HTO
   obtain ⟨s0, s1, s2⟩ := HT5.out.tk.cells
   have g0 := HT5.out.tk.frozen 0
   have g1 := HT5.out.tk.frozen 1
   have g2 := HT5.out.tk.frozen 2
   go_upto_region 6 with (fail)
   change Code.wp _ _ _ _ (tokW w5 q x9 t9 v9)
   have HT6 := hide (HT5.out.put x9 t9 v9)
   generalize tokW w5 q x9 t9 v9 = w6 at HT6 ⊢
   clear HT5 s0 s1 s2 g0 g1 g2
   have c5 := HT6.out.ti.m.cells.2.2.2.2.2.1
   have f5 := HT6.out.ti.m.frozen 5
   go_upto_region 7 with (fail)
   change Code.wp _ _ _ _ (w6.setCell ⟨b, 5, none⟩ (.bool true))
   have HT7 := hide (HT6.out.set5 true)
   generalize w6.setCell ⟨b, 5, none⟩ (.bool true) = w7 at HT7 ⊢
   clear HT6 c5 f5
   have c4 := HT7.out.ti.m.cells.2.2.2.2.1
   have f4 := HT7.out.ti.m.frozen 4
   have y1 := HT7.out.tk.cells.2.1
   go_upto_region 8 with (fail)
   change Code.wp _ _ _ _ (w7.setCell ⟨b, 4, none⟩ (S t9))
   have HT9 := hide (HT7.out.set4 t9)
   generalize w7.setCell ⟨b, 4, none⟩ (S t9) = w9 at HT9 ⊢
   clear HT7 c4 f4 y1
   obtain ⟨y0, y1, y2⟩ := HT9.out.tk.cells
   obtain ⟨s0, s1, s2, s3, s4, s5⟩ := HT9.out.ti.cells
   go_wp2_with fail
   change bodyPost _ _ _ _ ⟨_, _⟩ (tokW w9 r x9 t9 v9)
   obtain ⟨E1, E2⟩ := HT9.out.ti.fin x9 t9 v9
   refine bodyPost_ret (v := tokV x9 t9 v9) (tok_ret Tryz.results52 _ _ _ HT9.out.ti.tk x9 _ v9 rfl) rfl ?_
   exact HFIN.out _ _ _ E2 E1
  ·have HNX := hide (Jsp.nx_mark (st := st) hbg h35 hd hq ht hrg)
   have hxc := hx.symm.trans hc
   have q35 : ((x : Int) == 35) = false := by rw [hxc]; rfl
   have q46 : ((x : Int) == 46) = false := by rw [hxc]; rfl
   have q34 : ((x : Int) == 34) = false := by rw [hxc]; rfl
   have q39 : ((x : Int) == 39) = false := by rw [hxc]; rfl
   have q96 : ((x : Int) == 96) = false := by rw [hxc]; rfl
   have q125 : ((x : Int) == 125) = false := by rw [hxc]; rfl
   have q47 : ((x : Int) == 47) = true := by rw [hxc]; rfl
   have HBG := fun W => rBegins x W
   rw [show Jsp.begins x = false from by rw [hxc]; rfl] at HBG
   have HBG := hide HBG
   have HDG := fun W => rDig x W
   rw [show Jsp.digit x = false from by rw [hxc]; rfl] at HDG
   have HDG := hide HDG
   have HG := hide (show st.goal = false from Bool.eq_false_iff.2 fun h => hrg ⟨hc, h⟩)
   clear hx hx2 hy2 hih hn hl hbg h35 hd hq ht hrg hc hxc
   have HMK := hide (rMark b F n st p0 fr1 w4 HTO.out.ti.m HN.out HK.out HSO.out (Nat.le_trans HL.out (by decide)))
   have c3 := HTO.out.ti.m.cells.2.2.2.1
   rw [HG.out] at c3
   go_wp2_with fail
   refine (HBG.out _).mono ?_
   rintro e w4' ⟨rfl, rfl⟩
   go_wp2_with fail
   refine (HDG.out _).mono ?_
   rintro e w4a ⟨rfl, rfl⟩
   go_wp2_with fail
   refine HMK.out.mono ?_
   rintro e w5 hp
   obtain ⟨x9, t9, v9, a9, k9, d9, l9, so9, er9, pl9, fr9, rfl, hk5, hm5, hfin⟩ := MkP.fin HNX.out hp
   have HT5 := hide (HTO.out.call hm5 hk5)
   have HFIN := hide hfin
   clear hk5 hm5 hfin hp HTO
   obtain ⟨s0, s1, s2⟩ := HT5.out.tk.cells
   have g0 := HT5.out.tk.frozen 0
   have g1 := HT5.out.tk.frozen 1
   have g2 := HT5.out.tk.frozen 2
   go_upto_region 6 with (fail)
   change Code.wp _ _ _ _ (tokW w5 q x9 t9 v9)
   have HT6 := hide (HT5.out.put x9 t9 v9)
   generalize tokW w5 q x9 t9 v9 = w6 at HT6 ⊢
   clear HT5 s0 s1 s2 g0 g1 g2
   have c5 := HT6.out.ti.m.cells.2.2.2.2.2.1
   have f5 := HT6.out.ti.m.frozen 5
   go_upto_region 7 with (fail)
   change Code.wp _ _ _ _ (w6.setCell ⟨b, 5, none⟩ (.bool true))
   have HT7 := hide (HT6.out.set5 true)
   generalize w6.setCell ⟨b, 5, none⟩ (.bool true) = w7 at HT7 ⊢
   clear HT6 c5 f5
   have c4 := HT7.out.ti.m.cells.2.2.2.2.1
   have f4 := HT7.out.ti.m.frozen 4
   have y1 := HT7.out.tk.cells.2.1
   go_upto_region 8 with (fail)
   change Code.wp _ _ _ _ (w7.setCell ⟨b, 4, none⟩ (S t9))
   have HT9 := hide (HT7.out.set4 t9)
   generalize w7.setCell ⟨b, 4, none⟩ (S t9) = w9 at HT9 ⊢
   clear HT7 c4 f4 y1
   obtain ⟨y0, y1, y2⟩ := HT9.out.tk.cells
   obtain ⟨s0, s1, s2, s3, s4, s5⟩ := HT9.out.ti.cells
   go_wp2_with fail
   change bodyPost _ _ _ _ ⟨_, _⟩ (tokW w9 r x9 t9 v9)
   obtain ⟨E1, E2⟩ := HT9.out.ti.fin x9 t9 v9
   refine bodyPost_ret (v := tokV x9 t9 v9) (tok_ret Tryz.results52 _ _ _ HT9.out.ti.tk x9 _ v9 rfl) rfl ?_
   exact HFIN.out _ _ _ E2 E1
  ·have HNX := hide (Jsp.nx_mark (st := st) hbg h35 hd hq ht hrg)
   rw [hx] at h35 h46 h125 h47 hq ht
   have q35 : ((x : Int) == 35) = false := by rw [beq_eq_false_iff_ne]; omega
   have q46 : ((x : Int) == 46) = false := by rw [beq_eq_false_iff_ne]; omega
   have q34 : ((x : Int) == 34) = false := by rw [beq_eq_false_iff_ne]; omega
   have q39 : ((x : Int) == 39) = false := by rw [beq_eq_false_iff_ne]; omega
   have q96 : ((x : Int) == 96) = false := by rw [beq_eq_false_iff_ne]; omega
   have q125 : ((x : Int) == 125) = false := by rw [beq_eq_false_iff_ne]; omega
   have q47 : ((x : Int) == 47) = false := by rw [beq_eq_false_iff_ne]; omega
   have HBG := fun W => rBegins x W
   rw [show Jsp.begins x = false by rw [<- hx]; exact hbg] at HBG
   have HBG := hide HBG
   have HDG := fun W => rDig x W
   rw [show Jsp.digit x = false by rw [<- hx]; exact Bool.eq_false_iff.2 fun h => hd (.inl h)] at HDG
   have HDG := hide HDG
   clear hx hx2 hy2 hih hn hl hbg h35 hd hq ht hrg h46 h125 h47
   have HMK := hide (rMark b F n st p0 fr1 w4 HTO.out.ti.m HN.out HK.out HSO.out (Nat.le_trans HL.out (by decide)))
   go_wp2_with fail
   refine (HBG.out _).mono ?_
   rintro e w4' ⟨rfl, rfl⟩
   go_wp2_with fail
   refine (HDG.out _).mono ?_
   rintro e w4a ⟨rfl, rfl⟩
   go_wp2_with fail
   refine HMK.out.mono ?_
   rintro e w5 hp
   obtain ⟨x9, t9, v9, a9, k9, d9, l9, so9, er9, pl9, fr9, rfl, hk5, hm5, hfin⟩ := MkP.fin HNX.out hp
   have HT5 := hide (HTO.out.call hm5 hk5)
   have HFIN := hide hfin
   clear hk5 hm5 hfin hp HTO
   obtain ⟨s0, s1, s2⟩ := HT5.out.tk.cells
   have g0 := HT5.out.tk.frozen 0
   have g1 := HT5.out.tk.frozen 1
   have g2 := HT5.out.tk.frozen 2
   go_upto_region 6 with (fail)
   change Code.wp _ _ _ _ (tokW w5 q x9 t9 v9)
   have HT6 := hide (HT5.out.put x9 t9 v9)
   generalize tokW w5 q x9 t9 v9 = w6 at HT6 ⊢
   clear HT5 s0 s1 s2 g0 g1 g2
   have c5 := HT6.out.ti.m.cells.2.2.2.2.2.1
   have f5 := HT6.out.ti.m.frozen 5
   go_upto_region 7 with (fail)
   change Code.wp _ _ _ _ (w6.setCell ⟨b, 5, none⟩ (.bool true))
   have HT7 := hide (HT6.out.set5 true)
   generalize w6.setCell ⟨b, 5, none⟩ (.bool true) = w7 at HT7 ⊢
   clear HT6 c5 f5
   have c4 := HT7.out.ti.m.cells.2.2.2.2.1
   have f4 := HT7.out.ti.m.frozen 4
   have y1 := HT7.out.tk.cells.2.1
   go_upto_region 8 with (fail)
   change Code.wp _ _ _ _ (w7.setCell ⟨b, 4, none⟩ (S t9))
   have HT9 := hide (HT7.out.set4 t9)
   generalize w7.setCell ⟨b, 4, none⟩ (S t9) = w9 at HT9 ⊢
   clear HT7 c4 f4 y1
   obtain ⟨y0, y1, y2⟩ := HT9.out.tk.cells
   obtain ⟨s0, s1, s2, s3, s4, s5⟩ := HT9.out.ti.cells
   go_wp2_with fail
   change bodyPost _ _ _ _ ⟨_, _⟩ (tokW w9 r x9 t9 v9)
   obtain ⟨E1, E2⟩ := HT9.out.ti.fin x9 t9 v9
   refine bodyPost_ret (v := tokV x9 t9 v9) (tok_ret Tryz.results52 _ _ _ HT9.out.ti.tk x9 _ v9 rfl) rfl ?_
   exact HFIN.out _ _ _ E2 E1
end Go.Proofs.YtngccmlcopcghaaGreatDoor
