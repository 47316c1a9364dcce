/- The reference's one: names. -/
import Derived.Test.YtngccmlcopcghaaGreatDoorZa
import Derived.Deep.CutBlock
import Derived.Deep.Cut
import Derived.Outline
set_option maxRecDepth 100000
set_option maxHeartbeats 8000000
namespace Go.Proofs.YtngccmlcopcghaaGreatDoor
open Go.RowKit
theorem rOne_Zb (b : Nat) (F : List UInt8) (n : Nat) (st : Jsp.St) (p0 : Int) (fr : Fr) (w : World) (h : MB w b F (n : Int) st.stk (!st.goal) st.last st.some 0 p0 fr) (hn : n < F.length) (hk : st.stk.length <= 200) (_hso : st.some = false -> st.last = []) (hl : F.length <= 1048570) (hcl : (Jsp.begins (Jsp.pt (F.drop n)) = true) \/ (Jsp.pt (F.drop n) = 35 /\ Jsp.begins (Jsp.pt (F.drop (n + 1))) = true) \/ (Jsp.pt (F.drop n) = 35 /\ F.drop (n + 1) = [])) :
  Calls Tryz.prog 52 #[.pointer (some ⟨b, 0, none⟩)] w (NxR b F n st w) := by
 obtain ⟨x, hx⟩ : ∃ x, Jsp.pt (F.drop n) = x := ⟨_, rfl⟩
 obtain ⟨x2, hx2⟩ : ∃ x, Jsp.pt (F.drop (n + 1)) = x := ⟨_, rfl⟩
 obtain ⟨y2, hy2⟩ : ∃ y, Jsp.pn (F.drop (n + 1)) = y := ⟨_, rfl⟩
 have HP := fun W => rPoint F n W (Nat.le_trans hl (by decide))
 have HP2 := fun W => rPoint F (n + 1) W (Nat.le_trans hl (by decide))
 rw [ptV, hx2, hy2] at HP2
 rw [ptV, hx] at HP
 have HP := hide HP
 have HP2 := hide HP2
 obtain ⟨ih, hih⟩ : ∃ v, (Jsp.top st == 36) = v := ⟨_, rfl⟩
 have htop := top_eq st
 have HCL := hide hcl
 have HT1 := hide (Ti.start h)
 obtain ⟨w1, hw1⟩ : ∃ w1, w1 = w.alloc (.cells tokC 29) := ⟨_, rfl⟩
 obtain ⟨r, hr⟩ : ∃ r, w.heap.size = r := ⟨_, rfl⟩
 rw [<- hw1, hr] at HT1
 have HW := hide hw1
 have HR := hide hr
 have HX := hide hx
 have HX2 := hide hx2
 have HY2 := hide hy2
 have HIH := hide hih
 have HK := hide hk
 have HL := hide hl
 have HN := hide hn
 have HTOP := hide htop
 have c0 := HT1.out.m.cells.1
 have c1 := HT1.out.m.cells.2.1
 clear h hw1 hr hx hx2 hy2 hih hk _hso htop hcl
 go_enter Tryz.func52, Tryz.ntmps52
 go_upto_region 1 with (fail)
 change Code.wp _ _ _ _ (w.alloc (.cells tokC 29))
 rw [<- HW.out, HR.out]
 clear HW
 have hS : ∀ V, Below w1.heap.size w1 V -> V.cell? ⟨b, 0, none⟩ = some (S F) /\ V.cell? ⟨b, 1, none⟩ = some (.int .i64 (n : Int)) := fun V hV => ⟨cell_below c0 hV, cell_below c1 hV⟩
 go_region_held3 (fun V => V.cell? ⟨b, 0, none⟩ = some (S F) /\ V.cell? ⟨b, 1, none⟩ = some (.int .i64 (n : Int))) (first | exact ⟨c0, c1⟩ | exact hS _ (((Below.refl w1.heap.size w1).drew).trans hb)) ((go_at_call 81; refine (HP.out _).mono ?_; rintro e w2 ⟨rfl, hb⟩))
 have hb2 := ((Below.refl w1.heap.size w1).drew).trans hb
 have HT2 := hide (HT1.out.below hb2)
 clear hb hb2 hS c0 c1 HT1
 have c0 := HT2.out.m.cells.1
 have c1 := HT2.out.m.cells.2.1
 have hw1 := wr1 (i := n) (by omega)
 have hwi : IntKind.i64.wrap ((n : Int) + 1) = (n : Int) + 1 := by rw [IntKind.wrap_i64]; omega
 have hw3 : ¬ (9223372036854775807 : Int) < (n : Int) + 1 := by omega
 clear hl hn
 go_wp2_with fail
 have hS : ∀ V, Below w2.heap.size w2 V -> V.cell? ⟨b, 0, none⟩ = some (S F) /\ V.cell? ⟨b, 1, none⟩ = some (.int .i64 (n : Int)) := fun V hV => ⟨cell_below c0 hV, cell_below c1 hV⟩
 go_region_held3 (fun V => V.cell? ⟨b, 0, none⟩ = some (S F) /\ V.cell? ⟨b, 1, none⟩ = some (.int .i64 (n : Int))) (first | exact ⟨c0, c1⟩ | exact hS _ (((Below.refl w2.heap.size w2).drew).trans hb)) ((go_at_call 81; refine (HP2.out _).mono ?_; rintro e w3 ⟨rfl, hb⟩))
 have hb2 := ((Below.refl w2.heap.size w2).drew).trans hb
 have HT3 := hide (HT2.out.below hb2)
 clear hb hb2 hS c0 c1 HT2
 have c2 := HT3.out.m.cells.2.2.1
 go_upto_region 3 with (fail)
 go_cut [7] from 36 (fun s7 wx => s7 = .bool ih /\ ∃ fr, Hid (Ti w wx b r F (n : Int) st.stk (!st.goal) st.last st.some 0 p0 fr))
 case first =>
  rcases HTOP.out with ⟨h0, ht0⟩ | ⟨hlt, h0, ht0⟩
  ·have hl0 : st.stk.length = 0 := by rw [h0]; rfl
   have q0 : decide ((0 : Int) < (st.stk.length : Int)) = false := by rw [hl0]; rfl
   have q0n : decide (0 < st.stk.length) = false := by rw [hl0]; rfl
   obtain rfl : ih = false := by rw [<- HIH.out, ht0]; rfl
   clear h0 hl0 ht0
   go_wp2_with fail
   go_quiet (fail)
   go_wp2_with fail
   go_meet
   case rel => exact ⟨rfl, _, HT3.out.drewN _⟩
  ·have hpos : 0 < st.stk.length := by omega
   have q0 : decide ((0 : Int) < (st.stk.length : Int)) = true := decide_eq_true (by omega)
   have q0n : decide (0 < st.stk.length) = true := decide_eq_true hpos
   have b0 : (0 : Int) <= (st.stk.length : Int) - 1 := by omega
   have b1 : (st.stk.length : Int) - 1 < (st.stk.length : Int) := by omega
   have b2 : ((st.stk.length : Int) - 1).toNat = st.stk.length - 1 := by omega
   have hw := wl1 hpos (by have := HK.out; omega)
   obtain ⟨z, hz⟩ : ∃ z, st.stk[st.stk.length - 1] = z := ⟨_, rfl⟩
   have hzb := u8_lt z
   have hzz : (z == 36) = ih := by rw [<- HIH.out, ht0, hz]
   cases ih
   ·have q36 : ((z.toNat : Int) == 36) = false := u8f (by simpa using hzz)
    have q36b : ((st.stk[st.stk.length - 1].toNat : Int) == 36) = false := by rw [hz]; exact q36
    clear hzz h0 ht0 hpos
    go_wp2_with fail
    go_quiet (fail)
    go_wp2_with fail
    go_meet
    case rel => exact ⟨rfl, _, HT3.out.drewN _⟩
   ·have q36 : ((z.toNat : Int) == 36) = true := u8t (by simpa using hzz)
    have q36b : ((st.stk[st.stk.length - 1].toNat : Int) == 36) = true := by rw [hz]; exact q36
    clear hzz h0 ht0 hpos
    go_wp2_with fail
    go_quiet (fail)
    go_wp2_with fail
    go_meet
    case rel => exact ⟨rfl, _, HT3.out.drewN _⟩
 case rest =>
  obtain ⟨rfl, fr1, ht3⟩ := hcut
  clear HT3 c2 HP HP2
  go_upto_block 0 with fail
  change Code.wp _ _ _ _ (wc.alloc (.cells tokC 29))
  have hto := To.start ht3.out
  generalize wc.alloc (.cells tokC 29) = w4 at hto ⊢
  generalize wc.heap.size = q at hto ⊢
  have HTO := hide hto
  clear hto ht3
  go_cut [] from 9 (fun wx => Hid (OnR w b r q F n st wx))
  case first =>
   have hx := HX.out
   have hx2 := HX2.out
   have hy2 := HY2.out
   have hih := HIH.out
   have hn := HN.out
   have hl := HL.out
   have hclv := HCL.out
   clear HCL
   rcases hclv with hbg | ⟨h35, hb2⟩ | ⟨h35, hnil⟩
   ·have hnx := Jsp.nx_name (st := st) hbg
    rw [hx] at hbg
    have HBG := fun W => rBegins x W
    rw [hbg] at HBG
    have HBG := hide HBG
    have HRU := fun W => rRun F n W (Nat.le_of_lt hn) (Nat.le_trans hl (by decide))
    obtain ⟨NN, hNN⟩ : ∃ NN, Jsp.name (F.drop n) = NN := ⟨_, rfl⟩
    have hNl := Jsp.name_le (F.drop n)
    rw [List.length_drop, hNN] at hNl
    rw [hNN] at HRU hnx
    have HRU := hide HRU
    have HNX := hide hnx
    have HNL := hide hNl
    clear hx hx2 hy2 hih hn hl hbg hNN hNl hnx
    go_wp2_with fail
    refine (HBG.out _).mono ?_
    rintro e w4' ⟨rfl, rfl⟩
    have c0 := HTO.out.ti.m.cells.1
    have c1 := HTO.out.ti.m.cells.2.1
    have f1 := HTO.out.ti.m.frozen 1
    have e0 : (0 : Int) <= (n : Int) := by omega
    have e1 : (n : Int) <= (n : Int) + (NN : Int) := by omega
    have e2 : (n : Int) + (NN : Int) <= (F.length : Int) := by have := HN.out; have := HNL.out; omega
    have e3 : ((n : Int) + (NN : Int)).toNat - n = NN := by omega
    go_upto_region 11 with (fail)
    have hS : ∀ V, Below w4.heap.size w4 V -> V.cell? ⟨b, 0, none⟩ = some (S F) /\ V.cell? ⟨b, 1, none⟩ = some (.int .i64 (n : Int)) := fun V hV => ⟨cell_below c0 hV, cell_below c1 hV⟩
    go_region_with (go_at_call 86; refine (HRU.out _).mono ?_; rintro e w5 ⟨rfl, hb⟩; have c1b := (hS _ (((Below.refl w4.heap.size w4).drew).trans hb)).2; have c0b := (hS _ (((Below.refl w4.heap.size w4).drew).trans hb)).1; have f1b := ((HTO.out.below (((Below.refl w4.heap.size w4).drew).trans hb))).ti.m.frozen 1)
    all_goals
     have ht5 := (HTO.out.below (((Below.refl w4.heap.size w4).drew).trans hb)).set1 ((n : Int) + (NN : Int))
     change Exit.then _ _ _ _ (w5.setCell ⟨b, 1, none⟩ (.int .i64 ((n : Int) + (NN : Int))))
     generalize w5.setCell ⟨b, 1, none⟩ (.int .i64 ((n : Int) + (NN : Int))) = w6 at ht5 ⊢
     have HT6 := hide ht5
     clear ht5 hb c0b c1b f1b
     have c0 := HT6.out.ti.m.cells.1
     have c1 := HT6.out.ti.m.cells.2.1
     obtain ⟨s0, s1, s2⟩ := HT6.out.tk.cells
     have g0 := HT6.out.tk.frozen 0
     have g1 := HT6.out.tk.frozen 1
     have g2 := HT6.out.tk.frozen 2
     go_wp2_with fail
     go_region
     change Exit.inBlock _ _ _ _ ((tokW w6 q 1 ((F.drop n).take NN) []).drewN 1)
     have ht7 := (HT6.out.put 1 ((F.drop n).take NN) []).drewN 1
     generalize (tokW w6 q 1 ((F.drop n).take NN) []).drewN 1 = w7 at ht7 ⊢
     have HT7 := hide ht7
     clear ht7
     go_wp2_with fail
     go_meet
     case rel => exact .inr ⟨1, (F.drop n).take NN, [], NN, _, _, _, HNX.out, by rw [show ((n + NN : Nat) : Int) = ((n : Int) + (NN : Int)) by omega]; exact HT7.out, rfl, .inl ⟨rfl, rfl, rfl⟩⟩
   ·have hnx := Jsp.nx_priv (st := st) h35 hb2
    have hne2 : F.drop (n + 1) ≠ [] := fun e => by rw [e, Jsp.begins_zero] at hb2; cases hb2
    have hy1 := (Jsp.pn_le hne2).1
    have hn1 : n + 1 <= F.length := hn
    rw [hx2] at hb2
    have hxc := hx.symm.trans h35
    have q35 : ((x : Int) == 35) = true := by rw [hxc]; rfl
    have q46 : ((x : Int) == 46) = false := by rw [hxc]; rfl
    have q34 : ((x : Int) == 34) = false := by rw [hxc]; rfl
    have q39 : ((x : Int) == 39) = false := by rw [hxc]; rfl
    have q96 : ((x : Int) == 96) = false := by rw [hxc]; rfl
    have q125 : ((x : Int) == 125) = false := by rw [hxc]; rfl
    have q47 : ((x : Int) == 47) = false := by rw [hxc]; rfl
    rw [hy2] at hy1
    have y0 : decide ((0 : Int) < (y2 : Int)) = true := decide_eq_true (by omega)
    have y0n : decide (0 < y2) = true := decide_eq_true (by omega)
    have HBG := fun W => rBegins x W
    rw [show Jsp.begins x = false from by rw [hxc]; rfl] at HBG
    have HBG := hide HBG
    have HB2 := fun W => rBegins x2 W
    rw [hb2] at HB2
    have HB2 := hide HB2
    have HRU := fun W => rRun F (n + 1) W hn1 (Nat.le_trans hl (by decide))
    obtain ⟨NN, hNN⟩ : ∃ NN, Jsp.name (F.drop (n + 1)) = NN := ⟨_, rfl⟩
    have hNl := Jsp.name_le (F.drop (n + 1))
    rw [List.length_drop, hNN] at hNl
    rw [hNN] at HRU hnx
    have HRU := hide HRU
    have HNX := hide hnx
    have HNL := hide hNl
    have HN1 := hide hn1
    clear hx hx2 hy2 hih hn hl hb2 h35 hne2 hy1 hxc hNN hNl hnx hn1
    go_wp2_with fail
    refine (HBG.out _).mono ?_
    rintro e w4' ⟨rfl, rfl⟩
    go_wp2_with fail
    refine (HB2.out _).mono ?_
    rintro e w4a ⟨rfl, rfl⟩
    have c0 := HTO.out.ti.m.cells.1
    have c1 := HTO.out.ti.m.cells.2.1
    have f1 := HTO.out.ti.m.frozen 1
    have e0 : (0 : Int) <= (n : Int) := by omega
    have e1 : (n : Int) <= (n : Int) + 1 + (NN : Int) := by omega
    have e2 : (n : Int) + 1 + (NN : Int) <= (F.length : Int) := by have := HN1.out; have := HNL.out; omega
    have e3 : ((n : Int) + 1 + (NN : Int)).toNat - n = 1 + NN := by omega
    go_upto_region 15 with (fail)
    have hS : ∀ V, Below w4.heap.size w4 V -> V.cell? ⟨b, 0, none⟩ = some (S F) /\ V.cell? ⟨b, 1, none⟩ = some (.int .i64 (n : Int)) := fun V hV => ⟨cell_below c0 hV, cell_below c1 hV⟩
    go_region_with (go_at_call 86; refine (HRU.out _).mono ?_; rintro e w5 ⟨rfl, hb⟩; have c1b := (hS _ (((Below.refl w4.heap.size w4).drew).trans hb)).2; have c0b := (hS _ (((Below.refl w4.heap.size w4).drew).trans hb)).1; have f1b := ((HTO.out.below (((Below.refl w4.heap.size w4).drew).trans hb))).ti.m.frozen 1)
    all_goals
     have ht5 := (HTO.out.below (((Below.refl w4.heap.size w4).drew).trans hb)).set1 ((n : Int) + 1 + (NN : Int))
     change Exit.then _ _ _ _ (w5.setCell ⟨b, 1, none⟩ (.int .i64 ((n : Int) + 1 + (NN : Int))))
     generalize w5.setCell ⟨b, 1, none⟩ (.int .i64 ((n : Int) + 1 + (NN : Int))) = w6 at ht5 ⊢
     have HT6 := hide ht5
     clear ht5 hb c0b c1b f1b
     have c0 := HT6.out.ti.m.cells.1
     have c1 := HT6.out.ti.m.cells.2.1
     obtain ⟨s0, s1, s2⟩ := HT6.out.tk.cells
     have g0 := HT6.out.tk.frozen 0
     have g1 := HT6.out.tk.frozen 1
     have g2 := HT6.out.tk.frozen 2
     go_wp2_with fail
     go_region
     change Exit.inBlock _ _ _ _ ((tokW w6 q 2 ((F.drop n).take (1 + NN)) []).drewN 1)
     have ht7 := (HT6.out.put 2 ((F.drop n).take (1 + NN)) []).drewN 1
     generalize (tokW w6 q 2 ((F.drop n).take (1 + NN)) []).drewN 1 = w7 at ht7 ⊢
     have HT7 := hide ht7
     clear ht7
     go_wp2_with fail
     go_meet
     case rel => exact .inr ⟨2, (F.drop n).take (1 + NN), [], (1 + NN), _, _, _, HNX.out, by rw [show ((n + (1 + NN) : Nat) : Int) = ((n : Int) + 1 + (NN : Int)) by omega]; exact HT7.out, rfl, .inr ⟨by decide, rfl, rfl⟩⟩
   ·have hnx := Jsp.nx_hash (st := st) h35 (by rw [hnil]; rfl)
    have hy0 : y2 = 0 := by rw [<- hy2, hnil]; rfl
    have hxc := hx.symm.trans h35
    have q35 : ((x : Int) == 35) = true := by rw [hxc]; rfl
    have q46 : ((x : Int) == 46) = false := by rw [hxc]; rfl
    have q34 : ((x : Int) == 34) = false := by rw [hxc]; rfl
    have q39 : ((x : Int) == 39) = false := by rw [hxc]; rfl
    have q96 : ((x : Int) == 96) = false := by rw [hxc]; rfl
    have q125 : ((x : Int) == 125) = false := by rw [hxc]; rfl
    have q47 : ((x : Int) == 47) = false := by rw [hxc]; rfl
    have y0 : decide ((0 : Int) < (y2 : Int)) = false := decide_eq_false (by omega)
    have y0n : decide (0 < y2) = false := decide_eq_false (by omega)
    have y0e : ((y2 : Int) == 0) = true := by rw [hy0]; rfl
    have HBG := fun W => rBegins x W
    rw [show Jsp.begins x = false from by rw [hxc]; rfl] at HBG
    have HBG := hide HBG
    have HNX := hide hnx
    clear hx hx2 hy2 hih hn hl h35 hnil hy0 hxc hnx
    have HFL := hide (rFail b F (n : Int) st.stk (!st.goal) st.last st.some 0 p0 fr1 170 (n : Int) 2 0 false false [] w4 HTO.out.ti.m)
    have c1 := HTO.out.ti.m.cells.2.1
    go_wp2_with fail
    refine (HBG.out _).mono ?_
    rintro e w4' ⟨rfl, rfl⟩
    go_wp2_with fail
    refine HFL.out.mono ?_
    rintro e w5 ⟨rfl, ⟨fr5, hm5⟩, hk5⟩
    have HT5 := hide (HTO.out.call hm5 hk5)
    clear hm5 hk5 HTO c1
    go_wp2_with fail
    go_meet
    case rel => exact .inl ⟨0, [], [], 170, 0, _, _, _, _, _, _, HNX.out, by decide, HT5.out⟩
  case rest =>
   clear HTO
   obtain ⟨x, t, v, er, o, a, k, d, l, so, fr9, hnx, her, hto⟩ | ⟨x, t, v, kk, st2, pl, fr9, hnx, hto, hs2, hw⟩ := hcut.out
   ·have HT9 := hide hto
    have HNX := hide hnx
    obtain ⟨ez, hez⟩ : ∃ ez : Int, (er : Int) = ez := ⟨_, rfl⟩
    rw [hez] at HT9
    have q6 : ¬ ez = 0 := by omega
    have q6b : (ez != 0) = true := by rw [bne_iff_ne]; exact q6
    have q6c : (ez == 0) = false := by rw [beq_eq_false_iff_ne]; exact q6
    have HEZ := hide hez
    clear hto hnx hcut her hez
    generalize wc = w9 at HT9 ⊢
    have c6 := HT9.out.ti.m.cells.2.2.2.2.2.2.1
    obtain ⟨y0, y1, y2⟩ := HT9.out.tk.cells
    obtain ⟨s0, s1, s2, s3, s4, s5⟩ := HT9.out.ti.cells
    go_wp2_with fail
    change bodyPost _ _ _ _ ⟨_, _⟩ (tokW w9 r x t v)
    obtain ⟨E1, E2⟩ := HT9.out.ti.fin x t v
    refine bodyPost_ret (v := tokV x t v) (tok_ret Tryz.results52 _ _ _ HT9.out.ti.tk x _ v rfl) rfl ?_
    unfold NxR
    rw [HNX.out]
    exact ⟨_, _, _, rfl, E2, _, _, _, _, _, _, by rw [HEZ.out]; exact E1⟩
   ·have HT5 := hide hto
    have HNX := hide hnx
    have HSO2 := hide hs2
    clear hto hnx hcut hs2
    generalize wc = w5 at HT5 ⊢
    have c6 := HT5.out.ti.m.cells.2.2.2.2.2.2.1
    have c5 := HT5.out.ti.m.cells.2.2.2.2.2.1
    have f5 := HT5.out.ti.m.frozen 5
    go_upto_region 30 with (fail)
    change Code.wp _ _ _ _ (w5.setCell ⟨b, 5, none⟩ (.bool true))
    have ht6 := HT5.out.set5 true
    generalize w5.setCell ⟨b, 5, none⟩ (.bool true) = w6 at ht6 ⊢
    have HT6 := hide ht6
    clear ht6 HT5 c5 c6 f5
    have c4 := HT6.out.ti.m.cells.2.2.2.2.1
    have f4 := HT6.out.ti.m.frozen 4
    go_upto_region 31 with (fail)
    change Code.wp _ _ _ _ (w6.setCell ⟨b, 4, none⟩ (S []))
    have ht7 := HT6.out.set4 []
    generalize w6.setCell ⟨b, 4, none⟩ (S []) = w7 at ht7 ⊢
    have HT7 := hide ht7
    clear ht7 HT6 c4 f4
    have c3 := HT7.out.ti.m.cells.2.2.2.1
    have f3 := HT7.out.ti.m.frozen 3
    have y0 := HT7.out.tk.cells.1
    rcases hw with ⟨rfl, hl2, hg2⟩ | ⟨hx1, hl2, hg2⟩
    ·have HL2 := hide hl2
     have HG2 := hide hg2
     clear hl2 hg2
     have HAV := hide (fun W => rAmongV t W)
     go_upto_region 32 with (fail)
     change Code.wp _ _ _ _ (w7.setCell ⟨b, 3, none⟩ (.bool true))
     have ht8 := HT7.out.set3 true
     generalize w7.setCell ⟨b, 3, none⟩ (.bool true) = w8 at ht8 ⊢
     have HT8 := hide ht8
     clear ht8 HT7 c3 f3 y0
     have c4 := HT8.out.ti.m.cells.2.2.2.2.1
     have f4 := HT8.out.ti.m.frozen 4
     have y0 := HT8.out.tk.cells.1
     have y1 := HT8.out.tk.cells.2.1
     go_upto_region 34 with (fail)
     change Code.wp _ _ _ _ (w8.setCell ⟨b, 4, none⟩ (S t))
     have hta := HT8.out.set4 t
     generalize w8.setCell ⟨b, 4, none⟩ (S t) = wa at hta ⊢
     have HTA := hide hta
     clear hta HT8 c4 f4 y0 y1
     have c3 := HTA.out.ti.m.cells.2.2.2.1
     have f3 := HTA.out.ti.m.frozen 3
     have y1 := HTA.out.tk.cells.2.1
     go_wp2_with fail
     refine (HAV.out _).mono ?_
     rintro e wa' ⟨rfl, rfl⟩
     go_upto_region 35 with (fail)
     change Code.wp _ _ _ _ (wa.setCell ⟨b, 3, none⟩ (.bool (!Jsp.wordsOf Jsp.aheadV t)))
     have ht9 := HTA.out.set3 (!Jsp.wordsOf Jsp.aheadV t)
     generalize wa.setCell ⟨b, 3, none⟩ (.bool (!Jsp.wordsOf Jsp.aheadV t)) = w9 at ht9 ⊢
     have HT9 := hide ht9
     clear ht9 HTA c3 f3 y1
     obtain ⟨y0, y1, y2⟩ := HT9.out.tk.cells
     obtain ⟨s0, s1, s2, s3, s4, s5⟩ := HT9.out.ti.cells
     go_wp2_with fail
     change bodyPost _ _ _ _ ⟨_, _⟩ (tokW w9 r 1 t v)
     obtain ⟨E1, E2⟩ := HT9.out.ti.fin 1 t v
     refine bodyPost_ret (v := tokV 1 t v) (tok_ret Tryz.results52 _ _ _ HT9.out.ti.tk 1 _ v rfl) rfl ?_
     unfold NxR
     rw [HNX.out]
     exact ⟨rfl, E2, _, _, by rw [HSO2.out, HL2.out, HG2.out]; exact E1⟩
    ·have HL2 := hide hl2
     by_cases x7 : x = 7
     ·subst x7
      have HG2 := hide (show st2.goal = true from hg2)
      clear hl2 hg2 hx1
      go_upto_region 32 with (fail)
      change Code.wp _ _ _ _ (w7.setCell ⟨b, 3, none⟩ (.bool false))
      have ht8 := HT7.out.set3 false
      generalize w7.setCell ⟨b, 3, none⟩ (.bool false) = w8 at ht8 ⊢
      have HT8 := hide ht8
      clear ht8 HT7 c3 f3 y0
      have y0 := HT8.out.tk.cells.1
      generalize w8 = w9 at HT8 y0 ⊢
      have HT9 := HT8
      clear HT8 y0
      obtain ⟨y0, y1, y2⟩ := HT9.out.tk.cells
      obtain ⟨s0, s1, s2, s3, s4, s5⟩ := HT9.out.ti.cells
      go_wp2_with fail
      change bodyPost _ _ _ _ ⟨_, _⟩ (tokW w9 r 7 t v)
      obtain ⟨E1, E2⟩ := HT9.out.ti.fin 7 t v
      refine bodyPost_ret (v := tokV 7 t v) (tok_ret Tryz.results52 _ _ _ HT9.out.ti.tk 7 _ v rfl) rfl ?_
      unfold NxR
      rw [HNX.out]
      exact ⟨rfl, E2, _, _, by rw [HSO2.out, HL2.out, HG2.out]; exact E1⟩
     by_cases x8 : x = 8
     ·subst x8
      have HG2 := hide (show st2.goal = true from hg2)
      clear hl2 hg2 hx1 x7
      go_upto_region 32 with (fail)
      change Code.wp _ _ _ _ (w7.setCell ⟨b, 3, none⟩ (.bool false))
      have ht8 := HT7.out.set3 false
      generalize w7.setCell ⟨b, 3, none⟩ (.bool false) = w8 at ht8 ⊢
      have HT8 := hide ht8
      clear ht8 HT7 c3 f3 y0
      have y0 := HT8.out.tk.cells.1
      generalize w8 = w9 at HT8 y0 ⊢
      have HT9 := HT8
      clear HT8 y0
      obtain ⟨y0, y1, y2⟩ := HT9.out.tk.cells
      obtain ⟨s0, s1, s2, s3, s4, s5⟩ := HT9.out.ti.cells
      go_wp2_with fail
      change bodyPost _ _ _ _ ⟨_, _⟩ (tokW w9 r 8 t v)
      obtain ⟨E1, E2⟩ := HT9.out.ti.fin 8 t v
      refine bodyPost_ret (v := tokV 8 t v) (tok_ret Tryz.results52 _ _ _ HT9.out.ti.tk 8 _ v rfl) rfl ?_
      unfold NxR
      rw [HNX.out]
      exact ⟨rfl, E2, _, _, by rw [HSO2.out, HL2.out, HG2.out]; exact E1⟩
     have HG2 := hide (show st2.goal = false from by rw [hg2]; simp [x7, x8])
     have z7 : ¬ (x : Int) = 7 := by omega
     have z8 : ¬ (x : Int) = 8 := by omega
     have z7b : ((x : Int) != 7) = true := by rw [bne_iff_ne]; exact z7
     have z8b : ((x : Int) != 8) = true := by rw [bne_iff_ne]; exact z8
     have z1 : ((x : Int) == 1) = false := by rw [beq_eq_false_iff_ne]; omega
     clear hl2 hg2 hx1 x7 x8
     go_upto_region 32 with (fail)
     change Code.wp _ _ _ _ (w7.setCell ⟨b, 3, none⟩ (.bool true))
     have ht8 := HT7.out.set3 true
     generalize w7.setCell ⟨b, 3, none⟩ (.bool true) = w8 at ht8 ⊢
     have HT8 := hide ht8
     clear ht8 HT7 c3 f3 y0
     have y0 := HT8.out.tk.cells.1
     generalize w8 = w9 at HT8 y0 ⊢
     have HT9 := HT8
     clear HT8
     obtain ⟨y0, y1, y2⟩ := HT9.out.tk.cells
     obtain ⟨s0, s1, s2, s3, s4, s5⟩ := HT9.out.ti.cells
     go_wp2_with fail
     change bodyPost _ _ _ _ ⟨_, _⟩ (tokW w9 r x t v)
     obtain ⟨E1, E2⟩ := HT9.out.ti.fin x t v
     refine bodyPost_ret (v := tokV x t v) (tok_ret Tryz.results52 _ _ _ HT9.out.ti.tk x _ v rfl) rfl ?_
     unfold NxR
     rw [HNX.out]
     exact ⟨rfl, E2, _, _, by rw [HSO2.out, HL2.out, HG2.out]; exact E1⟩
end Go.Proofs.YtngccmlcopcghaaGreatDoor
