/- The reference's mark. -/
import Derived.Test.YtngccmlcopcghaaGreatDoorXq
set_option maxRecDepth 100000
set_option maxHeartbeats 8000000
namespace Go.Proofs.YtngccmlcopcghaaGreatDoor
namespace Jsp
open Go
def txM : List UInt8 := [123, 32, 125, 32, 40, 32, 41, 32, 91, 32, 93, 32, 46, 32, 46, 46, 46, 32, 59, 32, 44, 32, 60, 32, 62, 32, 60, 61, 32, 62, 61, 32, 61, 61, 32, 33, 61, 32, 61, 61, 61, 32, 33, 61, 61, 32, 43, 32, 45, 32, 42, 32, 47, 32, 37, 32, 42, 42, 32, 43, 43, 32, 45, 45, 32, 60, 60, 32, 62, 62, 32, 62, 62, 62, 32, 38, 32, 124, 32, 94, 32, 33, 32, 126, 32, 38, 38, 32, 124, 124, 32, 63, 63, 32, 63, 32, 63, 46, 32, 58, 32, 61, 32, 43, 61, 32, 45, 61, 32, 42, 61, 32, 47, 61, 32, 37, 61, 32, 42, 42, 61, 32, 60, 60, 61, 32, 62, 62, 61, 32, 62, 62, 62, 61, 32, 38, 61, 32, 124, 61, 32, 94, 61, 32, 38, 38, 61, 32, 124, 124, 61, 32, 63, 63, 61, 32, 61, 62]
theorem txM_words : (∀ x ∈ splitW [] txM, x ∈ marks) /\ (∀ x ∈ marks, x ∈ splitW [] txM) /\ (splitW [] txM).contains [] = false := by decide +kernel
theorem among_marks (s : List UInt8) : among s [] txM = wordsOf marks s := by
 obtain ⟨h1, h2, h3⟩ := txM_words
 rw [among_words (L := splitW [] txM) rfl h3]
 unfold wordsOf
 rw [Bool.eq_iff_iff, List.contains_iff_mem, List.contains_iff_mem]
 exact ⟨h1 s, h2 s⟩
def markFrom (s : List UInt8) : Nat -> Option (List UInt8)
 | 0 => none
 | k + 1 => if mAt s (k + 1) = true then some (s.take (k + 1)) else markFrom s k
theorem markFrom_pos (s : List UInt8) {k : Nat} (h : 0 < k) : markFrom s k = if mAt s k = true then some (s.take k) else markFrom s (k - 1) := by
 cases k with
 | zero => omega
 | succ k => rfl
theorem markOf_from (s : List UInt8) : markOf s = markFrom s 4 := by rw [markOf_eq]; rfl
end Jsp
open Go.RowKit
theorem rAmongM (s : List UInt8) (w : World) : Calls Tryz.prog 53 #[S s, S Jsp.txM] w (Ret (.bool (Jsp.wordsOf Jsp.marks s)) w) := by
 rw [<- Jsp.among_marks]
 exact rAmong s Jsp.txM w (by decide +kernel)
def MkP (b : Nat) (F : List UInt8) (n : Nat) (st : Jsp.St) (w : World) (e : Ending) (w' : World) : Prop := match Jsp.markOf (F.drop n) with
 | none => ErP b F 170 n w e w'
 | some m => match Jsp.bracket st m with
  | none => ErP b F 177 n w e w'
  | some st2 => OkP b F 3 m [] (n + m.length) st2.stk (!st2.goal) st2.last st2.some w e w'
theorem wz_dec {g : Nat} (h : 0 < g) (h4 : g <= 4) : wrap64 ((g : Int) - 1) = ((g - 1 : Nat) : Int) := by unfold wrap64; omega
theorem wz_add {n g L : Nat} (h : n < L) (hL : L <= 1048575) (hg : g <= 4) : wrap64 ((n : Int) + (g : Int)) = (n : Int) + (g : Int) := by unfold wrap64; omega
theorem rMark (b : Nat) (F : List UInt8) (n : Nat) (st : Jsp.St) (p0 : Int) (fr : Fr) (w : World) (h : MB w b F (n : Int) st.stk (!st.goal) st.last st.some 0 p0 fr) (hn : n < F.length) (hk : st.stk.length <= 200) (hso : st.some = false -> st.last = []) (hl : F.length <= 1048575) :
  Calls Tryz.prog 92 #[.pointer (some ⟨b, 0, none⟩)] w (MkP b F n st w) := by
 obtain ⟨s, hs⟩ : ∃ s, F.drop n = s := ⟨_, rfl⟩
 have hsl : s.length = F.length - n := by rw [<- hs, List.length_drop]
 obtain ⟨R, hR⟩ : ∃ R, Jsp.markOf s = R := ⟨_, rfl⟩
 have HRR := hide hR
 rw [Jsp.markOf_from] at hR
 have HT1 := hide (Ti.start h)
 obtain ⟨w1, hw1⟩ : ∃ w1, w1 = w.alloc (.cells tokC 29) := ⟨_, rfl⟩
 obtain ⟨r, hr⟩ : ∃ r, w.heap.size = r := ⟨_, rfl⟩
 rw [<- hw1, hr] at HT1
 have HW := hide hw1
 have HR := hide hr
 have HS := hide hs
 have HSL := hide hsl
 have HK := hide hk
 have HSO := hide hso
 have HL := hide hl
 have HN := hide hn
 have HR0 := hide hR
 clear h hw1 hr hs hsl hk hso hl hR hn
 go_enter Tryz.func92, Tryz.ntmps92
 go_upto_region 1 with (fail)
 change Code.wp _ _ _ _ (w.alloc (.cells tokC 29))
 rw [<- HW.out, HR.out]
 go_wp2_with fail
 go_loopg [3] 4 (fun g s3 wx => s3 = .int .i64 (g : Int) /\ Hid (Ti w wx b r F (n : Int) st.stk (!st.goal) st.last st.some 0 p0 fr) /\ Hid (g <= 4 /\ Jsp.markFrom s g = R))
 case atStart => exact ⟨rfl, HT1, Nat.le_refl _, HR0.out⟩
 case round =>
  obtain ⟨rfl, ht, hg⟩ := hrel
  clear HT1 HR0 HW
  obtain ⟨hg4, hmk⟩ := hg.out
  have c0 := ht.out.m.cells.1
  have c1 := ht.out.m.cells.2.1
  by_cases hg0 : gk = 0
  rotate_left
  ·have hg1 : 0 < gk := Nat.pos_of_ne_zero hg0
   have hstep := Jsp.markFrom_pos s hg1
   rw [hmk] at hstep
   have hz1 : gk - 1 < gk := by omega
   have hz2 : gk - 1 <= 4 := by omega
   have HZ := hide hg1
   have q0 : decide ((0 : Int) < (gk : Int)) = true := decide_eq_true (by omega)
   have hwz : wrap64 ((gk : Int) - 1) = ((gk - 1 : Nat) : Int) := wz_dec hg1 hg4
   have hwn : wrap64 ((n : Int) + (gk : Int)) = (n : Int) + (gk : Int) := wz_add HN.out HL.out hg4
   have hmk2 : R = if Jsp.mAt s gk = true then some (s.take gk) else Jsp.markFrom s (gk - 1) := hstep
   have HMK := hide hmk2
   clear hg hmk hstep hmk2 hg0 hg1
   by_cases hlen : n + gk <= F.length
   rotate_left
   ·have q1 : decide ((F.length : Int) < (n : Int) + (gk : Int)) = true := decide_eq_true (by omega)
    have hma : Jsp.mAt s gk = false := by
     unfold Jsp.mAt
     rw [decide_eq_false (by rw [HSL.out]; have := HN.out; omega)]
     rfl
    have HM : Hid (Jsp.markFrom s (gk - 1) = R) := by unfold Hid; rw [HMK.out, if_neg (by rw [hma]; decide)]
    clear hma hlen hg4
    go_wp2_with fail
    go_quiet (fail)
    have HT7 := hide (ht.out.drewN nq)
    generalize wr.drewN nq = W7 at HT7 ⊢
    clear c0 c1 ht
    go_wp2_with fail
    go_roundg (gk - 1)
    case measure => exact hz1
    case rel => exact ⟨(by first | rfl | (rw [hwz]; rfl) | (congr 1; have := HZ.out; omega)), HT7, hide ⟨hz2, HM.out⟩⟩
   have q1 : decide ((F.length : Int) < (n : Int) + (gk : Int)) = false := decide_eq_false (by omega)
   have b0 : (0 : Int) <= (n : Int) := by omega
   have b1 : (n : Int) <= (n : Int) + (gk : Int) := by omega
   have b2 : (n : Int) + (gk : Int) <= (F.length : Int) := by omega
   have b3 : ((n : Int) + (gk : Int)).toNat - n = gk := by omega
   obtain ⟨t, htt⟩ : ∃ t, (F.drop n).take gk = t := ⟨_, rfl⟩
   have htl : t.length = gk := by rw [<- htt, List.length_take, List.length_drop]; omega
   have hst : s.take gk = t := by rw [<- HS.out]; exact htt
   have HTL := hide htl
   have HST := hide hst
   obtain ⟨v, hv⟩ : ∃ v, Jsp.wordsOf Jsp.marks t = v := ⟨_, rfl⟩
   have HA := fun W => rAmongM t W
   rw [hv] at HA
   have HA := hide HA
   have hma : Jsp.mAt s gk = (v && !(t == [63, 46] && Jsp.isB (fun c => Jsp.digit c.toNat) (s.drop 2))) := by
    rw [Jsp.mAt_iff, hst, hv, decide_eq_true (by rw [HSL.out]; omega), Bool.true_and]
   have HMA := hide hma
   clear hst htl hv hma hlen
   go_wp2_with fail
   go_quiet (fail)
   have HTA := hide (ht.out.drewN nq)
   generalize wr.drewN nq = WA at HTA ⊢
   clear c0 c1 ht
   have c0 := HTA.out.m.cells.1
   have c1 := HTA.out.m.cells.2.1
   go_wp2_with fail
   go_quiet (fail)
   have HT6 := hide (HTA.out.drewN nq)
   generalize WA.drewN nq = W6 at HT6 ⊢
   clear c0 c1 HTA
   have c0 := HT6.out.m.cells.1
   have c1 := HT6.out.m.cells.2.1
   go_wp2_with fail
   refine (HA.out _).mono ?_
   rintro e w5 ⟨rfl, rfl⟩
   have hyes : Hid (∀ h : Jsp.mAt s gk = true, Jsp.markOf (F.drop n) = some t) := fun h => by
    rw [HS.out, HRR.out, HMK.out, if_pos h, HST.out]
   have hno : Hid (∀ h : Jsp.mAt s gk = false, Jsp.markFrom s (gk - 1) = R) := fun h => by
    rw [HMK.out, if_neg (by rw [h]; decide)]
   cases v
   ·have HM := hide (hno.out (by rw [HMA.out]; rfl))
    go_wp2_with fail
    go_quiet (fail)
    have HT7 := hide (HT6.out.drewN nq)
    generalize W6.drewN nq = W7 at HT7 ⊢
    clear c0 c1 HT6
    go_wp2_with fail
    go_roundg (gk - 1)
    case measure => exact hz1
    case rel => exact ⟨(by first | rfl | (rw [hwz]; rfl) | (congr 1; have := HZ.out; omega)), HT7, hide ⟨hz2, HM.out⟩⟩
   cases h63 : t == [63, 46]
   ·have HMO := hide (hyes.out (by rw [HMA.out, h63]; rfl))
    go_wp2_with fail
    go_quiet (fail)
    have HT7 := hide (HT6.out.drewN nq)
    generalize W6.drewN nq = W7 at HT7 ⊢
    clear c0 c1 HT6
    have HBK := hide (rBrackets b F n st t _ _ W7 HT7.out.m HK.out HSO.out)
    go_wp2_with fail
    refine HBK.out.mono ?_
    rintro e w8 hbp
    unfold BrP at hbp
    cases hbr : Jsp.bracket st t with
    | none =>
     rw [hbr] at hbp
     obtain ⟨rfl, hk8, xa, xk, xd, xl, xso, xfr, hm8⟩ := hbp
     have HT8 := hide (HT7.out.call hm8 hk8)
     have HBR := hide hbr
     clear hm8 hk8 hbr HBK HT7
     have c1 := HT8.out.m.cells.2.1
     have f1 := HT8.out.m.frozen 1
     go_upto_region 10 with (fail)
     change Code.wp _ _ _ _ (w8.setCell ⟨b, 1, none⟩ (.int .i64 (wrap64 (xa + (gk : Int)))))
     have ht9 := HT8.out.set1 (wrap64 (xa + (gk : Int)))
     generalize w8.setCell ⟨b, 1, none⟩ (.int .i64 (wrap64 (xa + (gk : Int)))) = w9 at ht9 ⊢
     have HT9 := hide ht9
     clear ht9 c1 f1 HT8
     obtain ⟨s0, s1, s2, s3, s4, s5⟩ := HT9.out.cells
     go_wp2_with fail
     change bodyPost _ _ _ _ ⟨_, _⟩ (tokW w9 r 3 t [])
     obtain ⟨E1, E2⟩ := HT9.out.fin 3 t []
     refine bodyPost_ret (v := tokV 3 t []) (tok_ret Tryz.results92 _ _ _ HT9.out.tk 3 _ _ rfl) rfl ?_
     unfold MkP
     rw [HMO.out]
     simp only
     rw [HBR.out]
     exact ⟨_, _, _, rfl, E2, _, _, _, _, _, _, E1⟩
    | some st2 =>
     rw [hbr] at hbp
     obtain ⟨rfl, hk8, xpl, xfr, hm8⟩ := hbp
     have HT8 := hide (HT7.out.call hm8 hk8)
     have HBR := hide hbr
     clear hm8 hk8 hbr HBK HT7
     have c1 := HT8.out.m.cells.2.1
     have f1 := HT8.out.m.frozen 1
     go_upto_region 10 with (fail)
     change Code.wp _ _ _ _ (w8.setCell ⟨b, 1, none⟩ (.int .i64 ((n : Int) + (gk : Int))))
     have ht9 := HT8.out.set1 ((n : Int) + (gk : Int))
     generalize w8.setCell ⟨b, 1, none⟩ (.int .i64 ((n : Int) + (gk : Int))) = w9 at ht9 ⊢
     have HT9 := hide ht9
     clear ht9 c1 f1 HT8
     obtain ⟨s0, s1, s2, s3, s4, s5⟩ := HT9.out.cells
     go_wp2_with fail
     change bodyPost _ _ _ _ ⟨_, _⟩ (tokW w9 r 3 t [])
     obtain ⟨E1, E2⟩ := HT9.out.fin 3 t []
     refine bodyPost_ret (v := tokV 3 t []) (tok_ret Tryz.results92 _ _ _ HT9.out.tk 3 _ _ rfl) rfl ?_
     unfold MkP
     rw [HMO.out]
     simp only
     rw [HBR.out]
     exact ⟨rfl, E2, _, _, by rw [HTL.out, show ((n + gk : Nat) : Int) = (n : Int) + (gk : Int) by omega]; exact E1⟩
   have hw2 : wrap64 ((n : Int) + 2) = (n : Int) + 2 := wz_add (g := 2) HN.out HL.out (by decide)
   by_cases hlt2 : n + 2 < F.length
   rotate_left
   ·have q4 : decide ((n : Int) + 2 < (F.length : Int)) = false := decide_eq_false (by omega)
    have HMO := hide (hyes.out (by rw [HMA.out, h63, Jsp.isB_getElem, List.getElem?_eq_none (by rw [HSL.out]; omega)]; rfl))
    go_wp2_with fail
    go_quiet (fail)
    have HT7 := hide (HT6.out.drewN nq)
    generalize W6.drewN nq = W7 at HT7 ⊢
    clear c0 c1 HT6
    have HBK := hide (rBrackets b F n st t _ _ W7 HT7.out.m HK.out HSO.out)
    go_wp2_with fail
    refine HBK.out.mono ?_
    rintro e w8 hbp
    unfold BrP at hbp
    cases hbr : Jsp.bracket st t with
    | none =>
     rw [hbr] at hbp
     obtain ⟨rfl, hk8, xa, xk, xd, xl, xso, xfr, hm8⟩ := hbp
     have HT8 := hide (HT7.out.call hm8 hk8)
     have HBR := hide hbr
     clear hm8 hk8 hbr HBK HT7
     have c1 := HT8.out.m.cells.2.1
     have f1 := HT8.out.m.frozen 1
     go_upto_region 10 with (fail)
     change Code.wp _ _ _ _ (w8.setCell ⟨b, 1, none⟩ (.int .i64 (wrap64 (xa + (gk : Int)))))
     have ht9 := HT8.out.set1 (wrap64 (xa + (gk : Int)))
     generalize w8.setCell ⟨b, 1, none⟩ (.int .i64 (wrap64 (xa + (gk : Int)))) = w9 at ht9 ⊢
     have HT9 := hide ht9
     clear ht9 c1 f1 HT8
     obtain ⟨s0, s1, s2, s3, s4, s5⟩ := HT9.out.cells
     go_wp2_with fail
     change bodyPost _ _ _ _ ⟨_, _⟩ (tokW w9 r 3 t [])
     obtain ⟨E1, E2⟩ := HT9.out.fin 3 t []
     refine bodyPost_ret (v := tokV 3 t []) (tok_ret Tryz.results92 _ _ _ HT9.out.tk 3 _ _ rfl) rfl ?_
     unfold MkP
     rw [HMO.out]
     simp only
     rw [HBR.out]
     exact ⟨_, _, _, rfl, E2, _, _, _, _, _, _, E1⟩
    | some st2 =>
     rw [hbr] at hbp
     obtain ⟨rfl, hk8, xpl, xfr, hm8⟩ := hbp
     have HT8 := hide (HT7.out.call hm8 hk8)
     have HBR := hide hbr
     clear hm8 hk8 hbr HBK HT7
     have c1 := HT8.out.m.cells.2.1
     have f1 := HT8.out.m.frozen 1
     go_upto_region 10 with (fail)
     change Code.wp _ _ _ _ (w8.setCell ⟨b, 1, none⟩ (.int .i64 ((n : Int) + (gk : Int))))
     have ht9 := HT8.out.set1 ((n : Int) + (gk : Int))
     generalize w8.setCell ⟨b, 1, none⟩ (.int .i64 ((n : Int) + (gk : Int))) = w9 at ht9 ⊢
     have HT9 := hide ht9
     clear ht9 c1 f1 HT8
     obtain ⟨s0, s1, s2, s3, s4, s5⟩ := HT9.out.cells
     go_wp2_with fail
     change bodyPost _ _ _ _ ⟨_, _⟩ (tokW w9 r 3 t [])
     obtain ⟨E1, E2⟩ := HT9.out.fin 3 t []
     refine bodyPost_ret (v := tokV 3 t []) (tok_ret Tryz.results92 _ _ _ HT9.out.tk 3 _ _ rfl) rfl ?_
     unfold MkP
     rw [HMO.out]
     simp only
     rw [HBR.out]
     exact ⟨rfl, E2, _, _, by rw [HTL.out, show ((n + gk : Nat) : Int) = (n : Int) + (gk : Int) by omega]; exact E1⟩
   have q4 : decide ((n : Int) + 2 < (F.length : Int)) = true := decide_eq_true (by omega)
   have e0 : (0 : Int) <= (n : Int) + 2 := by omega
   have e1 : (n : Int) + 2 < (F.length : Int) := by omega
   have e2 : ((n : Int) + 2).toNat = n + 2 := by omega
   obtain ⟨c, hc⟩ : ∃ c, F[n + 2] = c := ⟨_, rfl⟩
   have hsc : s[2]? = some c := by rw [<- HS.out, List.getElem?_drop, List.getElem?_eq_getElem hlt2]; exact congrArg some hc
   have hcb := u8_lt c
   have hw32 := w32_byte c
   have hw32b := w32_byte F[n + 2]
   obtain ⟨dg, hdg⟩ : ∃ dg, Jsp.digit c.toNat = dg := ⟨_, rfl⟩
   have HDG := fun W => rDig c.toNat W
   rw [hdg] at HDG
   have HDG2 := fun W => rDig F[n + 2].toNat W
   rw [hc, hdg] at HDG2
   rw [<- hc] at HDG2
   have HDG2 := hide HDG2
   have HDG := hide HDG
   have hma2 := HMA.out
   rw [h63, Jsp.isB_getElem, hsc] at hma2
   simp only at hma2
   rw [hdg] at hma2
   have HMA2 := hide hma2
   clear hma2 hsc hdg
   cases dg
   ·have HMO := hide (hyes.out (by rw [HMA2.out]; rfl))
    go_wp2_with fail
    go_quiet ((go_at_call 87; first | exact (HDG.out _).mono fun _ _ hz => ⟨hz.1, _, hz.2.symm⟩ | exact (HDG2.out _).mono fun _ _ hz => ⟨hz.1, _, hz.2.symm⟩))
    have HT7 := hide (HT6.out.drewN nq)
    generalize W6.drewN nq = W7 at HT7 ⊢
    clear c0 c1 HT6
    have HBK := hide (rBrackets b F n st t _ _ W7 HT7.out.m HK.out HSO.out)
    go_wp2_with fail
    refine HBK.out.mono ?_
    rintro e w8 hbp
    unfold BrP at hbp
    cases hbr : Jsp.bracket st t with
    | none =>
     rw [hbr] at hbp
     obtain ⟨rfl, hk8, xa, xk, xd, xl, xso, xfr, hm8⟩ := hbp
     have HT8 := hide (HT7.out.call hm8 hk8)
     have HBR := hide hbr
     clear hm8 hk8 hbr HBK HT7
     have c1 := HT8.out.m.cells.2.1
     have f1 := HT8.out.m.frozen 1
     go_upto_region 10 with (fail)
     change Code.wp _ _ _ _ (w8.setCell ⟨b, 1, none⟩ (.int .i64 (wrap64 (xa + (gk : Int)))))
     have ht9 := HT8.out.set1 (wrap64 (xa + (gk : Int)))
     generalize w8.setCell ⟨b, 1, none⟩ (.int .i64 (wrap64 (xa + (gk : Int)))) = w9 at ht9 ⊢
     have HT9 := hide ht9
     clear ht9 c1 f1 HT8
     obtain ⟨s0, s1, s2, s3, s4, s5⟩ := HT9.out.cells
     go_wp2_with fail
     change bodyPost _ _ _ _ ⟨_, _⟩ (tokW w9 r 3 t [])
     obtain ⟨E1, E2⟩ := HT9.out.fin 3 t []
     refine bodyPost_ret (v := tokV 3 t []) (tok_ret Tryz.results92 _ _ _ HT9.out.tk 3 _ _ rfl) rfl ?_
     unfold MkP
     rw [HMO.out]
     simp only
     rw [HBR.out]
     exact ⟨_, _, _, rfl, E2, _, _, _, _, _, _, E1⟩
    | some st2 =>
     rw [hbr] at hbp
     obtain ⟨rfl, hk8, xpl, xfr, hm8⟩ := hbp
     have HT8 := hide (HT7.out.call hm8 hk8)
     have HBR := hide hbr
     clear hm8 hk8 hbr HBK HT7
     have c1 := HT8.out.m.cells.2.1
     have f1 := HT8.out.m.frozen 1
     go_upto_region 10 with (fail)
     change Code.wp _ _ _ _ (w8.setCell ⟨b, 1, none⟩ (.int .i64 ((n : Int) + (gk : Int))))
     have ht9 := HT8.out.set1 ((n : Int) + (gk : Int))
     generalize w8.setCell ⟨b, 1, none⟩ (.int .i64 ((n : Int) + (gk : Int))) = w9 at ht9 ⊢
     have HT9 := hide ht9
     clear ht9 c1 f1 HT8
     obtain ⟨s0, s1, s2, s3, s4, s5⟩ := HT9.out.cells
     go_wp2_with fail
     change bodyPost _ _ _ _ ⟨_, _⟩ (tokW w9 r 3 t [])
     obtain ⟨E1, E2⟩ := HT9.out.fin 3 t []
     refine bodyPost_ret (v := tokV 3 t []) (tok_ret Tryz.results92 _ _ _ HT9.out.tk 3 _ _ rfl) rfl ?_
     unfold MkP
     rw [HMO.out]
     simp only
     rw [HBR.out]
     exact ⟨rfl, E2, _, _, by rw [HTL.out, show ((n + gk : Nat) : Int) = (n : Int) + (gk : Int) by omega]; exact E1⟩
   ·have HM := hide (hno.out (by rw [HMA2.out]; rfl))
    go_wp2_with fail
    go_quiet ((go_at_call 87; first | exact (HDG.out _).mono fun _ _ hz => ⟨hz.1, _, hz.2.symm⟩ | exact (HDG2.out _).mono fun _ _ hz => ⟨hz.1, _, hz.2.symm⟩))
    have HT7 := hide (HT6.out.drewN nq)
    generalize W6.drewN nq = W7 at HT7 ⊢
    clear c0 c1 HT6
    go_wp2_with fail
    go_roundg (gk - 1)
    case measure => exact hz1
    case rel => exact ⟨(by first | rfl | (rw [hwz]; rfl) | (congr 1; have := HZ.out; omega)), HT7, hide ⟨hz2, HM.out⟩⟩
  ·subst hg0
   have hmk : none = R := hmk
   have hmo : Hid (Jsp.markOf (F.drop n) = none) := by unfold Hid; rw [HS.out, HRR.out, <- hmk]
   have hFL := hide (rFail b F _ st.stk (!st.goal) st.last st.some _ _ _ 170 (n : Int) 0 0 false false [] wr ht.out.m)
   have q0 : decide ((0 : Int) < ((0 : Nat) : Int)) = false := rfl
   clear hg hmk hg4
   go_wp2_with fail
   refine hFL.out.mono ?_
   rintro e w9 ⟨rfl, ⟨fr9, hm9⟩, hk9⟩
   have HT9 := hide (ht.out.call hm9 hk9)
   clear hm9 hk9 c0 c1
   obtain ⟨s0, s1, s2, s3, s4, s5⟩ := HT9.out.cells
   go_wp2_with fail
   change bodyPost _ _ _ _ ⟨_, _⟩ (tokW w9 r 0 [] [])
   obtain ⟨E1, E2⟩ := HT9.out.fin 0 [] []
   refine bodyPost_ret (v := tokV 0 [] []) (tok_ret Tryz.results92 _ _ _ HT9.out.tk 0 _ _ rfl) rfl ?_
   unfold MkP
   rw [hmo.out]
   exact ⟨_, _, _, rfl, E2, _, _, _, _, _, _, E1⟩
end Go.Proofs.YtngccmlcopcghaaGreatDoor
