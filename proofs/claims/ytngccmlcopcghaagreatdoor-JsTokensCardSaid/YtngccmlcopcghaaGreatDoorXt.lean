/- The reference's regex. -/
import Derived.Test.YtngccmlcopcghaaGreatDoorXp
set_option maxRecDepth 100000
set_option maxHeartbeats 8000000
namespace Go.Proofs.YtngccmlcopcghaaGreatDoor
open Go.RowKit
def RxP (b : Nat) (F : List UInt8) (n : Nat) (k : List UInt8) (d : Bool) (l : List UInt8) (so : Bool) (w : World) (e : Ending) (w' : World) : Prop := match Jsp.reg (F.drop (n + 1)) with
 | none => ErP b F 174 n w e w'
 | some kk => OkP b F 10 ((F.drop n).take (kk + 2 + Jsp.name (F.drop (n + 1 + kk + 1)))) [] (n + (kk + 2 + Jsp.name (F.drop (n + 1 + kk + 1)))) k d l so w e w'
theorem rx_map {X : Option Nat} {a c : Nat} {R : Option Nat} (h : R = (X.map (· + c)).map (· + a)) {e : Nat} (he : e = c + a) : R = X.map (· + e) := by
 rw [h, he]
 cases X with
 | none => rfl
 | some x => simp only [Option.map_some]; congr 1; omega
theorem rx_map1 {X : Option Nat} {a c : Nat} {R : Option Nat} (h : R = (X.map (· + 1 + c)).map (· + a)) {e : Nat} (he : e = 1 + c + a) : R = X.map (· + e) := by
 rw [h, he]
 cases X with
 | none => rfl
 | some x => simp only [Option.map_some]; congr 1; omega
theorem rx_g {L i x : Nat} (h : i < L) (hx : i < x) (hL : x <= L) : L - x < L - i := by omega
theorem rx_pn {L i y : Nat} (h : i < L) (h1 : 1 <= y) (h2 : y <= L - i) : i < i + y /\ i + y <= L := by omega
theorem rx_pn1 {L i y : Nat} (h : i < L) (h2 : y <= L - (i + 1)) : i < i + 1 + y /\ i + 1 + y <= L := by omega
theorem wri {i y L : Nat} (h : i + y <= L) (hL : L <= 1048575) : wrap64 ((i : Int) + (y : Int)) = (i : Int) + (y : Int) := by unfold wrap64; omega
theorem wri1 {i y L : Nat} (h : i + 1 + y <= L) (hL : L <= 1048575) : wrap64 ((i : Int) + 1 + (y : Int)) = (i : Int) + 1 + (y : Int) := by unfold wrap64; omega
theorem rRegex (b : Nat) (F : List UInt8) (n : Nat) (k : List UInt8) (d : Bool) (l : List UInt8) (so : Bool) (p0 : Int) (fr : Fr) (w : World) (h : MB w b F (n : Int) k d l so 0 p0 fr) (hn : n < F.length) (hl : F.length <= 1048575) :
  Calls Tryz.prog 91 #[.pointer (some ⟨b, 0, none⟩)] w (RxP b F n k d l so w) := by
 obtain ⟨R, hR⟩ : ∃ R, Jsp.reg (F.drop (n + 1)) = R := ⟨_, rfl⟩
 have HRR := hide hR
 have hR2 : R = (Jsp.regX false (F.drop (n + 1))).map (· + (n + 1 - (n + 1))) := by
  rw [<- hR, Nat.sub_self]
  show Jsp.regX false (F.drop (n + 1)) = _
  cases Jsp.regX false (F.drop (n + 1)) <;> rfl
 have HR2 := hide hR2
 have HT1 := hide (Ti.start h)
 obtain ⟨w1, hw1⟩ : ∃ w1, w1 = w.alloc (.cells tokC 29) := ⟨_, rfl⟩
 obtain ⟨r, hr⟩ : ∃ r, w.heap.size = r := ⟨_, rfl⟩
 rw [<- hw1, hr] at HT1
 have HW := hide hw1
 clear hw1
 have HR := hide hr
 have HL := hide hl
 have HN := hide hn
 have c1 := HT1.out.m.cells.2.1
 have hw1 := wr1 (i := n) (by omega)
 have HW1 := hide hw1
 clear h hr hR hR2
 go_enter Tryz.func91, Tryz.ntmps91
 go_upto_region 1 with (fail)
 change Code.wp _ _ _ _ (w.alloc (.cells tokC 29))
 rw [<- HW.out, HR.out]
 go_wp2_with fail
 go_loopg [4, 5, 6] (F.length - (n + 1)) (fun g s4 s5 s6 wx => ∃ (cls : Bool) (last : Int) (i : Nat) (fr : Fr), g = F.length - i /\ s4 = .bool cls /\ s5 = .int .i64 last /\ s6 = .int .i64 (i : Int) /\ Hid (n + 1 <= i /\ i <= F.length) /\ Hid (Ti w wx b r F (n : Int) k d l so 0 p0 fr) /\ Hid (Jsp.LastOk F.length last) /\ Hid (R = (Jsp.regX cls (F.drop i)).map (· + (i - (n + 1)))))
 case atStart => exact ⟨false, -1, n + 1, fr, rfl, rfl, rfl, rfl, ⟨Nat.le_refl _, HN.out⟩, HT1, .inl rfl, HR2.out⟩
 case round =>
  obtain ⟨cls, last, i, fr2, rfl, rfl, rfl, rfl, hi, ht, hok, hst⟩ := hrel
  clear HT1 HR2 c1 hl hn hw1 HW
  have hw1 := HW1.out
  have c0 := ht.out.m.cells.1
  have HP := fun W => rPoint F i W (Nat.le_succ_of_le HL.out)
  rw [ptV] at HP
  by_cases hie : i = F.length
  ·have hd0 : F.drop i = [] := List.drop_eq_nil_of_le (by omega)
   rw [hd0] at HP
   have HP := hide (show ∀ W, Calls Tryz.prog 81 #[S F, .int .i64 (i : Int)] W (Fresh (.tuple #[.int .i32 0, .int .i64 0]) W) from HP)
   have HNO : Hid (R = none) := by unfold Hid; rw [hst.out, hd0]; rfl
   clear hst hd0 hie
   go_wp2_with fail
   refine (HP.out _).mono ?_
   rintro e w2 ⟨rfl, hb2⟩
   have HT2 := hide (ht.out.below hb2)
   clear hb2 c0 ht HP
   have c14 := HT2.out.m.more.2.2.2.2.2.2.1
   have HWI := hide (rWithin b F _ k d l so _ _ _ 5 0 cls false [] last w2 HT2.out.m hok.out (by have := HN.out; omega) HL.out)
   go_wp2_with fail
   refine HWI.out.mono ?_
   rintro e w3 ⟨es, eq, ec, eg, ek, rfl, ⟨fr3, hm3⟩, hk3⟩
   have HT3 := hide (HT2.out.call hm3 hk3)
   clear hm3 hk3 c14 HT2
   have hFL := hide (rFail b F _ k d l so _ _ _ 174 (n : Int) es eq ec eg ek w3 HT3.out.m)
   go_wp2_with fail
   refine hFL.out.mono ?_
   rintro e w9 ⟨rfl, ⟨fr9, hm9⟩, hk9⟩
   have HT2 := hide (HT3.out.call hm9 hk9)
   clear hm9 hk9 HT3
   have f14 := HT2.out.m.frozen 14
   have c14 := HT2.out.m.more.2.2.2.2.2.2.1
   cases hq : ((i : Int) == (n : Int) + 1)
   ·obtain ⟨s0, s1, s2, s3, s4, s5⟩ := HT2.out.cells
    go_wp2_with fail
    change bodyPost _ _ _ _ ⟨_, _⟩ (tokW w9 r 0 [] [])
    obtain ⟨E1, E2⟩ := HT2.out.fin 0 [] []
    refine bodyPost_ret (v := tokV 0 [] []) (tok_ret Tryz.results91 _ _ _ HT2.out.tk 0 _ _ rfl) rfl ?_
    unfold RxP
    rw [HRR.out, HNO.out]
    exact ⟨_, _, _, rfl, E2, _, _, _, _, _, _, E1⟩
   ·go_upto_region 16 with (fail)
    change Code.wp _ _ _ _ (w9.setCell ⟨b, 14, none⟩ (.int .i64 _))
    have ht4 := HT2.out.set14 fr2.rs
    generalize w9.setCell ⟨b, 14, none⟩ (.int .i64 fr2.rs) = w4 at ht4 ⊢
    have HT4 := hide ht4
    clear ht4 f14 c14 HT2
    obtain ⟨s0, s1, s2, s3, s4, s5⟩ := HT4.out.cells
    go_wp2_with fail
    change bodyPost _ _ _ _ ⟨_, _⟩ (tokW w4 r 0 [] [])
    obtain ⟨E1, E2⟩ := HT4.out.fin 0 [] []
    refine bodyPost_ret (v := tokV 0 [] []) (tok_ret Tryz.results91 _ _ _ HT4.out.tk 0 _ _ rfl) rfl ?_
    unfold RxP
    rw [HRR.out, HNO.out]
    exact ⟨_, _, _, rfl, E2, _, _, _, _, _, _, E1⟩
  have hlt : i < F.length := by have := hi.out.2; omega
  have hne := drop_ne hlt
  obtain ⟨p1, p2⟩ := Jsp.pn_le hne
  rw [List.length_drop] at p2
  have hstep := Jsp.regX_step cls (F.drop i) hne
  simp only [List.drop_drop] at hstep
  obtain ⟨x, hx⟩ : ∃ x, Jsp.pt (F.drop i) = x := ⟨_, rfl⟩
  obtain ⟨y, hy⟩ : ∃ y, Jsp.pn (F.drop i) = y := ⟨_, rfl⟩
  rw [hx, hy] at HP
  rw [hy] at p1 p2
  rw [hx, hy] at hstep
  have HP := hide HP
  have HST := hide hstep
  have q0 : ((y : Int) == 0) = false := by rw [beq_eq_false_iff_ne]; omega
  have HLE := fun W => rLineEnd x W
  have HPN := hide (rx_pn hlt p1 p2)
  have HLT := hide hlt
  clear hstep hx hy hne p1 p2
  cases hle : Jsp.lineEnd x
  rotate_left
  ·rw [hle] at HLE
   have HLE := hide HLE
   have HNO : Hid (R = none) := by unfold Hid; rw [hst.out, HST.out, if_pos hle]; rfl
   clear hst hle
   go_wp2_with fail
   refine (HP.out _).mono ?_
   rintro e w2 ⟨rfl, hb2⟩
   have HT2 := hide (ht.out.below hb2)
   clear hb2 c0 ht HP
   go_wp2_with fail
   refine (HLE.out _).mono ?_
   rintro e w2' ⟨rfl, rfl⟩
   have hFL := hide (rFail b F _ k d l so _ _ _ 174 (n : Int) 0 0 false false [] _ HT2.out.m)
   go_wp2_with fail
   refine hFL.out.mono ?_
   rintro e w9 ⟨rfl, ⟨fr9, hm9⟩, hk9⟩
   have HT9 := hide (HT2.out.call hm9 hk9)
   clear hm9 hk9
   obtain ⟨s0, s1, s2, s3, s4, s5⟩ := HT9.out.cells
   go_wp2_with fail
   change bodyPost _ _ _ _ ⟨_, _⟩ (tokW w9 r 0 [] [])
   obtain ⟨E1, E2⟩ := HT9.out.fin 0 [] []
   refine bodyPost_ret (v := tokV 0 [] []) (tok_ret Tryz.results91 _ _ _ HT9.out.tk 0 _ _ rfl) rfl ?_
   unfold RxP
   rw [HRR.out, HNO.out]
   exact ⟨_, _, _, rfl, E2, _, _, _, _, _, _, E1⟩
  rw [hle] at HLE
  have HLE := hide HLE
  have hst2 := hst.out
  rw [HST.out, if_neg (by rw [hle]; decide)] at hst2
  clear hle hst
  by_cases c92 : x = 92
  ·have q92 : ((x : Int) == 92) = true := ji_t c92
   rw [if_pos c92] at hst2
   have HP2 := fun W => rPoint F (i + 1) W (Nat.le_succ_of_le HL.out)
   rw [ptV] at HP2
   have hwi1 : wrap64 ((i : Int) + 1) = (i : Int) + 1 := wri (y := 1) HLT.out HL.out
   have hok2 : Hid (Jsp.LastOk F.length (i : Int)) := .inr ⟨i, rfl, HLT.out⟩
   by_cases hd : F.drop (i + 1) = []
   ·rw [hd] at HP2
    have HP2 := hide (show ∀ W, Calls Tryz.prog 81 #[S F, .int .i64 ((i + 1 : Nat) : Int)] W (Fresh (.tuple #[.int .i32 0, .int .i64 0]) W) from HP2)
    rw [if_pos hd] at hst2
    have HNX : Hid (R = (Jsp.regX cls (F.drop (i + 1))).map (· + (i + 1 - (n + 1)))) := by unfold Hid; rw [hst2, hd]; rfl
    have hie1 : i + 1 = F.length := by have h2 := congrArg List.length hd; rw [List.length_drop, List.length_nil] at h2; have := HLT.out; omega
    have HI1 := hide (show n + 1 <= i + 1 /\ i + 1 <= F.length from ⟨by have := hi.out.1; omega, by omega⟩)
    have HG := hide (rx_g (x := i + 1) HLT.out (Nat.lt_succ_self _) HLT.out)
    clear hst2 hd hie1 c92
    go_wp2_with fail
    refine (HP.out _).mono ?_
    rintro e w2 ⟨rfl, hb2⟩
    have HT2 := hide (ht.out.below hb2)
    clear hb2 c0 ht HP
    have c0 := HT2.out.m.cells.1
    go_wp2_with fail
    refine (HLE.out _).mono ?_
    rintro e w2' ⟨rfl, rfl⟩
    go_wp2_with fail
    refine (HP2.out _).mono ?_
    rintro e w3 ⟨rfl, hb3⟩
    have HT3 := hide (HT2.out.below hb3)
    clear hb3 c0 HT2 HP2
    go_wp2_with fail
    go_roundg (F.length - (i + 1))
    case measure => exact HG.out
    case rel => exact ⟨cls, (i : Int), i + 1, _, rfl, rfl, rfl, (by first | rfl | (rw [hwi1]; rfl)), HI1.out, HT3, hok2, HNX⟩
   ·obtain ⟨x2, hx2⟩ : ∃ x2, Jsp.pt (F.drop (i + 1)) = x2 := ⟨_, rfl⟩
    obtain ⟨y2, hy2⟩ : ∃ y2, Jsp.pn (F.drop (i + 1)) = y2 := ⟨_, rfl⟩
    obtain ⟨p1, p2⟩ := Jsp.pn_le hd
    rw [List.length_drop, hy2] at p2
    rw [hy2] at p1
    rw [hx2, hy2] at HP2
    rw [if_neg hd, hx2, hy2] at hst2
    have HP2 := hide HP2
    have q2 : decide ((0 : Int) < (y2 : Int)) = true := decide_eq_true (by omega)
    have q2n : decide (0 < y2) = true := decide_eq_true p1
    have HLE2 := fun W => rLineEnd x2 W
    have HPN2 := hide (rx_pn1 HLT.out p2)
    clear hd hx2 hy2 p1 p2 c92
    cases hle2 : Jsp.lineEnd x2
    ·rw [hle2] at HLE2
     have HLE2 := hide HLE2
     rw [if_neg (by rw [hle2]; decide)] at hst2
     have hst3 := rx_map1 (e := i + 1 + y2 - (n + 1)) hst2 (by have := hi.out.1; omega)
     rw [show i + (1 + y2) = i + 1 + y2 by omega] at hst3
     have HNX := hide hst3
     have HI1 := hide (show n + 1 <= i + 1 + y2 /\ i + 1 + y2 <= F.length from ⟨by have := hi.out.1; omega, HPN2.out.2⟩)
     have HG := hide (rx_g HLT.out HPN2.out.1 HPN2.out.2)
     have hwy := wri1 HPN2.out.2 HL.out
     clear hst2 hst3 hle2
     go_wp2_with fail
     refine (HP.out _).mono ?_
     rintro e w2 ⟨rfl, hb2⟩
     have HT2 := hide (ht.out.below hb2)
     clear hb2 c0 ht HP
     have c0 := HT2.out.m.cells.1
     go_wp2_with fail
     refine (HLE.out _).mono ?_
     rintro e w2' ⟨rfl, rfl⟩
     go_wp2_with fail
     refine (HP2.out _).mono ?_
     rintro e w3 ⟨rfl, hb3⟩
     have HT3 := hide (HT2.out.below hb3)
     clear hb3 c0 HT2 HP2
     go_wp2_with fail
     refine (HLE2.out _).mono ?_
     rintro e w3' ⟨rfl, rfl⟩
     go_wp2_with fail
     go_roundg (F.length - (i + 1 + y2))
     case measure => exact HG.out
     case rel => exact ⟨cls, (i : Int), i + 1 + y2, _, rfl, rfl, rfl, (by first | rfl | (rw [hwy]; rfl)), HI1.out, HT3, hok2, HNX⟩
    ·rw [hle2] at HLE2
     have HLE2 := hide HLE2
     have HNO : Hid (R = none) := by unfold Hid; rw [hst2, if_pos hle2]; rfl
     clear hst2 hle2
     go_wp2_with fail
     refine (HP.out _).mono ?_
     rintro e w2 ⟨rfl, hb2⟩
     have HT2 := hide (ht.out.below hb2)
     clear hb2 c0 ht HP
     have c0 := HT2.out.m.cells.1
     go_wp2_with fail
     refine (HLE.out _).mono ?_
     rintro e w2' ⟨rfl, rfl⟩
     go_wp2_with fail
     refine (HP2.out _).mono ?_
     rintro e w3 ⟨rfl, hb3⟩
     have HT2 := hide (HT2.out.below hb3)
     clear hb3 c0 HP2
     go_wp2_with fail
     refine (HLE2.out _).mono ?_
     rintro e w3' ⟨rfl, rfl⟩
     have hFL := hide (rFail b F _ k d l so _ _ _ 174 (n : Int) 0 0 false false [] _ HT2.out.m)
     go_wp2_with fail
     refine hFL.out.mono ?_
     rintro e w9 ⟨rfl, ⟨fr9, hm9⟩, hk9⟩
     have HT9 := hide (HT2.out.call hm9 hk9)
     clear hm9 hk9
     obtain ⟨s0, s1, s2, s3, s4, s5⟩ := HT9.out.cells
     go_wp2_with fail
     change bodyPost _ _ _ _ ⟨_, _⟩ (tokW w9 r 0 [] [])
     obtain ⟨E1, E2⟩ := HT9.out.fin 0 [] []
     refine bodyPost_ret (v := tokV 0 [] []) (tok_ret Tryz.results91 _ _ _ HT9.out.tk 0 _ _ rfl) rfl ?_
     unfold RxP
     rw [HRR.out, HNO.out]
     exact ⟨_, _, _, rfl, E2, _, _, _, _, _, _, E1⟩
  have q92 : ((x : Int) == 92) = false := ji_f c92
  rw [if_neg c92] at hst2
  clear c92
  by_cases c47 : x = 47 /\ cls = false
  ·obtain ⟨c47, rfl⟩ := c47
   have q47 : ((x : Int) == 47) = true := ji_t c47
   rw [if_pos ⟨c47, rfl⟩] at hst2
   have HNX := hide (show R = some (i - (n + 1)) from by rw [hst2]; simp)
   have hwi1 : wrap64 ((i : Int) + 1) = (i : Int) + 1 := wri (y := 1) HLT.out HL.out
   obtain ⟨N, hN⟩ : ∃ N, Jsp.name (F.drop (i + 1)) = N := ⟨_, rfl⟩
   have hNl := Jsp.name_le (F.drop (i + 1))
   rw [List.length_drop, hN] at hNl
   have HRU := fun W => rRun F (i + 1) W HLT.out (Nat.le_succ_of_le HL.out)
   rw [hN] at HRU
   have HRU := hide HRU
   have HNN := hide hN
   have e0 : (0 : Int) <= (n : Int) := by omega
   have e1 : (n : Int) <= (i : Int) + 1 + (N : Int) := by have := hi.out.1; omega
   have e2 : (i : Int) + 1 + (N : Int) <= (F.length : Int) := by have := HLT.out; omega
   have e3 : ((i : Int) + 1 + (N : Int)).toNat - n = i + 1 + N - n := by omega
   clear hst2 c47 hN hNl
   go_wp2_with fail
   refine (HP.out _).mono ?_
   rintro e w2 ⟨rfl, hb2⟩
   have HT2 := hide (ht.out.below hb2)
   clear hb2 c0 ht HP
   go_wp2_with fail
   refine (HLE.out _).mono ?_
   rintro e w2' ⟨rfl, rfl⟩
   have c14 := HT2.out.m.more.2.2.2.2.2.2.1
   have f14 := HT2.out.m.frozen 14
   go_upto_region 29 with (fail)
   change Code.wp _ _ _ _ (w2.setCell ⟨b, 14, none⟩ (.int .i64 (i : Int)))
   have ht3 := HT2.out.set14 (i : Int)
   generalize w2.setCell ⟨b, 14, none⟩ (.int .i64 (i : Int)) = w3 at ht3 ⊢
   have HT3 := hide ht3
   clear ht3 c14 f14 HT2
   have c0 := HT3.out.m.cells.1
   have hwi1 := hwi1
   go_wp2_with fail
   refine (HRU.out _).mono ?_
   rintro e w4 ⟨rfl, hb4⟩
   have HT4 := hide (HT3.out.below hb4)
   clear hb4 c0 HT3
   have c0 := HT4.out.m.cells.1
   have c1 := HT4.out.m.cells.2.1
   have f1 := HT4.out.m.frozen 1
   go_upto_region 30 with (fail)
   change Code.wp _ _ _ _ (w4.setCell ⟨b, 1, none⟩ (.int .i64 ((i : Int) + 1 + (N : Int))))
   have ht5 := HT4.out.set1 ((i : Int) + 1 + (N : Int))
   generalize w4.setCell ⟨b, 1, none⟩ (.int .i64 ((i : Int) + 1 + (N : Int))) = w5 at ht5 ⊢
   have HT5 := hide ht5
   clear ht5 c0 c1 f1 HT4
   have c0 := HT5.out.m.cells.1
   have c1 := HT5.out.m.cells.2.1
   obtain ⟨s0, s1, s2, s3, s4, s5⟩ := HT5.out.cells
   go_region
   go_wp2_with fail
   change bodyPost _ _ _ _ ⟨_, _⟩ (tokW (w5.drewN 1) r 10 ((F.drop n).take (i + 1 + N - n)) [])
   have ht6 := HT5.out.drewN 1
   obtain ⟨E1, E2⟩ := ht6.fin 10 ((F.drop n).take (i + 1 + N - n)) []
   refine bodyPost_ret (v := tokV 10 ((F.drop n).take (i + 1 + N - n)) []) (tok_ret Tryz.results91 _ _ _ ht6.tk 10 _ _ rfl) rfl ?_
   unfold RxP
   rw [HRR.out, HNX.out]
   have hi1 := hi.out.1
   simp only
   rw [show n + 1 + (i - (n + 1)) + 1 = i + 1 by omega, HNN.out, show i - (n + 1) + 2 + N = i + 1 + N - n by omega]
   exact ⟨rfl, E2, _, _, by rw [show ((n + (i + 1 + N - n) : Nat) : Int) = (i : Int) + 1 + (N : Int) by omega]; exact E1⟩
  ·rw [if_neg c47] at hst2
   have hst3 := rx_map (e := i + y - (n + 1)) hst2 (by have := hi.out.1; omega)
   have HI1 := hide (show n + 1 <= i + y /\ i + y <= F.length from ⟨by have := hi.out.1; omega, HPN.out.2⟩)
   have HG := hide (rx_g HLT.out HPN.out.1 HPN.out.2)
   have hwy := wri HPN.out.2 HL.out
   have q47 : ((x : Int) == 47) = false \/ (((x : Int) == 47) = true /\ cls = true) := by
    by_cases h : x = 47
    ·refine .inr ⟨ji_t h, ?_⟩
     cases cls
     ·exact absurd ⟨h, rfl⟩ c47
     ·rfl
    ·exact .inl (ji_f h)
   clear hst2 c47
   by_cases c91 : x = 91
   ·have q91 : ((x : Int) == 91) = true := ji_t c91
    have q93 : ((x : Int) == 93) = false := ji_f (by rw [c91]; decide)
    have HNX := hide (show R = (Jsp.regX true (F.drop (i + y))).map (· + (i + y - (n + 1))) from by rw [hst3, if_pos c91])
    have q47 : ((x : Int) == 47) = false := ji_f (by rw [c91]; decide)
    clear hst3 c91
    go_wp2_with fail
    refine (HP.out _).mono ?_
    rintro e w2 ⟨rfl, hb2⟩
    have HT2 := hide (ht.out.below hb2)
    clear hb2 c0 ht HP
    go_wp2_with fail
    refine (HLE.out _).mono ?_
    rintro e w2' ⟨rfl, rfl⟩
    go_wp2_with fail
    go_roundg (F.length - (i + y))
    case measure => exact HG.out
    case rel => exact ⟨true, last, i + y, _, rfl, rfl, rfl, (by first | rfl | (rw [hwy]; rfl)), HI1.out, HT2, hok, HNX⟩
   have q91 : ((x : Int) == 91) = false := ji_f c91
   rw [if_neg c91] at hst3
   by_cases c93 : x = 93
   ·have q93 : ((x : Int) == 93) = true := ji_t c93
    have HNX := hide (show R = (Jsp.regX false (F.drop (i + y))).map (· + (i + y - (n + 1))) from by rw [hst3, if_pos c93])
    have q47 : ((x : Int) == 47) = false := ji_f (by rw [c93]; decide)
    clear hst3 c93 c91
    go_wp2_with fail
    refine (HP.out _).mono ?_
    rintro e w2 ⟨rfl, hb2⟩
    have HT2 := hide (ht.out.below hb2)
    clear hb2 c0 ht HP
    go_wp2_with fail
    refine (HLE.out _).mono ?_
    rintro e w2' ⟨rfl, rfl⟩
    go_wp2_with fail
    go_roundg (F.length - (i + y))
    case measure => exact HG.out
    case rel => exact ⟨false, last, i + y, _, rfl, rfl, rfl, (by first | rfl | (rw [hwy]; rfl)), HI1.out, HT2, hok, HNX⟩
   have q93 : ((x : Int) == 93) = false := ji_f c93
   rw [if_neg c93] at hst3
   have HNX := hide hst3
   clear hst3 c93 c91
   rcases q47 with q47 | ⟨q47, rfl⟩
   ·go_wp2_with fail
    refine (HP.out _).mono ?_
    rintro e w2 ⟨rfl, hb2⟩
    have HT2 := hide (ht.out.below hb2)
    clear hb2 c0 ht HP
    go_wp2_with fail
    refine (HLE.out _).mono ?_
    rintro e w2' ⟨rfl, rfl⟩
    go_wp2_with fail
    go_roundg (F.length - (i + y))
    case measure => exact HG.out
    case rel => exact ⟨cls, last, i + y, _, rfl, rfl, rfl, (by first | rfl | (rw [hwy]; rfl)), HI1.out, HT2, hok, HNX⟩
   ·go_wp2_with fail
    refine (HP.out _).mono ?_
    rintro e w2 ⟨rfl, hb2⟩
    have HT2 := hide (ht.out.below hb2)
    clear hb2 c0 ht HP
    go_wp2_with fail
    refine (HLE.out _).mono ?_
    rintro e w2' ⟨rfl, rfl⟩
    go_wp2_with fail
    go_roundg (F.length - (i + y))
    case measure => exact HG.out
    case rel => exact ⟨true, last, i + y, _, rfl, rfl, rfl, (by first | rfl | (rw [hwy]; rfl)), HI1.out, HT2, hok, HNX⟩
end Go.Proofs.YtngccmlcopcghaaGreatDoor
