/- The reference's blanks. -/
import Derived.Test.YtngccmlcopcghaaGreatDoorYa
import Derived.Test.YtngccmlcopcghaaGreatDoorXp
import Derived.Deep.RegionHeld3
set_option maxRecDepth 100000
set_option maxHeartbeats 8000000
namespace Go.Proofs.YtngccmlcopcghaaGreatDoor
open Go.RowKit
def BkP (b : Nat) (F : List UInt8) (a : Nat) (k : List UInt8) (d : Bool) (l : List UInt8) (so : Bool) (w : World) (e : Ending) (w' : World) : Prop := match Jsp.gap1 (F.drop a) with
 | .inl g => e = .returned (.tuple #[]) /\ Km b w w' /\ ∃ pl fr, MB w' b F ((a + g : Nat) : Int) k d l so 0 pl fr
 | .inr o => e = .returned (.tuple #[]) /\ Km b w w' /\ ∃ a' k' d' l' so' fr, MB w' b F a' k' d' l' so' 175 ((a + o : Nat) : Int) fr
theorem bk_on {R X : Nat ⊕ Nat} {i a m j : Nat} (h : R = Jsp.on1 (i - a) (Jsp.on1 m X)) (ha : a <= i) (hj : j = i + m) : R = Jsp.on1 (j - a) X := by
 rw [h, Jsp.on1_on1]
 congr 1; omega
theorem wri' {i y L : Nat} (h : i + y <= L) (hL : L <= 1048570) : wrap64 ((i : Int) + (y : Int)) = (i : Int) + (y : Int) := by unfold wrap64; omega
theorem wri1' {j L : Nat} (h : j <= L) (hL : L <= 1048570) : wrap64 ((j : Int) + 1) = ((j + 1 : Nat) : Int) := by unfold wrap64; omega
theorem rx_g' {L i x : Nat} (h : i < L) (hx : i < x) (hL : x <= L) : L - x < L - i := by omega
theorem rx_pn' {L i y : Nat} (h : i < L) (h1 : 1 <= y) (h2 : y <= L - i) : i < i + y /\ i + y <= L := by omega
theorem wri2 {i L : Nat} (h : i <= L) (hL : L <= 1048570) : wrap64 ((i : Int) + 2) = (i : Int) + 2 := by unfold wrap64; omega
theorem rBlanks (b : Nat) (F : List UInt8) (a : Nat) (k : List UInt8) (d : Bool) (l : List UInt8) (so : Bool) (p0 : Int) (fr : Fr) (w : World) (h : MB w b F (a : Int) k d l so 0 p0 fr) (ha : a <= F.length) (hl : F.length <= 1048570) :
  Calls Tryz.prog 51 #[.pointer (some ⟨b, 0, none⟩)] w (BkP b F a k d l so w) := by
 obtain ⟨R, hR⟩ : ∃ R, Jsp.gap1 (F.drop a) = R := ⟨_, rfl⟩
 have HRR := hide hR
 have HM0 := hide h
 have HL := hide hl
 have HA := hide ha
 clear h hR hl ha
 go_enter Tryz.func51, Tryz.ntmps51
 go_wp2_with fail
 go_loopg [] (F.length - a) (fun g wx => ∃ (i : Nat) (pl : Int) (fr : Fr), g = F.length - i /\ Hid (a <= i /\ i <= F.length) /\ Hid (MB wx b F (i : Int) k d l so 0 pl fr) /\ Hid (Km b w wx) /\ Hid (R = Jsp.on1 (i - a) (Jsp.gap1 (F.drop i))))
 case atStart => exact ⟨a, p0, fr, rfl, ⟨Nat.le_refl _, HA.out⟩, HM0, Km.refl b w, by unfold Hid; rw [Nat.sub_self, Jsp.on1_zero]; exact HRR.out.symm⟩
 case round =>
  obtain ⟨i, pl, fr1, rfl, hi, hm, hk, hst⟩ := hrel
  clear HM0
  have c0 := hm.out.cells.1
  have c1 := hm.out.cells.2.1
  have c6 := hm.out.cells.2.2.2.2.2.2.1
  by_cases hlt : i < F.length
  rotate_left
  ·have q0 : decide ((i : Int) < (F.length : Int)) = false := decide_eq_false (by omega)
   have hR2 : R = .inl (i - a) := by
    rw [hst.out, List.drop_eq_nil_of_le (by omega), Jsp.gap1_nil]
    simp only [Jsp.on1, Nat.zero_add]
   have HR2 := hide hR2
   clear hst hR2
   go_wp2_with fail
   go_quiet (fail)
   go_wp2_with fail
   refine bodyPost_end (results_none (by kernel_rfl) _ _ _) rfl ?_
   unfold BkP
   rw [HRR.out, HR2.out]
   exact ⟨rfl, hk.out.drewN _, _, _, by rw [show a + (i - a) = i by have := hi.out.1; omega]; exact hm.out.drewN _⟩
  have q0 : decide ((i : Int) < (F.length : Int)) = true := decide_eq_true (by omega)
  have q0n : decide (i < F.length) = true := decide_eq_true hlt
  have hne := drop_ne hlt
  obtain ⟨p1, p2⟩ := Jsp.pn_le hne
  rw [List.length_drop] at p2
  have hstep := Jsp.gap1_step (F.drop i) hne
  simp only [List.drop_drop] at hstep
  obtain ⟨x, hx⟩ : ∃ x, Jsp.pt (F.drop i) = x := ⟨_, rfl⟩
  obtain ⟨y, hy⟩ : ∃ y, Jsp.pn (F.drop i) = y := ⟨_, rfl⟩
  have HP := fun W => rPoint F i W (Nat.le_trans HL.out (by decide))
  rw [ptV, hx, hy] at HP
  rw [hy] at p1 p2
  rw [hx, hy] at hstep
  have HP := hide HP
  have HST := hide hstep
  have HBL := fun W => rBlank x W
  have HLN := fun W => rLineEnd x W
  have HPN := hide (rx_pn' hlt p1 p2)
  have HI1 := hide (show a <= i + y /\ i + y <= F.length from ⟨by have := hi.out.1; omega, HPN.out.2⟩)
  have HG := hide (rx_g' hlt HPN.out.1 HPN.out.2)
  have hwy := wri' HPN.out.2 HL.out
  have HLT := hide hlt
  have HBLK := hide (show Jsp.blank x = true \/ Jsp.lineEnd x = true -> R = Jsp.on1 (i + y - a) (Jsp.gap1 (F.drop (i + y))) from fun h => bk_on (by rw [hst.out, HST.out, if_pos h]) hi.out.1 rfl)
  have HX := hide hx
  clear hstep hx hy hne p1 p2 hlt
  go_wp2_with fail
  go_quiet (fail)
  have HM1 := hide (hm.out.drewN nq)
  have HK1 := hide (hk.out.drewN nq)
  generalize wr.drewN nq = W1 at HM1 HK1 ⊢
  clear c0 c1 c6 hm hk
  have c0 := HM1.out.cells.1
  have c1 := HM1.out.cells.2.1
  go_wp2_with fail
  have hS : ∀ V, Below W1.heap.size W1 V -> V.cell? ⟨b, 0, none⟩ = some (S F) /\ V.cell? ⟨b, 1, none⟩ = some (.int .i64 (i : Int)) := fun V hV => ⟨cell_below c0 hV, cell_below c1 hV⟩
  go_region_held3 (fun V => V.cell? ⟨b, 0, none⟩ = some (S F) /\ V.cell? ⟨b, 1, none⟩ = some (.int .i64 (i : Int))) (first | exact ⟨c0, c1⟩ | exact hS _ (((Below.refl W1.heap.size W1).drew).trans hb)) ((go_at_call 81; refine (HP.out _).mono ?_; rintro e w1 ⟨rfl, hb⟩))
  have hb2 := ((Below.refl W1.heap.size W1).drew).trans hb
  have HM2 := hide (HM1.out.below hb2)
  have HK2 := hide (HK1.out.below hb2)
  clear hb hb2 hS c0 c1 HM1 HK1 HP
  have HNB0 := hide (show Jsp.blank x = false -> Jsp.lineEnd x = false -> ¬ (Jsp.blank x = true \/ Jsp.lineEnd x = true) from fun h1 h2 h => by rw [h1, h2] at h; rcases h with h | h <;> cases h)
  have c0 := HM2.out.cells.1
  have c1 := HM2.out.cells.2.1
  have hw2 := wri2 hi.out.2 HL.out
  by_cases h2 : i + 2 <= F.length
  rotate_left
  ·have q2 : decide ((i : Int) + 2 <= (F.length : Int)) = false := decide_eq_false (by omega)
   have htw : Jsp.two F i = [] := by unfold Jsp.two; rw [if_neg h2]
   have h47 := Jsp.two_pre F i [47, 47] rfl
   have h42 := Jsp.two_pre F i [47, 42] rfl
   rw [htw] at h47 h42
   have HN47 := hide (show ¬ ([47, 47] : List UInt8).isPrefixOf (F.drop i) = true from by rw [<- h47]; decide)
   have HN42 := hide (show ¬ ([47, 42] : List UInt8).isPrefixOf (F.drop i) = true from by rw [<- h42]; decide)
   clear h2 htw h47 h42
   go_wp2_with fail
   go_quiet (fail)
   have HM5 := hide (HM2.out.drewN nq)
   have HK5 := hide (HK2.out.drewN nq)
   generalize w1.drewN nq = w5 at HM5 HK5 ⊢
   clear c0 c1 HM2 HK2
   have c0 := HM5.out.cells.1
   have c1 := HM5.out.cells.2.1
   have f1 := HM5.out.frozen 1
   cases hbl : Jsp.blank x
   rotate_left
   ·rw [hbl] at HBL
    have HBL := hide HBL
    have HNX := hide (HBLK.out (.inl hbl))
    clear hbl
    go_wp2_with fail
    refine (HBL.out _).mono ?_
    rintro e w5' ⟨rfl, rfl⟩
    go_upto_region 7 with (fail)
    change Code.wp _ _ _ _ (w5.setCell ⟨b, 1, none⟩ (.int .i64 ((i : Int) + (y : Int))))
    have hm6 := HM5.out.set1 ((i : Int) + (y : Int))
    have hk6 := HK5.out.set 1 (.int .i64 ((i : Int) + (y : Int)))
    generalize w5.setCell ⟨b, 1, none⟩ (.int .i64 ((i : Int) + (y : Int))) = w6 at hm6 hk6 ⊢
    have HM6 := hide hm6
    have HK6 := hide hk6
    clear hm6 hk6 c0 c1 f1 HM5 HK5
    have c1 := HM6.out.cells.2.1
    have f14 := HM6.out.frozen 14
    have c14 := HM6.out.more.2.2.2.2.2.2.1
    go_wp2_with fail
    go_roundg (F.length - (i + y))
    case measure => exact HG.out
    case rel => exact ⟨i + y, _, _, rfl, HI1.out, HM6.out.set14 _, HK6.out.set 14 _, HNX⟩
   rw [hbl] at HBL
   have HBL := hide HBL
   cases hln : Jsp.lineEnd x
   rotate_left
   ·rw [hln] at HLN
    have HLN := hide HLN
    have HNX := hide (HBLK.out (.inr hln))
    clear hbl hln
    go_wp2_with fail
    refine (HBL.out _).mono ?_
    rintro e w5' ⟨rfl, rfl⟩
    go_wp2_with fail
    refine (HLN.out _).mono ?_
    rintro e w5' ⟨rfl, rfl⟩
    go_upto_region 7 with (fail)
    change Code.wp _ _ _ _ (w5.setCell ⟨b, 1, none⟩ (.int .i64 ((i : Int) + (y : Int))))
    have hm6 := HM5.out.set1 ((i : Int) + (y : Int))
    have hk6 := HK5.out.set 1 (.int .i64 ((i : Int) + (y : Int)))
    generalize w5.setCell ⟨b, 1, none⟩ (.int .i64 ((i : Int) + (y : Int))) = w6 at hm6 hk6 ⊢
    have HM6 := hide hm6
    have HK6 := hide hk6
    clear hm6 hk6 c0 c1 f1 HM5 HK5
    have c1 := HM6.out.cells.2.1
    have f14 := HM6.out.frozen 14
    have c14 := HM6.out.more.2.2.2.2.2.2.1
    go_wp2_with fail
    go_roundg (F.length - (i + y))
    case measure => exact HG.out
    case rel => exact ⟨i + y, _, _, rfl, HI1.out, HM6.out.set14 _, HK6.out.set 14 _, HNX⟩
   rw [hln] at HLN
   have HLN := hide HLN
   have HNB := hide (HNB0.out hbl hln)
   have HR2 := hide (show R = .inl (i - a) from by rw [hst.out, HST.out, if_neg HNB.out, if_neg HN47.out, if_neg HN42.out]; simp only [Jsp.on1, Nat.zero_add])
   clear hbl hln hst
   go_wp2_with fail
   refine (HBL.out _).mono ?_
   rintro e w5' ⟨rfl, rfl⟩
   go_wp2_with fail
   refine (HLN.out _).mono ?_
   rintro e w5' ⟨rfl, rfl⟩
   go_wp2_with fail
   refine bodyPost_ret (v := .tuple #[]) (by simp [results, Tryz.results51, go_sem]) rfl ?_
   unfold BkP
   rw [HRR.out, HR2.out]
   exact ⟨rfl, HK5.out, _, _, by rw [show a + (i - a) = i by have := hi.out.1; omega]; exact HM5.out⟩
  have q2 : decide ((i : Int) + 2 <= (F.length : Int)) = true := decide_eq_true (by omega)
  have e0 : (0 : Int) <= (i : Int) := by omega
  have e1 : (i : Int) <= (i : Int) + 2 := by omega
  have e2 : (i : Int) + 2 <= (F.length : Int) := by omega
  have e3 : ((i : Int) + 2).toNat - i = 2 := by omega
  obtain ⟨t, ht⟩ : ∃ t, (F.drop i).take 2 = t := ⟨_, rfl⟩
  have htw : Jsp.two F i = t := by unfold Jsp.two; rw [if_pos h2, ht]
  have h47 := Jsp.two_pre F i [47, 47] rfl
  have h42 := Jsp.two_pre F i [47, 42] rfl
  rw [htw] at h47 h42
  have H47 := hide h47
  have H42 := hide h42
  have H2 := hide h2
  clear h2 htw h47 h42
  go_wp2_with fail
  go_quiet (fail)
  have HM3 := hide (HM2.out.drewN nq)
  have HK3 := hide (HK2.out.drewN nq)
  generalize w1.drewN nq = w3 at HM3 HK3 ⊢
  clear c0 c1 HM2 HK2
  have c0 := HM3.out.cells.1
  have c1 := HM3.out.cells.2.1
  go_wp2_with fail
  go_quiet (fail)
  have HM5 := hide (HM3.out.drewN nq)
  have HK5 := hide (HK3.out.drewN nq)
  generalize w3.drewN nq = w5 at HM5 HK5 ⊢
  clear c0 c1 HM3 HK3
  have c0 := HM5.out.cells.1
  have c1 := HM5.out.cells.2.1
  have f1 := HM5.out.frozen 1
  cases hbl : Jsp.blank x
  rotate_left
  ·rw [hbl] at HBL
   have HBL := hide HBL
   have HNX := hide (HBLK.out (.inl hbl))
   clear hbl
   go_wp2_with fail
   refine (HBL.out _).mono ?_
   rintro e w5' ⟨rfl, rfl⟩
   go_upto_region 7 with (fail)
   change Code.wp _ _ _ _ (w5.setCell ⟨b, 1, none⟩ (.int .i64 ((i : Int) + (y : Int))))
   have hm6 := HM5.out.set1 ((i : Int) + (y : Int))
   have hk6 := HK5.out.set 1 (.int .i64 ((i : Int) + (y : Int)))
   generalize w5.setCell ⟨b, 1, none⟩ (.int .i64 ((i : Int) + (y : Int))) = w6 at hm6 hk6 ⊢
   have HM6 := hide hm6
   have HK6 := hide hk6
   clear hm6 hk6 c0 c1 f1 HM5 HK5
   have c1 := HM6.out.cells.2.1
   have f14 := HM6.out.frozen 14
   have c14 := HM6.out.more.2.2.2.2.2.2.1
   go_wp2_with fail
   go_roundg (F.length - (i + y))
   case measure => exact HG.out
   case rel => exact ⟨i + y, _, _, rfl, HI1.out, HM6.out.set14 _, HK6.out.set 14 _, HNX⟩
  rw [hbl] at HBL
  have HBL := hide HBL
  cases hln : Jsp.lineEnd x
  rotate_left
  ·rw [hln] at HLN
   have HLN := hide HLN
   have HNX := hide (HBLK.out (.inr hln))
   clear hbl hln
   go_wp2_with fail
   refine (HBL.out _).mono ?_
   rintro e w5' ⟨rfl, rfl⟩
   go_wp2_with fail
   refine (HLN.out _).mono ?_
   rintro e w5' ⟨rfl, rfl⟩
   go_upto_region 7 with (fail)
   change Code.wp _ _ _ _ (w5.setCell ⟨b, 1, none⟩ (.int .i64 ((i : Int) + (y : Int))))
   have hm6 := HM5.out.set1 ((i : Int) + (y : Int))
   have hk6 := HK5.out.set 1 (.int .i64 ((i : Int) + (y : Int)))
   generalize w5.setCell ⟨b, 1, none⟩ (.int .i64 ((i : Int) + (y : Int))) = w6 at hm6 hk6 ⊢
   have HM6 := hide hm6
   have HK6 := hide hk6
   clear hm6 hk6 c0 c1 f1 HM5 HK5
   have c1 := HM6.out.cells.2.1
   have f14 := HM6.out.frozen 14
   have c14 := HM6.out.more.2.2.2.2.2.2.1
   go_wp2_with fail
   go_roundg (F.length - (i + y))
   case measure => exact HG.out
   case rel => exact ⟨i + y, _, _, rfl, HI1.out, HM6.out.set14 _, HK6.out.set 14 _, HNX⟩
  rw [hln] at HLN
  have HLN := hide HLN
  have HNB := hide (HNB0.out hbl hln)
  have hln' : (!Jsp.lineEnd x) = true := by rw [hln]; rfl
  clear hbl hln
  cases q47 : t == [47, 47]
  rotate_left
  ·have HP47 := hide (show ([47, 47] : List UInt8).isPrefixOf (F.drop i) = true from by rw [<- H47.out]; exact q47)
   have hrun : Jsp.run (fun r => !Jsp.lineEnd r) (F.drop i) ≠ 0 := by
    rw [Jsp.run_step _ _ (drop_ne HLT.out), HX.out, if_pos hln']
    have := (Jsp.pn_le (drop_ne HLT.out)).1
    show Jsp.pn _ + _ ≠ 0
    omega
   have HRUN := hide hrun
   have HSTJ := hide (show R = Jsp.on1 (i - a) (Jsp.on1 (Jsp.run (fun r => !Jsp.lineEnd r) (F.drop i)) (Jsp.gap1 (F.drop (i + Jsp.run (fun r => !Jsp.lineEnd r) (F.drop i))))) from by rw [hst.out, HST.out, if_neg HNB.out, if_pos HP47.out])
   clear hrun hln'
   go_wp2_with fail
   refine (HBL.out _).mono ?_
   rintro e w5' ⟨rfl, rfl⟩
   go_wp2_with fail
   refine (HLN.out _).mono ?_
   rintro e w5' ⟨rfl, rfl⟩
   go_wp2_with fail
   go_loopg [] (F.length - i) (fun g wx => ∃ (j : Nat) (pl : Int) (fr : Fr), g = F.length - j /\ Hid (i <= j /\ j <= F.length) /\ Hid (MB wx b F (j : Int) k d l so 0 pl fr) /\ Hid (Km b w wx) /\ Hid (i + Jsp.run (fun r => !Jsp.lineEnd r) (F.drop i) = j + Jsp.run (fun r => !Jsp.lineEnd r) (F.drop j)))
   case atStart => exact ⟨i, _, _, rfl, ⟨Nat.le_refl _, Nat.le_of_lt HLT.out⟩, HM5, HK5, rfl⟩
   case round =>
    obtain ⟨j, plj, frj, rfl, hij, hmj, hkj, hrj⟩ := hrel
    have c0 := hmj.out.cells.1
    have c1 := hmj.out.cells.2.1
    by_cases hltj : j < F.length
    rotate_left
    ·have q1 : decide ((j : Int) < (F.length : Int)) = false := decide_eq_false (by omega)
     have q1n : decide (j < F.length) = false := decide_eq_false hltj
     have hje : j = F.length := by have := hij.out.2; omega
     have hJ : i + Jsp.run (fun r => !Jsp.lineEnd r) (F.drop i) = j := by
      have := hrj.out
      rw [show F.drop j = [] from List.drop_eq_nil_of_le (by omega)] at this
      exact this
     have hsj := HSTJ.out
     rw [hJ] at hsj
     have HNXJ := hide (bk_on hsj hi.out.1 hJ.symm)
     have hlij : i < j := by have := HRUN.out; omega
     have HGJ := hide (rx_g' HLT.out hlij (Nat.le_of_eq hje))
     have HIJ := hide (show a <= j /\ j <= F.length from ⟨by have := hi.out.1; omega, Nat.le_of_eq hje⟩)
     have q2 : ((j : Int) == (F.length : Int)) = true := by rw [beq_iff_eq]; omega
     clear hltj hje hJ hsj hlij
     go_wp2_with fail
     go_quiet (fail)
     have HM7 := hide (hmj.out.drewN nq)
     have HK7 := hide (hkj.out.drewN nq)
     generalize wr.drewN nq = W7 at HM7 HK7 ⊢
     clear c0 c1 hmj hkj
     have c0 := HM7.out.cells.1
     have c1 := HM7.out.cells.2.1
     go_wp2_with fail
     go_quiet (fail)
     have HM8 := hide (HM7.out.drewN nq)
     have HK8 := hide (HK7.out.drewN nq)
     generalize W7.drewN nq = W8 at HM8 HK8 ⊢
     clear c0 c1 HM7 HK7
     have c2 := HM8.out.cells.2.2.1
     obtain ⟨d8, d9, d10, d11, d12, -⟩ := HM8.out.more
     have f8 := HM8.out.frozen 8
     have f9 := HM8.out.frozen 9
     have f10 := HM8.out.frozen 10
     have f11 := HM8.out.frozen 11
     have f12 := HM8.out.frozen 12
     go_wp2_with fail
     go_roundg (F.length - j)
     case measure => exact HGJ.out
     case rel => exact ⟨j, _, _, rfl, HIJ.out, mEnd_MB HM8.out 6 0 false false k, mEnd_Km HK8.out 6 0 false false k, HNXJ⟩
    have q1 : decide ((j : Int) < (F.length : Int)) = true := decide_eq_true (by omega)
    have q1n : decide (j < F.length) = true := decide_eq_true hltj
    have hnej := drop_ne hltj
    obtain ⟨t1, t2⟩ := Jsp.pn_le hnej
    rw [List.length_drop] at t2
    have hrs := Jsp.run_step (fun r => !Jsp.lineEnd r) (F.drop j) hnej
    rw [List.drop_drop] at hrs
    obtain ⟨x2, hx2⟩ : ∃ x2, Jsp.pt (F.drop j) = x2 := ⟨_, rfl⟩
    obtain ⟨y2, hy2⟩ : ∃ y2, Jsp.pn (F.drop j) = y2 := ⟨_, rfl⟩
    have HPJ := fun W => rPoint F j W (Nat.le_trans HL.out (by decide))
    rw [ptV, hx2, hy2] at HPJ
    rw [hy2] at t1 t2
    rw [hx2, hy2] at hrs
    have HPJ := hide HPJ
    have HLNJ := fun W => rLineEnd x2 W
    have HPNJ := hide (rx_pn' hltj t1 t2)
    have HLTJ := hide hltj
    have HRS := hide hrs
    clear hrs hx2 hy2 hnej t1 t2 hltj
    go_wp2_with fail
    go_quiet (fail)
    have HM6 := hide (hmj.out.drewN nq)
    have HK6 := hide (hkj.out.drewN nq)
    generalize wr.drewN nq = W6 at HM6 HK6 ⊢
    clear c0 c1 hmj hkj
    have c0 := HM6.out.cells.1
    have c1 := HM6.out.cells.2.1
    go_wp2_with fail
    have hS : ∀ V, Below W6.heap.size W6 V -> V.cell? ⟨b, 0, none⟩ = some (S F) /\ V.cell? ⟨b, 1, none⟩ = some (.int .i64 (j : Int)) := fun V hV => ⟨cell_below c0 hV, cell_below c1 hV⟩
    go_region_held3 (fun V => V.cell? ⟨b, 0, none⟩ = some (S F) /\ V.cell? ⟨b, 1, none⟩ = some (.int .i64 (j : Int))) (first | exact ⟨c0, c1⟩ | exact hS _ (((Below.refl W6.heap.size W6).drew).trans hb)) ((go_at_call 81; refine (HPJ.out _).mono ?_; rintro e w1 ⟨rfl, hb⟩))
    have hb2 := ((Below.refl W6.heap.size W6).drew).trans hb
    have HM7 := hide (HM6.out.below hb2)
    have HK7 := hide (HK6.out.below hb2)
    clear hb hb2 hS c0 c1 HM6 HK6 HPJ
    go_wp2_with fail
    refine (HLNJ _).mono ?_
    rintro e w7' ⟨rfl, rfl⟩
    generalize w1 = W7 at HM7 HK7 ⊢
    cases hl2 : Jsp.lineEnd x2
    ·have hrj2 := hrj.out
     rw [HRS.out, hl2, if_pos (by rfl)] at hrj2
     have HRJ2 := hide (show i + Jsp.run (fun r => !Jsp.lineEnd r) (F.drop i) = (j + y2) + Jsp.run (fun r => !Jsp.lineEnd r) (F.drop (j + y2)) by rw [hrj2]; omega)
     have HIJ2 := hide (show i <= j + y2 /\ j + y2 <= F.length from ⟨by have := hij.out.1; omega, HPNJ.out.2⟩)
     have HG2 := hide (rx_g' HLTJ.out HPNJ.out.1 HPNJ.out.2)
     have hwyj := wri' HPNJ.out.2 HL.out
     have c1 := HM7.out.cells.2.1
     have f1 := HM7.out.frozen 1
     clear hrj2 hl2
     go_wp2_with fail
     go_roundg (F.length - (j + y2))
     case measure => exact HG2.out
     case rel => exact ⟨j + y2, _, _, rfl, HIJ2.out, HM7.out.set1 _, HK7.out.set 1 _, HRJ2.out⟩
    ·have hJ : i + Jsp.run (fun r => !Jsp.lineEnd r) (F.drop i) = j := by
      have := hrj.out
      rw [HRS.out, hl2, if_neg (by decide)] at this
      exact this
     have hsj := HSTJ.out
     rw [hJ] at hsj
     have HNXJ := hide (bk_on hsj hi.out.1 hJ.symm)
     have hlij : i < j := by have := HRUN.out; omega
     have HGJ := hide (rx_g' HLT.out hlij (Nat.le_of_lt HLTJ.out))
     have HIJ := hide (show a <= j /\ j <= F.length from ⟨by have := hi.out.1; omega, Nat.le_of_lt HLTJ.out⟩)
     have q2 : ((j : Int) == (F.length : Int)) = false := by rw [beq_eq_false_iff_ne]; have := HLTJ.out; omega
     clear hJ hsj hlij hl2
     go_wp2_with fail
     have c0 := HM7.out.cells.1
     have c1 := HM7.out.cells.2.1
     go_wp2_with fail
     go_quiet (fail)
     have HM8 := hide (HM7.out.drewN nq)
     have HK8 := hide (HK7.out.drewN nq)
     generalize W7.drewN nq = W8 at HM8 HK8 ⊢
     clear c0 c1 HM7 HK7
     go_wp2_with fail
     go_roundg (F.length - j)
     case measure => exact HGJ.out
     case rel => exact ⟨j, _, _, rfl, HIJ.out, HM8.out, HK8.out, HNXJ⟩
  have HN47 := hide (show ¬ ([47, 47] : List UInt8).isPrefixOf (F.drop i) = true from by rw [<- H47.out, q47]; decide)
  clear hln'
  cases q42 : t == [47, 42]
  ·have HN42 := hide (show ¬ ([47, 42] : List UInt8).isPrefixOf (F.drop i) = true from by rw [<- H42.out, q42]; decide)
   have HR2 := hide (show R = .inl (i - a) from by rw [hst.out, HST.out, if_neg HNB.out, if_neg HN47.out, if_neg HN42.out]; simp only [Jsp.on1, Nat.zero_add])
   clear hst
   go_wp2_with fail
   refine (HBL.out _).mono ?_
   rintro e w5' ⟨rfl, rfl⟩
   go_wp2_with fail
   refine (HLN.out _).mono ?_
   rintro e w5' ⟨rfl, rfl⟩
   go_wp2_with fail
   refine bodyPost_ret (v := .tuple #[]) (by simp [results, Tryz.results51, go_sem]) rfl ?_
   unfold BkP
   rw [HRR.out, HR2.out]
   exact ⟨rfl, HK5.out, _, _, by rw [show a + (i - a) = i by have := hi.out.1; omega]; exact HM5.out⟩
  ·have HP42 := hide (show ([47, 42] : List UInt8).isPrefixOf (F.drop i) = true from by rw [<- H42.out]; exact q42)
   have HSH := hide (show R = Jsp.on1 (i - a) (match Jsp.shut (F.drop (i + 2)) with | none => .inr 0 | some n => Jsp.on1 (2 + n + 2) (Jsp.gap1 (F.drop (i + (2 + n + 2))))) from by rw [hst.out, HST.out, if_neg HNB.out, if_neg HN47.out, if_pos HP42.out]; cases Jsp.shut (F.drop (i + 2)) <;> rfl)
   clear hst
   go_wp2_with fail
   refine (HBL.out _).mono ?_
   rintro e w5' ⟨rfl, rfl⟩
   go_wp2_with fail
   refine (HLN.out _).mono ?_
   rintro e w5' ⟨rfl, rfl⟩
   go_wp2_with fail
   go_loopg [5, 6] (F.length + 1 - (i + 2)) (fun g s5 s6 wx => ∃ (j : Nat) (tv : Int), g = F.length + 1 - j /\ s5 = .int .i64 tv /\ s6 = .int .i64 (j : Int) /\ Hid (i + 2 <= j /\ j <= F.length) /\ Hid ((tv = -1 /\ Jsp.shut (F.drop (i + 2)) = (Jsp.shut (F.drop j)).map (· + (j - (i + 2)))) \/ ∃ n, Jsp.shut (F.drop (i + 2)) = some n /\ tv = ((i + (2 + n + 2) : Nat) : Int)) /\ w5 = wx)
   case atStart => exact ⟨i + 2, -1, rfl, rfl, (by first | rfl | (rw [hw2]; rfl)), ⟨Nat.le_refl _, H2.out⟩, .inl ⟨rfl, by rw [Nat.sub_self]; cases Jsp.shut (F.drop (i + 2)) <;> rfl⟩, rfl⟩
   case round =>
    obtain ⟨j, tv, rfl, rfl, rfl, hij, hcs, rfl⟩ := hrel
    have hwj2 := wri2 hij.out.2 HL.out
    rcases hcs.out with ⟨rfl, hsj⟩ | ⟨n, hsn, rfl⟩
    ·by_cases hj2 : j + 2 <= F.length
     ·have r2 : decide ((j : Int) + 2 <= (F.length : Int)) = true := decide_eq_true (by omega)
      have g0 : (0 : Int) <= (j : Int) := by omega
      have g1 : (j : Int) <= (j : Int) + 2 := by omega
      have g2 : (j : Int) + 2 <= (F.length : Int) := by omega
      have g3 : ((j : Int) + 2).toNat - j = 2 := by omega
      obtain ⟨u, hu⟩ : ∃ u, (F.drop j).take 2 = u := ⟨_, rfl⟩
      have htu : Jsp.two F j = u := by unfold Jsp.two; rw [if_pos hj2, hu]
      obtain ⟨s1, s2⟩ := Jsp.shut_at hj2
      rw [htu] at s1 s2
      have hwj1 : wrap64 ((j : Int) + 1) = ((j + 1 : Nat) : Int) := wri1' hij.out.2 HL.out
      have hg1 : F.length + 1 - (j + 1) < F.length + 1 - j := by omega
      have HIJ1 := hide (show i + 2 <= j + 1 /\ j + 1 <= F.length from ⟨by have := hij.out.1; omega, by omega⟩)
      have HG1 := hide hg1
      cases hq : u == [42, 47]
      ·have hne : ¬ u = [42, 47] := by simpa using hq
       have hn2 : Hid (Jsp.shut (F.drop (i + 2)) = (Jsp.shut (F.drop (j + 1))).map (· + (j + 1 - (i + 2)))) := by
        unfold Hid
        rw [hsj, s2 hne]
        have := hij.out.1
        cases Jsp.shut (F.drop (j + 1)) with
        | none => rfl
        | some z => simp only [Option.map_some]; congr 1; omega
       clear hj2 htu s1 s2 hg1 hne hsj hcs
       go_wp2_with fail
       go_roundg (F.length + 1 - (j + 1))
       case measure => exact HG1.out
       case rel => exact ⟨j + 1, -1, rfl, rfl, (by first | rfl | (rw [hwj1])), HIJ1.out, .inl ⟨rfl, hn2.out⟩, rfl⟩
      ·have heq : u = [42, 47] := by simpa using hq
       have hn2 : Hid (∃ n, Jsp.shut (F.drop (i + 2)) = some n /\ (j : Int) + 2 = ((i + (2 + n + 2) : Nat) : Int)) := by
        have := hij.out.1
        refine ⟨j - (i + 2), ?_, by omega⟩
        rw [hsj, s1 heq]
        simp
       clear hj2 htu s1 s2 hg1 heq hsj hcs
       go_wp2_with fail
       go_roundg (F.length + 1 - (j + 1))
       case measure => exact HG1.out
       case rel => exact ⟨j + 1, (j : Int) + 2, rfl, (by first | rfl | (rw [hwj2])), (by first | rfl | (rw [hwj1])), HIJ1.out, .inr hn2.out, rfl⟩
     ·have r2 : decide ((j : Int) + 2 <= (F.length : Int)) = false := decide_eq_false (by omega)
      have HR2 := hide (show R = .inr (i - a) from by
       rw [HSH.out, hsj, Jsp.shut_end hj2]
       simp only [Option.map_none, Jsp.on1, Nat.zero_add])
      have hFL := hide (rFail b F _ k d l so _ _ _ 175 (i : Int) 7 0 false false [] _ HM5.out)
      clear hj2 hsj hcs
      go_wp2_with fail
      refine hFL.out.mono ?_
      rintro e w9 ⟨rfl, ⟨fr9, hm9⟩, hk9⟩
      go_wp2_with fail
      refine bodyPost_ret (v := .tuple #[]) (by simp [results, Tryz.results51, go_sem]) rfl ?_
      unfold BkP
      rw [HRR.out, HR2.out]
      exact ⟨rfl, World.grownBy.trans HK5.out hk9, _, _, _, _, _, _, by rw [show a + (i - a) = i by have := hi.out.1; omega]; exact hm9⟩
    ·have hin := Jsp.shut_in hsn
     obtain ⟨P, hP⟩ : ∃ P, i + (2 + n + 2) = P := ⟨_, rfl⟩
     have hsh := HSH.out
     rw [hsn] at hsh
     simp only at hsh
     rw [hP] at hsh ⊢
     have HNXP := hide (bk_on (j := P) hsh hi.out.1 hP.symm)
     have HIP := hide (show a <= P /\ P <= F.length from ⟨by have := hi.out.1; omega, by omega⟩)
     have HGP := hide (rx_g' (x := P) HLT.out (by omega) (by omega))
     have r3 : decide ((P : Int) < 0) = false := decide_eq_false (by omega)
     have f14 := HM5.out.frozen 14
     have c14 := HM5.out.more.2.2.2.2.2.2.1
     have hj2c : decide ((j : Int) + 2 <= (F.length : Int)) = true \/ decide ((j : Int) + 2 <= (F.length : Int)) = false := by cases decide ((j : Int) + 2 <= (F.length : Int)) <;> simp
     clear hsn hsh hP hin hcs
     rcases hj2c with r2 | r2
     ·go_upto_region 24 with (fail)
      go_upto_region 25 with (fail)
      change Code.wp _ _ _ _ (w5.setCell ⟨b, 1, none⟩ (.int .i64 (P : Int)))
      have hm6 := HM5.out.set1 (P : Int)
      have hk6 := HK5.out.set 1 (.int .i64 (P : Int))
      generalize w5.setCell ⟨b, 1, none⟩ (.int .i64 (P : Int)) = w6 at hm6 hk6 ⊢
      have HM6 := hide hm6
      have HK6 := hide hk6
      clear hm6 hk6 c0 c1 f1 f14 c14
      have f14 := HM6.out.frozen 14
      have c14 := HM6.out.more.2.2.2.2.2.2.1
      go_wp2_with fail
      go_roundg (F.length - P)
      case measure => exact HGP.out
      case rel => exact ⟨P, _, _, rfl, HIP.out, HM6.out.set14 _, HK6.out.set 14 _, HNXP⟩
     ·go_upto_region 24 with (fail)
      go_upto_region 25 with (fail)
      change Code.wp _ _ _ _ (w5.setCell ⟨b, 1, none⟩ (.int .i64 (P : Int)))
      have hm6 := HM5.out.set1 (P : Int)
      have hk6 := HK5.out.set 1 (.int .i64 (P : Int))
      generalize w5.setCell ⟨b, 1, none⟩ (.int .i64 (P : Int)) = w6 at hm6 hk6 ⊢
      have HM6 := hide hm6
      have HK6 := hide hk6
      clear hm6 hk6 c0 c1 f1 f14 c14
      have f14 := HM6.out.frozen 14
      have c14 := HM6.out.more.2.2.2.2.2.2.1
      go_wp2_with fail
      go_roundg (F.length - P)
      case measure => exact HGP.out
      case rel => exact ⟨P, _, _, rfl, HIP.out, HM6.out.set14 _, HK6.out.set 14 _, HNXP⟩
end Go.Proofs.YtngccmlcopcghaaGreatDoor
