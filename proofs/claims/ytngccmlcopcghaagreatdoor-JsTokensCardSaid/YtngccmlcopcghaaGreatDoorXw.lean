/- The reference's numeral. -/
import Derived.Test.YtngccmlcopcghaaGreatDoorXp
import Derived.Test.YtngccmlcopcghaaGreatDoorXy
set_option maxRecDepth 100000
set_option maxHeartbeats 8000000
namespace Go.Proofs.YtngccmlcopcghaaGreatDoor
open Go.RowKit
def NmP (b : Nat) (F : List UInt8) (n : Nat) (k : List UInt8) (d : Bool) (l : List UInt8) (so : Bool) (w : World) (e : Ending) (w' : World) : Prop :=
 if (Jsp.numeral (F.drop n)).2 = false \/ Jsp.name (F.drop (n + (Jsp.numeral (F.drop n)).1)) ≠ 0 then ErP b F 173 n w e w'
 else OkP b F 4 ((F.drop n).take (Jsp.numeral (F.drop n)).1) [] (n + (Jsp.numeral (F.drop n)).1) k d l so w e w'
theorem name_zero (X : List UInt8) : (X = [] /\ Jsp.name X = 0) \/ (X ≠ [] /\ 1 <= Jsp.pn X /\ (Jsp.goesOn (Jsp.pt X) = true -> Jsp.name X ≠ 0) /\ (Jsp.goesOn (Jsp.pt X) = false -> Jsp.name X = 0)) := by
 by_cases h : X = []
 ·exact .inl ⟨h, by rw [h]; rfl⟩
 ·have hp := (Jsp.pn_le h).1
  have hs := Jsp.run_step Jsp.goesOn X h
  refine .inr ⟨h, hp, fun hg => ?_, fun hg => ?_⟩
  ·show Jsp.run Jsp.goesOn X ≠ 0
   rw [hs, if_pos hg]; omega
  ·show Jsp.run Jsp.goesOn X = 0
   rw [hs, if_neg (by rw [hg]; decide)]
theorem rNumeral (b : Nat) (F : List UInt8) (n : Nat) (k : List UInt8) (d : Bool) (l : List UInt8) (so : Bool) (p0 : Int) (fr : Fr) (w : World) (h : MB w b F (n : Int) k d l so 0 p0 fr) (hn : n < F.length) (hl : F.length <= 1048570) :
  Calls Tryz.prog 88 #[.pointer (some ⟨b, 0, none⟩)] w (NmP b F n k d l so w) := by
 obtain ⟨k1, ok, hnu⟩ : ∃ k1 ok, Jsp.numeral (F.drop n) = (k1, ok) := ⟨_, _, rfl⟩
 obtain ⟨N, hN⟩ : ∃ N, n + k1 = N := ⟨_, rfl⟩
 have hnA : Jsp.numA F n = (N, ok) := by unfold Jsp.numA; rw [hnu, <- hN]
 have hNl : N <= F.length := by
  have := (Jsp.numeral_asc (F.drop n) (drop_ne hn)).1
  rw [hnu, List.length_drop] at this
  simp only at this
  omega
 have hiff : ((Jsp.numeral (F.drop n)).2 = false \/ Jsp.name (F.drop (n + (Jsp.numeral (F.drop n)).1)) ≠ 0) ↔ (ok = false \/ Jsp.name (F.drop N) ≠ 0) := by rw [hnu, <- hN]
 have HIFF := hide hiff
 have HNK := hide (show ((n + k1 : Nat) : Int) = (N : Int) by rw [hN])
 have HNU := hide hnu
 have HNUM := hide (fun W => rNumber F n W hn hl)
 have hnum2 : ∀ W, Calls Tryz.prog 125 #[S F, .int .i64 (n : Int)] W (Fresh (.tuple #[.int .i64 (N : Int), .bool ok]) W) := fun W => by
  have := rNumber F n W hn hl
  refine this.mono fun e w' h => ?_
  unfold NumP at h
  rw [hnA] at h
  exact h
 have HNUM := hide hnum2
 have HP := fun W => rPoint F N W (Nat.le_trans hl (by decide))
 obtain ⟨x, hx⟩ : ∃ x, Jsp.pt (F.drop N) = x := ⟨_, rfl⟩
 obtain ⟨y, hy⟩ : ∃ y, Jsp.pn (F.drop N) = y := ⟨_, rfl⟩
 have hname := name_zero (F.drop N)
 rw [ptV, hx, hy] at HP
 rw [hx, hy] at hname
 have hy0 : F.drop N = [] -> y = 0 := fun e => by rw [<- hy, e]; rfl
 have HNAME := hide hname
 have HY0 := hide hy0
 have HP := hide HP
 have a0 : (0 : Int) <= (n : Int) := by omega
 have a1 : (n : Int) <= (N : Int) := by omega
 have a2 : (N : Int) <= (F.length : Int) := by omega
 have a3 : N - n = k1 := by omega
 have HT1 := hide (Ti.start h)
 obtain ⟨w1, hw1⟩ : ∃ w1, w1 = w.alloc (.cells tokC 29) := ⟨_, rfl⟩
 obtain ⟨r, hr⟩ : ∃ r, w.heap.size = r := ⟨_, rfl⟩
 rw [<- hw1, hr] at HT1
 have HW := hide hw1
 have HR := hide hr
 have c0 := HT1.out.m.cells.1
 have c1 := HT1.out.m.cells.2.1
 have HGE := hide (fun W => rGoesOn x W)
 clear h hn hl hnu hN hnA hNl hiff hnum2 hx hy hname hy0 hw1 hr
 go_enter Tryz.func88, Tryz.ntmps88
 go_upto_region 1 with (fail)
 change Code.wp _ _ _ _ (w.alloc (.cells tokC 29))
 rw [<- HW.out, HR.out]
 go_wp2_with fail
 refine (HNUM.out _).mono ?_
 rintro e w2 ⟨rfl, hb2⟩
 have HT2 := hide (HT1.out.below hb2)
 clear hb2 c0 c1 HT1 HW
 have c0 := HT2.out.m.cells.1
 go_wp2_with fail
 refine (HP.out _).mono ?_
 rintro e w3 ⟨rfl, hb3⟩
 have HT3 := hide (HT2.out.below hb3)
 clear hb3 c0 HT2
 have c0 := HT3.out.m.cells.1
 cases ok
 ·have HBAD := hide (HIFF.out.2 (.inl rfl))
  go_upto_region 6 with (fail)
  change Code.wp _ _ _ _ (w3.alloc (.cells (whV 0 0 false false []) 36))
  have hb4 := (Below.refl _ w3).alloc (Nat.le_refl w3.heap.size) (.cells (whV 0 0 false false []) 36)
  have hx4 := WhB.new w3 0 0 false false []
  have HN4 := hide (show w3.heap.size ≠ b /\ w3.heap.size ≠ r /\ w.heap.size <= w3.heap.size from ⟨Nat.ne_of_gt HT3.out.m.lt, Nat.ne_of_gt HT3.out.lt, HT3.out.km.size⟩)
  have HT4 := hide (HT3.out.below hb4)
  generalize w3.alloc (.cells (whV 0 0 false false []) 36) = w4 at HT4 hx4 ⊢
  generalize w3.heap.size = B at HN4 hx4 ⊢
  have HX4 := hide hx4
  clear hb4 hx4 HT3 c0
  have c0 := HT4.out.m.cells.1
  cases hq : ((N : Int) == (F.length : Int))
  ·obtain ⟨z0, z1, z2, z3, z4⟩ := HX4.out.cells
   have hFL := hide (rFail b F _ k d l so _ _ _ 173 (n : Int) 0 0 false false [] w4 HT4.out.m)
   go_wp2_with fail
   refine hFL.out.mono ?_
   rintro e w9 ⟨rfl, ⟨fr9, hm9⟩, hk9⟩
   have HT9 := hide (HT4.out.call hm9 hk9)
   clear hm9 hk9 z0 z1 z2 z3 z4
   obtain ⟨s0, s1, s2, s3, s4, s5⟩ := HT9.out.cells
   go_wp2_with fail
   change bodyPost _ _ _ _ ⟨_, _⟩ (tokW w9 r 0 [] [])
   obtain ⟨E1, E2⟩ := HT9.out.fin 0 [] []
   refine bodyPost_ret (v := tokV 0 [] []) (tok_ret Tryz.results88 _ _ _ HT9.out.tk 0 _ _ rfl) rfl ?_
   unfold NmP
   rw [if_pos HBAD.out]
   exact ⟨_, _, _, rfl, E2, _, _, _, _, _, _, E1⟩
  ·obtain ⟨z0, z1, z2, z3, z4⟩ := HX4.out.cells
   have g0 := HX4.out.frozen 0
   have g1 := HX4.out.frozen 1
   have g2 := HX4.out.frozen 2
   have g3 := HX4.out.frozen 3
   have g4 := HX4.out.frozen 4
   go_upto_region 8 with (fail)
   change Code.wp _ _ _ _ (pWh w4 B 2 0 false false [])
   have HT5 := hide (HT4.out.putWh HN4.out.2.2 HN4.out.1 HN4.out.2.1 2 0 false false [])
   have hx5 := pWh_box HX4.out 2 0 false false []
   generalize pWh w4 B 2 0 false false [] = w5 at HT5 hx5 ⊢
   have HX5 := hide hx5
   clear z0 z1 z2 z3 z4 g0 g1 g2 g3 g4 hx5 HT4 HX4 c0
   obtain ⟨z0, z1, z2, z3, z4⟩ := HX5.out.cells
   have hFL := hide (rFail b F _ k d l so _ _ _ 173 (n : Int) 2 0 false false [] w5 HT5.out.m)
   go_wp2_with fail
   refine hFL.out.mono ?_
   rintro e w9 ⟨rfl, ⟨fr9, hm9⟩, hk9⟩
   have HT9 := hide (HT5.out.call hm9 hk9)
   clear hm9 hk9 z0 z1 z2 z3 z4
   obtain ⟨s0, s1, s2, s3, s4, s5⟩ := HT9.out.cells
   go_wp2_with fail
   change bodyPost _ _ _ _ ⟨_, _⟩ (tokW w9 r 0 [] [])
   obtain ⟨E1, E2⟩ := HT9.out.fin 0 [] []
   refine bodyPost_ret (v := tokV 0 [] []) (tok_ret Tryz.results88 _ _ _ HT9.out.tk 0 _ _ rfl) rfl ?_
   unfold NmP
   rw [if_pos HBAD.out]
   exact ⟨_, _, _, rfl, E2, _, _, _, _, _, _, E1⟩
 ·rcases HNAME.out with ⟨h1, h2⟩ | ⟨h1, h2, h3, h4⟩
  ·obtain rfl : y = 0 := HY0.out h1
   have HGOOD := hide (show ¬ _ from fun h => (HIFF.out.1 h).elim (fun h => by cases h) (fun h => h h2))
   clear h1 h2
   have c1 := HT3.out.m.cells.2.1
   have f1 := HT3.out.m.frozen 1
   go_upto_region 11 with (fail)
   change Code.wp _ _ _ _ (w3.setCell ⟨b, 1, none⟩ (.int .i64 (N : Int)))
   have ht4 := HT3.out.set1 (N : Int)
   generalize w3.setCell ⟨b, 1, none⟩ (.int .i64 (N : Int)) = w4 at ht4 ⊢
   have HT4 := hide ht4
   clear ht4 c0 c1 f1 HT3
   have c0 := HT4.out.m.cells.1
   obtain ⟨s0, s1, s2, s3, s4, s5⟩ := HT4.out.cells
   go_wp2_with fail
   change bodyPost _ _ _ _ ⟨_, _⟩ (tokW w4 r 4 ((F.drop n).take k1) [])
   obtain ⟨E1, E2⟩ := HT4.out.fin 4 ((F.drop n).take k1) []
   refine bodyPost_ret (v := tokV 4 ((F.drop n).take k1) []) (tok_ret Tryz.results88 _ _ _ HT4.out.tk 4 _ _ rfl) rfl ?_
   unfold NmP
   rw [if_neg HGOOD.out]
   rw [HNU.out]
   exact ⟨rfl, E2, _, _, by rw [HNK.out]; exact E1⟩
  ·have q1 : decide ((0 : Int) < (y : Int)) = true := decide_eq_true (by omega)
   have q1n : decide (0 < y) = true := decide_eq_true h2
   cases hg : Jsp.goesOn x
   ·have HGOOD := hide (show ¬ _ from fun h => (HIFF.out.1 h).elim (fun h => by cases h) (fun h => h (h4 hg)))
    have HGE2 := hide (show ∀ W, Calls Tryz.prog 124 #[.int .i32 (x : Int)] W (Ret (.bool false) W) from fun W => by rw [<- hg]; exact HGE.out W)
    clear h1 h2 h3 h4 hg HGE
    go_wp2_with fail
    refine (HGE2.out _).mono ?_
    rintro e w3' ⟨rfl, rfl⟩
    have c1 := HT3.out.m.cells.2.1
    have f1 := HT3.out.m.frozen 1
    go_upto_region 11 with (fail)
    change Code.wp _ _ _ _ (w3.setCell ⟨b, 1, none⟩ (.int .i64 (N : Int)))
    have ht4 := HT3.out.set1 (N : Int)
    generalize w3.setCell ⟨b, 1, none⟩ (.int .i64 (N : Int)) = w4 at ht4 ⊢
    have HT4 := hide ht4
    clear ht4 c0 c1 f1 HT3
    have c0 := HT4.out.m.cells.1
    obtain ⟨s0, s1, s2, s3, s4, s5⟩ := HT4.out.cells
    go_wp2_with fail
    change bodyPost _ _ _ _ ⟨_, _⟩ (tokW w4 r 4 ((F.drop n).take k1) [])
    obtain ⟨E1, E2⟩ := HT4.out.fin 4 ((F.drop n).take k1) []
    refine bodyPost_ret (v := tokV 4 ((F.drop n).take k1) []) (tok_ret Tryz.results88 _ _ _ HT4.out.tk 4 _ _ rfl) rfl ?_
    unfold NmP
    rw [if_neg HGOOD.out]
    rw [HNU.out]
    exact ⟨rfl, E2, _, _, by rw [HNK.out]; exact E1⟩
   ·have HBAD := hide (HIFF.out.2 (.inr (h3 hg)))
    have HGE2 := hide (show ∀ W, Calls Tryz.prog 124 #[.int .i32 (x : Int)] W (Ret (.bool true) W) from fun W => by rw [<- hg]; exact HGE.out W)
    clear h1 h2 h3 h4 hg HGE
    go_wp2_with fail
    refine (HGE2.out _).mono ?_
    rintro e w3' ⟨rfl, rfl⟩
    go_upto_region 6 with (fail)
    change Code.wp _ _ _ _ (w3.alloc (.cells (whV 0 0 false false []) 36))
    have hb4 := (Below.refl _ w3).alloc (Nat.le_refl w3.heap.size) (.cells (whV 0 0 false false []) 36)
    have hx4 := WhB.new w3 0 0 false false []
    have HN4 := hide (show w3.heap.size ≠ b /\ w3.heap.size ≠ r /\ w.heap.size <= w3.heap.size from ⟨Nat.ne_of_gt HT3.out.m.lt, Nat.ne_of_gt HT3.out.lt, HT3.out.km.size⟩)
    have HT4 := hide (HT3.out.below hb4)
    generalize w3.alloc (.cells (whV 0 0 false false []) 36) = w4 at HT4 hx4 ⊢
    generalize w3.heap.size = B at HN4 hx4 ⊢
    have HX4 := hide hx4
    clear hb4 hx4 HT3 c0
    have c0 := HT4.out.m.cells.1
    cases hq : ((N : Int) == (F.length : Int))
    ·obtain ⟨z0, z1, z2, z3, z4⟩ := HX4.out.cells
     have hFL := hide (rFail b F _ k d l so _ _ _ 173 (n : Int) 0 0 false false [] w4 HT4.out.m)
     go_wp2_with fail
     refine hFL.out.mono ?_
     rintro e w9 ⟨rfl, ⟨fr9, hm9⟩, hk9⟩
     have HT9 := hide (HT4.out.call hm9 hk9)
     clear hm9 hk9 z0 z1 z2 z3 z4
     obtain ⟨s0, s1, s2, s3, s4, s5⟩ := HT9.out.cells
     go_wp2_with fail
     change bodyPost _ _ _ _ ⟨_, _⟩ (tokW w9 r 0 [] [])
     obtain ⟨E1, E2⟩ := HT9.out.fin 0 [] []
     refine bodyPost_ret (v := tokV 0 [] []) (tok_ret Tryz.results88 _ _ _ HT9.out.tk 0 _ _ rfl) rfl ?_
     unfold NmP
     rw [if_pos HBAD.out]
     exact ⟨_, _, _, rfl, E2, _, _, _, _, _, _, E1⟩
    ·obtain ⟨z0, z1, z2, z3, z4⟩ := HX4.out.cells
     have g0 := HX4.out.frozen 0
     have g1 := HX4.out.frozen 1
     have g2 := HX4.out.frozen 2
     have g3 := HX4.out.frozen 3
     have g4 := HX4.out.frozen 4
     go_upto_region 8 with (fail)
     change Code.wp _ _ _ _ (pWh w4 B 2 0 false false [])
     have HT5 := hide (HT4.out.putWh HN4.out.2.2 HN4.out.1 HN4.out.2.1 2 0 false false [])
     have hx5 := pWh_box HX4.out 2 0 false false []
     generalize pWh w4 B 2 0 false false [] = w5 at HT5 hx5 ⊢
     have HX5 := hide hx5
     clear z0 z1 z2 z3 z4 g0 g1 g2 g3 g4 hx5 HT4 HX4 c0
     obtain ⟨z0, z1, z2, z3, z4⟩ := HX5.out.cells
     have hFL := hide (rFail b F _ k d l so _ _ _ 173 (n : Int) 2 0 false false [] w5 HT5.out.m)
     go_wp2_with fail
     refine hFL.out.mono ?_
     rintro e w9 ⟨rfl, ⟨fr9, hm9⟩, hk9⟩
     have HT9 := hide (HT5.out.call hm9 hk9)
     clear hm9 hk9 z0 z1 z2 z3 z4
     obtain ⟨s0, s1, s2, s3, s4, s5⟩ := HT9.out.cells
     go_wp2_with fail
     change bodyPost _ _ _ _ ⟨_, _⟩ (tokW w9 r 0 [] [])
     obtain ⟨E1, E2⟩ := HT9.out.fin 0 [] []
     refine bodyPost_ret (v := tokV 0 [] []) (tok_ret Tryz.results88 _ _ _ HT9.out.tk 0 _ _ rfl) rfl ?_
     unfold NmP
     rw [if_pos HBAD.out]
     exact ⟨_, _, _, rfl, E2, _, _, _, _, _, _, E1⟩
end Go.Proofs.YtngccmlcopcghaaGreatDoor
