/- blanks. -/
import Derived.Test.YtngccmlcopcghaaGreatDoorWh
import Derived.Test.YtngccmlcopcghaaGreatDoorQl
import Derived.LoopTactic
import Derived.Deep.LoopGhost
set_option maxRecDepth 100000
set_option maxHeartbeats 8000000
namespace Go.Proofs.YtngccmlcopcghaaGreatDoor
open Go.RowKit
def BlP (F : List UInt8) (B b : Nat) (st : Jsp.St) (w : World) (R : (Nat × Bool) ⊕ Nat) (e : Ending) (w' : World) : Prop := match R with
 | .inl (k, l) => Lf (.tuple #[]) w B b F k st l e w'
 | .inr o => PkN 175 o B w e w'
theorem jBlanks (F : List UInt8) (B b a : Nat) (st : Jsp.St) (w : World) (h : Lx w B b F a st false) (ha : a <= F.length) (hv : Cssp.valid (F.drop a) = true) (hl : F.length <= 4194000) :
  Calls Tryz.prog 19 #[.pointer (some ⟨b, 0, none⟩)] w (BlP F B b st w (Jsp.gp F a false)) := by
 have hB := h.leB
 have HX := hide h
 have HV := hide hv
 obtain ⟨R, hR⟩ : ∃ R, Jsp.gp F a false = R := ⟨_, rfl⟩
 rw [hR]
 have HR := hide hR
 clear h hv hR
 go_enter Tryz.func19, Tryz.ntmps19
 go_wp2_with fail
 go_loopg [2] (F.length - a) (fun g s2 wx => ∃ (a' : Nat) (ln : Bool), g + a' = F.length /\ Hid (Lx wx B b F a' st ln) /\ Hid (Kp B w wx) /\ Hid (Cssp.valid (F.drop a') = true) /\ Hid (ln = true -> a' = F.length) /\ Hid (Jsp.gp F a' ln = R))
 case atStart => exact ⟨a, false, by omega, HX.out, Kp.refl B w, HV.out, fun h => (by cases h), HR.out⟩
 case round =>
  obtain ⟨a', ln, hga, HX1, HK1, HV1', hln, hgp⟩ := hrel
  clear HX HV HR ha
  cases ln with
  | true =>
   have hae := hln.out rfl
   have g1 : Sum.inl (a', true) = R := hgp.out
   have hd : F.drop a' = [] := List.drop_eq_nil_of_le (by omega)
   have hUp := hide (jUpto 28 (fun r => !Jsp.bl r) (enters_of Tryz.func28 (by kernel_rfl) rfl) blanks_runes F B b a' a' st true wr HX1.out (by omega) HV1'.out (by omega))
   rw [hd, show a' + Jsp.run (fun r => !(!Jsp.bl r)) [] = a' from rfl] at hUp
   obtain ⟨_, _, _, hx⟩ := HX1.out
   obtain ⟨c0, c1, -⟩ := hx.cells
   subst g1
   have q : decide ((a' : Int) < (a' : Int)) = false := by simp
   have hrest := fun W hW => hide (jRest F B b a' st true W hW (by omega))
   rw [hd] at hrest
   clear hx hln hgp hae hd
   go_wp2_with fail
   refine hUp.out.mono ?_
   rintro e w1 ⟨rfl, hb1⟩
   have HX2 := hide (HX1.out.below hb1)
   have HK2 := hide (HK1.out.fresh hB hb1)
   have d1 := cell_below c1 hb1
   clear hb1 c0 c1
   go_wp2_with fail
   refine (hrest _ HX2.out).out.mono ?_
   rintro e w2 ⟨rfl, n2, rfl⟩
   go_wp2_with fail
   refine (sHasPreV _ _ false rfl _).mono ?_
   rintro e w3 ⟨rfl, rfl⟩
   go_wp2_with fail
   refine (hrest _ (HX2.out.drewN n2)).out.mono ?_
   rintro e w4 ⟨rfl, n4, rfl⟩
   go_wp2_with fail
   refine (sHasPreV _ _ false rfl _).mono ?_
   rintro e w5 ⟨rfl, rfl⟩
   go_wp2_with fail
   go_end0
   exact ⟨rfl, HX2.out.drewN (n2 + n4), HK2.out.drewN (n2 + n4)⟩
  | false =>
   obtain ⟨g1, g2, g3, g4⟩ := Jsp.gp_blanks F a' (by omega) HV1'.out
   rw [hgp.out] at g1
   have hUp := hide (jUpto 28 (fun r => !Jsp.bl r) (enters_of Tryz.func28 (by kernel_rfl) rfl) blanks_runes F B b a' a' st false wr HX1.out (by omega) HV1'.out (by omega))
   rw [run_nn] at hUp
   obtain ⟨a1, ha1⟩ : ∃ a1, a' + Jsp.run Jsp.bl (F.drop a') = a1 := ⟨_, rfl⟩
   rw [ha1] at g1 g2 g3 g4 hUp
   have hle1 : a' <= a1 := by omega
   have h1le := g2
   have hg1 := g1.symm
   have HV1 := hide g3
   have HB1 := hide g4
   obtain ⟨_, _, _, hx⟩ := HX1.out
   obtain ⟨c0, c1, -⟩ := hx.cells
   clear g1 g2 g3 g4 hx hln hgp ha1
   by_cases hgt : a' < a1
   ·clear hle1
    go_wp2_with fail
    refine hUp.out.mono ?_
    rintro e w1 ⟨rfl, hb1⟩
    obtain ⟨_, _, _, hx⟩ := HX1.out.below hb1
    have f1 := hx.frozen 1
    obtain ⟨-, d1, -, -, -, -, -, d7⟩ := hx.cells
    have hx2 := (hx.set1 a1).set7 (a1 : Int)
    have hk2 := (hx.set1 a1).kp (hx.kp (HK1.out.fresh hB hb1) 1 (.int .i64 (a1 : Int))) 7 (.int .i64 (a1 : Int))
    have f7 := hx.frozen 7
    have HX2 := hide hx2.lx
    have HK2 := hide hk2
    clear hb1 c0 c1 hx hx2 hk2
    go_wp2_with fail
    generalize (w1.setCell ⟨b, 1, none⟩ (.int .i64 (a1 : Int))).setCell ⟨b, 7, none⟩ (.int .i64 (a1 : Int)) = W2 at HX2 HK2 ⊢
    have hrest := hide (jRest F B b a1 st false _ HX2.out h1le)
    go_wp2_with fail
    refine hrest.out.mono ?_
    rintro e w3 ⟨rfl, n3, rfl⟩
    have HX3 := hide (HX2.out.drewN n3)
    have HK3 := hide (HK2.out.drewN n3)
    generalize W2.drewN n3 = W3 at HX3 HK3 ⊢
    cases hp1 : [47, 47].isPrefixOf (F.drop a1) with
    | true =>
     obtain ⟨g1, g2, g3, g4⟩ := Jsp.gp_line F a1 h1le HV1.out HB1.out hp1
     rw [hg1] at g1
     have hUp := hide (jUpto 30 Jsp.lineEnd (enters_of Tryz.func30 (by kernel_rfl) rfl) lineEnd_runes F B b a1 a1 st false W3 HX3.out h1le HV1.out (by omega))
     have HP := hide hp1
     generalize a1 + Jsp.run (fun r => !Jsp.lineEnd r) (F.drop a1) = a2 at g1 g2 g3 g4 hUp
     obtain ⟨D, qd, hD1, hD2⟩ : ∃ D, ((a2 : Int) == (F.length : Int)) = D /\ decide (a2 = F.length) = D /\ (D = true -> a2 = F.length) := ⟨decide (a2 = F.length), by rw [Bool.eq_iff_iff]; simp; omega, rfl, of_decide_eq_true⟩
     rw [hD1] at g1
     have HD := hide hD2
     clear hD1 hD2
     have G1 := hide g1
     have G4 := hide g4
     obtain ⟨_, _, _, hx⟩ := HX3.out
     obtain ⟨c0, c1, -⟩ := hx.cells
     clear hp1 g1 g4 hx
     go_wp2_with fail
     refine (sHasPreV _ _ true HP.out _).mono ?_
     rintro e w4 ⟨rfl, rfl⟩
     go_wp2_with fail
     refine hUp.out.mono ?_
     rintro e w4 ⟨rfl, hb4⟩
     obtain ⟨_, _, _, hx⟩ := HX3.out.below hb4
     have f1 := hx.frozen 1
     obtain ⟨-, d1, -⟩ := hx.cells
     have hx5 := hx.set1 a2
     have HK5 := hide (hx.kp (HK3.out.fresh hB hb4) 1 (.int .i64 (a2 : Int)))
     have HX5 := hide hx5
     clear hx hx5 hb4 c0 c1 hUp
     go_wp2_with fail
     generalize w4.setCell ⟨b, 1, none⟩ (.int .i64 (a2 : Int)) = W5 at HX5 HK5 ⊢
     obtain ⟨e0, e1, -, -, -, -, e6, -⟩ := HX5.out.cells
     have f6 := HX5.out.frozen 6
     go_region
     go_wp2_with fail
     go_roundg (F.length - a2)
     case measure => omega
     case rel => exact ⟨a2, D, by omega, ((HX5.out.set6 D).lx).drewN 1, (HX5.out.kp HK5.out 6 (.bool D)).drewN 1, G4.out, HD.out, G1.out.symm⟩
    | false =>
     cases hp2 : [47, 42].isPrefixOf (F.drop a1) with
     | true =>
      have HP := hide hp1
      have HP2 := hide hp2
      have h2le : a1 + 2 <= F.length := by
       have := (List.isPrefixOf_iff_prefix.1 hp2).length_le
       rw [List.length_drop] at this
       simp only [List.length_cons, List.length_nil] at this
       omega
      obtain ⟨_, _, _, hx⟩ := HX3.out
      obtain ⟨c0, c1, -⟩ := hx.cells
      have HT := fun n => hide (hx.drewN n).tab
      have hIx := fun W hT => hide (sIndex (F.drop (a1 + 2)) [42, 47] W hT (by rw [List.length_drop]; omega))
      have b0 : (0 : Int) <= (a1 : Int) + 2 := by omega
      have b1 : (a1 : Int) + 2 <= (F.length : Int) := by omega
      have b2 : ((a1 : Int) + 2).toNat = a1 + 2 := by omega
      have hw2 : IntKind.i64.wrap ((a1 : Int) + 2) = (a1 : Int) + 2 := by rw [IntKind.wrap_i64]; omega
      have hw3 : ¬ (9223372036854775807 : Int) < (a1 : Int) + 2 := by omega
      have hsi := Jsp.shut_index (F.drop (a1 + 2))
      clear hx hp1 hp2
      cases hsh : Jsp.shut (F.drop (a1 + 2)) with
      | none =>
       have g1 := Jsp.gp_open F a1 HB1.out HP2.out hsh
       rw [hg1] at g1
       rw [hsi.1 hsh] at hIx
       have hWi := fun W hW => hide (jWithinW F B b a1 175 a1 7 st false W hW (.inr rfl))
       subst g1
       clear hsi hsh
       go_wp2_with fail
       refine (sHasPreV _ _ false HP.out _).mono ?_
       rintro e w4 ⟨rfl, rfl⟩
       have hrest2 := hide (jRest F B b a1 st false _ HX3.out h1le)
       go_wp2_with fail
       refine hrest2.out.mono ?_
       rintro e w5 ⟨rfl, n5, rfl⟩
       go_wp2_with fail
       refine (sHasPreV _ _ true HP2.out _).mono ?_
       rintro e w6 ⟨rfl, rfl⟩
       go_wp2_with fail
       go_quiet ((go_at_call 33; exact (hIx _ (HT _).out).out.mono fun _ _ hz => ⟨hz.1, _, hz.2.symm⟩))
       go_wp2_with fail
       refine (hWi _ (HX3.out.drewN _)).out.mono ?_
       rintro e w8 ⟨x, rfl, hx1, hk8⟩
       go_wp2_with fail
       exact ⟨rfl, x, rfl, by show x.s ≠ 1; rw [hx1]; decide, (HK3.out.drewN _).trans hk8⟩
      | some n =>
       obtain ⟨g1, g2, g3⟩ := Jsp.gp_shut F a1 n h1le HV1.out HB1.out HP2.out hsh
       rw [hg1] at g1
       rw [(hsi.2 n hsh).1] at hIx
       obtain ⟨a3, ha3⟩ : ∃ a3, a1 + (2 + n + 2) = a3 := ⟨_, rfl⟩
       rw [ha3] at g1 g2 g3
       have hlt : a1 < a3 := by omega
       obtain ⟨z, hz, hz0, hz1, hsum⟩ : ∃ z : Int, (n : Int) = z /\ 0 <= z /\ (2 : Int) + z + 2 <= (F.length : Int) /\ (a1 : Int) + ((2 : Int) + z + 2) = (a3 : Int) := ⟨_, rfl, by omega, by omega, by omega⟩
       rw [hz] at hIx
       have G1 := hide g1
       have G3 := hide g3
       obtain ⟨_, _, lo3, hx3⟩ := HX3.out
       have f1 := hx3.frozen 1
       have f7 := hx3.frozen 7
       obtain ⟨-, -, -, -, -, -, -, c7⟩ := hx3.cells
       clear hx3
       have HS := hide hsum
       have qz : decide (z < 0) = false := by simp; omega
       clear hsi hsh g1 g3 ha3 hz hsum
       go_wp2_with fail
       refine (sHasPreV _ _ false HP.out _).mono ?_
       rintro e w4 ⟨rfl, rfl⟩
       have hrest2 := hide (jRest F B b a1 st false _ HX3.out h1le)
       go_wp2_with fail
       refine hrest2.out.mono ?_
       rintro e w5 ⟨rfl, n5, rfl⟩
       go_wp2_with fail
       refine (sHasPreV _ _ true HP2.out _).mono ?_
       rintro e w6 ⟨rfl, rfl⟩
       go_wp2_with fail
       go_quiet ((go_at_call 33; exact (hIx _ (HT _).out).out.mono fun _ _ hz => ⟨hz.1, _, hz.2.symm⟩))
       go_wp2_with fail
       rw [HS.out]
       go_roundg (F.length - a3)
       case measure => omega
       case rel =>
        obtain ⟨_, _, _, hx⟩ := HX3.out.drewN (n5 + nq)
        exact ⟨a3, false, by omega, ((hx.set1 a3).set7 (a3 : Int)).lx, (hx.set1 a3).kp (hx.kp (HK3.out.drewN (n5 + nq)) 1 (.int .i64 (a3 : Int))) 7 (.int .i64 (a3 : Int)), G3.out, fun h => (by cases h), G1.out.symm⟩
     | false =>
      have g1 := Jsp.gp_stop F a1 HB1.out hp1 hp2
      rw [hg1] at g1
      have HP := hide hp1
      have HP2 := hide hp2
      subst g1
      have hrest2 := hide (jRest F B b a1 st false _ HX3.out h1le)
      clear hp1 hp2
      go_wp2_with fail
      refine (sHasPreV _ _ false HP.out _).mono ?_
      rintro e w4 ⟨rfl, rfl⟩
      go_wp2_with fail
      refine hrest2.out.mono ?_
      rintro e w5 ⟨rfl, n5, rfl⟩
      go_wp2_with fail
      refine (sHasPreV _ _ false HP2.out _).mono ?_
      rintro e w6 ⟨rfl, rfl⟩
      go_wp2_with fail
      go_end0
      exact ⟨rfl, HX3.out.drewN n5, HK3.out.drewN n5⟩
   ·have heq : a1 = a' := by omega
    subst heq
    have q : decide ((a1 : Int) < (a1 : Int)) = false := by simp
    clear hgt
    go_wp2_with fail
    refine hUp.out.mono ?_
    rintro e W2 ⟨rfl, hb1⟩
    have HX2 := hide (HX1.out.below hb1)
    have HK2 := hide (HK1.out.fresh hB hb1)
    have d1 := cell_below c1 hb1
    clear hb1 c0 c1
    have hrest := hide (jRest F B b a1 st false _ HX2.out h1le)
    go_wp2_with fail
    refine hrest.out.mono ?_
    rintro e w3 ⟨rfl, n3, rfl⟩
    have HX3 := hide (HX2.out.drewN n3)
    have HK3 := hide (HK2.out.drewN n3)
    generalize W2.drewN n3 = W3 at HX3 HK3 ⊢
    cases hp1 : [47, 47].isPrefixOf (F.drop a1) with
    | true =>
     obtain ⟨g1, g2, g3, g4⟩ := Jsp.gp_line F a1 h1le HV1.out HB1.out hp1
     rw [hg1] at g1
     have hUp := hide (jUpto 30 Jsp.lineEnd (enters_of Tryz.func30 (by kernel_rfl) rfl) lineEnd_runes F B b a1 a1 st false W3 HX3.out h1le HV1.out (by omega))
     have HP := hide hp1
     generalize a1 + Jsp.run (fun r => !Jsp.lineEnd r) (F.drop a1) = a2 at g1 g2 g3 g4 hUp
     obtain ⟨D, qd, hD1, hD2⟩ : ∃ D, ((a2 : Int) == (F.length : Int)) = D /\ decide (a2 = F.length) = D /\ (D = true -> a2 = F.length) := ⟨decide (a2 = F.length), by rw [Bool.eq_iff_iff]; simp; omega, rfl, of_decide_eq_true⟩
     rw [hD1] at g1
     have HD := hide hD2
     clear hD1 hD2
     have G1 := hide g1
     have G4 := hide g4
     obtain ⟨_, _, _, hx⟩ := HX3.out
     obtain ⟨c0, c1, -⟩ := hx.cells
     clear hp1 g1 g4 hx
     go_wp2_with fail
     refine (sHasPreV _ _ true HP.out _).mono ?_
     rintro e w4 ⟨rfl, rfl⟩
     go_wp2_with fail
     refine hUp.out.mono ?_
     rintro e w4 ⟨rfl, hb4⟩
     obtain ⟨_, _, _, hx⟩ := HX3.out.below hb4
     have f1 := hx.frozen 1
     obtain ⟨-, d1, -⟩ := hx.cells
     have hx5 := hx.set1 a2
     have HK5 := hide (hx.kp (HK3.out.fresh hB hb4) 1 (.int .i64 (a2 : Int)))
     have HX5 := hide hx5
     clear hx hx5 hb4 c0 c1 hUp
     go_wp2_with fail
     generalize w4.setCell ⟨b, 1, none⟩ (.int .i64 (a2 : Int)) = W5 at HX5 HK5 ⊢
     obtain ⟨e0, e1, -, -, -, -, e6, -⟩ := HX5.out.cells
     have f6 := HX5.out.frozen 6
     go_region
     go_wp2_with fail
     go_roundg (F.length - a2)
     case measure => omega
     case rel => exact ⟨a2, D, by omega, ((HX5.out.set6 D).lx).drewN 1, (HX5.out.kp HK5.out 6 (.bool D)).drewN 1, G4.out, HD.out, G1.out.symm⟩
    | false =>
     cases hp2 : [47, 42].isPrefixOf (F.drop a1) with
     | true =>
      have HP := hide hp1
      have HP2 := hide hp2
      have h2le : a1 + 2 <= F.length := by
       have := (List.isPrefixOf_iff_prefix.1 hp2).length_le
       rw [List.length_drop] at this
       simp only [List.length_cons, List.length_nil] at this
       omega
      obtain ⟨_, _, _, hx⟩ := HX3.out
      obtain ⟨c0, c1, -⟩ := hx.cells
      have HT := fun n => hide (hx.drewN n).tab
      have hIx := fun W hT => hide (sIndex (F.drop (a1 + 2)) [42, 47] W hT (by rw [List.length_drop]; omega))
      have b0 : (0 : Int) <= (a1 : Int) + 2 := by omega
      have b1 : (a1 : Int) + 2 <= (F.length : Int) := by omega
      have b2 : ((a1 : Int) + 2).toNat = a1 + 2 := by omega
      have hw2 : IntKind.i64.wrap ((a1 : Int) + 2) = (a1 : Int) + 2 := by rw [IntKind.wrap_i64]; omega
      have hw3 : ¬ (9223372036854775807 : Int) < (a1 : Int) + 2 := by omega
      have hsi := Jsp.shut_index (F.drop (a1 + 2))
      clear hx hp1 hp2
      cases hsh : Jsp.shut (F.drop (a1 + 2)) with
      | none =>
       have g1 := Jsp.gp_open F a1 HB1.out HP2.out hsh
       rw [hg1] at g1
       rw [hsi.1 hsh] at hIx
       have hWi := fun W hW => hide (jWithinW F B b a1 175 a1 7 st false W hW (.inr rfl))
       subst g1
       clear hsi hsh
       go_wp2_with fail
       refine (sHasPreV _ _ false HP.out _).mono ?_
       rintro e w4 ⟨rfl, rfl⟩
       have hrest2 := hide (jRest F B b a1 st false _ HX3.out h1le)
       go_wp2_with fail
       refine hrest2.out.mono ?_
       rintro e w5 ⟨rfl, n5, rfl⟩
       go_wp2_with fail
       refine (sHasPreV _ _ true HP2.out _).mono ?_
       rintro e w6 ⟨rfl, rfl⟩
       go_wp2_with fail
       go_quiet ((go_at_call 33; exact (hIx _ (HT _).out).out.mono fun _ _ hz => ⟨hz.1, _, hz.2.symm⟩))
       go_wp2_with fail
       refine (hWi _ (HX3.out.drewN _)).out.mono ?_
       rintro e w8 ⟨x, rfl, hx1, hk8⟩
       go_wp2_with fail
       exact ⟨rfl, x, rfl, by show x.s ≠ 1; rw [hx1]; decide, (HK3.out.drewN _).trans hk8⟩
      | some n =>
       obtain ⟨g1, g2, g3⟩ := Jsp.gp_shut F a1 n h1le HV1.out HB1.out HP2.out hsh
       rw [hg1] at g1
       rw [(hsi.2 n hsh).1] at hIx
       obtain ⟨a3, ha3⟩ : ∃ a3, a1 + (2 + n + 2) = a3 := ⟨_, rfl⟩
       rw [ha3] at g1 g2 g3
       have hlt : a1 < a3 := by omega
       obtain ⟨z, hz, hz0, hz1, hsum⟩ : ∃ z : Int, (n : Int) = z /\ 0 <= z /\ (2 : Int) + z + 2 <= (F.length : Int) /\ (a1 : Int) + ((2 : Int) + z + 2) = (a3 : Int) := ⟨_, rfl, by omega, by omega, by omega⟩
       rw [hz] at hIx
       have G1 := hide g1
       have G3 := hide g3
       obtain ⟨_, _, lo3, hx3⟩ := HX3.out
       have f1 := hx3.frozen 1
       have f7 := hx3.frozen 7
       obtain ⟨-, -, -, -, -, -, -, c7⟩ := hx3.cells
       clear hx3
       have HS := hide hsum
       have qz : decide (z < 0) = false := by simp; omega
       clear hsi hsh g1 g3 ha3 hz hsum
       go_wp2_with fail
       refine (sHasPreV _ _ false HP.out _).mono ?_
       rintro e w4 ⟨rfl, rfl⟩
       have hrest2 := hide (jRest F B b a1 st false _ HX3.out h1le)
       go_wp2_with fail
       refine hrest2.out.mono ?_
       rintro e w5 ⟨rfl, n5, rfl⟩
       go_wp2_with fail
       refine (sHasPreV _ _ true HP2.out _).mono ?_
       rintro e w6 ⟨rfl, rfl⟩
       go_wp2_with fail
       go_quiet ((go_at_call 33; exact (hIx _ (HT _).out).out.mono fun _ _ hz => ⟨hz.1, _, hz.2.symm⟩))
       go_wp2_with fail
       rw [HS.out]
       go_roundg (F.length - a3)
       case measure => omega
       case rel =>
        obtain ⟨_, _, _, hx⟩ := HX3.out.drewN (n5 + nq)
        exact ⟨a3, false, by omega, ((hx.set1 a3).set7 (a3 : Int)).lx, (hx.set1 a3).kp (hx.kp (HK3.out.drewN (n5 + nq)) 1 (.int .i64 (a3 : Int))) 7 (.int .i64 (a3 : Int)), G3.out, fun h => (by cases h), G1.out.symm⟩
     | false =>
      have g1 := Jsp.gp_stop F a1 HB1.out hp1 hp2
      rw [hg1] at g1
      have HP := hide hp1
      have HP2 := hide hp2
      subst g1
      have hrest2 := hide (jRest F B b a1 st false _ HX3.out h1le)
      clear hp1 hp2
      go_wp2_with fail
      refine (sHasPreV _ _ false HP.out _).mono ?_
      rintro e w4 ⟨rfl, rfl⟩
      go_wp2_with fail
      refine hrest2.out.mono ?_
      rintro e w5 ⟨rfl, n5, rfl⟩
      go_wp2_with fail
      refine (sHasPreV _ _ false HP2.out _).mono ?_
      rintro e w6 ⟨rfl, rfl⟩
      go_wp2_with fail
      go_end0
      exact ⟨rfl, HX3.out.drewN n5, HK3.out.drewN n5⟩
end Go.Proofs.YtngccmlcopcghaaGreatDoor
