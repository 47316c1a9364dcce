/- number. -/
import Derived.Test.YtngccmlcopcghaaGreatDoorWb
import Derived.Test.YtngccmlcopcghaaGreatDoorTc
namespace Go.Proofs.YtngccmlcopcghaaGreatDoor
open Go.RowKit

set_option maxRecDepth 100000 in
set_option maxHeartbeats 8000000 in
theorem jNumber (F : List UInt8) (B b a : Nat) (st : Jsp.St) (ln : Bool) (w : World) (h : Lx w B b F a st ln) (ha : a < F.length) (hv : Cssp.valid (F.drop a) = true) (hl : F.length ≤ 4194000) :
    Calls Tryz.prog 41 #[.pointer (some ⟨b, 0, none⟩)] w (fun e w' => if (Jsp.numeral (F.drop a)).2 = false ∨ Jsp.name ((F.drop a).drop (Jsp.numeral (F.drop a)).1) ≠ 0 then PkN 173 a B w e w' else Lf (tokV 4 ((F.drop a).take (Jsp.numeral (F.drop a)).1) []) w B b F (a + (Jsp.numeral (F.drop a)).1) st ln e w') := by
  have hB := h.leB
  have h0 : F.drop a ≠ [] := fun e => by
    have := congrArg List.length e
    rw [List.length_drop, List.length_nil] at this
    omega
  obtain ⟨n1, n2, n3⟩ := tok_new h
  unfold tokC at n1 n2 n3
  obtain ⟨W1, hW1⟩ : ∃ W1, W1 = w.alloc (.cells #[.int .u8 0, S [], S []] 29) := ⟨_, rfl⟩
  rw [← hW1] at n1 n2 n3
  have HW1 := hide hW1
  clear hW1
  have hasc := Jsp.numeral_asc (F.drop a) h0
  have hva := hasc.valid hv
  have hk1 : a + (Jsp.numeral (F.drop a)).1 ≤ F.length := by
    have := hasc.1
    rw [List.length_drop] at this
    omega
  have HNum := fun W => hide (jNumeral F a W ha hl)
  unfold NumP Jsp.numA at HNum
  obtain ⟨k, ok, hK⟩ : ∃ k ok, Jsp.numeral (F.drop a) = (k, ok) := ⟨_, _, rfl⟩
  rw [hK] at hva hk1 ⊢
  simp only [hK] at HNum
  simp only at hva hk1 ⊢
  rw [List.drop_drop] at hva ⊢
  have HNm := fun W hW => hide (jName F B b a (a + k) st ln W hW hk1 hva (by omega))
  have hCut := fun W hW => hide (jCut F B b a (a + k) st ln W hW (by omega) hk1)
  rw [Nat.add_sub_cancel_left] at hCut
  obtain ⟨M, hM⟩ : ∃ M, Jsp.name (F.drop (a + k)) = M := ⟨_, rfl⟩
  rw [hM] at HNm ⊢
  obtain ⟨P, hP⟩ : ∃ P, a + k = P := ⟨_, rfl⟩
  rw [hP] at HNum HNm hCut hk1 ⊢
  obtain ⟨Z, hZ⟩ : ∃ Z, P + M = Z := ⟨_, rfl⟩
  rw [hZ] at HNm
  have hWi := fun W hW => hide (jWithinW F B b a 173 a 2 st ln W hW (.inl rfl))
  obtain ⟨_, _, _, hx⟩ := id n1
  obtain ⟨c0, c1, -⟩ := hx.cells
  have hS : ∀ W, Below W1.heap.size W1 W → W.cell? ⟨b, 0, none⟩ = some (S F) ∧ W.cell? ⟨b, 1, none⟩ = some (.int .i64 (a : Int)) := fun W hW => ⟨cell_below c0 hW, cell_below c1 hW⟩
  have H1 := hide n1
  have H2 := hide n2
  have H3 := hide n3
  obtain ⟨gL, qL⟩ : ∃ gL, ((P : Int) == (F.length : Int)) = gL := ⟨_, rfl⟩
  have hgM : ∃ gM, ((Z : Int) != (P : Int)) = gM ∧ (gM = true ↔ M ≠ 0) := ⟨_, rfl, by rw [bne_iff_ne]; omega⟩
  obtain ⟨gM, qM, hgM⟩ := hgM
  clear h n1 n2 n3 hx hv hva hK hM hP hZ hk1 h0 hasc ha
  cases ok with
  | false =>
    have hI : (false = false ∨ M ≠ 0) := .inl rfl
    refine Calls.mono (R := PkN 173 a B w) ?_ (fun e w' hp => by rw [if_pos hI]; exact hp)
    clear hI hCut
    cases hg : gM with
    | true =>
      rw [hg] at qM
      clear hg hgM
      cases hgL : gL with
      | true =>
        rw [hgL] at qL
        go_enter Tryz.func41, Tryz.ntmps41
        go_wp2_with fail
        rw [← HW1.out]
        go_region_held3 (fun W => W.cell? ⟨b, 0, none⟩ = some (S F) ∧ W.cell? ⟨b, 1, none⟩ = some (.int .i64 (a : Int))) (first | exact ⟨c0, c1⟩ | exact hS _ (((Below.refl W1.heap.size W1).drew).trans hb)) ((go_at_call 70; refine (HNum _).out.mono ?_; rintro e w1 ⟨rfl, hb⟩))
        have H4 := hide (H2.out.fresh hB (((Below.refl W1.heap.size W1).drew).trans hb))
        have H6 := hide (H1.out.below (((Below.refl W1.heap.size W1).drew).trans hb))
        have H7 := hide (((((Below.refl W1.heap.size W1).drew).trans hb).block _ (heap_lt H3.out)).trans H3.out)
        obtain ⟨d0, d1⟩ := hS _ (((Below.refl W1.heap.size W1).drew).trans hb)
        clear hb hS c0 c1
        go_wp2_with fail
        refine (HNm _ H6.out).out.mono ?_
        rintro e w2 ⟨rfl, hb2⟩
        have H8 := hide (H4.out.fresh hB hb2)
        have H9 := hide ((hb2.block _ (heap_lt H7.out)).trans H7.out)
        have H10 := hide (H6.out.below hb2)
        have e0 := cell_below d0 hb2
        have e1 := cell_below d1 hb2
        clear hb2 d0 d1
        go_wp2_with fail
        refine (hWi _ H10.out).out.mono ?_
        rintro e w4 ⟨x, rfl, hx1, hk4⟩
        go_wp2_with fail
        exact ⟨rfl, x, rfl, by show x.s ≠ 1; rw [hx1]; decide, H8.out.trans hk4⟩
      | false =>
        rw [hgL] at qL
        go_enter Tryz.func41, Tryz.ntmps41
        go_wp2_with fail
        rw [← HW1.out]
        go_region_held3 (fun W => W.cell? ⟨b, 0, none⟩ = some (S F) ∧ W.cell? ⟨b, 1, none⟩ = some (.int .i64 (a : Int))) (first | exact ⟨c0, c1⟩ | exact hS _ (((Below.refl W1.heap.size W1).drew).trans hb)) ((go_at_call 70; refine (HNum _).out.mono ?_; rintro e w1 ⟨rfl, hb⟩))
        have H4 := hide (H2.out.fresh hB (((Below.refl W1.heap.size W1).drew).trans hb))
        have H6 := hide (H1.out.below (((Below.refl W1.heap.size W1).drew).trans hb))
        have H7 := hide (((((Below.refl W1.heap.size W1).drew).trans hb).block _ (heap_lt H3.out)).trans H3.out)
        obtain ⟨d0, d1⟩ := hS _ (((Below.refl W1.heap.size W1).drew).trans hb)
        clear hb hS c0 c1
        go_wp2_with fail
        refine (HNm _ H6.out).out.mono ?_
        rintro e w2 ⟨rfl, hb2⟩
        have H8 := hide (H4.out.fresh hB hb2)
        have H9 := hide ((hb2.block _ (heap_lt H7.out)).trans H7.out)
        have H10 := hide (H6.out.below hb2)
        have e0 := cell_below d0 hb2
        have e1 := cell_below d1 hb2
        clear hb2 d0 d1
        go_wp2_with fail
        refine (jFail b 173 a _).mono ?_
        rintro e w4 ⟨rfl, rfl⟩
        go_wp2_with fail
        exact ⟨rfl, w0x, rfl, by decide, H8.out⟩
    | false =>
      rw [hg] at qM
      clear hg hgM
      cases hgL : gL with
      | true =>
        rw [hgL] at qL
        go_enter Tryz.func41, Tryz.ntmps41
        go_wp2_with fail
        rw [← HW1.out]
        go_region_held3 (fun W => W.cell? ⟨b, 0, none⟩ = some (S F) ∧ W.cell? ⟨b, 1, none⟩ = some (.int .i64 (a : Int))) (first | exact ⟨c0, c1⟩ | exact hS _ (((Below.refl W1.heap.size W1).drew).trans hb)) ((go_at_call 70; refine (HNum _).out.mono ?_; rintro e w1 ⟨rfl, hb⟩))
        have H4 := hide (H2.out.fresh hB (((Below.refl W1.heap.size W1).drew).trans hb))
        have H6 := hide (H1.out.below (((Below.refl W1.heap.size W1).drew).trans hb))
        have H7 := hide (((((Below.refl W1.heap.size W1).drew).trans hb).block _ (heap_lt H3.out)).trans H3.out)
        obtain ⟨d0, d1⟩ := hS _ (((Below.refl W1.heap.size W1).drew).trans hb)
        clear hb hS c0 c1
        go_wp2_with fail
        refine (HNm _ H6.out).out.mono ?_
        rintro e w2 ⟨rfl, hb2⟩
        have H8 := hide (H4.out.fresh hB hb2)
        have H9 := hide ((hb2.block _ (heap_lt H7.out)).trans H7.out)
        have H10 := hide (H6.out.below hb2)
        have e0 := cell_below d0 hb2
        have e1 := cell_below d1 hb2
        clear hb2 d0 d1
        go_wp2_with fail
        refine (hWi _ H10.out).out.mono ?_
        rintro e w4 ⟨x, rfl, hx1, hk4⟩
        go_wp2_with fail
        exact ⟨rfl, x, rfl, by show x.s ≠ 1; rw [hx1]; decide, H8.out.trans hk4⟩
      | false =>
        rw [hgL] at qL
        go_enter Tryz.func41, Tryz.ntmps41
        go_wp2_with fail
        rw [← HW1.out]
        go_region_held3 (fun W => W.cell? ⟨b, 0, none⟩ = some (S F) ∧ W.cell? ⟨b, 1, none⟩ = some (.int .i64 (a : Int))) (first | exact ⟨c0, c1⟩ | exact hS _ (((Below.refl W1.heap.size W1).drew).trans hb)) ((go_at_call 70; refine (HNum _).out.mono ?_; rintro e w1 ⟨rfl, hb⟩))
        have H4 := hide (H2.out.fresh hB (((Below.refl W1.heap.size W1).drew).trans hb))
        have H6 := hide (H1.out.below (((Below.refl W1.heap.size W1).drew).trans hb))
        have H7 := hide (((((Below.refl W1.heap.size W1).drew).trans hb).block _ (heap_lt H3.out)).trans H3.out)
        obtain ⟨d0, d1⟩ := hS _ (((Below.refl W1.heap.size W1).drew).trans hb)
        clear hb hS c0 c1
        go_wp2_with fail
        refine (HNm _ H6.out).out.mono ?_
        rintro e w2 ⟨rfl, hb2⟩
        have H8 := hide (H4.out.fresh hB hb2)
        have H9 := hide ((hb2.block _ (heap_lt H7.out)).trans H7.out)
        have H10 := hide (H6.out.below hb2)
        have e0 := cell_below d0 hb2
        have e1 := cell_below d1 hb2
        clear hb2 d0 d1
        go_wp2_with fail
        refine (jFail b 173 a _).mono ?_
        rintro e w4 ⟨rfl, rfl⟩
        go_wp2_with fail
        exact ⟨rfl, w0x, rfl, by decide, H8.out⟩
  | true =>
    cases hg : gM with
    | true =>
      have hI : (true = false ∨ M ≠ 0) := .inr (hgM.1 hg)
      refine Calls.mono (R := PkN 173 a B w) ?_ (fun e w' hp => by rw [if_pos hI]; exact hp)
      rw [hg] at qM
      clear hI hg hgM hCut
      cases hgL : gL with
      | true =>
        rw [hgL] at qL
        go_enter Tryz.func41, Tryz.ntmps41
        go_wp2_with fail
        rw [← HW1.out]
        go_region_held3 (fun W => W.cell? ⟨b, 0, none⟩ = some (S F) ∧ W.cell? ⟨b, 1, none⟩ = some (.int .i64 (a : Int))) (first | exact ⟨c0, c1⟩ | exact hS _ (((Below.refl W1.heap.size W1).drew).trans hb)) ((go_at_call 70; refine (HNum _).out.mono ?_; rintro e w1 ⟨rfl, hb⟩))
        have H4 := hide (H2.out.fresh hB (((Below.refl W1.heap.size W1).drew).trans hb))
        have H6 := hide (H1.out.below (((Below.refl W1.heap.size W1).drew).trans hb))
        have H7 := hide (((((Below.refl W1.heap.size W1).drew).trans hb).block _ (heap_lt H3.out)).trans H3.out)
        obtain ⟨d0, d1⟩ := hS _ (((Below.refl W1.heap.size W1).drew).trans hb)
        clear hb hS c0 c1
        go_wp2_with fail
        refine (HNm _ H6.out).out.mono ?_
        rintro e w2 ⟨rfl, hb2⟩
        have H8 := hide (H4.out.fresh hB hb2)
        have H9 := hide ((hb2.block _ (heap_lt H7.out)).trans H7.out)
        have H10 := hide (H6.out.below hb2)
        have e0 := cell_below d0 hb2
        have e1 := cell_below d1 hb2
        clear hb2 d0 d1
        go_wp2_with fail
        refine (hWi _ H10.out).out.mono ?_
        rintro e w4 ⟨x, rfl, hx1, hk4⟩
        go_wp2_with fail
        exact ⟨rfl, x, rfl, by show x.s ≠ 1; rw [hx1]; decide, H8.out.trans hk4⟩
      | false =>
        rw [hgL] at qL
        go_enter Tryz.func41, Tryz.ntmps41
        go_wp2_with fail
        rw [← HW1.out]
        go_region_held3 (fun W => W.cell? ⟨b, 0, none⟩ = some (S F) ∧ W.cell? ⟨b, 1, none⟩ = some (.int .i64 (a : Int))) (first | exact ⟨c0, c1⟩ | exact hS _ (((Below.refl W1.heap.size W1).drew).trans hb)) ((go_at_call 70; refine (HNum _).out.mono ?_; rintro e w1 ⟨rfl, hb⟩))
        have H4 := hide (H2.out.fresh hB (((Below.refl W1.heap.size W1).drew).trans hb))
        have H6 := hide (H1.out.below (((Below.refl W1.heap.size W1).drew).trans hb))
        have H7 := hide (((((Below.refl W1.heap.size W1).drew).trans hb).block _ (heap_lt H3.out)).trans H3.out)
        obtain ⟨d0, d1⟩ := hS _ (((Below.refl W1.heap.size W1).drew).trans hb)
        clear hb hS c0 c1
        go_wp2_with fail
        refine (HNm _ H6.out).out.mono ?_
        rintro e w2 ⟨rfl, hb2⟩
        have H8 := hide (H4.out.fresh hB hb2)
        have H9 := hide ((hb2.block _ (heap_lt H7.out)).trans H7.out)
        have H10 := hide (H6.out.below hb2)
        have e0 := cell_below d0 hb2
        have e1 := cell_below d1 hb2
        clear hb2 d0 d1
        go_wp2_with fail
        refine (jFail b 173 a _).mono ?_
        rintro e w4 ⟨rfl, rfl⟩
        go_wp2_with fail
        exact ⟨rfl, w0x, rfl, by decide, H8.out⟩
    | false =>
      have hI : ¬ (true = false ∨ M ≠ 0) := by rintro (h | h); cases h; rw [hgM.2 h] at hg; cases hg
      refine Calls.mono (R := Lf (tokV 4 ((F.drop a).take k) []) w B b F P st ln) ?_ (fun e w' hp => by rw [if_neg hI]; exact hp)
      rw [hg] at qM
      clear hI hg hgM hWi qL
      go_enter Tryz.func41, Tryz.ntmps41
      go_wp2_with fail
      rw [← HW1.out]
      go_region_held3 (fun W => W.cell? ⟨b, 0, none⟩ = some (S F) ∧ W.cell? ⟨b, 1, none⟩ = some (.int .i64 (a : Int))) (first | exact ⟨c0, c1⟩ | exact hS _ (((Below.refl W1.heap.size W1).drew).trans hb)) ((go_at_call 70; refine (HNum _).out.mono ?_; rintro e w1 ⟨rfl, hb⟩))
      have H4 := hide (H2.out.fresh hB (((Below.refl W1.heap.size W1).drew).trans hb))
      have H6 := hide (H1.out.below (((Below.refl W1.heap.size W1).drew).trans hb))
      have H7 := hide (((((Below.refl W1.heap.size W1).drew).trans hb).block _ (heap_lt H3.out)).trans H3.out)
      obtain ⟨d0, d1⟩ := hS _ (((Below.refl W1.heap.size W1).drew).trans hb)
      clear hb hS c0 c1
      go_wp2_with fail
      refine (HNm _ H6.out).out.mono ?_
      rintro e w2 ⟨rfl, hb2⟩
      have H8 := hide (H4.out.fresh hB hb2)
      have H9 := hide ((hb2.block _ (heap_lt H7.out)).trans H7.out)
      have H10 := hide (H6.out.below hb2)
      have e0 := cell_below d0 hb2
      have e1 := cell_below d1 hb2
      clear hb2 d0 d1
      go_wp2_with fail
      refine ((hCut _ H10.out).out).mono ?_
      rintro e w4 ⟨rfl, hl4, hk4⟩
      have hr4 := hk4.kept _ _ _ _ H9.out (by decide) (by decide)
      obtain ⟨t0, t1, t2, tf0, tf1, tf2⟩ := tok_cells hr4
      go_wp2_with fail
      obtain ⟨E1, E2⟩ := tok_end hl4 (H8.out.trans hk4) hB (Nat.le_refl _) hr4 4 ((F.drop a).take k) []
      refine bodyPost_ret (v := tokV 4 _ []) (tok_ret Tryz.results41 _ w4 _ hr4 4 _ [] rfl) rfl ?_
      exact ⟨rfl, E1, E2⟩
end Go.Proofs.YtngccmlcopcghaaGreatDoor
