/- within: a script that ends in a name or in a comment. -/
import Derived.Test.YtngccmlcopcghaaGreatDoorRd
import Derived.Lib.Hide
import Derived.Lib.BufferRead
namespace Go.Proofs.YtngccmlcopcghaaGreatDoor
open Go.RowKit

/-- the open brackets as a text -/
theorem own_text {w : World} {B : Nat} {v : Value} {l : List UInt8} (h : w.ownsRow B 5 1 v l.length (l.map B8)) : (convert 39 9 v).run Tryz.prog w = .ok (S l) w := by
  obtain ⟨_, ⟨rfl, h0⟩ | ⟨g, cap, cur, rfl, _, hh, _, _, hs, ht⟩⟩ := h
  · have : l = [] := List.eq_nil_of_length_eq_zero h0
    subst this
    exact Lib.run_convert_nil_bytes w _ _ 5 0 Tryz.underlying39 Tryz.underlying5 Tryz.underlying9
  · have hc : ∀ j u, (l.map B8)[j]? = some u → w.cell? ((⟨g, 0, none⟩ : Addr).add j) = some u := (show w.ownsRow B 5 1 _ l.length (l.map B8) from ⟨by assumption, .inr ⟨g, cap, cur, rfl, by assumption, hh, by assumption, by assumption, hs, ht⟩⟩).cells (g := g) rfl
    exact run_convert_bytes_back w 39 9 5 ⟨g, 0, none⟩ cap l Tryz.underlying39 Tryz.underlying5 Tryz.underlying9 (fun j hj => hc j _ (by rw [List.getElem?_map, List.getElem?_eq_getElem hj]; rfl))
set_option maxRecDepth 100000 in
set_option maxHeartbeats 4000000 in
theorem jWithinW (F : List UInt8) (B b a e at' s : Nat) (st : Jsp.St) (ln : Bool) (w : World) (h : Lx w B b F a st ln) (hs : s = 2 ∨ s = 7) :
    Calls Tryz.prog 34 #[.pointer (some ⟨b, 0, none⟩), .int .i64 (e : Int), .int .i64 (at' : Int), .agg #[.int .u8 (s : Int), .int .u8 0, .bool false, .bool false, S []], .int .i64 (-1)] w (Pk e at' (fun x => x.s = s) B w) := by
  have hB := h.leB
  have hal := fun o => (Below.refl w.heap.size w).alloc (Nat.le_refl _) o
  have hs' : ∃ q : Bool, ((s : Int) == 2) = q ∧ (q = false → ((s : Int) == 7) = true) := by
    rcases hs with rfl | rfl
    · exact ⟨true, rfl, fun h => by cases h⟩
    · exact ⟨false, rfl, fun _ => rfl⟩
  obtain ⟨v, cap, lo, hx1⟩ := h.below (hal (.cells #[.int .u8 (s : Int), .int .u8 0, .bool false, .bool false, S []] 36))
  obtain ⟨-, -, c2, -⟩ := hx1.cells
  have hcv := own_text hx1.own
  have hK := (Kp.refl B w).alloc hB (.cells #[.int .u8 (s : Int), .int .u8 0, .bool false, .bool false, S st.stk] 36)
  have HK := hide hK
  clear h hx1 hK hal
  obtain ⟨q, hq, hq2⟩ := hs'
  clear hs
  cases q with
  | true =>
    clear hq2
    go_enter Tryz.func34, Tryz.ntmps34
    go_wp2_with fail
    exact ⟨rfl, ⟨s, 0, false, false, st.stk⟩, rfl, rfl, HK.out⟩
  | false =>
    have hq2 := hq2 rfl
    go_enter Tryz.func34, Tryz.ntmps34
    go_wp2_with fail
    exact ⟨rfl, ⟨s, 0, false, false, st.stk⟩, rfl, rfl, HK.out⟩
end Go.Proofs.YtngccmlcopcghaaGreatDoor
namespace Go.Proofs.YtngccmlcopcghaaGreatDoor
open Go.RowKit

set_option maxRecDepth 100000 in
set_option maxHeartbeats 4000000 in
theorem jWord (F : List UInt8) (B b a : Nat) (st : Jsp.St) (ln : Bool) (w : World) (h : Lx w B b F a st ln) (ha : a ≤ F.length) (hv : Cssp.valid (F.drop a) = true) (hl : F.length ≤ 4194304) :
    Calls Tryz.prog 38 #[.pointer (some ⟨b, 0, none⟩)] w (Lf (tokV 1 ((F.drop a).take (Jsp.name (F.drop a))) []) w B b F (a + Jsp.name (F.drop a)) st ln) := by
  have hB := h.leB
  obtain ⟨n1, n2, n3⟩ := tok_new h
  have hal := (Below.refl w.heap.size w).alloc (Nat.le_refl _) (.cells tokC 29)
  unfold tokC at n1 n2 n3 hal
  have HN := hide (jName F B b a a st ln _ n1 ha hv hl)
  have hle : a + Jsp.name (F.drop a) ≤ F.length := by
    have := Jsp.run_le Jsp.goesOn _ (F.drop a) (Nat.le_refl _)
    rw [List.length_drop] at this
    unfold Jsp.name
    omega
  obtain ⟨R, hR⟩ : ∃ R, Jsp.name (F.drop a) = R := ⟨_, rfl⟩
  rw [hR] at HN hle ⊢
  obtain ⟨_, _, _, hx⟩ := id n1
  obtain ⟨-, c1, -⟩ := hx.cells
  have H1 := hide n1
  have H2 := hide n2
  have H3 := hide n3
  clear h n1 n2 n3 hx hR hv hal
  go_enter Tryz.func38, Tryz.ntmps38
  go_wp2_with fail
  refine HN.out.mono ?_
  rintro e w1 ⟨rfl, hb1⟩
  have HC := hide (jCut F B b a (a + R) st ln w1 (H1.out.below hb1) (by omega) hle)
  rw [Nat.add_sub_cancel_left] at HC
  have H4 := hide (H2.out.fresh hB hb1)
  have H5 := hide ((hb1.block _ (heap_lt H3.out)).trans H3.out)
  clear hb1 c1
  go_wp2_with fail
  refine HC.out.mono ?_
  rintro e w2 ⟨rfl, hl2, hk2⟩
  have hr2 := hk2.kept _ _ _ _ H5.out (by decide) (by decide)
  obtain ⟨t0, t1, t2, tf0, tf1, tf2⟩ := tok_cells hr2
  go_wp2_with fail
  obtain ⟨E1, E2⟩ := tok_end hl2 (H4.out.trans hk2) hB (Nat.le_refl _) hr2 1 ((F.drop a).take R) []
  refine bodyPost_ret (v := tokV 1 _ []) (tok_ret Tryz.results38 _ w2 _ hr2 1 _ [] rfl) rfl ?_
  exact ⟨rfl, E1, E2⟩
/-- an error's state is another than that of a script that might end so -/
abbrev PkN (e at' : Nat) (B : Nat) (w : World) (en : Ending) (w' : World) : Prop := Pk e at' (fun x => x.s ≠ 1) B w en w'
theorem Pk.to {e at' : Nat} {P Q : Wx → Prop} {B : Nat} {w w1 : World} {en : Ending} {w' : World} (h : Pk e at' P B w1 en w') (hk : Kp B w w1) (hq : ∀ x, P x → Q x) : Pk e at' Q B w en w' := by
  obtain ⟨x, h1, h2, h3⟩ := h
  exact ⟨x, h1, hq x h2, hk.trans h3⟩
set_option maxRecDepth 100000 in
set_option maxHeartbeats 4000000 in
theorem jPrivate (F : List UInt8) (B b a : Nat) (st : Jsp.St) (ln : Bool) (w : World) (h : Lx w B b F a st ln) (T : List UInt8) (hT : F.drop a = 35 :: T) (hv : Cssp.valid T = true) (hl : F.length ≤ 4194304) :
    Calls Tryz.prog 39 #[.pointer (some ⟨b, 0, none⟩)] w (fun e w' => if T = [] ∨ Jsp.begins (Jsp.pt T) = false then PkN 170 a B w e w' else Lf (tokV 2 ((F.drop a).take (1 + Jsp.name T)) []) w B b F (a + (1 + Jsp.name T)) st ln e w') := by
  have hB := h.leB
  have hlen : F.length = a + (T.length + 1) := by
    have := congrArg List.length hT
    rw [List.length_drop, List.length_cons] at this
    omega
  have hd1 : F.drop (a + 1) = T := by rw [← List.drop_drop, hT]; rfl
  obtain ⟨n1, n2, n3⟩ := tok_new h
  unfold tokC at n1 n2 n3
  have HP := hide (jPoint F B b a 1 st ln _ n1 (by omega) (by omega) hl)
  have hBg := fun W => hide (jBegins (Jsp.pt T) W (Jsp.pt_le T))
  have hle : a + (1 + Jsp.name T) ≤ F.length := by
    have := Jsp.run_le Jsp.goesOn _ T (Nat.le_refl _)
    unfold Jsp.name
    omega
  have hway : (T = [] ∧ (T = [] ∨ Jsp.begins (Jsp.pt T) = false)) ∨ (T ≠ [] ∧ ∃ g, Jsp.begins (Jsp.pt T) = g ∧ ((T = [] ∨ Jsp.begins (Jsp.pt T) = false) ↔ g = false)) := by
    by_cases h0 : T = []
    · exact .inl ⟨h0, .inl h0⟩
    · exact .inr ⟨h0, _, rfl, by simp [h0]⟩
  have hva : Cssp.valid (F.drop (a + 1)) = true := by rw [hd1]; exact hv
  have HNm := fun W hW => hide (jName F B b a (a + 1) st ln W hW (by omega) hva hl)
  rw [hd1] at HP HNm
  obtain ⟨_, _, _, hx⟩ := id n1
  obtain ⟨c0, c1, -⟩ := hx.cells
  have H1 := hide n1
  have H2 := hide n2
  have H3 := hide n3
  have HV := hide hv
  have HLE := hide hle
  have hq : ((a : Int) + 1 == (F.length : Int)) = decide (T = []) := by
    by_cases h0 : T = []
    · rw [decide_eq_true h0, beq_iff_eq]; rw [hlen, h0]; simp
    · rw [decide_eq_false h0, beq_eq_false_iff_ne]
      have := List.length_pos_iff.2 h0
      omega
  have HW := hide hway
  obtain ⟨NN, hNN⟩ : ∃ NN, Jsp.name T = NN := ⟨_, rfl⟩
  rw [hNN] at HNm HLE ⊢
  have HD1 := hide hd1
  clear h n1 n2 n3 hx hT hv hle hva hway hNN hd1
  have hw1 : wrap64 ((a : Int) + 1) = (a : Int) + 1 := by unfold wrap64; omega
  by_cases h0 : T = []
  · have hI : (T = [] ∨ Jsp.begins (Jsp.pt T) = false) = True := eq_true (.inl h0)
    simp only [hI, if_true]
    rw [decide_eq_true h0] at hq
    have hWi := fun W hW => hide (jWithinW F B b a 170 a 2 st ln W hW (.inl rfl))
    clear h0 hI hBg
    go_enter Tryz.func39, Tryz.ntmps39
    go_wp2_with fail
    refine HP.out.mono ?_
    rintro e w1 ⟨rp, hrl, -, rfl, hb1⟩
    have H4 := hide (H2.out.fresh hB hb1)
    have H6 := hide (H1.out.below hb1)
    have d0 := cell_below c0 hb1
    have d1 := cell_below c1 hb1
    clear hb1 c0 c1
    go_wp2_with fail
    go_quiet (fail)
    go_wp2_with fail
    refine (hWi _ (H6.out.drewN _)).out.mono ?_
    rintro e w2 ⟨x, rfl, hx1, hk2⟩
    go_wp2_with fail
    exact ⟨rfl, x, rfl, by show x.s ≠ 1; rw [hx1]; decide, (H4.out.drewN _).trans hk2⟩
  · rw [decide_eq_false h0] at hq
    obtain ⟨g, hg, hiff⟩ : ∃ g, Jsp.begins (Jsp.pt T) = g ∧ ((T = [] ∨ Jsp.begins (Jsp.pt T) = false) ↔ g = false) := by
      rcases HW.out with ⟨h, _⟩ | ⟨_, h⟩
      · exact absurd h h0
      · exact h
    rw [hg] at hBg
    clear h0
    cases g with
    | false =>
      have hI : (T = [] ∨ Jsp.begins (Jsp.pt T) = false) = True := eq_true (hiff.2 rfl)
      simp only [hI, if_true]
      clear hI hiff hg
      go_enter Tryz.func39, Tryz.ntmps39
      go_wp2_with fail
      refine HP.out.mono ?_
      rintro e w1 ⟨rp, hrl, hrp, rfl, hb1⟩
      have hrp := hrp HV.out
      subst hrp
      have H4 := hide (H2.out.fresh hB hb1)
      have H6 := hide (H1.out.below hb1)
      have d0 := cell_below c0 hb1
      have d1 := cell_below c1 hb1
      clear hb1 c0 c1
      go_wp2_with fail
      go_quiet (fail)
      go_wp2_with fail
      refine (hBg _).out.mono ?_
      rintro e w2 ⟨rfl, rfl⟩
      go_wp2_with fail
      refine (jFail b 170 a _).mono ?_
      rintro e w3 ⟨rfl, rfl⟩
      go_wp2_with fail
      exact ⟨rfl, w0x, rfl, by decide, H4.out.drewN _⟩
    | true =>
      have hI : (T = [] ∨ Jsp.begins (Jsp.pt T) = false) = False := eq_false (fun h => absurd (hiff.1 h) (by decide))
      simp only [hI, if_false]
      clear hI hiff hg
      go_enter Tryz.func39, Tryz.ntmps39
      go_wp2_with fail
      refine HP.out.mono ?_
      rintro e w1 ⟨rp, hrl, hrp, rfl, hb1⟩
      have hrp := hrp HV.out
      subst hrp
      have H4 := hide (H2.out.fresh hB hb1)
      have H6 := hide (H1.out.below hb1)
      have H7 := hide ((hb1.block _ (heap_lt H3.out)).trans H3.out)
      have d0 := cell_below c0 hb1
      have d1 := cell_below c1 hb1
      clear hb1 c0 c1
      go_wp2_with fail
      go_quiet (fail)
      go_wp2_with fail
      refine (hBg _).out.mono ?_
      rintro e w2 ⟨rfl, rfl⟩
      go_wp2_with fail
      refine (HNm _ (H6.out.drewN _)).out.mono ?_
      rintro e w3 ⟨rfl, hb3⟩
      have H8 := hide ((H4.out.drewN nq).fresh hB hb3)
      have H9 := hide ((hb3.block _ (heap_lt (show (w1.drewN nq).heap[w.heap.size]? = _ from H7.out))).trans H7.out)
      have HC := hide (jCut F B b a (a + (1 + NN)) st ln w3 ((H6.out.drewN nq).below hb3) (by omega) HLE.out)
      rw [Nat.add_sub_cancel_left, show ((a + (1 + NN) : Nat) : Int) = ((a + 1 + NN : Nat) : Int) by omega] at HC
      clear hb3
      go_wp2_with fail
      refine HC.out.mono ?_
      rintro e w4 ⟨rfl, hl4, hk4⟩
      have hr4 := hk4.kept _ _ _ _ H9.out (by decide) (by decide)
      obtain ⟨t0, t1, t2, tf0, tf1, tf2⟩ := tok_cells hr4
      go_wp2_with fail
      obtain ⟨E1, E2⟩ := tok_end hl4 (H8.out.trans hk4) hB (Nat.le_refl _) hr4 2 ((F.drop a).take (1 + NN)) []
      refine bodyPost_ret (v := tokV 2 _ []) (tok_ret Tryz.results39 _ w4 _ hr4 2 _ [] rfl) rfl ?_
      exact ⟨rfl, E1, E2⟩
end Go.Proofs.YtngccmlcopcghaaGreatDoor
