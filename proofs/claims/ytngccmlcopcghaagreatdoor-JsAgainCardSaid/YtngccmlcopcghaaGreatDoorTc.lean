/- numeral: where a number ends. (Printed by genTc.py.) -/
import Derived.Test.YtngccmlcopcghaaGreatDoorTb
import Derived.Test.YtngccmlcopcghaaGreatDoorQg
namespace Go.Proofs.YtngccmlcopcghaaGreatDoor
open Go.RowKit

/-- its two boxes: the text; the place -/
structure Nb (W : World) (Q : Nat) (s : List UInt8) (i : Int) : Prop where
  tx : W.heap[Q]? = some (.cells #[S s] 9 (0, 0))
  ix : W.heap[Q + 1]? = some (.cells #[.int .i64 i] 3 (0, 0))
theorem Nb.get {W : World} {Q : Nat} {s : List UInt8} {i : Int} (h : Nb W Q s i) : W.cell? ⟨Q, 0, none⟩ = some (S s) ∧ W.cell? ⟨Q + 1, 0, none⟩ = some (.int .i64 i) ∧ W.frozen? ⟨Q + 1, 0, none⟩ = false := by
  refine ⟨by rw [Lib.cell_of_heap h.tx]; rfl, by rw [Lib.cell_of_heap h.ix]; rfl, by simp [World.frozen?, h.ix]⟩
theorem Nb.set {W : World} {Q : Nat} {s : List UInt8} {i : Int} (h : Nb W Q s i) (j : Int) : Nb (W.setCell ⟨Q + 1, 0, none⟩ (.int .i64 j)) Q s j := by
  have h1 := h.ix
  exact ⟨(Below.heap_setCell _ _ _ _ (by show Q ≠ Q + 1; omega)).trans h.tx, by simp [World.setCell, Array.getElem?_modify, h1]⟩
theorem Nb.drewN {W : World} {Q : Nat} {s : List UInt8} {i : Int} (h : Nb W Q s i) (n : Nat) : Nb (W.drewN n) Q s i := ⟨h.tx, h.ix⟩
theorem Nb.below {W W' : World} {Q : Nat} {s : List UInt8} {i : Int} (h : Nb W Q s i) (hb : Below W.heap.size W W') : Nb W' Q s i := ⟨(hb.block _ (heap_lt h.tx)).trans h.tx, (hb.block _ (heap_lt h.ix)).trans h.ix⟩
theorem ib_contains (c : UInt8) : ∀ l : List UInt8, decide (0 ≤ Lib.indexByte l c) = l.contains c
  | [] => rfl
  | b :: l => by
    have ih := ib_contains c l
    have hge := Lib.indexByte_ge l c
    rw [Lib.indexByte, List.contains_cons]
    by_cases hb : (b == c) = true
    · have : b = c := by simpa using hb
      subst this
      simp
    · have hb' : (b == c) = false := by simpa using hb
      have hc' : (c == b) = false := by rw [beq_eq_false_iff_ne] at hb' ⊢; exact fun e => hb' e.symm
      rw [if_neg hb, hc', Bool.false_or, ← ih]
      by_cases hm : Lib.indexByte l c = -1
      · rw [hm]; rfl
      · have : (Lib.indexByte l c == -1) = false := by rw [beq_eq_false_iff_ne]; exact hm
        rw [this, if_neg (by decide), decide_eq_decide]
        omega
set_option maxRecDepth 100000 in
theorem jIs (set s : List UInt8) (i : Nat) (W : World) (Q : Nat) (x : Int) (h : Nb W Q s x) (hx : x = (i : Int)) (_hl : s.length ≤ 4194304) :
    Calls Tryz.prog 117 #[S set, .pointer (some ⟨Q + 1, 0, none⟩), .pointer (some ⟨Q, 0, none⟩)] W (Ret (.bool (Jsp.isIn set s i)) W) := by
  obtain ⟨cs, ci, -⟩ := h.get
  subst hx
  have hg := Jsp.isIn_get (set := set) (s := s) (n := i)
  obtain ⟨R, hR⟩ : ∃ R, Jsp.isIn set s i = R := ⟨_, rfl⟩
  rw [hR] at hg ⊢
  have HG := hide hg
  clear h hR hg
  go_enter Tryz.func117, Tryz.ntmps117
  by_cases hlt : i < s.length
  · have b0 : (0 : Int) ≤ (i : Int) := by omega
    have b1 : (i : Int) < (s.length : Int) := by omega
    obtain ⟨c, hc⟩ : ∃ c, s[i] = c := ⟨_, rfl⟩
    have hc' : s[i]? = some c := by rw [List.getElem?_eq_getElem hlt, hc]
    have hv := HG.out
    rw [hc'] at hv
    simp only at hv
    have hib := ib_contains c set
    rw [← hv] at hib
    have HIB := hide hib
    have hI := fun V => hide (sIndexByte set c V)
    obtain ⟨z, hz⟩ : ∃ z, Lib.indexByte set c = z := ⟨_, rfl⟩
    rw [hz] at hI HIB
    clear hc' hv hib hz HG
    go_wp2_with fail
    refine (hI _).out.mono ?_
    rintro e w1 ⟨rfl, rfl⟩
    go_wp2_with fail
    go_ret
    exact Ret.of (v_b HIB.out)
  · have b1 : ¬ (i : Int) < (s.length : Int) := by omega
    have hd : decide ((i : Int) < (s.length : Int)) = false := by simp; omega
    have hv := HG.out
    rw [List.getElem?_eq_none (by omega)] at hv
    subst hv
    clear HG
    go_wp2_with fail
    go_ret
    exact Ret.of rfl
/-- where it ends; is it well formed? -/
def NumP (s : List UInt8) (k : Nat) (w : World) (e : Ending) (w' : World) : Prop := Fresh (.tuple #[.int .i64 ((Jsp.numA s k).1 : Nat), .bool (Jsp.numA s k).2]) w e w'
theorem NumP.of {s : List UInt8} {k : Nat} {w : World} {e : Ending} {w' : World} {n : Nat} {ok : Bool} (h : Jsp.numA s k = (n, ok)) (hf : Fresh (.tuple #[.int .i64 (n : Int), .bool ok]) w e w') : NumP s k w e w' := by unfold NumP; rw [h]; exact hf
theorem low_base : ∀ n : Fin 256, Jsp.baseOf (UInt8.ofNat n.val) ≠ 0 → ∃ e : Fin 256, bits BinOp.or .u8 (n.val : Int) 32 = (e.val : Int) ∧ ((e.val = 120 ∧ Jsp.baseOf (UInt8.ofNat n.val) = 16) ∨ (e.val = 111 ∧ Jsp.baseOf (UInt8.ofNat n.val) = 8) ∨ (e.val = 98 ∧ Jsp.baseOf (UInt8.ofNat n.val) = 2)) := by decide +kernel
theorem base_look (c : UInt8) (h : Jsp.baseOf c ≠ 0) : ∃ e : UInt8, bits BinOp.or .u8 (c.toNat : Int) 32 = (e.toNat : Int) ∧ lkM bases e = some (.int .i64 (Jsp.baseOf c)) := by
  obtain ⟨e, h1, h2⟩ := low_base ⟨c.toNat, c.toNat_lt⟩ (by simpa only [UInt8.ofNat_toNat] using h)
  simp only [UInt8.ofNat_toNat] at h2
  rcases h2 with ⟨q1, q2⟩ | ⟨q1, q2⟩ | ⟨q1, q2⟩
  · exact ⟨120, by rw [h1, q1]; rfl, by rw [q2]; rfl⟩
  · exact ⟨111, by rw [h1, q1]; rfl, by rw [q2]; rfl⟩
  · exact ⟨98, by rw [h1, q1]; rfl, by rw [q2]; rfl⟩

theorem jDig (s : List UInt8) (k : Nat) (base x : Int) (hx : x = (k : Int)) {d1 n1 : Nat} {d2 : Bool} (hd : Jsp.digits base (s.drop k) = (d1, d2)) (hn : k + d1 = n1) (w : World) (hk : k ≤ s.length) (hl : s.length ≤ 4194304) :
    Calls Tryz.prog 119 #[S s, .int .i64 x, .int .i64 base] w (Quiet (.tuple #[.int .i64 (n1 : Int), .bool d2]) w) := by
  have h := jDigits s k base w hk hl
  rw [hd] at h
  simp only [hn] at h
  rw [hx]
  exact h
set_option maxRecDepth 100000 in
set_option maxHeartbeats 8000000 in
theorem jNumeral (s : List UInt8) (k : Nat) (w : World) (hk : k < s.length) (hl : s.length ≤ 4194000) : Calls Tryz.prog 70 #[S s, .int .i64 (k : Int)] w (NumP s k w) := by
  have hmf : ∀ (fn : Fn) (first cap : Array Value) (w : World), (Instr.makeFunc fn first cap).run Tryz.prog w = .ok (.func fn first cap) w := fun _ _ _ _ => rfl
  have hmm := @run_makeMap Tryz.prog
  obtain ⟨Q, hQ⟩ : ∃ Q, w.heap.size = Q := ⟨_, rfl⟩
  obtain ⟨c, hc⟩ : ∃ c, s[k] = c := ⟨_, rfl⟩
  have hcb := u8_lt c
  have b0 : (0 : Int) ≤ (k : Int) := by omega
  have b1 : (k : Int) < (s.length : Int) := by omega
  have hdk : s.drop k = c :: s.drop (k + 1) := by rw [List.drop_eq_getElem_cons hk, hc]
  have h48 : Jsp.isB (· == 48) (s.drop k) = (c == 48) := by rw [hdk]; rfl
  have h46 : Jsp.isB (· == 46) (s.drop k) = (c == 46) := by rw [hdk]; rfl
  have H48 := hide h48
  have H46 := hide h46
  have hn0 : Nb ((w.alloc (.cells #[S s] 9)).alloc (.cells #[.int .i64 0] 3)) Q s 0 := by
    subst hQ
    refine ⟨?_, ?_⟩
    · rw [Below.heap_alloc _ _ _ (by simp)]; exact heap_alloc_last _ _
    · have := heap_alloc_last (w.alloc (.cells #[S s] 9)) (.cells #[.int .i64 0] 3)
      simpa using this
  have hb0 : Below Q w ((w.alloc (.cells #[S s] 9)).alloc (.cells #[.int .i64 0] 3)) := by
    subst hQ
    exact ((Below.refl _ w).alloc (Nat.le_refl _) _).alloc (by simp) _
  have hFin : ∀ {e : Ending} {w' : World} {n : Nat} {ok : Bool}, Jsp.numA s k = (n, ok) → Below Q w w' → e = .returned (.tuple #[.int .i64 (n : Int), .bool ok]) → NumP s k w e w' := fun h hb he => NumP.of h ⟨he, by rw [hQ]; exact hb⟩
  have HFIN := fun {e : Ending} {w' : World} {n : Nat} {ok : Bool} h1 h2 h3 => hide (@hFin e w' n ok h1 h2 h3)
  clear hFin hdk h48 h46
  go_enter Tryz.func70, Tryz.ntmps70
  go_upto_region 1 with (fail)
  change Code.wp _ _ _ _ ((w.alloc (.cells #[S s] 9)).alloc (.cells #[.int .i64 0] 3))
  generalize hgen : (w.alloc (.cells #[S s] 9)).alloc (.cells #[.int .i64 0] 3) = W0 at hn0 hb0 ⊢
  have HN0 := hide hn0
  have HB0 := hide hb0
  have HQ := hide hQ
  clear hgen hn0 hb0 hQ
  obtain ⟨cs0, ci0, fi0⟩ := HN0.out.get
  by_cases h0 : c = 48
  · have q48 : ((c.toNat : Int) == 48) = true := u8t h0
    have H0 := hide h0
    clear h0
    have HN1 := hide (HN0.out.set ((k : Int) + 1))
    have HB1 := hide (HB0.out.setCell (p := ⟨Q + 1, 0, none⟩) (show Q ≤ Q + 1 by omega) (.int .i64 ((k : Int) + 1)))
    obtain ⟨cs1, ci1, fi1⟩ := HN1.out.get
    cases hX : Jsp.isIn [120, 88, 111, 79, 98, 66] s (k + 1) with
    | false =>
      have hnx : ¬ Jsp.hexed s k := fun h => by rw [h.2] at hX; cases hX
      have HX := hide hnx
      clear hnx
      go_wp2_with fail
      refine (jIs [120, 88, 111, 79, 98, 66] s (k + 1) _ Q _ HN1.out (by omega) (by omega)).mono ?_
      rintro e w1 ⟨rfl, rfl⟩
      rw [hX]
      clear hX
      have HN2 := hide (HN1.out.set ((k : Int)))
      have HB2 := hide (HB1.out.setCell (p := ⟨Q + 1, 0, none⟩) (show Q ≤ Q + 1 by omega) (.int .i64 ((k : Int))))
      obtain ⟨cs2, ci2, fi2⟩ := HN2.out.get
      have q46 : ((c.toNat : Int) != 46) = true := u8n (c := c) (d := 46) (by rw [H0.out]; decide)
      have hh46 : Jsp.isB (· == 46) (s.drop k) = false := by rw [H46.out, H0.out]; rfl
      have H46f := hide hh46
      clear hh46
      obtain ⟨d1w, d2w, hdw⟩ : ∃ a b, Jsp.digits 10 (s.drop (k)) = (a, b) := ⟨_, _, rfl⟩
      have hbdw := Jsp.digits_bound 10 s (k) (by omega)
      rw [hdw] at hbdw
      simp only at hbdw
      obtain ⟨nw, hnw⟩ : ∃ a, k + d1w = a := ⟨_, rfl⟩
      have hgew : k ≤ nw := by omega
      have DGw := fun W => hide (jDig s (k) 10 ((k : Int)) (by omega) hdw hnw W (by omega) (by omega))
      rw [hnw] at hbdw
      have HDw := hide hdw
      have HNNw := hide hnw
      clear hdw hnw
      cases d2w with
      | false =>
        go_wp2_with fail
        refine (DGw _).out.mono ?_
        rintro e w1 ⟨rfl, nq3, rfl⟩
        have HN3 := hide (HN2.out.drewN nq3)
        have HB3 := hide (HB2.out.trans ((belowN _ nq3).mono (by have := HB2.out.size; have := HQ.out; omega)))
        obtain ⟨cs3, ci3, fi3⟩ := HN3.out.get
        generalize ((W0.setCell ⟨Q + 1, 0, none⟩ (.int .i64 ((k : Int) + 1))).setCell ⟨Q + 1, 0, none⟩ (.int .i64 ((k : Int)))).drewN nq3 = W3 at HN3 HB3 cs3 ci3 fi3 ⊢
        have HN4 := hide (HN3.out.set ((nw : Int)))
        have HB4 := hide (HB3.out.setCell (p := ⟨Q + 1, 0, none⟩) (show Q ≤ Q + 1 by omega) (.int .i64 ((nw : Int))))
        obtain ⟨cs4, ci4, fi4⟩ := HN4.out.get
        have HN5 := hide (HN4.out.set ((nw : Int)))
        have HB5 := hide (HB4.out.setCell (p := ⟨Q + 1, 0, none⟩) (show Q ≤ Q + 1 by omega) (.int .i64 ((nw : Int))))
        obtain ⟨cs5, ci5, fi5⟩ := HN5.out.get
        go_wp2_with fail
        refine bodyPost_ret (v := .tuple #[.int .i64 ((nw : Nat) : Int), .bool false]) (by simp [results, Tryz.results70, go_sem, ci5] <;> omega) rfl ?_
        exact (HFIN ((Jsp.numA_bad HX.out H46f.out HDw.out (.inl rfl)).trans (by rw [HNNw.out])) HB5.out rfl).out
      | true =>
        by_cases h1 : k + 1 < nw
        · have q1 : decide ((k : Int) + 1 < (nw : Int)) = true := by simp; omega
          have H1 := hide h1
          clear h1
          go_wp2_with fail
          refine (DGw _).out.mono ?_
          rintro e w1 ⟨rfl, nq6, rfl⟩
          have HN6 := hide (HN2.out.drewN nq6)
          have HB6 := hide (HB2.out.trans ((belowN _ nq6).mono (by have := HB2.out.size; have := HQ.out; omega)))
          obtain ⟨cs6, ci6, fi6⟩ := HN6.out.get
          generalize ((W0.setCell ⟨Q + 1, 0, none⟩ (.int .i64 ((k : Int) + 1))).setCell ⟨Q + 1, 0, none⟩ (.int .i64 ((k : Int)))).drewN nq6 = W6 at HN6 HB6 cs6 ci6 fi6 ⊢
          have HN7 := hide (HN6.out.set ((nw : Int)))
          have HB7 := hide (HB6.out.setCell (p := ⟨Q + 1, 0, none⟩) (show Q ≤ Q + 1 by omega) (.int .i64 ((nw : Int))))
          obtain ⟨cs7, ci7, fi7⟩ := HN7.out.get
          have HN8 := hide (HN7.out.set ((nw : Int)))
          have HB8 := hide (HB7.out.setCell (p := ⟨Q + 1, 0, none⟩) (show Q ≤ Q + 1 by omega) (.int .i64 ((nw : Int))))
          obtain ⟨cs8, ci8, fi8⟩ := HN8.out.get
          go_wp2_with fail
          refine bodyPost_ret (v := .tuple #[.int .i64 ((nw : Nat) : Int), .bool false]) (by simp [results, Tryz.results70, go_sem, ci8] <;> omega) rfl ?_
          exact (HFIN ((Jsp.numA_bad HX.out H46f.out HDw.out (.inr ⟨by rw [H48.out, H0.out]; rfl, by have := H1.out; have := HNNw.out; omega⟩)).trans (by rw [HNNw.out])) HB8.out rfl).out
        · have q1 : decide ((k : Int) + 1 < (nw : Int)) = false := by simp; omega
          have hng : ¬ (true = false ∨ (Jsp.isB (· == 48) (s.drop k) = true ∧ 1 < d1w)) := by rintro (h | ⟨_, h⟩); cases h; have := HNNw.out; omega
          have HNG := hide hng
          clear h1 hng
          go_wp2_with fail
          refine (DGw _).out.mono ?_
          rintro e w1 ⟨rfl, nq9, rfl⟩
          have HN9 := hide (HN2.out.drewN nq9)
          have HB9 := hide (HB2.out.trans ((belowN _ nq9).mono (by have := HB2.out.size; have := HQ.out; omega)))
          obtain ⟨cs9, ci9, fi9⟩ := HN9.out.get
          generalize ((W0.setCell ⟨Q + 1, 0, none⟩ (.int .i64 ((k : Int) + 1))).setCell ⟨Q + 1, 0, none⟩ (.int .i64 ((k : Int)))).drewN nq9 = W9 at HN9 HB9 cs9 ci9 fi9 ⊢
          have HN10 := hide (HN9.out.set ((nw : Int)))
          have HB10 := hide (HB9.out.setCell (p := ⟨Q + 1, 0, none⟩) (show Q ≤ Q + 1 by omega) (.int .i64 ((nw : Int))))
          obtain ⟨cs10, ci10, fi10⟩ := HN10.out.get
          cases hN : Jsp.isIn [110] s nw with
          | true =>
            have HNt := hide hN
            have hNl := Jsp.isIn_lt hN
            go_wp2_with fail
            refine (jIs [110] s (nw) _ Q _ HN10.out (by omega) (by omega)).mono ?_
            rintro e w1 ⟨rfl, rfl⟩
            rw [hN]
            clear hN
            have HN11 := hide (HN10.out.set ((nw : Int) + 1))
            have HB11 := hide (HB10.out.setCell (p := ⟨Q + 1, 0, none⟩) (show Q ≤ Q + 1 by omega) (.int .i64 ((nw : Int) + 1)))
            obtain ⟨cs11, ci11, fi11⟩ := HN11.out.get
            go_wp2_with fail
            refine bodyPost_ret (v := .tuple #[.int .i64 ((nw + 1 : Nat) : Int), .bool true]) (by simp [results, Tryz.results70, go_sem, ci11] <;> omega) rfl ?_
            exact (HFIN ((Jsp.numA_n HX.out H46f.out HDw.out HNG.out (by rw [HNNw.out]; exact HNt.out)).trans (by rw [HNNw.out])) HB11.out rfl).out
          | false =>
            have HNf := hide hN
            go_wp2_with fail
            refine (jIs [110] s (nw) _ Q _ HN10.out (by omega) (by omega)).mono ?_
            rintro e w1 ⟨rfl, rfl⟩
            rw [hN]
            clear hN
            have HQC := hide ((Jsp.numA_C HX.out H46f.out HDw.out HNG.out (by rw [HNNw.out]; exact HNf.out)).trans (by rw [HNNw.out]))
            cases hP : Jsp.isIn [46] s (nw) with
            | false =>
              have HP := hide hP
              go_wp2_with fail
              refine (jIs [46] s (nw) _ Q _ HN10.out (by omega) (by omega)).mono ?_
              rintro e w1 ⟨rfl, rfl⟩
              rw [hP]
              clear hP
              have HEQ := hide (HQC.out.trans (Jsp.numC_no HP.out))
              cases hE : Jsp.isIn [101, 69] s (nw) with
              | false =>
                have HE := hide hE
                go_wp2_with fail
                refine (jIs [101, 69] s (nw) _ Q _ HN10.out (by omega) (by omega)).mono ?_
                rintro e w1 ⟨rfl, rfl⟩
                rw [hE]
                clear hE
                have HN12 := hide (HN10.out.set ((nw : Int)))
                have HB12 := hide (HB10.out.setCell (p := ⟨Q + 1, 0, none⟩) (show Q ≤ Q + 1 by omega) (.int .i64 ((nw : Int))))
                obtain ⟨cs12, ci12, fi12⟩ := HN12.out.get
                go_wp2_with fail
                refine bodyPost_ret (v := .tuple #[.int .i64 ((nw : Nat) : Int), .bool true]) (by simp [results, Tryz.results70, go_sem, ci12] <;> omega) rfl ?_
                exact (HFIN (HEQ.out.trans (Jsp.numD_no HE.out)) HB12.out rfl).out
              | true =>
                have HE := hide hE
                have hEl := Jsp.isIn_lt hE
                go_wp2_with fail
                refine (jIs [101, 69] s (nw) _ Q _ HN10.out (by omega) (by omega)).mono ?_
                rintro e w1 ⟨rfl, rfl⟩
                rw [hE]
                clear hE
                have HN13 := hide (HN10.out.set ((nw : Int) + 1))
                have HB13 := hide (HB10.out.setCell (p := ⟨Q + 1, 0, none⟩) (show Q ≤ Q + 1 by omega) (.int .i64 ((nw : Int) + 1)))
                obtain ⟨cs13, ci13, fi13⟩ := HN13.out.get
                cases hS : Jsp.isIn [43, 45] s (nw + 1) with
                | false =>
                  have HS := hide hS
                  go_wp2_with fail
                  refine (jIs [43, 45] s (nw + 1) _ Q _ HN13.out (by omega) (by omega)).mono ?_
                  rintro e w1 ⟨rfl, rfl⟩
                  rw [hS]
                  clear hS
                  obtain ⟨d1e, d2e, hde⟩ : ∃ a b, Jsp.digits 10 (s.drop (nw + 1)) = (a, b) := ⟨_, _, rfl⟩
                  have hbde := Jsp.digits_bound 10 s (nw + 1) (by omega)
                  rw [hde] at hbde
                  simp only at hbde
                  obtain ⟨ne, hne⟩ : ∃ a, nw + 1 + d1e = a := ⟨_, rfl⟩
                  have hgee : nw + 1 ≤ ne := by omega
                  have DGe := fun W => hide (jDig s (nw + 1) 10 ((nw : Int) + 1) (by omega) hde hne W (by omega) (by omega))
                  rw [hne] at hbde
                  have HDe := hide hde
                  have HNNe := hide hne
                  clear hde hne
                  go_wp2_with fail
                  refine (DGe _).out.mono ?_
                  rintro e w1 ⟨rfl, nq14, rfl⟩
                  have HN14 := hide (HN13.out.drewN nq14)
                  have HB14 := hide (HB13.out.trans ((belowN _ nq14).mono (by have := HB13.out.size; have := HQ.out; omega)))
                  obtain ⟨cs14, ci14, fi14⟩ := HN14.out.get
                  generalize ((W9.setCell ⟨Q + 1, 0, none⟩ (.int .i64 ((nw : Int)))).setCell ⟨Q + 1, 0, none⟩ (.int .i64 ((nw : Int) + 1))).drewN nq14 = W14 at HN14 HB14 cs14 ci14 fi14 ⊢
                  have HN15 := hide (HN14.out.set ((ne : Int)))
                  have HB15 := hide (HB14.out.setCell (p := ⟨Q + 1, 0, none⟩) (show Q ≤ Q + 1 by omega) (.int .i64 ((ne : Int))))
                  obtain ⟨cs15, ci15, fi15⟩ := HN15.out.get
                  go_wp2_with fail
                  refine bodyPost_ret (v := .tuple #[.int .i64 ((ne : Nat) : Int), .bool d2e]) (by simp [results, Tryz.results70, go_sem, ci15] <;> omega) rfl ?_
                  exact (HFIN (HEQ.out.trans ((Jsp.numD_plain HE.out HS.out HDe.out).trans (by rw [HNNe.out]))) HB15.out rfl).out
                | true =>
                  have HS := hide hS
                  have hSl := Jsp.isIn_lt hS
                  go_wp2_with fail
                  refine (jIs [43, 45] s (nw + 1) _ Q _ HN13.out (by omega) (by omega)).mono ?_
                  rintro e w1 ⟨rfl, rfl⟩
                  rw [hS]
                  clear hS
                  have HN16 := hide (HN13.out.set ((nw : Int) + 1 + 1))
                  have HB16 := hide (HB13.out.setCell (p := ⟨Q + 1, 0, none⟩) (show Q ≤ Q + 1 by omega) (.int .i64 ((nw : Int) + 1 + 1)))
                  obtain ⟨cs16, ci16, fi16⟩ := HN16.out.get
                  obtain ⟨d1e, d2e, hde⟩ : ∃ a b, Jsp.digits 10 (s.drop (nw + 2)) = (a, b) := ⟨_, _, rfl⟩
                  have hbde := Jsp.digits_bound 10 s (nw + 2) (by omega)
                  rw [hde] at hbde
                  simp only at hbde
                  obtain ⟨ne, hne⟩ : ∃ a, nw + 2 + d1e = a := ⟨_, rfl⟩
                  have hgee : nw + 2 ≤ ne := by omega
                  have DGe := fun W => hide (jDig s (nw + 2) 10 ((nw : Int) + 1 + 1) (by omega) hde hne W (by omega) (by omega))
                  rw [hne] at hbde
                  have HDe := hide hde
                  have HNNe := hide hne
                  clear hde hne
                  go_wp2_with fail
                  refine (DGe _).out.mono ?_
                  rintro e w1 ⟨rfl, nq17, rfl⟩
                  have HN17 := hide (HN16.out.drewN nq17)
                  have HB17 := hide (HB16.out.trans ((belowN _ nq17).mono (by have := HB16.out.size; have := HQ.out; omega)))
                  obtain ⟨cs17, ci17, fi17⟩ := HN17.out.get
                  generalize (((W9.setCell ⟨Q + 1, 0, none⟩ (.int .i64 ((nw : Int)))).setCell ⟨Q + 1, 0, none⟩ (.int .i64 ((nw : Int) + 1))).setCell ⟨Q + 1, 0, none⟩ (.int .i64 ((nw : Int) + 1 + 1))).drewN nq17 = W17 at HN17 HB17 cs17 ci17 fi17 ⊢
                  have HN18 := hide (HN17.out.set ((ne : Int)))
                  have HB18 := hide (HB17.out.setCell (p := ⟨Q + 1, 0, none⟩) (show Q ≤ Q + 1 by omega) (.int .i64 ((ne : Int))))
                  obtain ⟨cs18, ci18, fi18⟩ := HN18.out.get
                  go_wp2_with fail
                  refine bodyPost_ret (v := .tuple #[.int .i64 ((ne : Nat) : Int), .bool d2e]) (by simp [results, Tryz.results70, go_sem, ci18] <;> omega) rfl ?_
                  exact (HFIN (HEQ.out.trans ((Jsp.numD_sign HE.out HS.out HDe.out).trans (by rw [HNNe.out]))) HB18.out rfl).out
            | true =>
              have HP := hide hP
              have hPl := Jsp.isIn_lt hP
              go_wp2_with fail
              refine (jIs [46] s (nw) _ Q _ HN10.out (by omega) (by omega)).mono ?_
              rintro e w1 ⟨rfl, rfl⟩
              rw [hP]
              clear hP
              have HN19 := hide (HN10.out.set ((nw : Int) + 1))
              have HB19 := hide (HB10.out.setCell (p := ⟨Q + 1, 0, none⟩) (show Q ≤ Q + 1 by omega) (.int .i64 ((nw : Int) + 1)))
              obtain ⟨cs19, ci19, fi19⟩ := HN19.out.get
              cases hG : Jsp.isIn [48, 49, 50, 51, 52, 53, 54, 55, 56, 57, 95] s (nw + 1) with
              | false =>
                have HG := hide hG
                go_wp2_with fail
                refine (jIs [48, 49, 50, 51, 52, 53, 54, 55, 56, 57, 95] s (nw + 1) _ Q _ HN19.out (by omega) (by omega)).mono ?_
                rintro e w1 ⟨rfl, rfl⟩
                rw [hG]
                clear hG
                have HEQ := hide (HQC.out.trans (Jsp.numC_plain HP.out HG.out))
                cases hE : Jsp.isIn [101, 69] s (nw + 1) with
                | false =>
                  have HE := hide hE
                  go_wp2_with fail
                  refine (jIs [101, 69] s (nw + 1) _ Q _ HN19.out (by omega) (by omega)).mono ?_
                  rintro e w1 ⟨rfl, rfl⟩
                  rw [hE]
                  clear hE
                  have HN20 := hide (HN19.out.set ((nw : Int) + 1))
                  have HB20 := hide (HB19.out.setCell (p := ⟨Q + 1, 0, none⟩) (show Q ≤ Q + 1 by omega) (.int .i64 ((nw : Int) + 1)))
                  obtain ⟨cs20, ci20, fi20⟩ := HN20.out.get
                  go_wp2_with fail
                  refine bodyPost_ret (v := .tuple #[.int .i64 ((nw + 1 : Nat) : Int), .bool true]) (by simp [results, Tryz.results70, go_sem, ci20] <;> omega) rfl ?_
                  exact (HFIN (HEQ.out.trans (Jsp.numD_no HE.out)) HB20.out rfl).out
                | true =>
                  have HE := hide hE
                  have hEl := Jsp.isIn_lt hE
                  go_wp2_with fail
                  refine (jIs [101, 69] s (nw + 1) _ Q _ HN19.out (by omega) (by omega)).mono ?_
                  rintro e w1 ⟨rfl, rfl⟩
                  rw [hE]
                  clear hE
                  have HN21 := hide (HN19.out.set ((nw : Int) + 1 + 1))
                  have HB21 := hide (HB19.out.setCell (p := ⟨Q + 1, 0, none⟩) (show Q ≤ Q + 1 by omega) (.int .i64 ((nw : Int) + 1 + 1)))
                  obtain ⟨cs21, ci21, fi21⟩ := HN21.out.get
                  cases hS : Jsp.isIn [43, 45] s (nw + 1 + 1) with
                  | false =>
                    have HS := hide hS
                    go_wp2_with fail
                    refine (jIs [43, 45] s (nw + 1 + 1) _ Q _ HN21.out (by omega) (by omega)).mono ?_
                    rintro e w1 ⟨rfl, rfl⟩
                    rw [hS]
                    clear hS
                    obtain ⟨d1e, d2e, hde⟩ : ∃ a b, Jsp.digits 10 (s.drop (nw + 1 + 1)) = (a, b) := ⟨_, _, rfl⟩
                    have hbde := Jsp.digits_bound 10 s (nw + 1 + 1) (by omega)
                    rw [hde] at hbde
                    simp only at hbde
                    obtain ⟨ne, hne⟩ : ∃ a, nw + 1 + 1 + d1e = a := ⟨_, rfl⟩
                    have hgee : nw + 1 + 1 ≤ ne := by omega
                    have DGe := fun W => hide (jDig s (nw + 1 + 1) 10 ((nw : Int) + 1 + 1) (by omega) hde hne W (by omega) (by omega))
                    rw [hne] at hbde
                    have HDe := hide hde
                    have HNNe := hide hne
                    clear hde hne
                    go_wp2_with fail
                    refine (DGe _).out.mono ?_
                    rintro e w1 ⟨rfl, nq22, rfl⟩
                    have HN22 := hide (HN21.out.drewN nq22)
                    have HB22 := hide (HB21.out.trans ((belowN _ nq22).mono (by have := HB21.out.size; have := HQ.out; omega)))
                    obtain ⟨cs22, ci22, fi22⟩ := HN22.out.get
                    generalize (((W9.setCell ⟨Q + 1, 0, none⟩ (.int .i64 ((nw : Int)))).setCell ⟨Q + 1, 0, none⟩ (.int .i64 ((nw : Int) + 1))).setCell ⟨Q + 1, 0, none⟩ (.int .i64 ((nw : Int) + 1 + 1))).drewN nq22 = W22 at HN22 HB22 cs22 ci22 fi22 ⊢
                    have HN23 := hide (HN22.out.set ((ne : Int)))
                    have HB23 := hide (HB22.out.setCell (p := ⟨Q + 1, 0, none⟩) (show Q ≤ Q + 1 by omega) (.int .i64 ((ne : Int))))
                    obtain ⟨cs23, ci23, fi23⟩ := HN23.out.get
                    go_wp2_with fail
                    refine bodyPost_ret (v := .tuple #[.int .i64 ((ne : Nat) : Int), .bool d2e]) (by simp [results, Tryz.results70, go_sem, ci23] <;> omega) rfl ?_
                    exact (HFIN (HEQ.out.trans ((Jsp.numD_plain HE.out HS.out HDe.out).trans (by rw [HNNe.out]))) HB23.out rfl).out
                  | true =>
                    have HS := hide hS
                    have hSl := Jsp.isIn_lt hS
                    go_wp2_with fail
                    refine (jIs [43, 45] s (nw + 1 + 1) _ Q _ HN21.out (by omega) (by omega)).mono ?_
                    rintro e w1 ⟨rfl, rfl⟩
                    rw [hS]
                    clear hS
                    have HN24 := hide (HN21.out.set ((nw : Int) + 1 + 1 + 1))
                    have HB24 := hide (HB21.out.setCell (p := ⟨Q + 1, 0, none⟩) (show Q ≤ Q + 1 by omega) (.int .i64 ((nw : Int) + 1 + 1 + 1)))
                    obtain ⟨cs24, ci24, fi24⟩ := HN24.out.get
                    obtain ⟨d1e, d2e, hde⟩ : ∃ a b, Jsp.digits 10 (s.drop (nw + 1 + 2)) = (a, b) := ⟨_, _, rfl⟩
                    have hbde := Jsp.digits_bound 10 s (nw + 1 + 2) (by omega)
                    rw [hde] at hbde
                    simp only at hbde
                    obtain ⟨ne, hne⟩ : ∃ a, nw + 1 + 2 + d1e = a := ⟨_, rfl⟩
                    have hgee : nw + 1 + 2 ≤ ne := by omega
                    have DGe := fun W => hide (jDig s (nw + 1 + 2) 10 ((nw : Int) + 1 + 1 + 1) (by omega) hde hne W (by omega) (by omega))
                    rw [hne] at hbde
                    have HDe := hide hde
                    have HNNe := hide hne
                    clear hde hne
                    go_wp2_with fail
                    refine (DGe _).out.mono ?_
                    rintro e w1 ⟨rfl, nq25, rfl⟩
                    have HN25 := hide (HN24.out.drewN nq25)
                    have HB25 := hide (HB24.out.trans ((belowN _ nq25).mono (by have := HB24.out.size; have := HQ.out; omega)))
                    obtain ⟨cs25, ci25, fi25⟩ := HN25.out.get
                    generalize ((((W9.setCell ⟨Q + 1, 0, none⟩ (.int .i64 ((nw : Int)))).setCell ⟨Q + 1, 0, none⟩ (.int .i64 ((nw : Int) + 1))).setCell ⟨Q + 1, 0, none⟩ (.int .i64 ((nw : Int) + 1 + 1))).setCell ⟨Q + 1, 0, none⟩ (.int .i64 ((nw : Int) + 1 + 1 + 1))).drewN nq25 = W25 at HN25 HB25 cs25 ci25 fi25 ⊢
                    have HN26 := hide (HN25.out.set ((ne : Int)))
                    have HB26 := hide (HB25.out.setCell (p := ⟨Q + 1, 0, none⟩) (show Q ≤ Q + 1 by omega) (.int .i64 ((ne : Int))))
                    obtain ⟨cs26, ci26, fi26⟩ := HN26.out.get
                    go_wp2_with fail
                    refine bodyPost_ret (v := .tuple #[.int .i64 ((ne : Nat) : Int), .bool d2e]) (by simp [results, Tryz.results70, go_sem, ci26] <;> omega) rfl ?_
                    exact (HFIN (HEQ.out.trans ((Jsp.numD_sign HE.out HS.out HDe.out).trans (by rw [HNNe.out]))) HB26.out rfl).out
              | true =>
                have HG := hide hG
                have hGl := Jsp.isIn_lt hG
                go_wp2_with fail
                refine (jIs [48, 49, 50, 51, 52, 53, 54, 55, 56, 57, 95] s (nw + 1) _ Q _ HN19.out (by omega) (by omega)).mono ?_
                rintro e w1 ⟨rfl, rfl⟩
                rw [hG]
                clear hG
                obtain ⟨d1f, d2f, hdf⟩ : ∃ a b, Jsp.digits 10 (s.drop (nw + 1)) = (a, b) := ⟨_, _, rfl⟩
                have hbdf := Jsp.digits_bound 10 s (nw + 1) (by omega)
                rw [hdf] at hbdf
                simp only at hbdf
                obtain ⟨nf, hnf⟩ : ∃ a, nw + 1 + d1f = a := ⟨_, rfl⟩
                have hgef : nw + 1 ≤ nf := by omega
                have DGf := fun W => hide (jDig s (nw + 1) 10 ((nw : Int) + 1) (by omega) hdf hnf W (by omega) (by omega))
                rw [hnf] at hbdf
                have HDf := hide hdf
                have HNNf := hide hnf
                clear hdf hnf
                cases d2f with
                | false =>
                  go_wp2_with fail
                  refine (DGf _).out.mono ?_
                  rintro e w1 ⟨rfl, nq27, rfl⟩
                  have HN27 := hide (HN19.out.drewN nq27)
                  have HB27 := hide (HB19.out.trans ((belowN _ nq27).mono (by have := HB19.out.size; have := HQ.out; omega)))
                  obtain ⟨cs27, ci27, fi27⟩ := HN27.out.get
                  generalize ((W9.setCell ⟨Q + 1, 0, none⟩ (.int .i64 ((nw : Int)))).setCell ⟨Q + 1, 0, none⟩ (.int .i64 ((nw : Int) + 1))).drewN nq27 = W27 at HN27 HB27 cs27 ci27 fi27 ⊢
                  have HN28 := hide (HN27.out.set ((nf : Int)))
                  have HB28 := hide (HB27.out.setCell (p := ⟨Q + 1, 0, none⟩) (show Q ≤ Q + 1 by omega) (.int .i64 ((nf : Int))))
                  obtain ⟨cs28, ci28, fi28⟩ := HN28.out.get
                  have HN29 := hide (HN28.out.set ((nf : Int)))
                  have HB29 := hide (HB28.out.setCell (p := ⟨Q + 1, 0, none⟩) (show Q ≤ Q + 1 by omega) (.int .i64 ((nf : Int))))
                  obtain ⟨cs29, ci29, fi29⟩ := HN29.out.get
                  go_wp2_with fail
                  refine bodyPost_ret (v := .tuple #[.int .i64 ((nf : Nat) : Int), .bool false]) (by simp [results, Tryz.results70, go_sem, ci29] <;> omega) rfl ?_
                  exact (HFIN (HQC.out.trans ((Jsp.numC_bad HP.out HG.out HDf.out).trans (by rw [HNNf.out]))) HB29.out rfl).out
                | true =>
                  go_wp2_with fail
                  refine (DGf _).out.mono ?_
                  rintro e w1 ⟨rfl, nq30, rfl⟩
                  have HN30 := hide (HN19.out.drewN nq30)
                  have HB30 := hide (HB19.out.trans ((belowN _ nq30).mono (by have := HB19.out.size; have := HQ.out; omega)))
                  obtain ⟨cs30, ci30, fi30⟩ := HN30.out.get
                  generalize ((W9.setCell ⟨Q + 1, 0, none⟩ (.int .i64 ((nw : Int)))).setCell ⟨Q + 1, 0, none⟩ (.int .i64 ((nw : Int) + 1))).drewN nq30 = W30 at HN30 HB30 cs30 ci30 fi30 ⊢
                  have HN31 := hide (HN30.out.set ((nf : Int)))
                  have HB31 := hide (HB30.out.setCell (p := ⟨Q + 1, 0, none⟩) (show Q ≤ Q + 1 by omega) (.int .i64 ((nf : Int))))
                  obtain ⟨cs31, ci31, fi31⟩ := HN31.out.get
                  have HEQ := hide ((HQC.out.trans (Jsp.numC_dig HP.out HG.out HDf.out)).trans (by rw [HNNf.out]))
                  cases hE : Jsp.isIn [101, 69] s (nf) with
                  | false =>
                    have HE := hide hE
                    go_wp2_with fail
                    refine (jIs [101, 69] s (nf) _ Q _ HN31.out (by omega) (by omega)).mono ?_
                    rintro e w1 ⟨rfl, rfl⟩
                    rw [hE]
                    clear hE
                    have HN32 := hide (HN31.out.set ((nf : Int)))
                    have HB32 := hide (HB31.out.setCell (p := ⟨Q + 1, 0, none⟩) (show Q ≤ Q + 1 by omega) (.int .i64 ((nf : Int))))
                    obtain ⟨cs32, ci32, fi32⟩ := HN32.out.get
                    go_wp2_with fail
                    refine bodyPost_ret (v := .tuple #[.int .i64 ((nf : Nat) : Int), .bool true]) (by simp [results, Tryz.results70, go_sem, ci32] <;> omega) rfl ?_
                    exact (HFIN (HEQ.out.trans (Jsp.numD_no HE.out)) HB32.out rfl).out
                  | true =>
                    have HE := hide hE
                    have hEl := Jsp.isIn_lt hE
                    go_wp2_with fail
                    refine (jIs [101, 69] s (nf) _ Q _ HN31.out (by omega) (by omega)).mono ?_
                    rintro e w1 ⟨rfl, rfl⟩
                    rw [hE]
                    clear hE
                    have HN33 := hide (HN31.out.set ((nf : Int) + 1))
                    have HB33 := hide (HB31.out.setCell (p := ⟨Q + 1, 0, none⟩) (show Q ≤ Q + 1 by omega) (.int .i64 ((nf : Int) + 1)))
                    obtain ⟨cs33, ci33, fi33⟩ := HN33.out.get
                    cases hS : Jsp.isIn [43, 45] s (nf + 1) with
                    | false =>
                      have HS := hide hS
                      go_wp2_with fail
                      refine (jIs [43, 45] s (nf + 1) _ Q _ HN33.out (by omega) (by omega)).mono ?_
                      rintro e w1 ⟨rfl, rfl⟩
                      rw [hS]
                      clear hS
                      obtain ⟨d1e, d2e, hde⟩ : ∃ a b, Jsp.digits 10 (s.drop (nf + 1)) = (a, b) := ⟨_, _, rfl⟩
                      have hbde := Jsp.digits_bound 10 s (nf + 1) (by omega)
                      rw [hde] at hbde
                      simp only at hbde
                      obtain ⟨ne, hne⟩ : ∃ a, nf + 1 + d1e = a := ⟨_, rfl⟩
                      have hgee : nf + 1 ≤ ne := by omega
                      have DGe := fun W => hide (jDig s (nf + 1) 10 ((nf : Int) + 1) (by omega) hde hne W (by omega) (by omega))
                      rw [hne] at hbde
                      have HDe := hide hde
                      have HNNe := hide hne
                      clear hde hne
                      go_wp2_with fail
                      refine (DGe _).out.mono ?_
                      rintro e w1 ⟨rfl, nq34, rfl⟩
                      have HN34 := hide (HN33.out.drewN nq34)
                      have HB34 := hide (HB33.out.trans ((belowN _ nq34).mono (by have := HB33.out.size; have := HQ.out; omega)))
                      obtain ⟨cs34, ci34, fi34⟩ := HN34.out.get
                      generalize ((W30.setCell ⟨Q + 1, 0, none⟩ (.int .i64 ((nf : Int)))).setCell ⟨Q + 1, 0, none⟩ (.int .i64 ((nf : Int) + 1))).drewN nq34 = W34 at HN34 HB34 cs34 ci34 fi34 ⊢
                      have HN35 := hide (HN34.out.set ((ne : Int)))
                      have HB35 := hide (HB34.out.setCell (p := ⟨Q + 1, 0, none⟩) (show Q ≤ Q + 1 by omega) (.int .i64 ((ne : Int))))
                      obtain ⟨cs35, ci35, fi35⟩ := HN35.out.get
                      go_wp2_with fail
                      refine bodyPost_ret (v := .tuple #[.int .i64 ((ne : Nat) : Int), .bool d2e]) (by simp [results, Tryz.results70, go_sem, ci35] <;> omega) rfl ?_
                      exact (HFIN (HEQ.out.trans ((Jsp.numD_plain HE.out HS.out HDe.out).trans (by rw [HNNe.out]))) HB35.out rfl).out
                    | true =>
                      have HS := hide hS
                      have hSl := Jsp.isIn_lt hS
                      go_wp2_with fail
                      refine (jIs [43, 45] s (nf + 1) _ Q _ HN33.out (by omega) (by omega)).mono ?_
                      rintro e w1 ⟨rfl, rfl⟩
                      rw [hS]
                      clear hS
                      have HN36 := hide (HN33.out.set ((nf : Int) + 1 + 1))
                      have HB36 := hide (HB33.out.setCell (p := ⟨Q + 1, 0, none⟩) (show Q ≤ Q + 1 by omega) (.int .i64 ((nf : Int) + 1 + 1)))
                      obtain ⟨cs36, ci36, fi36⟩ := HN36.out.get
                      obtain ⟨d1e, d2e, hde⟩ : ∃ a b, Jsp.digits 10 (s.drop (nf + 2)) = (a, b) := ⟨_, _, rfl⟩
                      have hbde := Jsp.digits_bound 10 s (nf + 2) (by omega)
                      rw [hde] at hbde
                      simp only at hbde
                      obtain ⟨ne, hne⟩ : ∃ a, nf + 2 + d1e = a := ⟨_, rfl⟩
                      have hgee : nf + 2 ≤ ne := by omega
                      have DGe := fun W => hide (jDig s (nf + 2) 10 ((nf : Int) + 1 + 1) (by omega) hde hne W (by omega) (by omega))
                      rw [hne] at hbde
                      have HDe := hide hde
                      have HNNe := hide hne
                      clear hde hne
                      go_wp2_with fail
                      refine (DGe _).out.mono ?_
                      rintro e w1 ⟨rfl, nq37, rfl⟩
                      have HN37 := hide (HN36.out.drewN nq37)
                      have HB37 := hide (HB36.out.trans ((belowN _ nq37).mono (by have := HB36.out.size; have := HQ.out; omega)))
                      obtain ⟨cs37, ci37, fi37⟩ := HN37.out.get
                      generalize (((W30.setCell ⟨Q + 1, 0, none⟩ (.int .i64 ((nf : Int)))).setCell ⟨Q + 1, 0, none⟩ (.int .i64 ((nf : Int) + 1))).setCell ⟨Q + 1, 0, none⟩ (.int .i64 ((nf : Int) + 1 + 1))).drewN nq37 = W37 at HN37 HB37 cs37 ci37 fi37 ⊢
                      have HN38 := hide (HN37.out.set ((ne : Int)))
                      have HB38 := hide (HB37.out.setCell (p := ⟨Q + 1, 0, none⟩) (show Q ≤ Q + 1 by omega) (.int .i64 ((ne : Int))))
                      obtain ⟨cs38, ci38, fi38⟩ := HN38.out.get
                      go_wp2_with fail
                      refine bodyPost_ret (v := .tuple #[.int .i64 ((ne : Nat) : Int), .bool d2e]) (by simp [results, Tryz.results70, go_sem, ci38] <;> omega) rfl ?_
                      exact (HFIN (HEQ.out.trans ((Jsp.numD_sign HE.out HS.out HDe.out).trans (by rw [HNNe.out]))) HB38.out rfl).out
    | true =>
      have hxl := Jsp.isIn_lt hX
      obtain ⟨x, hx⟩ : ∃ x, s[k + 1] = x := ⟨_, rfl⟩
      have hx' : s[k + 1]? = some x := by rw [List.getElem?_eq_getElem hxl, hx]
      have hhex : Jsp.hexed s k := ⟨by rw [H48.out, H0.out]; rfl, hX⟩
      have hbn : Jsp.baseOf x ≠ 0 := by have := hX; rw [Jsp.isIn_base s _ x hx'] at this; simpa using this
      obtain ⟨z, hz1, hz2⟩ := base_look x hbn
      have HXX := hide hx'
      have HHEX := hide hhex
      have hxb := u8_lt x
      obtain ⟨bs, hbs⟩ : ∃ bs, Jsp.baseOf x = bs := ⟨_, rfl⟩
      rw [hbs] at hz2
      have HBS := hide hbs
      obtain ⟨d1h, d2h, hdh⟩ : ∃ a b, Jsp.digits bs (s.drop (k + 2)) = (a, b) := ⟨_, _, rfl⟩
      have hbdh := Jsp.digits_bound bs s (k + 2) (by omega)
      rw [hdh] at hbdh
      simp only at hbdh
      obtain ⟨nh, hnh⟩ : ∃ a, k + 2 + d1h = a := ⟨_, rfl⟩
      have hgeh : k + 2 ≤ nh := by omega
      have DGh := fun W => hide (jDig s (k + 2) bs ((k : Int) + 1 + 1) (by omega) hdh hnh W (by omega) (by omega))
      rw [hnh] at hbdh
      have HDh := hide hdh
      have HNNh := hide hnh
      clear hdh hnh
      clear hhex hbn hx' hbs
      go_wp2_with fail
      refine (jIs [120, 88, 111, 79, 98, 66] s (k + 1) _ Q _ HN1.out (by omega) (by omega)).mono ?_
      rintro e w1 ⟨rfl, rfl⟩
      rw [hX]
      clear hX
      generalize (W0.setCell ⟨Q + 1, 0, none⟩ (.int .i64 ((k : Int) + 1))) = W9 at HN1 HB1 cs1 ci1 fi1 ⊢
      obtain ⟨m1, m2, m3, r1, r2, r3, hkm, hbm⟩ := mBases W9
      have hlook := hkm.look Tryz.underlying129 Tryz.underlying5 z hz2
      have HNm := hide (HN1.out.below hbm)
      have HBm := hide (HB1.out.trans (hbm.mono (by have := HB1.out.size; have := HQ.out; omega)))
      obtain ⟨csm, cim, fim⟩ := HNm.out.get
      clear hkm hbm hz2
      have bk0 : (0 : Int) ≤ (k : Int) + 1 := by omega
      have bk1 : (k : Int) + 1 < (s.length : Int) := by omega
      have bk2 : ((k : Int) + 1).toNat = k + 1 := by omega
      go_wp2_with fail
      refine (DGh _).out.mono ?_
      rintro e w1 ⟨rfl, nq39, rfl⟩
      have HN39 := hide (HNm.out.drewN nq39)
      have HB39 := hide (HBm.out.trans ((belowN _ nq39).mono (by have := HBm.out.size; have := HQ.out; omega)))
      obtain ⟨cs39, ci39, fi39⟩ := HN39.out.get
      generalize m3.drewN nq39 = W39 at HN39 HB39 cs39 ci39 fi39 ⊢
      have HN40 := hide (HN39.out.set ((nh : Int)))
      have HB40 := hide (HB39.out.setCell (p := ⟨Q + 1, 0, none⟩) (show Q ≤ Q + 1 by omega) (.int .i64 ((nh : Int))))
      obtain ⟨cs40, ci40, fi40⟩ := HN40.out.get
      cases d2h with
      | false =>
        have HN41 := hide (HN40.out.set ((nh : Int)))
        have HB41 := hide (HB40.out.setCell (p := ⟨Q + 1, 0, none⟩) (show Q ≤ Q + 1 by omega) (.int .i64 ((nh : Int))))
        obtain ⟨cs41, ci41, fi41⟩ := HN41.out.get
        go_wp2_with fail
        refine bodyPost_ret (v := .tuple #[.int .i64 ((nh : Nat) : Int), .bool false]) (by simp [results, Tryz.results70, go_sem, ci41] <;> omega) rfl ?_
        exact (HFIN ((Jsp.numA_hex (d1 := d1h) (d2 := false) HHEX.out HXX.out (by rw [HBS.out]; exact HDh.out)).trans (by rw [if_neg (by simp), HNNh.out])) HB41.out rfl).out
      | true =>
        cases hN : Jsp.isIn [110] s nh with
        | true =>
          have HNt := hide hN
          have hNl := Jsp.isIn_lt hN
          go_wp2_with fail
          refine (jIs [110] s (nh) _ Q _ HN40.out (by omega) (by omega)).mono ?_
          rintro e w1 ⟨rfl, rfl⟩
          rw [hN]
          clear hN
          have HN42 := hide (HN40.out.set ((nh : Int) + 1))
          have HB42 := hide (HB40.out.setCell (p := ⟨Q + 1, 0, none⟩) (show Q ≤ Q + 1 by omega) (.int .i64 ((nh : Int) + 1)))
          obtain ⟨cs42, ci42, fi42⟩ := HN42.out.get
          have HN43 := hide (HN42.out.set ((nh : Int) + 1))
          have HB43 := hide (HB42.out.setCell (p := ⟨Q + 1, 0, none⟩) (show Q ≤ Q + 1 by omega) (.int .i64 ((nh : Int) + 1)))
          obtain ⟨cs43, ci43, fi43⟩ := HN43.out.get
          go_wp2_with fail
          refine bodyPost_ret (v := .tuple #[.int .i64 ((nh + 1 : Nat) : Int), .bool true]) (by simp [results, Tryz.results70, go_sem, ci43] <;> omega) rfl ?_
          exact (HFIN ((Jsp.numA_hex (d1 := d1h) (d2 := true) HHEX.out HXX.out (by rw [HBS.out]; exact HDh.out)).trans (by rw [HNNh.out, if_pos ⟨rfl, HNt.out⟩])) HB43.out rfl).out
        | false =>
          have HNf := hide hN
          go_wp2_with fail
          refine (jIs [110] s (nh) _ Q _ HN40.out (by omega) (by omega)).mono ?_
          rintro e w1 ⟨rfl, rfl⟩
          rw [hN]
          clear hN
          have HN44 := hide (HN40.out.set ((nh : Int)))
          have HB44 := hide (HB40.out.setCell (p := ⟨Q + 1, 0, none⟩) (show Q ≤ Q + 1 by omega) (.int .i64 ((nh : Int))))
          obtain ⟨cs44, ci44, fi44⟩ := HN44.out.get
          go_wp2_with fail
          refine bodyPost_ret (v := .tuple #[.int .i64 ((nh : Nat) : Int), .bool true]) (by simp [results, Tryz.results70, go_sem, ci44] <;> omega) rfl ?_
          exact (HFIN ((Jsp.numA_hex (d1 := d1h) (d2 := true) HHEX.out HXX.out (by rw [HBS.out]; exact HDh.out)).trans (by rw [HNNh.out, if_neg (fun h => by rw [HNf.out] at h; exact absurd h.2 (by decide))])) HB44.out rfl).out
  · have q48 : ((c.toNat : Int) == 48) = false := u8f h0
    have HC48 := hide h0
    have hnx : ¬ Jsp.hexed s k := fun h => by
      have := h.1
      rw [H48.out] at this
      exact HC48.out (by simpa using this)
    have HX := hide hnx
    clear hnx h0
    have HN45 := hide (HN0.out.set ((k : Int) + 1))
    have HB45 := hide (HB0.out.setCell (p := ⟨Q + 1, 0, none⟩) (show Q ≤ Q + 1 by omega) (.int .i64 ((k : Int) + 1)))
    obtain ⟨cs45, ci45, fi45⟩ := HN45.out.get
    have HN46 := hide (HN45.out.set ((k : Int)))
    have HB46 := hide (HB45.out.setCell (p := ⟨Q + 1, 0, none⟩) (show Q ≤ Q + 1 by omega) (.int .i64 ((k : Int))))
    obtain ⟨cs46, ci46, fi46⟩ := HN46.out.get
    by_cases h4 : c = 46
    · have q46 : ((c.toNat : Int) != 46) = false := u8y h4
      have hh46 : Jsp.isB (· == 46) (s.drop k) = true := by rw [H46.out, h4]; rfl
      have H46t := hide hh46
      clear h4 hh46
      have HQC := hide (Jsp.numA_dot H46t.out)
      cases hP : Jsp.isIn [46] s (k) with
      | false =>
        have HP := hide hP
        go_wp2_with fail
        refine (jIs [46] s (k) _ Q _ HN46.out (by omega) (by omega)).mono ?_
        rintro e w1 ⟨rfl, rfl⟩
        rw [hP]
        clear hP
        have HEQ := hide (HQC.out.trans (Jsp.numC_no HP.out))
        cases hE : Jsp.isIn [101, 69] s (k) with
        | false =>
          have HE := hide hE
          go_wp2_with fail
          refine (jIs [101, 69] s (k) _ Q _ HN46.out (by omega) (by omega)).mono ?_
          rintro e w1 ⟨rfl, rfl⟩
          rw [hE]
          clear hE
          have HN47 := hide (HN46.out.set ((k : Int)))
          have HB47 := hide (HB46.out.setCell (p := ⟨Q + 1, 0, none⟩) (show Q ≤ Q + 1 by omega) (.int .i64 ((k : Int))))
          obtain ⟨cs47, ci47, fi47⟩ := HN47.out.get
          go_wp2_with fail
          refine bodyPost_ret (v := .tuple #[.int .i64 ((k : Nat) : Int), .bool true]) (by simp [results, Tryz.results70, go_sem, ci47] <;> omega) rfl ?_
          exact (HFIN (HEQ.out.trans (Jsp.numD_no HE.out)) HB47.out rfl).out
        | true =>
          have HE := hide hE
          have hEl := Jsp.isIn_lt hE
          go_wp2_with fail
          refine (jIs [101, 69] s (k) _ Q _ HN46.out (by omega) (by omega)).mono ?_
          rintro e w1 ⟨rfl, rfl⟩
          rw [hE]
          clear hE
          have HN48 := hide (HN46.out.set ((k : Int) + 1))
          have HB48 := hide (HB46.out.setCell (p := ⟨Q + 1, 0, none⟩) (show Q ≤ Q + 1 by omega) (.int .i64 ((k : Int) + 1)))
          obtain ⟨cs48, ci48, fi48⟩ := HN48.out.get
          cases hS : Jsp.isIn [43, 45] s (k + 1) with
          | false =>
            have HS := hide hS
            go_wp2_with fail
            refine (jIs [43, 45] s (k + 1) _ Q _ HN48.out (by omega) (by omega)).mono ?_
            rintro e w1 ⟨rfl, rfl⟩
            rw [hS]
            clear hS
            obtain ⟨d1e, d2e, hde⟩ : ∃ a b, Jsp.digits 10 (s.drop (k + 1)) = (a, b) := ⟨_, _, rfl⟩
            have hbde := Jsp.digits_bound 10 s (k + 1) (by omega)
            rw [hde] at hbde
            simp only at hbde
            obtain ⟨ne, hne⟩ : ∃ a, k + 1 + d1e = a := ⟨_, rfl⟩
            have hgee : k + 1 ≤ ne := by omega
            have DGe := fun W => hide (jDig s (k + 1) 10 ((k : Int) + 1) (by omega) hde hne W (by omega) (by omega))
            rw [hne] at hbde
            have HDe := hide hde
            have HNNe := hide hne
            clear hde hne
            go_wp2_with fail
            refine (DGe _).out.mono ?_
            rintro e w1 ⟨rfl, nq49, rfl⟩
            have HN49 := hide (HN48.out.drewN nq49)
            have HB49 := hide (HB48.out.trans ((belowN _ nq49).mono (by have := HB48.out.size; have := HQ.out; omega)))
            obtain ⟨cs49, ci49, fi49⟩ := HN49.out.get
            generalize (((W0.setCell ⟨Q + 1, 0, none⟩ (.int .i64 ((k : Int) + 1))).setCell ⟨Q + 1, 0, none⟩ (.int .i64 ((k : Int)))).setCell ⟨Q + 1, 0, none⟩ (.int .i64 ((k : Int) + 1))).drewN nq49 = W49 at HN49 HB49 cs49 ci49 fi49 ⊢
            have HN50 := hide (HN49.out.set ((ne : Int)))
            have HB50 := hide (HB49.out.setCell (p := ⟨Q + 1, 0, none⟩) (show Q ≤ Q + 1 by omega) (.int .i64 ((ne : Int))))
            obtain ⟨cs50, ci50, fi50⟩ := HN50.out.get
            go_wp2_with fail
            refine bodyPost_ret (v := .tuple #[.int .i64 ((ne : Nat) : Int), .bool d2e]) (by simp [results, Tryz.results70, go_sem, ci50] <;> omega) rfl ?_
            exact (HFIN (HEQ.out.trans ((Jsp.numD_plain HE.out HS.out HDe.out).trans (by rw [HNNe.out]))) HB50.out rfl).out
          | true =>
            have HS := hide hS
            have hSl := Jsp.isIn_lt hS
            go_wp2_with fail
            refine (jIs [43, 45] s (k + 1) _ Q _ HN48.out (by omega) (by omega)).mono ?_
            rintro e w1 ⟨rfl, rfl⟩
            rw [hS]
            clear hS
            have HN51 := hide (HN48.out.set ((k : Int) + 1 + 1))
            have HB51 := hide (HB48.out.setCell (p := ⟨Q + 1, 0, none⟩) (show Q ≤ Q + 1 by omega) (.int .i64 ((k : Int) + 1 + 1)))
            obtain ⟨cs51, ci51, fi51⟩ := HN51.out.get
            obtain ⟨d1e, d2e, hde⟩ : ∃ a b, Jsp.digits 10 (s.drop (k + 2)) = (a, b) := ⟨_, _, rfl⟩
            have hbde := Jsp.digits_bound 10 s (k + 2) (by omega)
            rw [hde] at hbde
            simp only at hbde
            obtain ⟨ne, hne⟩ : ∃ a, k + 2 + d1e = a := ⟨_, rfl⟩
            have hgee : k + 2 ≤ ne := by omega
            have DGe := fun W => hide (jDig s (k + 2) 10 ((k : Int) + 1 + 1) (by omega) hde hne W (by omega) (by omega))
            rw [hne] at hbde
            have HDe := hide hde
            have HNNe := hide hne
            clear hde hne
            go_wp2_with fail
            refine (DGe _).out.mono ?_
            rintro e w1 ⟨rfl, nq52, rfl⟩
            have HN52 := hide (HN51.out.drewN nq52)
            have HB52 := hide (HB51.out.trans ((belowN _ nq52).mono (by have := HB51.out.size; have := HQ.out; omega)))
            obtain ⟨cs52, ci52, fi52⟩ := HN52.out.get
            generalize ((((W0.setCell ⟨Q + 1, 0, none⟩ (.int .i64 ((k : Int) + 1))).setCell ⟨Q + 1, 0, none⟩ (.int .i64 ((k : Int)))).setCell ⟨Q + 1, 0, none⟩ (.int .i64 ((k : Int) + 1))).setCell ⟨Q + 1, 0, none⟩ (.int .i64 ((k : Int) + 1 + 1))).drewN nq52 = W52 at HN52 HB52 cs52 ci52 fi52 ⊢
            have HN53 := hide (HN52.out.set ((ne : Int)))
            have HB53 := hide (HB52.out.setCell (p := ⟨Q + 1, 0, none⟩) (show Q ≤ Q + 1 by omega) (.int .i64 ((ne : Int))))
            obtain ⟨cs53, ci53, fi53⟩ := HN53.out.get
            go_wp2_with fail
            refine bodyPost_ret (v := .tuple #[.int .i64 ((ne : Nat) : Int), .bool d2e]) (by simp [results, Tryz.results70, go_sem, ci53] <;> omega) rfl ?_
            exact (HFIN (HEQ.out.trans ((Jsp.numD_sign HE.out HS.out HDe.out).trans (by rw [HNNe.out]))) HB53.out rfl).out
      | true =>
        have HP := hide hP
        have hPl := Jsp.isIn_lt hP
        go_wp2_with fail
        refine (jIs [46] s (k) _ Q _ HN46.out (by omega) (by omega)).mono ?_
        rintro e w1 ⟨rfl, rfl⟩
        rw [hP]
        clear hP
        have HN54 := hide (HN46.out.set ((k : Int) + 1))
        have HB54 := hide (HB46.out.setCell (p := ⟨Q + 1, 0, none⟩) (show Q ≤ Q + 1 by omega) (.int .i64 ((k : Int) + 1)))
        obtain ⟨cs54, ci54, fi54⟩ := HN54.out.get
        cases hG : Jsp.isIn [48, 49, 50, 51, 52, 53, 54, 55, 56, 57, 95] s (k + 1) with
        | false =>
          have HG := hide hG
          go_wp2_with fail
          refine (jIs [48, 49, 50, 51, 52, 53, 54, 55, 56, 57, 95] s (k + 1) _ Q _ HN54.out (by omega) (by omega)).mono ?_
          rintro e w1 ⟨rfl, rfl⟩
          rw [hG]
          clear hG
          have HEQ := hide (HQC.out.trans (Jsp.numC_plain HP.out HG.out))
          cases hE : Jsp.isIn [101, 69] s (k + 1) with
          | false =>
            have HE := hide hE
            go_wp2_with fail
            refine (jIs [101, 69] s (k + 1) _ Q _ HN54.out (by omega) (by omega)).mono ?_
            rintro e w1 ⟨rfl, rfl⟩
            rw [hE]
            clear hE
            have HN55 := hide (HN54.out.set ((k : Int) + 1))
            have HB55 := hide (HB54.out.setCell (p := ⟨Q + 1, 0, none⟩) (show Q ≤ Q + 1 by omega) (.int .i64 ((k : Int) + 1)))
            obtain ⟨cs55, ci55, fi55⟩ := HN55.out.get
            go_wp2_with fail
            refine bodyPost_ret (v := .tuple #[.int .i64 ((k + 1 : Nat) : Int), .bool true]) (by simp [results, Tryz.results70, go_sem, ci55] <;> omega) rfl ?_
            exact (HFIN (HEQ.out.trans (Jsp.numD_no HE.out)) HB55.out rfl).out
          | true =>
            have HE := hide hE
            have hEl := Jsp.isIn_lt hE
            go_wp2_with fail
            refine (jIs [101, 69] s (k + 1) _ Q _ HN54.out (by omega) (by omega)).mono ?_
            rintro e w1 ⟨rfl, rfl⟩
            rw [hE]
            clear hE
            have HN56 := hide (HN54.out.set ((k : Int) + 1 + 1))
            have HB56 := hide (HB54.out.setCell (p := ⟨Q + 1, 0, none⟩) (show Q ≤ Q + 1 by omega) (.int .i64 ((k : Int) + 1 + 1)))
            obtain ⟨cs56, ci56, fi56⟩ := HN56.out.get
            cases hS : Jsp.isIn [43, 45] s (k + 1 + 1) with
            | false =>
              have HS := hide hS
              go_wp2_with fail
              refine (jIs [43, 45] s (k + 1 + 1) _ Q _ HN56.out (by omega) (by omega)).mono ?_
              rintro e w1 ⟨rfl, rfl⟩
              rw [hS]
              clear hS
              obtain ⟨d1e, d2e, hde⟩ : ∃ a b, Jsp.digits 10 (s.drop (k + 1 + 1)) = (a, b) := ⟨_, _, rfl⟩
              have hbde := Jsp.digits_bound 10 s (k + 1 + 1) (by omega)
              rw [hde] at hbde
              simp only at hbde
              obtain ⟨ne, hne⟩ : ∃ a, k + 1 + 1 + d1e = a := ⟨_, rfl⟩
              have hgee : k + 1 + 1 ≤ ne := by omega
              have DGe := fun W => hide (jDig s (k + 1 + 1) 10 ((k : Int) + 1 + 1) (by omega) hde hne W (by omega) (by omega))
              rw [hne] at hbde
              have HDe := hide hde
              have HNNe := hide hne
              clear hde hne
              go_wp2_with fail
              refine (DGe _).out.mono ?_
              rintro e w1 ⟨rfl, nq57, rfl⟩
              have HN57 := hide (HN56.out.drewN nq57)
              have HB57 := hide (HB56.out.trans ((belowN _ nq57).mono (by have := HB56.out.size; have := HQ.out; omega)))
              obtain ⟨cs57, ci57, fi57⟩ := HN57.out.get
              generalize ((((W0.setCell ⟨Q + 1, 0, none⟩ (.int .i64 ((k : Int) + 1))).setCell ⟨Q + 1, 0, none⟩ (.int .i64 ((k : Int)))).setCell ⟨Q + 1, 0, none⟩ (.int .i64 ((k : Int) + 1))).setCell ⟨Q + 1, 0, none⟩ (.int .i64 ((k : Int) + 1 + 1))).drewN nq57 = W57 at HN57 HB57 cs57 ci57 fi57 ⊢
              have HN58 := hide (HN57.out.set ((ne : Int)))
              have HB58 := hide (HB57.out.setCell (p := ⟨Q + 1, 0, none⟩) (show Q ≤ Q + 1 by omega) (.int .i64 ((ne : Int))))
              obtain ⟨cs58, ci58, fi58⟩ := HN58.out.get
              go_wp2_with fail
              refine bodyPost_ret (v := .tuple #[.int .i64 ((ne : Nat) : Int), .bool d2e]) (by simp [results, Tryz.results70, go_sem, ci58] <;> omega) rfl ?_
              exact (HFIN (HEQ.out.trans ((Jsp.numD_plain HE.out HS.out HDe.out).trans (by rw [HNNe.out]))) HB58.out rfl).out
            | true =>
              have HS := hide hS
              have hSl := Jsp.isIn_lt hS
              go_wp2_with fail
              refine (jIs [43, 45] s (k + 1 + 1) _ Q _ HN56.out (by omega) (by omega)).mono ?_
              rintro e w1 ⟨rfl, rfl⟩
              rw [hS]
              clear hS
              have HN59 := hide (HN56.out.set ((k : Int) + 1 + 1 + 1))
              have HB59 := hide (HB56.out.setCell (p := ⟨Q + 1, 0, none⟩) (show Q ≤ Q + 1 by omega) (.int .i64 ((k : Int) + 1 + 1 + 1)))
              obtain ⟨cs59, ci59, fi59⟩ := HN59.out.get
              obtain ⟨d1e, d2e, hde⟩ : ∃ a b, Jsp.digits 10 (s.drop (k + 1 + 2)) = (a, b) := ⟨_, _, rfl⟩
              have hbde := Jsp.digits_bound 10 s (k + 1 + 2) (by omega)
              rw [hde] at hbde
              simp only at hbde
              obtain ⟨ne, hne⟩ : ∃ a, k + 1 + 2 + d1e = a := ⟨_, rfl⟩
              have hgee : k + 1 + 2 ≤ ne := by omega
              have DGe := fun W => hide (jDig s (k + 1 + 2) 10 ((k : Int) + 1 + 1 + 1) (by omega) hde hne W (by omega) (by omega))
              rw [hne] at hbde
              have HDe := hide hde
              have HNNe := hide hne
              clear hde hne
              go_wp2_with fail
              refine (DGe _).out.mono ?_
              rintro e w1 ⟨rfl, nq60, rfl⟩
              have HN60 := hide (HN59.out.drewN nq60)
              have HB60 := hide (HB59.out.trans ((belowN _ nq60).mono (by have := HB59.out.size; have := HQ.out; omega)))
              obtain ⟨cs60, ci60, fi60⟩ := HN60.out.get
              generalize (((((W0.setCell ⟨Q + 1, 0, none⟩ (.int .i64 ((k : Int) + 1))).setCell ⟨Q + 1, 0, none⟩ (.int .i64 ((k : Int)))).setCell ⟨Q + 1, 0, none⟩ (.int .i64 ((k : Int) + 1))).setCell ⟨Q + 1, 0, none⟩ (.int .i64 ((k : Int) + 1 + 1))).setCell ⟨Q + 1, 0, none⟩ (.int .i64 ((k : Int) + 1 + 1 + 1))).drewN nq60 = W60 at HN60 HB60 cs60 ci60 fi60 ⊢
              have HN61 := hide (HN60.out.set ((ne : Int)))
              have HB61 := hide (HB60.out.setCell (p := ⟨Q + 1, 0, none⟩) (show Q ≤ Q + 1 by omega) (.int .i64 ((ne : Int))))
              obtain ⟨cs61, ci61, fi61⟩ := HN61.out.get
              go_wp2_with fail
              refine bodyPost_ret (v := .tuple #[.int .i64 ((ne : Nat) : Int), .bool d2e]) (by simp [results, Tryz.results70, go_sem, ci61] <;> omega) rfl ?_
              exact (HFIN (HEQ.out.trans ((Jsp.numD_sign HE.out HS.out HDe.out).trans (by rw [HNNe.out]))) HB61.out rfl).out
        | true =>
          have HG := hide hG
          have hGl := Jsp.isIn_lt hG
          go_wp2_with fail
          refine (jIs [48, 49, 50, 51, 52, 53, 54, 55, 56, 57, 95] s (k + 1) _ Q _ HN54.out (by omega) (by omega)).mono ?_
          rintro e w1 ⟨rfl, rfl⟩
          rw [hG]
          clear hG
          obtain ⟨d1f, d2f, hdf⟩ : ∃ a b, Jsp.digits 10 (s.drop (k + 1)) = (a, b) := ⟨_, _, rfl⟩
          have hbdf := Jsp.digits_bound 10 s (k + 1) (by omega)
          rw [hdf] at hbdf
          simp only at hbdf
          obtain ⟨nf, hnf⟩ : ∃ a, k + 1 + d1f = a := ⟨_, rfl⟩
          have hgef : k + 1 ≤ nf := by omega
          have DGf := fun W => hide (jDig s (k + 1) 10 ((k : Int) + 1) (by omega) hdf hnf W (by omega) (by omega))
          rw [hnf] at hbdf
          have HDf := hide hdf
          have HNNf := hide hnf
          clear hdf hnf
          cases d2f with
          | false =>
            go_wp2_with fail
            refine (DGf _).out.mono ?_
            rintro e w1 ⟨rfl, nq62, rfl⟩
            have HN62 := hide (HN54.out.drewN nq62)
            have HB62 := hide (HB54.out.trans ((belowN _ nq62).mono (by have := HB54.out.size; have := HQ.out; omega)))
            obtain ⟨cs62, ci62, fi62⟩ := HN62.out.get
            generalize (((W0.setCell ⟨Q + 1, 0, none⟩ (.int .i64 ((k : Int) + 1))).setCell ⟨Q + 1, 0, none⟩ (.int .i64 ((k : Int)))).setCell ⟨Q + 1, 0, none⟩ (.int .i64 ((k : Int) + 1))).drewN nq62 = W62 at HN62 HB62 cs62 ci62 fi62 ⊢
            have HN63 := hide (HN62.out.set ((nf : Int)))
            have HB63 := hide (HB62.out.setCell (p := ⟨Q + 1, 0, none⟩) (show Q ≤ Q + 1 by omega) (.int .i64 ((nf : Int))))
            obtain ⟨cs63, ci63, fi63⟩ := HN63.out.get
            have HN64 := hide (HN63.out.set ((nf : Int)))
            have HB64 := hide (HB63.out.setCell (p := ⟨Q + 1, 0, none⟩) (show Q ≤ Q + 1 by omega) (.int .i64 ((nf : Int))))
            obtain ⟨cs64, ci64, fi64⟩ := HN64.out.get
            go_wp2_with fail
            refine bodyPost_ret (v := .tuple #[.int .i64 ((nf : Nat) : Int), .bool false]) (by simp [results, Tryz.results70, go_sem, ci64] <;> omega) rfl ?_
            exact (HFIN (HQC.out.trans ((Jsp.numC_bad HP.out HG.out HDf.out).trans (by rw [HNNf.out]))) HB64.out rfl).out
          | true =>
            go_wp2_with fail
            refine (DGf _).out.mono ?_
            rintro e w1 ⟨rfl, nq65, rfl⟩
            have HN65 := hide (HN54.out.drewN nq65)
            have HB65 := hide (HB54.out.trans ((belowN _ nq65).mono (by have := HB54.out.size; have := HQ.out; omega)))
            obtain ⟨cs65, ci65, fi65⟩ := HN65.out.get
            generalize (((W0.setCell ⟨Q + 1, 0, none⟩ (.int .i64 ((k : Int) + 1))).setCell ⟨Q + 1, 0, none⟩ (.int .i64 ((k : Int)))).setCell ⟨Q + 1, 0, none⟩ (.int .i64 ((k : Int) + 1))).drewN nq65 = W65 at HN65 HB65 cs65 ci65 fi65 ⊢
            have HN66 := hide (HN65.out.set ((nf : Int)))
            have HB66 := hide (HB65.out.setCell (p := ⟨Q + 1, 0, none⟩) (show Q ≤ Q + 1 by omega) (.int .i64 ((nf : Int))))
            obtain ⟨cs66, ci66, fi66⟩ := HN66.out.get
            have HEQ := hide ((HQC.out.trans (Jsp.numC_dig HP.out HG.out HDf.out)).trans (by rw [HNNf.out]))
            cases hE : Jsp.isIn [101, 69] s (nf) with
            | false =>
              have HE := hide hE
              go_wp2_with fail
              refine (jIs [101, 69] s (nf) _ Q _ HN66.out (by omega) (by omega)).mono ?_
              rintro e w1 ⟨rfl, rfl⟩
              rw [hE]
              clear hE
              have HN67 := hide (HN66.out.set ((nf : Int)))
              have HB67 := hide (HB66.out.setCell (p := ⟨Q + 1, 0, none⟩) (show Q ≤ Q + 1 by omega) (.int .i64 ((nf : Int))))
              obtain ⟨cs67, ci67, fi67⟩ := HN67.out.get
              go_wp2_with fail
              refine bodyPost_ret (v := .tuple #[.int .i64 ((nf : Nat) : Int), .bool true]) (by simp [results, Tryz.results70, go_sem, ci67] <;> omega) rfl ?_
              exact (HFIN (HEQ.out.trans (Jsp.numD_no HE.out)) HB67.out rfl).out
            | true =>
              have HE := hide hE
              have hEl := Jsp.isIn_lt hE
              go_wp2_with fail
              refine (jIs [101, 69] s (nf) _ Q _ HN66.out (by omega) (by omega)).mono ?_
              rintro e w1 ⟨rfl, rfl⟩
              rw [hE]
              clear hE
              have HN68 := hide (HN66.out.set ((nf : Int) + 1))
              have HB68 := hide (HB66.out.setCell (p := ⟨Q + 1, 0, none⟩) (show Q ≤ Q + 1 by omega) (.int .i64 ((nf : Int) + 1)))
              obtain ⟨cs68, ci68, fi68⟩ := HN68.out.get
              cases hS : Jsp.isIn [43, 45] s (nf + 1) with
              | false =>
                have HS := hide hS
                go_wp2_with fail
                refine (jIs [43, 45] s (nf + 1) _ Q _ HN68.out (by omega) (by omega)).mono ?_
                rintro e w1 ⟨rfl, rfl⟩
                rw [hS]
                clear hS
                obtain ⟨d1e, d2e, hde⟩ : ∃ a b, Jsp.digits 10 (s.drop (nf + 1)) = (a, b) := ⟨_, _, rfl⟩
                have hbde := Jsp.digits_bound 10 s (nf + 1) (by omega)
                rw [hde] at hbde
                simp only at hbde
                obtain ⟨ne, hne⟩ : ∃ a, nf + 1 + d1e = a := ⟨_, rfl⟩
                have hgee : nf + 1 ≤ ne := by omega
                have DGe := fun W => hide (jDig s (nf + 1) 10 ((nf : Int) + 1) (by omega) hde hne W (by omega) (by omega))
                rw [hne] at hbde
                have HDe := hide hde
                have HNNe := hide hne
                clear hde hne
                go_wp2_with fail
                refine (DGe _).out.mono ?_
                rintro e w1 ⟨rfl, nq69, rfl⟩
                have HN69 := hide (HN68.out.drewN nq69)
                have HB69 := hide (HB68.out.trans ((belowN _ nq69).mono (by have := HB68.out.size; have := HQ.out; omega)))
                obtain ⟨cs69, ci69, fi69⟩ := HN69.out.get
                generalize ((W65.setCell ⟨Q + 1, 0, none⟩ (.int .i64 ((nf : Int)))).setCell ⟨Q + 1, 0, none⟩ (.int .i64 ((nf : Int) + 1))).drewN nq69 = W69 at HN69 HB69 cs69 ci69 fi69 ⊢
                have HN70 := hide (HN69.out.set ((ne : Int)))
                have HB70 := hide (HB69.out.setCell (p := ⟨Q + 1, 0, none⟩) (show Q ≤ Q + 1 by omega) (.int .i64 ((ne : Int))))
                obtain ⟨cs70, ci70, fi70⟩ := HN70.out.get
                go_wp2_with fail
                refine bodyPost_ret (v := .tuple #[.int .i64 ((ne : Nat) : Int), .bool d2e]) (by simp [results, Tryz.results70, go_sem, ci70] <;> omega) rfl ?_
                exact (HFIN (HEQ.out.trans ((Jsp.numD_plain HE.out HS.out HDe.out).trans (by rw [HNNe.out]))) HB70.out rfl).out
              | true =>
                have HS := hide hS
                have hSl := Jsp.isIn_lt hS
                go_wp2_with fail
                refine (jIs [43, 45] s (nf + 1) _ Q _ HN68.out (by omega) (by omega)).mono ?_
                rintro e w1 ⟨rfl, rfl⟩
                rw [hS]
                clear hS
                have HN71 := hide (HN68.out.set ((nf : Int) + 1 + 1))
                have HB71 := hide (HB68.out.setCell (p := ⟨Q + 1, 0, none⟩) (show Q ≤ Q + 1 by omega) (.int .i64 ((nf : Int) + 1 + 1)))
                obtain ⟨cs71, ci71, fi71⟩ := HN71.out.get
                obtain ⟨d1e, d2e, hde⟩ : ∃ a b, Jsp.digits 10 (s.drop (nf + 2)) = (a, b) := ⟨_, _, rfl⟩
                have hbde := Jsp.digits_bound 10 s (nf + 2) (by omega)
                rw [hde] at hbde
                simp only at hbde
                obtain ⟨ne, hne⟩ : ∃ a, nf + 2 + d1e = a := ⟨_, rfl⟩
                have hgee : nf + 2 ≤ ne := by omega
                have DGe := fun W => hide (jDig s (nf + 2) 10 ((nf : Int) + 1 + 1) (by omega) hde hne W (by omega) (by omega))
                rw [hne] at hbde
                have HDe := hide hde
                have HNNe := hide hne
                clear hde hne
                go_wp2_with fail
                refine (DGe _).out.mono ?_
                rintro e w1 ⟨rfl, nq72, rfl⟩
                have HN72 := hide (HN71.out.drewN nq72)
                have HB72 := hide (HB71.out.trans ((belowN _ nq72).mono (by have := HB71.out.size; have := HQ.out; omega)))
                obtain ⟨cs72, ci72, fi72⟩ := HN72.out.get
                generalize (((W65.setCell ⟨Q + 1, 0, none⟩ (.int .i64 ((nf : Int)))).setCell ⟨Q + 1, 0, none⟩ (.int .i64 ((nf : Int) + 1))).setCell ⟨Q + 1, 0, none⟩ (.int .i64 ((nf : Int) + 1 + 1))).drewN nq72 = W72 at HN72 HB72 cs72 ci72 fi72 ⊢
                have HN73 := hide (HN72.out.set ((ne : Int)))
                have HB73 := hide (HB72.out.setCell (p := ⟨Q + 1, 0, none⟩) (show Q ≤ Q + 1 by omega) (.int .i64 ((ne : Int))))
                obtain ⟨cs73, ci73, fi73⟩ := HN73.out.get
                go_wp2_with fail
                refine bodyPost_ret (v := .tuple #[.int .i64 ((ne : Nat) : Int), .bool d2e]) (by simp [results, Tryz.results70, go_sem, ci73] <;> omega) rfl ?_
                exact (HFIN (HEQ.out.trans ((Jsp.numD_sign HE.out HS.out HDe.out).trans (by rw [HNNe.out]))) HB73.out rfl).out
    · have q46 : ((c.toNat : Int) != 46) = true := u8n h4
      have hh46 : Jsp.isB (· == 46) (s.drop k) = false := by rw [H46.out]; exact beq_eq_false_iff_ne.2 h4
      have H46f := hide hh46
      clear h4 hh46
      obtain ⟨d1w, d2w, hdw⟩ : ∃ a b, Jsp.digits 10 (s.drop (k)) = (a, b) := ⟨_, _, rfl⟩
      have hbdw := Jsp.digits_bound 10 s (k) (by omega)
      rw [hdw] at hbdw
      simp only at hbdw
      obtain ⟨nw, hnw⟩ : ∃ a, k + d1w = a := ⟨_, rfl⟩
      have hgew : k ≤ nw := by omega
      have DGw := fun W => hide (jDig s (k) 10 ((k : Int)) (by omega) hdw hnw W (by omega) (by omega))
      rw [hnw] at hbdw
      have HDw := hide hdw
      have HNNw := hide hnw
      clear hdw hnw
      cases d2w with
      | false =>
        go_wp2_with fail
        refine (DGw _).out.mono ?_
        rintro e w1 ⟨rfl, nq74, rfl⟩
        have HN74 := hide (HN46.out.drewN nq74)
        have HB74 := hide (HB46.out.trans ((belowN _ nq74).mono (by have := HB46.out.size; have := HQ.out; omega)))
        obtain ⟨cs74, ci74, fi74⟩ := HN74.out.get
        generalize ((W0.setCell ⟨Q + 1, 0, none⟩ (.int .i64 ((k : Int) + 1))).setCell ⟨Q + 1, 0, none⟩ (.int .i64 ((k : Int)))).drewN nq74 = W74 at HN74 HB74 cs74 ci74 fi74 ⊢
        have HN75 := hide (HN74.out.set ((nw : Int)))
        have HB75 := hide (HB74.out.setCell (p := ⟨Q + 1, 0, none⟩) (show Q ≤ Q + 1 by omega) (.int .i64 ((nw : Int))))
        obtain ⟨cs75, ci75, fi75⟩ := HN75.out.get
        have HN76 := hide (HN75.out.set ((nw : Int)))
        have HB76 := hide (HB75.out.setCell (p := ⟨Q + 1, 0, none⟩) (show Q ≤ Q + 1 by omega) (.int .i64 ((nw : Int))))
        obtain ⟨cs76, ci76, fi76⟩ := HN76.out.get
        go_wp2_with fail
        refine bodyPost_ret (v := .tuple #[.int .i64 ((nw : Nat) : Int), .bool false]) (by simp [results, Tryz.results70, go_sem, ci76] <;> omega) rfl ?_
        exact (HFIN ((Jsp.numA_bad HX.out H46f.out HDw.out (.inl rfl)).trans (by rw [HNNw.out])) HB76.out rfl).out
      | true =>
        have hng : ¬ (true = false ∨ (Jsp.isB (· == 48) (s.drop k) = true ∧ 1 < d1w)) := by
          rintro (h | ⟨h, _⟩)
          · cases h
          · rw [H48.out] at h
            exact HC48.out (by simpa using h)
        have HNG := hide hng
        clear hng
        go_wp2_with fail
        refine (DGw _).out.mono ?_
        rintro e w1 ⟨rfl, nq77, rfl⟩
        have HN77 := hide (HN46.out.drewN nq77)
        have HB77 := hide (HB46.out.trans ((belowN _ nq77).mono (by have := HB46.out.size; have := HQ.out; omega)))
        obtain ⟨cs77, ci77, fi77⟩ := HN77.out.get
        generalize ((W0.setCell ⟨Q + 1, 0, none⟩ (.int .i64 ((k : Int) + 1))).setCell ⟨Q + 1, 0, none⟩ (.int .i64 ((k : Int)))).drewN nq77 = W77 at HN77 HB77 cs77 ci77 fi77 ⊢
        have HN78 := hide (HN77.out.set ((nw : Int)))
        have HB78 := hide (HB77.out.setCell (p := ⟨Q + 1, 0, none⟩) (show Q ≤ Q + 1 by omega) (.int .i64 ((nw : Int))))
        obtain ⟨cs78, ci78, fi78⟩ := HN78.out.get
        cases hN : Jsp.isIn [110] s nw with
        | true =>
          have HNt := hide hN
          have hNl := Jsp.isIn_lt hN
          go_wp2_with fail
          refine (jIs [110] s (nw) _ Q _ HN78.out (by omega) (by omega)).mono ?_
          rintro e w1 ⟨rfl, rfl⟩
          rw [hN]
          clear hN
          have HN79 := hide (HN78.out.set ((nw : Int) + 1))
          have HB79 := hide (HB78.out.setCell (p := ⟨Q + 1, 0, none⟩) (show Q ≤ Q + 1 by omega) (.int .i64 ((nw : Int) + 1)))
          obtain ⟨cs79, ci79, fi79⟩ := HN79.out.get
          go_wp2_with fail
          refine bodyPost_ret (v := .tuple #[.int .i64 ((nw + 1 : Nat) : Int), .bool true]) (by simp [results, Tryz.results70, go_sem, ci79] <;> omega) rfl ?_
          exact (HFIN ((Jsp.numA_n HX.out H46f.out HDw.out HNG.out (by rw [HNNw.out]; exact HNt.out)).trans (by rw [HNNw.out])) HB79.out rfl).out
        | false =>
          have HNf := hide hN
          go_wp2_with fail
          refine (jIs [110] s (nw) _ Q _ HN78.out (by omega) (by omega)).mono ?_
          rintro e w1 ⟨rfl, rfl⟩
          rw [hN]
          clear hN
          have HQC := hide ((Jsp.numA_C HX.out H46f.out HDw.out HNG.out (by rw [HNNw.out]; exact HNf.out)).trans (by rw [HNNw.out]))
          cases hP : Jsp.isIn [46] s (nw) with
          | false =>
            have HP := hide hP
            go_wp2_with fail
            refine (jIs [46] s (nw) _ Q _ HN78.out (by omega) (by omega)).mono ?_
            rintro e w1 ⟨rfl, rfl⟩
            rw [hP]
            clear hP
            have HEQ := hide (HQC.out.trans (Jsp.numC_no HP.out))
            cases hE : Jsp.isIn [101, 69] s (nw) with
            | false =>
              have HE := hide hE
              go_wp2_with fail
              refine (jIs [101, 69] s (nw) _ Q _ HN78.out (by omega) (by omega)).mono ?_
              rintro e w1 ⟨rfl, rfl⟩
              rw [hE]
              clear hE
              have HN80 := hide (HN78.out.set ((nw : Int)))
              have HB80 := hide (HB78.out.setCell (p := ⟨Q + 1, 0, none⟩) (show Q ≤ Q + 1 by omega) (.int .i64 ((nw : Int))))
              obtain ⟨cs80, ci80, fi80⟩ := HN80.out.get
              go_wp2_with fail
              refine bodyPost_ret (v := .tuple #[.int .i64 ((nw : Nat) : Int), .bool true]) (by simp [results, Tryz.results70, go_sem, ci80] <;> omega) rfl ?_
              exact (HFIN (HEQ.out.trans (Jsp.numD_no HE.out)) HB80.out rfl).out
            | true =>
              have HE := hide hE
              have hEl := Jsp.isIn_lt hE
              go_wp2_with fail
              refine (jIs [101, 69] s (nw) _ Q _ HN78.out (by omega) (by omega)).mono ?_
              rintro e w1 ⟨rfl, rfl⟩
              rw [hE]
              clear hE
              have HN81 := hide (HN78.out.set ((nw : Int) + 1))
              have HB81 := hide (HB78.out.setCell (p := ⟨Q + 1, 0, none⟩) (show Q ≤ Q + 1 by omega) (.int .i64 ((nw : Int) + 1)))
              obtain ⟨cs81, ci81, fi81⟩ := HN81.out.get
              cases hS : Jsp.isIn [43, 45] s (nw + 1) with
              | false =>
                have HS := hide hS
                go_wp2_with fail
                refine (jIs [43, 45] s (nw + 1) _ Q _ HN81.out (by omega) (by omega)).mono ?_
                rintro e w1 ⟨rfl, rfl⟩
                rw [hS]
                clear hS
                obtain ⟨d1e, d2e, hde⟩ : ∃ a b, Jsp.digits 10 (s.drop (nw + 1)) = (a, b) := ⟨_, _, rfl⟩
                have hbde := Jsp.digits_bound 10 s (nw + 1) (by omega)
                rw [hde] at hbde
                simp only at hbde
                obtain ⟨ne, hne⟩ : ∃ a, nw + 1 + d1e = a := ⟨_, rfl⟩
                have hgee : nw + 1 ≤ ne := by omega
                have DGe := fun W => hide (jDig s (nw + 1) 10 ((nw : Int) + 1) (by omega) hde hne W (by omega) (by omega))
                rw [hne] at hbde
                have HDe := hide hde
                have HNNe := hide hne
                clear hde hne
                go_wp2_with fail
                refine (DGe _).out.mono ?_
                rintro e w1 ⟨rfl, nq82, rfl⟩
                have HN82 := hide (HN81.out.drewN nq82)
                have HB82 := hide (HB81.out.trans ((belowN _ nq82).mono (by have := HB81.out.size; have := HQ.out; omega)))
                obtain ⟨cs82, ci82, fi82⟩ := HN82.out.get
                generalize ((W77.setCell ⟨Q + 1, 0, none⟩ (.int .i64 ((nw : Int)))).setCell ⟨Q + 1, 0, none⟩ (.int .i64 ((nw : Int) + 1))).drewN nq82 = W82 at HN82 HB82 cs82 ci82 fi82 ⊢
                have HN83 := hide (HN82.out.set ((ne : Int)))
                have HB83 := hide (HB82.out.setCell (p := ⟨Q + 1, 0, none⟩) (show Q ≤ Q + 1 by omega) (.int .i64 ((ne : Int))))
                obtain ⟨cs83, ci83, fi83⟩ := HN83.out.get
                go_wp2_with fail
                refine bodyPost_ret (v := .tuple #[.int .i64 ((ne : Nat) : Int), .bool d2e]) (by simp [results, Tryz.results70, go_sem, ci83] <;> omega) rfl ?_
                exact (HFIN (HEQ.out.trans ((Jsp.numD_plain HE.out HS.out HDe.out).trans (by rw [HNNe.out]))) HB83.out rfl).out
              | true =>
                have HS := hide hS
                have hSl := Jsp.isIn_lt hS
                go_wp2_with fail
                refine (jIs [43, 45] s (nw + 1) _ Q _ HN81.out (by omega) (by omega)).mono ?_
                rintro e w1 ⟨rfl, rfl⟩
                rw [hS]
                clear hS
                have HN84 := hide (HN81.out.set ((nw : Int) + 1 + 1))
                have HB84 := hide (HB81.out.setCell (p := ⟨Q + 1, 0, none⟩) (show Q ≤ Q + 1 by omega) (.int .i64 ((nw : Int) + 1 + 1)))
                obtain ⟨cs84, ci84, fi84⟩ := HN84.out.get
                obtain ⟨d1e, d2e, hde⟩ : ∃ a b, Jsp.digits 10 (s.drop (nw + 2)) = (a, b) := ⟨_, _, rfl⟩
                have hbde := Jsp.digits_bound 10 s (nw + 2) (by omega)
                rw [hde] at hbde
                simp only at hbde
                obtain ⟨ne, hne⟩ : ∃ a, nw + 2 + d1e = a := ⟨_, rfl⟩
                have hgee : nw + 2 ≤ ne := by omega
                have DGe := fun W => hide (jDig s (nw + 2) 10 ((nw : Int) + 1 + 1) (by omega) hde hne W (by omega) (by omega))
                rw [hne] at hbde
                have HDe := hide hde
                have HNNe := hide hne
                clear hde hne
                go_wp2_with fail
                refine (DGe _).out.mono ?_
                rintro e w1 ⟨rfl, nq85, rfl⟩
                have HN85 := hide (HN84.out.drewN nq85)
                have HB85 := hide (HB84.out.trans ((belowN _ nq85).mono (by have := HB84.out.size; have := HQ.out; omega)))
                obtain ⟨cs85, ci85, fi85⟩ := HN85.out.get
                generalize (((W77.setCell ⟨Q + 1, 0, none⟩ (.int .i64 ((nw : Int)))).setCell ⟨Q + 1, 0, none⟩ (.int .i64 ((nw : Int) + 1))).setCell ⟨Q + 1, 0, none⟩ (.int .i64 ((nw : Int) + 1 + 1))).drewN nq85 = W85 at HN85 HB85 cs85 ci85 fi85 ⊢
                have HN86 := hide (HN85.out.set ((ne : Int)))
                have HB86 := hide (HB85.out.setCell (p := ⟨Q + 1, 0, none⟩) (show Q ≤ Q + 1 by omega) (.int .i64 ((ne : Int))))
                obtain ⟨cs86, ci86, fi86⟩ := HN86.out.get
                go_wp2_with fail
                refine bodyPost_ret (v := .tuple #[.int .i64 ((ne : Nat) : Int), .bool d2e]) (by simp [results, Tryz.results70, go_sem, ci86] <;> omega) rfl ?_
                exact (HFIN (HEQ.out.trans ((Jsp.numD_sign HE.out HS.out HDe.out).trans (by rw [HNNe.out]))) HB86.out rfl).out
          | true =>
            have HP := hide hP
            have hPl := Jsp.isIn_lt hP
            go_wp2_with fail
            refine (jIs [46] s (nw) _ Q _ HN78.out (by omega) (by omega)).mono ?_
            rintro e w1 ⟨rfl, rfl⟩
            rw [hP]
            clear hP
            have HN87 := hide (HN78.out.set ((nw : Int) + 1))
            have HB87 := hide (HB78.out.setCell (p := ⟨Q + 1, 0, none⟩) (show Q ≤ Q + 1 by omega) (.int .i64 ((nw : Int) + 1)))
            obtain ⟨cs87, ci87, fi87⟩ := HN87.out.get
            cases hG : Jsp.isIn [48, 49, 50, 51, 52, 53, 54, 55, 56, 57, 95] s (nw + 1) with
            | false =>
              have HG := hide hG
              go_wp2_with fail
              refine (jIs [48, 49, 50, 51, 52, 53, 54, 55, 56, 57, 95] s (nw + 1) _ Q _ HN87.out (by omega) (by omega)).mono ?_
              rintro e w1 ⟨rfl, rfl⟩
              rw [hG]
              clear hG
              have HEQ := hide (HQC.out.trans (Jsp.numC_plain HP.out HG.out))
              cases hE : Jsp.isIn [101, 69] s (nw + 1) with
              | false =>
                have HE := hide hE
                go_wp2_with fail
                refine (jIs [101, 69] s (nw + 1) _ Q _ HN87.out (by omega) (by omega)).mono ?_
                rintro e w1 ⟨rfl, rfl⟩
                rw [hE]
                clear hE
                have HN88 := hide (HN87.out.set ((nw : Int) + 1))
                have HB88 := hide (HB87.out.setCell (p := ⟨Q + 1, 0, none⟩) (show Q ≤ Q + 1 by omega) (.int .i64 ((nw : Int) + 1)))
                obtain ⟨cs88, ci88, fi88⟩ := HN88.out.get
                go_wp2_with fail
                refine bodyPost_ret (v := .tuple #[.int .i64 ((nw + 1 : Nat) : Int), .bool true]) (by simp [results, Tryz.results70, go_sem, ci88] <;> omega) rfl ?_
                exact (HFIN (HEQ.out.trans (Jsp.numD_no HE.out)) HB88.out rfl).out
              | true =>
                have HE := hide hE
                have hEl := Jsp.isIn_lt hE
                go_wp2_with fail
                refine (jIs [101, 69] s (nw + 1) _ Q _ HN87.out (by omega) (by omega)).mono ?_
                rintro e w1 ⟨rfl, rfl⟩
                rw [hE]
                clear hE
                have HN89 := hide (HN87.out.set ((nw : Int) + 1 + 1))
                have HB89 := hide (HB87.out.setCell (p := ⟨Q + 1, 0, none⟩) (show Q ≤ Q + 1 by omega) (.int .i64 ((nw : Int) + 1 + 1)))
                obtain ⟨cs89, ci89, fi89⟩ := HN89.out.get
                cases hS : Jsp.isIn [43, 45] s (nw + 1 + 1) with
                | false =>
                  have HS := hide hS
                  go_wp2_with fail
                  refine (jIs [43, 45] s (nw + 1 + 1) _ Q _ HN89.out (by omega) (by omega)).mono ?_
                  rintro e w1 ⟨rfl, rfl⟩
                  rw [hS]
                  clear hS
                  obtain ⟨d1e, d2e, hde⟩ : ∃ a b, Jsp.digits 10 (s.drop (nw + 1 + 1)) = (a, b) := ⟨_, _, rfl⟩
                  have hbde := Jsp.digits_bound 10 s (nw + 1 + 1) (by omega)
                  rw [hde] at hbde
                  simp only at hbde
                  obtain ⟨ne, hne⟩ : ∃ a, nw + 1 + 1 + d1e = a := ⟨_, rfl⟩
                  have hgee : nw + 1 + 1 ≤ ne := by omega
                  have DGe := fun W => hide (jDig s (nw + 1 + 1) 10 ((nw : Int) + 1 + 1) (by omega) hde hne W (by omega) (by omega))
                  rw [hne] at hbde
                  have HDe := hide hde
                  have HNNe := hide hne
                  clear hde hne
                  go_wp2_with fail
                  refine (DGe _).out.mono ?_
                  rintro e w1 ⟨rfl, nq90, rfl⟩
                  have HN90 := hide (HN89.out.drewN nq90)
                  have HB90 := hide (HB89.out.trans ((belowN _ nq90).mono (by have := HB89.out.size; have := HQ.out; omega)))
                  obtain ⟨cs90, ci90, fi90⟩ := HN90.out.get
                  generalize (((W77.setCell ⟨Q + 1, 0, none⟩ (.int .i64 ((nw : Int)))).setCell ⟨Q + 1, 0, none⟩ (.int .i64 ((nw : Int) + 1))).setCell ⟨Q + 1, 0, none⟩ (.int .i64 ((nw : Int) + 1 + 1))).drewN nq90 = W90 at HN90 HB90 cs90 ci90 fi90 ⊢
                  have HN91 := hide (HN90.out.set ((ne : Int)))
                  have HB91 := hide (HB90.out.setCell (p := ⟨Q + 1, 0, none⟩) (show Q ≤ Q + 1 by omega) (.int .i64 ((ne : Int))))
                  obtain ⟨cs91, ci91, fi91⟩ := HN91.out.get
                  go_wp2_with fail
                  refine bodyPost_ret (v := .tuple #[.int .i64 ((ne : Nat) : Int), .bool d2e]) (by simp [results, Tryz.results70, go_sem, ci91] <;> omega) rfl ?_
                  exact (HFIN (HEQ.out.trans ((Jsp.numD_plain HE.out HS.out HDe.out).trans (by rw [HNNe.out]))) HB91.out rfl).out
                | true =>
                  have HS := hide hS
                  have hSl := Jsp.isIn_lt hS
                  go_wp2_with fail
                  refine (jIs [43, 45] s (nw + 1 + 1) _ Q _ HN89.out (by omega) (by omega)).mono ?_
                  rintro e w1 ⟨rfl, rfl⟩
                  rw [hS]
                  clear hS
                  have HN92 := hide (HN89.out.set ((nw : Int) + 1 + 1 + 1))
                  have HB92 := hide (HB89.out.setCell (p := ⟨Q + 1, 0, none⟩) (show Q ≤ Q + 1 by omega) (.int .i64 ((nw : Int) + 1 + 1 + 1)))
                  obtain ⟨cs92, ci92, fi92⟩ := HN92.out.get
                  obtain ⟨d1e, d2e, hde⟩ : ∃ a b, Jsp.digits 10 (s.drop (nw + 1 + 2)) = (a, b) := ⟨_, _, rfl⟩
                  have hbde := Jsp.digits_bound 10 s (nw + 1 + 2) (by omega)
                  rw [hde] at hbde
                  simp only at hbde
                  obtain ⟨ne, hne⟩ : ∃ a, nw + 1 + 2 + d1e = a := ⟨_, rfl⟩
                  have hgee : nw + 1 + 2 ≤ ne := by omega
                  have DGe := fun W => hide (jDig s (nw + 1 + 2) 10 ((nw : Int) + 1 + 1 + 1) (by omega) hde hne W (by omega) (by omega))
                  rw [hne] at hbde
                  have HDe := hide hde
                  have HNNe := hide hne
                  clear hde hne
                  go_wp2_with fail
                  refine (DGe _).out.mono ?_
                  rintro e w1 ⟨rfl, nq93, rfl⟩
                  have HN93 := hide (HN92.out.drewN nq93)
                  have HB93 := hide (HB92.out.trans ((belowN _ nq93).mono (by have := HB92.out.size; have := HQ.out; omega)))
                  obtain ⟨cs93, ci93, fi93⟩ := HN93.out.get
                  generalize ((((W77.setCell ⟨Q + 1, 0, none⟩ (.int .i64 ((nw : Int)))).setCell ⟨Q + 1, 0, none⟩ (.int .i64 ((nw : Int) + 1))).setCell ⟨Q + 1, 0, none⟩ (.int .i64 ((nw : Int) + 1 + 1))).setCell ⟨Q + 1, 0, none⟩ (.int .i64 ((nw : Int) + 1 + 1 + 1))).drewN nq93 = W93 at HN93 HB93 cs93 ci93 fi93 ⊢
                  have HN94 := hide (HN93.out.set ((ne : Int)))
                  have HB94 := hide (HB93.out.setCell (p := ⟨Q + 1, 0, none⟩) (show Q ≤ Q + 1 by omega) (.int .i64 ((ne : Int))))
                  obtain ⟨cs94, ci94, fi94⟩ := HN94.out.get
                  go_wp2_with fail
                  refine bodyPost_ret (v := .tuple #[.int .i64 ((ne : Nat) : Int), .bool d2e]) (by simp [results, Tryz.results70, go_sem, ci94] <;> omega) rfl ?_
                  exact (HFIN (HEQ.out.trans ((Jsp.numD_sign HE.out HS.out HDe.out).trans (by rw [HNNe.out]))) HB94.out rfl).out
            | true =>
              have HG := hide hG
              have hGl := Jsp.isIn_lt hG
              go_wp2_with fail
              refine (jIs [48, 49, 50, 51, 52, 53, 54, 55, 56, 57, 95] s (nw + 1) _ Q _ HN87.out (by omega) (by omega)).mono ?_
              rintro e w1 ⟨rfl, rfl⟩
              rw [hG]
              clear hG
              obtain ⟨d1f, d2f, hdf⟩ : ∃ a b, Jsp.digits 10 (s.drop (nw + 1)) = (a, b) := ⟨_, _, rfl⟩
              have hbdf := Jsp.digits_bound 10 s (nw + 1) (by omega)
              rw [hdf] at hbdf
              simp only at hbdf
              obtain ⟨nf, hnf⟩ : ∃ a, nw + 1 + d1f = a := ⟨_, rfl⟩
              have hgef : nw + 1 ≤ nf := by omega
              have DGf := fun W => hide (jDig s (nw + 1) 10 ((nw : Int) + 1) (by omega) hdf hnf W (by omega) (by omega))
              rw [hnf] at hbdf
              have HDf := hide hdf
              have HNNf := hide hnf
              clear hdf hnf
              cases d2f with
              | false =>
                go_wp2_with fail
                refine (DGf _).out.mono ?_
                rintro e w1 ⟨rfl, nq95, rfl⟩
                have HN95 := hide (HN87.out.drewN nq95)
                have HB95 := hide (HB87.out.trans ((belowN _ nq95).mono (by have := HB87.out.size; have := HQ.out; omega)))
                obtain ⟨cs95, ci95, fi95⟩ := HN95.out.get
                generalize ((W77.setCell ⟨Q + 1, 0, none⟩ (.int .i64 ((nw : Int)))).setCell ⟨Q + 1, 0, none⟩ (.int .i64 ((nw : Int) + 1))).drewN nq95 = W95 at HN95 HB95 cs95 ci95 fi95 ⊢
                have HN96 := hide (HN95.out.set ((nf : Int)))
                have HB96 := hide (HB95.out.setCell (p := ⟨Q + 1, 0, none⟩) (show Q ≤ Q + 1 by omega) (.int .i64 ((nf : Int))))
                obtain ⟨cs96, ci96, fi96⟩ := HN96.out.get
                have HN97 := hide (HN96.out.set ((nf : Int)))
                have HB97 := hide (HB96.out.setCell (p := ⟨Q + 1, 0, none⟩) (show Q ≤ Q + 1 by omega) (.int .i64 ((nf : Int))))
                obtain ⟨cs97, ci97, fi97⟩ := HN97.out.get
                go_wp2_with fail
                refine bodyPost_ret (v := .tuple #[.int .i64 ((nf : Nat) : Int), .bool false]) (by simp [results, Tryz.results70, go_sem, ci97] <;> omega) rfl ?_
                exact (HFIN (HQC.out.trans ((Jsp.numC_bad HP.out HG.out HDf.out).trans (by rw [HNNf.out]))) HB97.out rfl).out
              | true =>
                go_wp2_with fail
                refine (DGf _).out.mono ?_
                rintro e w1 ⟨rfl, nq98, rfl⟩
                have HN98 := hide (HN87.out.drewN nq98)
                have HB98 := hide (HB87.out.trans ((belowN _ nq98).mono (by have := HB87.out.size; have := HQ.out; omega)))
                obtain ⟨cs98, ci98, fi98⟩ := HN98.out.get
                generalize ((W77.setCell ⟨Q + 1, 0, none⟩ (.int .i64 ((nw : Int)))).setCell ⟨Q + 1, 0, none⟩ (.int .i64 ((nw : Int) + 1))).drewN nq98 = W98 at HN98 HB98 cs98 ci98 fi98 ⊢
                have HN99 := hide (HN98.out.set ((nf : Int)))
                have HB99 := hide (HB98.out.setCell (p := ⟨Q + 1, 0, none⟩) (show Q ≤ Q + 1 by omega) (.int .i64 ((nf : Int))))
                obtain ⟨cs99, ci99, fi99⟩ := HN99.out.get
                have HEQ := hide ((HQC.out.trans (Jsp.numC_dig HP.out HG.out HDf.out)).trans (by rw [HNNf.out]))
                cases hE : Jsp.isIn [101, 69] s (nf) with
                | false =>
                  have HE := hide hE
                  go_wp2_with fail
                  refine (jIs [101, 69] s (nf) _ Q _ HN99.out (by omega) (by omega)).mono ?_
                  rintro e w1 ⟨rfl, rfl⟩
                  rw [hE]
                  clear hE
                  have HN100 := hide (HN99.out.set ((nf : Int)))
                  have HB100 := hide (HB99.out.setCell (p := ⟨Q + 1, 0, none⟩) (show Q ≤ Q + 1 by omega) (.int .i64 ((nf : Int))))
                  obtain ⟨cs100, ci100, fi100⟩ := HN100.out.get
                  go_wp2_with fail
                  refine bodyPost_ret (v := .tuple #[.int .i64 ((nf : Nat) : Int), .bool true]) (by simp [results, Tryz.results70, go_sem, ci100] <;> omega) rfl ?_
                  exact (HFIN (HEQ.out.trans (Jsp.numD_no HE.out)) HB100.out rfl).out
                | true =>
                  have HE := hide hE
                  have hEl := Jsp.isIn_lt hE
                  go_wp2_with fail
                  refine (jIs [101, 69] s (nf) _ Q _ HN99.out (by omega) (by omega)).mono ?_
                  rintro e w1 ⟨rfl, rfl⟩
                  rw [hE]
                  clear hE
                  have HN101 := hide (HN99.out.set ((nf : Int) + 1))
                  have HB101 := hide (HB99.out.setCell (p := ⟨Q + 1, 0, none⟩) (show Q ≤ Q + 1 by omega) (.int .i64 ((nf : Int) + 1)))
                  obtain ⟨cs101, ci101, fi101⟩ := HN101.out.get
                  cases hS : Jsp.isIn [43, 45] s (nf + 1) with
                  | false =>
                    have HS := hide hS
                    go_wp2_with fail
                    refine (jIs [43, 45] s (nf + 1) _ Q _ HN101.out (by omega) (by omega)).mono ?_
                    rintro e w1 ⟨rfl, rfl⟩
                    rw [hS]
                    clear hS
                    obtain ⟨d1e, d2e, hde⟩ : ∃ a b, Jsp.digits 10 (s.drop (nf + 1)) = (a, b) := ⟨_, _, rfl⟩
                    have hbde := Jsp.digits_bound 10 s (nf + 1) (by omega)
                    rw [hde] at hbde
                    simp only at hbde
                    obtain ⟨ne, hne⟩ : ∃ a, nf + 1 + d1e = a := ⟨_, rfl⟩
                    have hgee : nf + 1 ≤ ne := by omega
                    have DGe := fun W => hide (jDig s (nf + 1) 10 ((nf : Int) + 1) (by omega) hde hne W (by omega) (by omega))
                    rw [hne] at hbde
                    have HDe := hide hde
                    have HNNe := hide hne
                    clear hde hne
                    go_wp2_with fail
                    refine (DGe _).out.mono ?_
                    rintro e w1 ⟨rfl, nq102, rfl⟩
                    have HN102 := hide (HN101.out.drewN nq102)
                    have HB102 := hide (HB101.out.trans ((belowN _ nq102).mono (by have := HB101.out.size; have := HQ.out; omega)))
                    obtain ⟨cs102, ci102, fi102⟩ := HN102.out.get
                    generalize ((W98.setCell ⟨Q + 1, 0, none⟩ (.int .i64 ((nf : Int)))).setCell ⟨Q + 1, 0, none⟩ (.int .i64 ((nf : Int) + 1))).drewN nq102 = W102 at HN102 HB102 cs102 ci102 fi102 ⊢
                    have HN103 := hide (HN102.out.set ((ne : Int)))
                    have HB103 := hide (HB102.out.setCell (p := ⟨Q + 1, 0, none⟩) (show Q ≤ Q + 1 by omega) (.int .i64 ((ne : Int))))
                    obtain ⟨cs103, ci103, fi103⟩ := HN103.out.get
                    go_wp2_with fail
                    refine bodyPost_ret (v := .tuple #[.int .i64 ((ne : Nat) : Int), .bool d2e]) (by simp [results, Tryz.results70, go_sem, ci103] <;> omega) rfl ?_
                    exact (HFIN (HEQ.out.trans ((Jsp.numD_plain HE.out HS.out HDe.out).trans (by rw [HNNe.out]))) HB103.out rfl).out
                  | true =>
                    have HS := hide hS
                    have hSl := Jsp.isIn_lt hS
                    go_wp2_with fail
                    refine (jIs [43, 45] s (nf + 1) _ Q _ HN101.out (by omega) (by omega)).mono ?_
                    rintro e w1 ⟨rfl, rfl⟩
                    rw [hS]
                    clear hS
                    have HN104 := hide (HN101.out.set ((nf : Int) + 1 + 1))
                    have HB104 := hide (HB101.out.setCell (p := ⟨Q + 1, 0, none⟩) (show Q ≤ Q + 1 by omega) (.int .i64 ((nf : Int) + 1 + 1)))
                    obtain ⟨cs104, ci104, fi104⟩ := HN104.out.get
                    obtain ⟨d1e, d2e, hde⟩ : ∃ a b, Jsp.digits 10 (s.drop (nf + 2)) = (a, b) := ⟨_, _, rfl⟩
                    have hbde := Jsp.digits_bound 10 s (nf + 2) (by omega)
                    rw [hde] at hbde
                    simp only at hbde
                    obtain ⟨ne, hne⟩ : ∃ a, nf + 2 + d1e = a := ⟨_, rfl⟩
                    have hgee : nf + 2 ≤ ne := by omega
                    have DGe := fun W => hide (jDig s (nf + 2) 10 ((nf : Int) + 1 + 1) (by omega) hde hne W (by omega) (by omega))
                    rw [hne] at hbde
                    have HDe := hide hde
                    have HNNe := hide hne
                    clear hde hne
                    go_wp2_with fail
                    refine (DGe _).out.mono ?_
                    rintro e w1 ⟨rfl, nq105, rfl⟩
                    have HN105 := hide (HN104.out.drewN nq105)
                    have HB105 := hide (HB104.out.trans ((belowN _ nq105).mono (by have := HB104.out.size; have := HQ.out; omega)))
                    obtain ⟨cs105, ci105, fi105⟩ := HN105.out.get
                    generalize (((W98.setCell ⟨Q + 1, 0, none⟩ (.int .i64 ((nf : Int)))).setCell ⟨Q + 1, 0, none⟩ (.int .i64 ((nf : Int) + 1))).setCell ⟨Q + 1, 0, none⟩ (.int .i64 ((nf : Int) + 1 + 1))).drewN nq105 = W105 at HN105 HB105 cs105 ci105 fi105 ⊢
                    have HN106 := hide (HN105.out.set ((ne : Int)))
                    have HB106 := hide (HB105.out.setCell (p := ⟨Q + 1, 0, none⟩) (show Q ≤ Q + 1 by omega) (.int .i64 ((ne : Int))))
                    obtain ⟨cs106, ci106, fi106⟩ := HN106.out.get
                    go_wp2_with fail
                    refine bodyPost_ret (v := .tuple #[.int .i64 ((ne : Nat) : Int), .bool d2e]) (by simp [results, Tryz.results70, go_sem, ci106] <;> omega) rfl ?_
                    exact (HFIN (HEQ.out.trans ((Jsp.numD_sign HE.out HS.out HDe.out).trans (by rw [HNNe.out]))) HB106.out rfl).out
end Go.Proofs.YtngccmlcopcghaaGreatDoor
