/- The document's answer: the token that stands there. (Printed by genCssXn.py.) -/
import Derived.Test.YtojgcangnkjmjaaGreatDoorXm
namespace Go.Proofs.YtojgcangnkjmjaaGreatDoor
open Go.RowKit

theorem Cssp.numberAt_drop (s : List UInt8) (i : Nat) : Cssp.numberAt (s.drop i) 0 = Cssp.numberAt s i := by
  unfold Cssp.numberAt Cssp.signed
  simp only [Cssp.isAt_drop, Cssp.at_drop, Nat.add_zero, Nat.zero_add, Nat.add_assoc]
theorem Cssp.number_no {s : List UInt8} {i : Nat} {c : UInt8} (hc : Cssp.at_ s i = c) (h : ([35, 64] ++ Cssp.marks).contains c = true) : Cssp.numberAt s i = false := by
  have h1 : Cssp.digit c = false ∧ c ≠ 46 ∧ c ≠ 43 ∧ c ≠ 45 := by
    simp only [Cssp.marks, List.cons_append, List.nil_append, List.contains_cons, List.contains_nil, Bool.or_false, Bool.or_eq_true, beq_iff_eq] at h
    rcases h with rfl | rfl | rfl | rfl | rfl | rfl | rfl | rfl | rfl | rfl | rfl <;> decide
  unfold Cssp.numberAt
  rw [Cssp.signed_at, hc, if_neg (by simp [h1.2.2.1, h1.2.2.2]), Nat.add_zero, hc, h1.1, beq_eq_false_iff_ne.2 h1.2.1]
  rfl
theorem Cssp.ident_no {s : List UInt8} {i : Nat} {c : UInt8} (hi : i < s.length) (hc : Cssp.at_ s i = c) (h : ([35, 64] ++ Cssp.marks).contains c = true) : Cssp.identAt s i = false := by
  have h1 : Cssp.begins c = false ∧ (c == 45) = false ∧ c ≠ 92 := by
    simp only [Cssp.marks, List.cons_append, List.nil_append, List.contains_cons, List.contains_nil, Bool.or_false, Bool.or_eq_true, beq_iff_eq] at h
    rcases h with rfl | rfl | rfl | rfl | rfl | rfl | rfl | rfl | rfl | rfl | rfl <;> decide
  unfold Cssp.identAt
  rw [Cssp.isAt_at hi, hc, h1.2.1, if_neg (by decide), Cssp.isAt_at hi, hc, h1.1, Cssp.escAt_ne (by rw [hc]; exact h1.2.2)]
  rfl
theorem Cssp.pre_no {p : List UInt8} {s : List UInt8} {i : Nat} {c x : UInt8} {r : List UInt8} (hi : i < s.length) (hc : Cssp.at_ s i = c) (hp : p = x :: r) (h : c ≠ x) : p.isPrefixOf (s.drop i) = false := by
  have hd : s.drop i = c :: s.drop (i + 1) := by
    rw [List.drop_eq_getElem_cons hi]
    congr 1
    rw [← hc, Cssp.at_, List.getD_eq_getElem?_getD, List.getElem?_eq_getElem hi]; rfl
  rw [hd, hp, List.isPrefixOf, beq_eq_false_iff_ne.2 (Ne.symm h)]; rfl
theorem Cssp.pre_take (p s : List UInt8) (i : Nat) (_h : i + p.length ≤ s.length) : ((s.drop i).take p.length == p) = p.isPrefixOf (s.drop i) := by
  rw [Bool.eq_iff_iff, beq_iff_eq, List.isPrefixOf_iff_prefix, List.prefix_iff_eq_take]
  exact ⟨fun e => e.symm, fun e => e.symm⟩
theorem Cssp.pre_short (p s : List UInt8) (i : Nat) (h : s.length < i + p.length) (hp : p ≠ []) : p.isPrefixOf (s.drop i) = false := by
  rw [Bool.eq_false_iff]
  intro e
  have := List.IsPrefix.length_le (List.isPrefixOf_iff_prefix.1 e)
  rw [List.length_drop] at this
  have := List.length_pos_iff.2 hp
  omega
/-- is it a token of more than one byte, or a name, a number, a string? -/
def oneT (s : List UInt8) (i : Nat) : Bool :=
  Cssp.blank (Cssp.at_ s i) || Cssp.at_ s i == 34 || Cssp.at_ s i == 39 || (Cssp.at_ s i == 35 && (Cssp.isAt Cssp.goesOn s (i + 1) || Cssp.escAt s (i + 1))) || Cssp.numberAt s i || Cssp.wClose.isPrefixOf (s.drop i) || Cssp.wOpen.isPrefixOf (s.drop i) ||
    Cssp.identAt s i || (Cssp.at_ s i == 64 && Cssp.identAt s (i + 1))
set_option maxRecDepth 100000 in
set_option maxHeartbeats 8000000 in
theorem rOne_1 (s : List UInt8) (i : Nat) (w : World) (hl : s.length ≤ 1048576) (hi : i < s.length) (hno : Hid (Cssp.NoFR s)) (N : Cssp.Th) (hN : Hid (Cssp.one (s.drop i) = N)) (hT0 : Hid (oneT s i = true)) :
    Calls Tryz.prog 30 #[S s, .int .i64 i] w (Fresh (HV N.x ((i + N.k : Nat) : Int) N.o N.i) w) := by
  have hz := Zh.new w
  have hal := (Below.refl w.heap.size w).alloc (Nat.le_refl _) zeroH
  obtain ⟨c, hc⟩ : ∃ c, s[i] = c := ⟨_, rfl⟩
  have hci : s[i]? = some c := by rw [List.getElem?_eq_getElem hi, hc]
  have hac : Cssp.at_ s i = c := by rw [Cssp.at_, List.getD_eq_getElem?_getD, hci]; rfl
  have hdi : s.drop i = c :: s.drop (i + 1) := by rw [← hc]; exact List.drop_eq_getElem_cons hi
  have htk : (s.drop i).take 1 = [c] := by rw [hdi]; rfl
  obtain ⟨BN, hBN⟩ : ∃ b, Cssp.numberAt s i = b := ⟨_, rfl⟩
  obtain ⟨BI, hBI⟩ : ∃ b, Cssp.identAt s i = b := ⟨_, rfl⟩
  obtain ⟨BC, hBC⟩ : ∃ b, Cssp.wClose.isPrefixOf (s.drop i) = b := ⟨_, rfl⟩
  obtain ⟨BO, hBO⟩ : ∃ b, Cssp.wOpen.isPrefixOf (s.drop i) = b := ⟨_, rfl⟩
  obtain ⟨BH, hBH⟩ : ∃ b, (c == 35 && (Cssp.isAt Cssp.goesOn s (i + 1) || Cssp.escAt s (i + 1))) = b := ⟨_, rfl⟩
  obtain ⟨BA, hBA⟩ : ∃ b, (c == 64 && Cssp.identAt s (i + 1)) = b := ⟨_, rfl⟩
  have hone := Cssp.one_eq (s.drop i)
  rw [hN.out, Cssp.at_drop, Nat.add_zero, hac, Cssp.isAt_drop, Cssp.escAt_drop, Cssp.identAt_drop, Cssp.numberAt_drop, Cssp.identAt_drop, hBC, hBO, hBN, show i + 0 = i from rfl, hBI, List.drop_drop, htk] at hone
  -- the order of the document
  have hO : N = if Cssp.blank c = true then ⟨Cssp.tk 1 [], Cssp.run Cssp.blank (s.drop i), false, false, 0⟩
      else if c = 34 ∨ c = 39 then Cssp.text (s.drop i)
      else if BH = true then ⟨⟨5, (Cssp.name (s.drop (i + 1))).t, [], Cssp.identAt s (i + 1)⟩, (Cssp.name (s.drop (i + 1))).k + 1, (Cssp.name (s.drop (i + 1))).o, false, 0⟩
      else if BN = true then Cssp.numeric (s.drop i)
      else if BC = true then ⟨Cssp.tk 15 [], 3, false, false, 0⟩
      else if BO = true then ⟨Cssp.tk 14 [], 4, false, false, 0⟩
      else if BI = true then Cssp.word (s.drop i)
      else if BA = true then ⟨Cssp.tk 4 (Cssp.name (s.drop (i + 1))).t, (Cssp.name (s.drop (i + 1))).k + 1, (Cssp.name (s.drop (i + 1))).o, false, 0⟩
      else if Cssp.marks.contains c = true then ⟨Cssp.tk 16 [c], 1, false, false, 0⟩
      else ⟨Cssp.tk 10 [c], 1, false, false, 0⟩ := by
    have no : ([35, 64] ++ Cssp.marks).contains c = true → BN = false ∧ BC = false ∧ BO = false ∧ BI = false := fun h => by
      have h60 : c ≠ 45 ∧ c ≠ 60 := by
        simp only [Cssp.marks, List.cons_append, List.nil_append, List.contains_cons, List.contains_nil, Bool.or_false, Bool.or_eq_true, beq_iff_eq] at h
        rcases h with rfl | rfl | rfl | rfl | rfl | rfl | rfl | rfl | rfl | rfl | rfl <;> decide
      exact ⟨by rw [← hBN]; exact Cssp.number_no hac h, by rw [← hBC]; exact Cssp.pre_no hi hac rfl h60.1, by rw [← hBO]; exact Cssp.pre_no hi hac rfl h60.2, by rw [← hBI]; exact Cssp.ident_no hi hac h⟩
    rw [hone]
    by_cases h1 : Cssp.blank c = true
    · rw [if_pos h1, if_pos h1]
    rw [if_neg h1, if_neg h1]
    by_cases h2 : c = 34 ∨ c = 39
    · rw [if_pos h2, if_pos h2]
    rw [if_neg h2, if_neg h2]
    by_cases h35 : c = 35
    · obtain ⟨n1, n2, n3, n4⟩ := no (by rw [h35]; decide)
      have hA : BA = false := by rw [← hBA, h35]; rfl
      have hm : Cssp.marks.contains c = false := by rw [h35]; decide
      have hH : BH = (Cssp.isAt Cssp.goesOn s (i + 1) || Cssp.escAt s (i + 1)) := by rw [← hBH, h35]; simp
      rw [if_pos h35, n1, n2, n3, n4, hA, hm, hH]
      by_cases hb : (Cssp.isAt Cssp.goesOn s (i + 1) || Cssp.escAt s (i + 1)) = true
      · rw [if_pos hb, if_pos hb]
      · rw [if_neg hb, if_neg hb]; rfl
    rw [if_neg h35]
    have hH : BH = false := by rw [← hBH, beq_eq_false_iff_ne.2 h35]; rfl
    rw [hH]
    by_cases h64 : c = 64
    · obtain ⟨n1, n2, n3, n4⟩ := no (by rw [h64]; decide)
      have hm : Cssp.marks.contains c = false := by rw [h64]; decide
      have hA : BA = Cssp.identAt s (i + 1) := by rw [← hBA, h64]; simp
      rw [if_pos h64, n1, n2, n3, n4, hm, hA]
      by_cases hb : Cssp.identAt s (i + 1) = true
      · rw [if_pos hb]; simp [hb]
      · rw [if_neg hb]; simp [hb]
    rw [if_neg h64]
    have hA : BA = false := by rw [← hBA, beq_eq_false_iff_ne.2 h64]; rfl
    rw [hA]
    by_cases hm : Cssp.marks.contains c = true
    · obtain ⟨n1, n2, n3, n4⟩ := no (by rw [List.contains_iff_mem] at hm ⊢; exact List.mem_append_right _ hm)
      rw [if_pos hm, n1, n2, n3, n4]; simp only [Bool.false_eq_true, if_false, hm, if_true]
    · rw [if_neg hm]
      simp only [Bool.eq_false_iff.2 hm]
      rfl
  have hT := hT0.out
  unfold oneT at hT
  rw [hac, hBN, hBI, hBC, hBO, hBH, hBA] at hT
  have HT := hide hT
  clear hT hT0
  have HO := hide hO
  have HBN := hide (rNumber s i)
  have HBI := hide (rIdent s i)
  have HBN2 := hide hBN
  have HBI2 := hide hBI
  have HBC := hide hBC
  have HBO := hide hBO
  have HBH := hide hBH
  have HBA := hide hBA
  have HTK := hide htk
  have HCI := hide hci
  have HDI := hide hdi
  have b0 : (0 : Int) ≤ (i : Int) := by omega
  have b1 : (i : Int) < (s.length : Int) := by omega
  clear hN hone hO hBN hBI hBC hBO hBH hBA htk hci hdi hac
  go_enter Tryz.func30, Tryz.ntmps30
  go_upto_region 1 with (fail)
  change Code.wp _ _ _ _ (w.alloc zeroH)
  generalize hgen : w.alloc zeroH = w1 at hz hal ⊢
  clear hgen
  have HZ1 := hide hz
  have HB1 := hide hal
  clear hz hal
  have R1 := hide (HBN.out w1 (by omega) (by omega))
  have R2 := hide (HBI.out w1 (by omega) (by omega))
  rw [HBN2.out] at R1
  rw [HBI2.out] at R2
  clear HBN HBI HBN2 HBI2
  go_wp2_with fail
  refine R1.out.mono ?_
  rintro e w' ⟨rfl, rfl⟩
  go_wp2_with fail
  refine R2.out.mono ?_
  rintro e w' ⟨rfl, rfl⟩
  clear R1 R2
  go_upto_block 0 with fail
  go_cut [] from 16 (fun _ => False)
  case first =>
    cases hbl : Cssp.blank c with
    | true =>
      have hO := HO.out
      rw [hbl, if_pos rfl] at hO
      obtain ⟨J, hJ⟩ : ∃ J, i + Cssp.run Cssp.blank (s.drop i) = J := ⟨_, rfl⟩
      have hJl := Cssp.run_to Cssp.blank s i (by omega)
      have hJs : ∀ j c, i ≤ j → j ≤ J → s[j]? = some c → (Cssp.blank c = true → j < J) ∧ (Cssp.blank c = false → j = J) := fun j c h1 h2 h3 => by
        rw [← hJ] at h2 ⊢
        exact Cssp.run_at h1 h2 h3
      rw [hJ] at hJl
      rw [show Cssp.run Cssp.blank (s.drop i) = J - i by omega] at hO
      have hiJ : i ≤ J := by omega
      have HJS := hide hJs
      have HNN := hide hO
      have HBL := hide hbl
      clear hJ hJs hO HO hbl
      go_wp2_with fail
      refine (rBlank c _).mono ?_
      rintro e w' ⟨rfl, rfl⟩
      rw [HBL.out]
      go_upto_block 1 with fail
      go_cut [1] from 16 (fun s1 wx => s1 = .int .i64 J ∧ w1 = wx)
      case first =>
        go_wp2_with fail
        go_loopg [1] (J - i) (fun g s1 wx => ∃ j : Nat, s1 = .int .i64 j ∧ g + j = J ∧ i ≤ j ∧ w1 = wx)
        case atStart => exact ⟨i, rfl, by omega, Nat.le_refl _, rfl⟩
        case round =>
          obtain ⟨j, rfl, hgj, hij, hwx⟩ := hrel
          subst hwx
          by_cases hj : j < s.length
          · have b1 : (j : Int) < (s.length : Int) := by omega
            have b0 : (0 : Int) ≤ (j : Int) := by omega
            obtain ⟨d, hd⟩ : ∃ d, s[j] = d := ⟨_, rfl⟩
            have hJc := HJS.out j d hij (by omega) (by rw [List.getElem?_eq_getElem hj, hd])
            cases hb : Cssp.blank d with
            | true =>
              have hlt := hJc.1 hb
              have HBD := hide hb
              clear hJc hb
              go_wp2_with fail
              refine (rBlank d _).mono ?_
              rintro e w' ⟨rfl, rfl⟩
              rw [HBD.out]
              go_wp2_with fail
              go_roundg (gk - 1)
              case measure => omega
              case rel => exact ⟨j + 1, by go_num, by omega, by omega, rfl⟩
            | false =>
              obtain rfl := hJc.2 hb
              have HBD := hide hb
              clear hJc hb
              go_wp2_with fail
              refine (rBlank d _).mono ?_
              rintro e w' ⟨rfl, rfl⟩
              rw [HBD.out]
              go_wp2_with fail
              go_meet
              case rel => exact ⟨rfl, rfl⟩
          · have b1 : ¬ (j : Int) < (s.length : Int) := by omega
            have hd : decide ((j : Int) < (s.length : Int)) = false := decide_eq_false b1
            obtain rfl : j = J := by omega
            go_wp2_with fail
            go_meet
            case rel => exact ⟨rfl, rfl⟩
      case rest =>
        obtain ⟨rfl, rfl⟩ := hcut
        obtain ⟨z0, z1, z2, z3, z4, z5, z6⟩ := HZ1.out.cells
        have g0 := HZ1.out.frozen 0
        have g1 := HZ1.out.frozen 1
        have g2 := HZ1.out.frozen 2
        have g3 := HZ1.out.frozen 3
        have g4 := HZ1.out.frozen 4
        have g5 := HZ1.out.frozen 5
        have g6 := HZ1.out.frozen 6
        go_wp2_with fail
        change bodyPost _ _ _ _ ⟨_, _⟩ (putH w1 w.heap.size (Cssp.tk 1 []) ((J : Int)) false false)
        obtain ⟨q0, q1, q2, q3, q4, q5, q6⟩ := putH_cells HZ1.out (Cssp.tk 1 []) ((J : Int)) false false
        refine bodyPost_ret (v := HV (Cssp.tk 1 []) ((J : Int)) false false) (by simp [results, Tryz.results30, go_sem, q0, q1, q2, q3, q4, q5, q6]) rfl ?_
        exact ⟨by rw [HNN.out]; exact ret_H rfl (by simp only; omega) rfl rfl, putH_below HB1.out (Nat.le_refl _) _ _ _ _⟩
    | false =>
      have hO := HO.out
      rw [hbl, if_neg (by decide)] at hO
      have HO := hide hO
      have HBL := hide hbl
      clear hO hbl
      go_wp2_with fail
      refine (rBlank c _).mono ?_
      rintro e w' ⟨rfl, rfl⟩
      rw [HBL.out]
      by_cases h34 : c = 34
      · have p1 : ((c.toNat : Int) == 34) = true := u8t h34
        have hO := HO.out
        rw [if_pos (.inl h34), HDI.out, Cssp.text_cons] at hO
        obtain ⟨X, hX⟩ : ∃ X, Cssp.textX c (s.drop (i + 1)) = X := ⟨_, rfl⟩
        have HTX := hide (rText s i w1 hl hi c hc X hX)
        rw [hX] at hO
        have HTX2 : Hid (Calls Tryz.prog 51 #[S s, .int .i64 i] w1 (Fresh (HV N.x ((i + N.k : Nat) : Int) N.o N.i) w1)) := by
          unfold Hid
          rw [hO, show i + (X.k + 1) = i + 1 + X.k by omega]
          exact HTX.out
        clear hO HO hX HTX h34
        obtain ⟨N1, k0, o0, i0, e0⟩ := N
        obtain ⟨x0, x1, x2, x3⟩ := N1
        go_wp2_with fail
        refine HTX2.out.mono ?_
        rintro e w2 ⟨rfl, hb2⟩
        have HB2 : Hid (Below w.heap.size w w2) := HB1.out.trans (hb2.mono HB1.out.size)
        have HZ2 : Hid (Zh w2 w.heap.size) := HZ1.out.below hb2
        clear hb2 HTX2
        obtain ⟨z0, z1, z2, z3, z4, z5, z6⟩ := HZ2.out.cells
        have g0 := HZ2.out.frozen 0
        have g1 := HZ2.out.frozen 1
        have g2 := HZ2.out.frozen 2
        have g3 := HZ2.out.frozen 3
        have g4 := HZ2.out.frozen 4
        have g5 := HZ2.out.frozen 5
        have g6 := HZ2.out.frozen 6
        go_wp2_with fail
        change bodyPost _ _ _ _ ⟨_, _⟩ (putH w2 w.heap.size (⟨x0, x1, x2, x3⟩) ((i : Int) + (k0 : Int)) o0 i0)
        obtain ⟨q0, q1, q2, q3, q4, q5, q6⟩ := putH_cells HZ2.out (⟨x0, x1, x2, x3⟩) ((i : Int) + (k0 : Int)) o0 i0
        refine bodyPost_ret (v := HV (⟨x0, x1, x2, x3⟩) ((i : Int) + (k0 : Int)) o0 i0) (by simp [results, Tryz.results30, go_sem, q0, q1, q2, q3, q4, q5, q6]) rfl ?_
        exact ⟨by exact ret_H rfl (by first | omega | (simp only; omega)) rfl rfl, putH_below HB2.out (Nat.le_refl _) _ _ _ _⟩
      have p1 : ((c.toNat : Int) == 34) = false := u8f h34
      by_cases h39 : c = 39
      · have p2 : ((c.toNat : Int) == 39) = true := u8t h39
        have hO := HO.out
        rw [if_pos (.inr h39), HDI.out, Cssp.text_cons] at hO
        obtain ⟨X, hX⟩ : ∃ X, Cssp.textX c (s.drop (i + 1)) = X := ⟨_, rfl⟩
        have HTX := hide (rText s i w1 hl hi c hc X hX)
        rw [hX] at hO
        have HTX2 : Hid (Calls Tryz.prog 51 #[S s, .int .i64 i] w1 (Fresh (HV N.x ((i + N.k : Nat) : Int) N.o N.i) w1)) := by
          unfold Hid
          rw [hO, show i + (X.k + 1) = i + 1 + X.k by omega]
          exact HTX.out
        clear hO HO hX HTX h34 h39
        obtain ⟨N1, k0, o0, i0, e0⟩ := N
        obtain ⟨x0, x1, x2, x3⟩ := N1
        go_wp2_with fail
        refine HTX2.out.mono ?_
        rintro e w2 ⟨rfl, hb2⟩
        have HB2 : Hid (Below w.heap.size w w2) := HB1.out.trans (hb2.mono HB1.out.size)
        have HZ2 : Hid (Zh w2 w.heap.size) := HZ1.out.below hb2
        clear hb2 HTX2
        obtain ⟨z0, z1, z2, z3, z4, z5, z6⟩ := HZ2.out.cells
        have g0 := HZ2.out.frozen 0
        have g1 := HZ2.out.frozen 1
        have g2 := HZ2.out.frozen 2
        have g3 := HZ2.out.frozen 3
        have g4 := HZ2.out.frozen 4
        have g5 := HZ2.out.frozen 5
        have g6 := HZ2.out.frozen 6
        go_wp2_with fail
        change bodyPost _ _ _ _ ⟨_, _⟩ (putH w2 w.heap.size (⟨x0, x1, x2, x3⟩) ((i : Int) + (k0 : Int)) o0 i0)
        obtain ⟨q0, q1, q2, q3, q4, q5, q6⟩ := putH_cells HZ2.out (⟨x0, x1, x2, x3⟩) ((i : Int) + (k0 : Int)) o0 i0
        refine bodyPost_ret (v := HV (⟨x0, x1, x2, x3⟩) ((i : Int) + (k0 : Int)) o0 i0) (by simp [results, Tryz.results30, go_sem, q0, q1, q2, q3, q4, q5, q6]) rfl ?_
        exact ⟨by exact ret_H rfl (by first | omega | (simp only; omega)) rfl rfl, putH_below HB2.out (Nat.le_refl _) _ _ _ _⟩
      have p2 : ((c.toNat : Int) == 39) = false := u8f h39
      have hO := HO.out
      rw [if_neg (by rintro (h | h); exact h34 h; exact h39 h)] at hO
      have HO := hide hO
      have H34 := hide h34
      have H39 := hide h39
      clear hO h34 h39
      go_upto_region 10 with (fail)
      go_cut [53] from 16 (fun s53 wx => s53 = .bool BH ∧ w1 = wx)
      case first =>
        by_cases h35 : c = 35
        · have p3 : ((c.toNat : Int) == 35) = true := u8t h35
          have hH := HBH.out
          rw [h35, show ((35 : UInt8) == 35) = true from rfl, Bool.true_and] at hH
          have HH := hide hH
          clear hH h35
          have RE := hide (rEscape s (i + 1) w1 (by omega) (by omega))
          rw [show ((i + 1 : Nat) : Int) = (i : Int) + 1 by omega] at RE
          by_cases hn : i + 1 < s.length
          · have b2 : (i : Int) + 1 < (s.length : Int) := by omega
            have b3 : (0 : Int) ≤ (i : Int) + 1 := by omega
            have b4 : ((i : Int) + 1).toNat = i + 1 := by omega
            obtain ⟨y, hy⟩ : ∃ y, s[i + 1] = y := ⟨_, rfl⟩
            have hH := HH.out
            rw [isAt_get (p := Cssp.goesOn) (show s[i + 1]? = some y by rw [List.getElem?_eq_getElem hn, hy])] at hH
            have HH := hide hH
            clear hH
            cases hg : Cssp.goesOn y with
            | true =>
              have hb : BH = true := by rw [← HH.out, hg]; rfl
              have HG := hide hg
              clear hg
              go_wp2_with fail
              refine (rGoesOn y _).mono ?_
              rintro e w' ⟨rfl, rfl⟩
              rw [HG.out]
              go_wp2_with fail
              go_meet
              case rel => exact ⟨by rw [hb], rfl⟩
            | false =>
              have hb : BH = Cssp.escAt s (i + 1) := by rw [← HH.out, hg]; rfl
              have HB := hide hb
              have HG := hide hg
              clear hg hb
              go_wp2_with fail
              refine (rGoesOn y _).mono ?_
              rintro e w' ⟨rfl, rfl⟩
              rw [HG.out]
              go_wp2_with fail
              refine RE.out.mono ?_
              rintro e w' ⟨rfl, rfl⟩
              go_wp2_with fail
              go_meet
              case rel => exact ⟨by rw [HB.out], rfl⟩
          · have b2 : ¬ (i : Int) + 1 < (s.length : Int) := by omega
            have b2d : decide ((i : Int) + 1 < (s.length : Int)) = false := decide_eq_false b2
            have hb : BH = false := by
              rw [← HH.out, isAt_none (p := Cssp.goesOn) hn, esc_no hn]; rfl
            have HB := hide hb
            clear hb
            go_wp2_with fail
            go_meet
            case rel => exact ⟨by rw [HB.out], rfl⟩
        · have p3 : ((c.toNat : Int) == 35) = false := u8f h35
          have hb : BH = false := by rw [← HBH.out, beq_eq_false_iff_ne.2 h35]; rfl
          have HB := hide hb
          clear hb h35
          go_wp2_with fail
          go_meet
          case rel => exact ⟨by rw [HB.out], rfl⟩
      case rest =>
      obtain ⟨rfl, rfl⟩ := hcut
      have hwi : Hid (wrap64 ((i : Int) + 1) = (i : Int) + 1) := by unfold Hid; unfold wrap64; omega
      cases BH with
      | true =>
        have hO := HO.out
        rw [if_pos rfl] at hO
        obtain ⟨M, hM⟩ : ∃ M, Cssp.name (s.drop (i + 1)) = M := ⟨_, rfl⟩
        rw [hM] at hO
        have HNM := hide (rName s (i + 1) w1 hl (by omega) M hM)
        rw [show ((i + 1 : Nat) : Int) = (i : Int) + 1 by omega] at HNM
        obtain ⟨mt, mk, mo⟩ := M
        have HNN := hide hO
        clear hO HO hM
        have RI := hide (rIdent s (i + 1) w1 (by omega) (by omega))
        rw [show ((i + 1 : Nat) : Int) = (i : Int) + 1 by omega] at RI
        obtain ⟨fl, hfl⟩ : ∃ b, Cssp.identAt s (i + 1) = b := ⟨_, rfl⟩
        have hO := HNN.out
        rw [hfl] at hO RI
        have HNN := hide hO
        clear hO hfl
        go_wp2_with fail
        refine RI.out.mono ?_
        rintro e w' ⟨rfl, rfl⟩
        go_wp2_with fail
        refine HNM.out.mono ?_
        rintro e w2 ⟨rfl, hb2⟩
        have HB2 : Hid (Below w.heap.size w w2) := HB1.out.trans (hb2.mono HB1.out.size)
        have HZ2 : Hid (Zh w2 w.heap.size) := HZ1.out.below hb2
        clear hb2 HNM RI
        obtain ⟨z0, z1, z2, z3, z4, z5, z6⟩ := HZ2.out.cells
        have g0 := HZ2.out.frozen 0
        have g1 := HZ2.out.frozen 1
        have g2 := HZ2.out.frozen 2
        have g3 := HZ2.out.frozen 3
        have g4 := HZ2.out.frozen 4
        have g5 := HZ2.out.frozen 5
        have g6 := HZ2.out.frozen 6
        go_wp2_with fail
        change bodyPost _ _ _ _ ⟨_, _⟩ (putH w2 w.heap.size (⟨5, mt, [], fl⟩) ((i : Int) + 1 + (mk : Int)) mo false)
        obtain ⟨q0, q1, q2, q3, q4, q5, q6⟩ := putH_cells HZ2.out (⟨5, mt, [], fl⟩) ((i : Int) + 1 + (mk : Int)) mo false
        refine bodyPost_ret (v := HV (⟨5, mt, [], fl⟩) ((i : Int) + 1 + (mk : Int)) mo false) (by simp [results, Tryz.results30, go_sem, q0, q1, q2, q3, q4, q5, q6]) rfl ?_
        exact ⟨by rw [HNN.out]; exact ret_H rfl (by simp only; omega) rfl rfl, putH_below HB2.out (Nat.le_refl _) _ _ _ _⟩
      | false =>
      have hO := HO.out
      rw [if_neg (by decide)] at hO
      have HO := hide hO
      clear hO HBH
      cases BN with
      | true =>
        have hO := HO.out
        rw [if_pos rfl] at hO
        have HTX2 := hide (rNumeric s i w1 hl hi N hO.symm)
        clear hO HO
        obtain ⟨N1, k0, o0, i0, e0⟩ := N
        obtain ⟨x0, x1, x2, x3⟩ := N1
        go_wp2_with fail
        refine HTX2.out.mono ?_
        rintro e w2 ⟨rfl, hb2⟩
        have HB2 : Hid (Below w.heap.size w w2) := HB1.out.trans (hb2.mono HB1.out.size)
        have HZ2 : Hid (Zh w2 w.heap.size) := HZ1.out.below hb2
        clear hb2 HTX2
        obtain ⟨z0, z1, z2, z3, z4, z5, z6⟩ := HZ2.out.cells
        have g0 := HZ2.out.frozen 0
        have g1 := HZ2.out.frozen 1
        have g2 := HZ2.out.frozen 2
        have g3 := HZ2.out.frozen 3
        have g4 := HZ2.out.frozen 4
        have g5 := HZ2.out.frozen 5
        have g6 := HZ2.out.frozen 6
        go_wp2_with fail
        change bodyPost _ _ _ _ ⟨_, _⟩ (putH w2 w.heap.size (⟨x0, x1, x2, x3⟩) ((i : Int) + (k0 : Int)) o0 i0)
        obtain ⟨q0, q1, q2, q3, q4, q5, q6⟩ := putH_cells HZ2.out (⟨x0, x1, x2, x3⟩) ((i : Int) + (k0 : Int)) o0 i0
        refine bodyPost_ret (v := HV (⟨x0, x1, x2, x3⟩) ((i : Int) + (k0 : Int)) o0 i0) (by simp [results, Tryz.results30, go_sem, q0, q1, q2, q3, q4, q5, q6]) rfl ?_
        exact ⟨by exact ret_H rfl (by first | omega | (simp only; omega)) rfl rfl, putH_below HB2.out (Nat.le_refl _) _ _ _ _⟩
      | false =>
      have hO := HO.out
      rw [if_neg (by decide)] at hO
      have HO := hide hO
      clear hO
      go_upto_region 16 with (fail)
      go_cut [99] from 16 (fun s99 wx => s99 = .bool BC ∧ w1 = wx)
      case first =>
        by_cases hn : i + 3 ≤ s.length
        · have b2 : (i : Int) + 3 ≤ (s.length : Int) := by omega
          have b3 : (i : Int) ≤ (i : Int) + 3 := by omega
          have hq : ((s.drop i).take 3 == [45, 45, 62]) = BC := by rw [← HBC.out]; exact Cssp.pre_take Cssp.wClose s i hn
          go_wp2_with fail
          go_meet
          case rel => exact ⟨by first | rfl | rw [hq] | (rw [← hq]), rfl⟩
        · have b2 : ¬ (i : Int) + 3 ≤ (s.length : Int) := by omega
          have b2d : decide ((i : Int) + 3 ≤ (s.length : Int)) = false := decide_eq_false b2
          have hb : BC = false := by rw [← HBC.out]; exact Cssp.pre_short Cssp.wClose s i (by show _ < _ + 3; omega) (by decide)
          have HB := hide hb
          clear hb
          go_wp2_with fail
          go_meet
          case rel => exact ⟨by rw [HB.out], rfl⟩
      case rest =>
      obtain ⟨rfl, rfl⟩ := hcut
      cases BC with
      | true =>
        have hO := HO.out
        rw [if_pos rfl] at hO
        have HNN := hide hO
        clear hO HO
        obtain ⟨z0, z1, z2, z3, z4, z5, z6⟩ := HZ1.out.cells
        have g0 := HZ1.out.frozen 0
        have g1 := HZ1.out.frozen 1
        have g2 := HZ1.out.frozen 2
        have g3 := HZ1.out.frozen 3
        have g4 := HZ1.out.frozen 4
        have g5 := HZ1.out.frozen 5
        have g6 := HZ1.out.frozen 6
        go_wp2_with fail
        change bodyPost _ _ _ _ ⟨_, _⟩ (putH w1 w.heap.size (Cssp.tk 15 []) ((i : Int) + 3) false false)
        obtain ⟨q0, q1, q2, q3, q4, q5, q6⟩ := putH_cells HZ1.out (Cssp.tk 15 []) ((i : Int) + 3) false false
        refine bodyPost_ret (v := HV (Cssp.tk 15 []) ((i : Int) + 3) false false) (by simp [results, Tryz.results30, go_sem, q0, q1, q2, q3, q4, q5, q6]) rfl ?_
        exact ⟨by rw [HNN.out]; exact ret_H rfl (by simp only; omega) rfl rfl, putH_below HB1.out (Nat.le_refl _) _ _ _ _⟩
      | false =>
      have hO := HO.out
      rw [if_neg (by decide)] at hO
      have HO := hide hO
      clear hO
      go_upto_region 18 with (fail)
      go_cut [117] from 16 (fun s117 wx => s117 = .bool BO ∧ w1 = wx)
      case first =>
        by_cases hn : i + 4 ≤ s.length
        · have b2 : (i : Int) + 4 ≤ (s.length : Int) := by omega
          have b3 : (i : Int) ≤ (i : Int) + 4 := by omega
          have hq : ((s.drop i).take 4 == [60, 33, 45, 45]) = BO := by rw [← HBO.out]; exact Cssp.pre_take Cssp.wOpen s i hn
          go_wp2_with fail
          go_meet
          case rel => exact ⟨by first | rfl | rw [hq] | (rw [← hq]), rfl⟩
        · have b2 : ¬ (i : Int) + 4 ≤ (s.length : Int) := by omega
          have b2d : decide ((i : Int) + 4 ≤ (s.length : Int)) = false := decide_eq_false b2
          have hb : BO = false := by rw [← HBO.out]; exact Cssp.pre_short Cssp.wOpen s i (by show _ < _ + 4; omega) (by decide)
          have HB := hide hb
          clear hb
          go_wp2_with fail
          go_meet
          case rel => exact ⟨by rw [HB.out], rfl⟩
      case rest =>
      obtain ⟨rfl, rfl⟩ := hcut
      cases BO with
      | true =>
        have hO := HO.out
        rw [if_pos rfl] at hO
        have HNN := hide hO
        clear hO HO
        obtain ⟨z0, z1, z2, z3, z4, z5, z6⟩ := HZ1.out.cells
        have g0 := HZ1.out.frozen 0
        have g1 := HZ1.out.frozen 1
        have g2 := HZ1.out.frozen 2
        have g3 := HZ1.out.frozen 3
        have g4 := HZ1.out.frozen 4
        have g5 := HZ1.out.frozen 5
        have g6 := HZ1.out.frozen 6
        go_wp2_with fail
        change bodyPost _ _ _ _ ⟨_, _⟩ (putH w1 w.heap.size (Cssp.tk 14 []) ((i : Int) + 4) false false)
        obtain ⟨q0, q1, q2, q3, q4, q5, q6⟩ := putH_cells HZ1.out (Cssp.tk 14 []) ((i : Int) + 4) false false
        refine bodyPost_ret (v := HV (Cssp.tk 14 []) ((i : Int) + 4) false false) (by simp [results, Tryz.results30, go_sem, q0, q1, q2, q3, q4, q5, q6]) rfl ?_
        exact ⟨by rw [HNN.out]; exact ret_H rfl (by simp only; omega) rfl rfl, putH_below HB1.out (Nat.le_refl _) _ _ _ _⟩
      | false =>
      have hO := HO.out
      rw [if_neg (by decide)] at hO
      have HO := hide hO
      clear hO
      cases BI with
      | true =>
        have hO := HO.out
        rw [if_pos rfl] at hO
        have HTX2 := hide (rWord s i w1 hl (by omega) hno N hO.symm)
        clear hO HO
        obtain ⟨N1, k0, o0, i0, e0⟩ := N
        obtain ⟨x0, x1, x2, x3⟩ := N1
        go_wp2_with fail
        refine HTX2.out.mono ?_
        rintro e w2 ⟨rfl, hb2⟩
        have HB2 : Hid (Below w.heap.size w w2) := HB1.out.trans (hb2.mono HB1.out.size)
        have HZ2 : Hid (Zh w2 w.heap.size) := HZ1.out.below hb2
        clear hb2 HTX2
        obtain ⟨z0, z1, z2, z3, z4, z5, z6⟩ := HZ2.out.cells
        have g0 := HZ2.out.frozen 0
        have g1 := HZ2.out.frozen 1
        have g2 := HZ2.out.frozen 2
        have g3 := HZ2.out.frozen 3
        have g4 := HZ2.out.frozen 4
        have g5 := HZ2.out.frozen 5
        have g6 := HZ2.out.frozen 6
        go_wp2_with fail
        change bodyPost _ _ _ _ ⟨_, _⟩ (putH w2 w.heap.size (⟨x0, x1, x2, x3⟩) ((i : Int) + (k0 : Int)) o0 i0)
        obtain ⟨q0, q1, q2, q3, q4, q5, q6⟩ := putH_cells HZ2.out (⟨x0, x1, x2, x3⟩) ((i : Int) + (k0 : Int)) o0 i0
        refine bodyPost_ret (v := HV (⟨x0, x1, x2, x3⟩) ((i : Int) + (k0 : Int)) o0 i0) (by simp [results, Tryz.results30, go_sem, q0, q1, q2, q3, q4, q5, q6]) rfl ?_
        exact ⟨by exact ret_H rfl (by first | omega | (simp only; omega)) rfl rfl, putH_below HB2.out (Nat.le_refl _) _ _ _ _⟩
      | false =>
      have hO := HO.out
      rw [if_neg (by decide)] at hO
      have HO := hide hO
      clear hO
      go_upto_region 22 with (fail)
      go_cut [140] from 16 (fun s140 wx => s140 = .bool BA ∧ w1 = wx)
      case first =>
        by_cases h64 : c = 64
        · have p3 : ((c.toNat : Int) == 64) = true := u8t h64
          have hb := HBA.out
          rw [h64, show ((64 : UInt8) == 64) = true from rfl, Bool.true_and] at hb
          have RI := hide (rIdent s (i + 1) w1 (by omega) (by omega))
          rw [show ((i + 1 : Nat) : Int) = (i : Int) + 1 by omega, hb] at RI
          clear hb h64
          go_wp2_with fail
          refine RI.out.mono ?_
          rintro e w' ⟨rfl, rfl⟩
          go_wp2_with fail
          go_meet
          case rel => exact ⟨rfl, rfl⟩
        · have p3 : ((c.toNat : Int) == 64) = false := u8f h64
          have hb : BA = false := by rw [← HBA.out, beq_eq_false_iff_ne.2 h64]; rfl
          have HB := hide hb
          clear hb h64
          go_wp2_with fail
          go_meet
          case rel => exact ⟨by rw [HB.out], rfl⟩
      case rest =>
      obtain ⟨rfl, rfl⟩ := hcut
      cases BA with
      | true =>
        have hO := HO.out
        rw [if_pos rfl] at hO
        obtain ⟨M, hM⟩ : ∃ M, Cssp.name (s.drop (i + 1)) = M := ⟨_, rfl⟩
        rw [hM] at hO
        have HNM := hide (rName s (i + 1) w1 hl (by omega) M hM)
        rw [show ((i + 1 : Nat) : Int) = (i : Int) + 1 by omega] at HNM
        obtain ⟨mt, mk, mo⟩ := M
        have HNN := hide hO
        clear hO HO hM
        go_wp2_with fail
        refine HNM.out.mono ?_
        rintro e w2 ⟨rfl, hb2⟩
        have HB2 : Hid (Below w.heap.size w w2) := HB1.out.trans (hb2.mono HB1.out.size)
        have HZ2 : Hid (Zh w2 w.heap.size) := HZ1.out.below hb2
        clear hb2 HNM
        obtain ⟨z0, z1, z2, z3, z4, z5, z6⟩ := HZ2.out.cells
        have g0 := HZ2.out.frozen 0
        have g1 := HZ2.out.frozen 1
        have g2 := HZ2.out.frozen 2
        have g3 := HZ2.out.frozen 3
        have g4 := HZ2.out.frozen 4
        have g5 := HZ2.out.frozen 5
        have g6 := HZ2.out.frozen 6
        go_wp2_with fail
        change bodyPost _ _ _ _ ⟨_, _⟩ (putH w2 w.heap.size (Cssp.tk 4 mt) ((i : Int) + 1 + (mk : Int)) mo false)
        obtain ⟨q0, q1, q2, q3, q4, q5, q6⟩ := putH_cells HZ2.out (Cssp.tk 4 mt) ((i : Int) + 1 + (mk : Int)) mo false
        refine bodyPost_ret (v := HV (Cssp.tk 4 mt) ((i : Int) + 1 + (mk : Int)) mo false) (by simp [results, Tryz.results30, go_sem, q0, q1, q2, q3, q4, q5, q6]) rfl ?_
        exact ⟨by rw [HNN.out]; exact ret_H rfl (by simp only; omega) rfl rfl, putH_below HB2.out (Nat.le_refl _) _ _ _ _⟩
      | false =>
      exfalso
      have hT := HT.out
      rw [HBL.out, beq_eq_false_iff_ne.2 H34.out, beq_eq_false_iff_ne.2 H39.out] at hT
      exact absurd hT (by decide)
  case rest => exact hcut.elim
set_option maxRecDepth 100000 in
set_option maxHeartbeats 8000000 in
theorem rOne_2 (s : List UInt8) (i : Nat) (w : World) (hl : s.length ≤ 1048576) (hi : i < s.length) (_hno : Hid (Cssp.NoFR s)) (N : Cssp.Th) (hN : Hid (Cssp.one (s.drop i) = N)) (hT0 : Hid (oneT s i = false)) :
    Calls Tryz.prog 30 #[S s, .int .i64 i] w (Fresh (HV N.x ((i + N.k : Nat) : Int) N.o N.i) w) := by
  have hz := Zh.new w
  have hal := (Below.refl w.heap.size w).alloc (Nat.le_refl _) zeroH
  obtain ⟨c, hc⟩ : ∃ c, s[i] = c := ⟨_, rfl⟩
  have hci : s[i]? = some c := by rw [List.getElem?_eq_getElem hi, hc]
  have hac : Cssp.at_ s i = c := by rw [Cssp.at_, List.getD_eq_getElem?_getD, hci]; rfl
  have hdi : s.drop i = c :: s.drop (i + 1) := by rw [← hc]; exact List.drop_eq_getElem_cons hi
  have htk : (s.drop i).take 1 = [c] := by rw [hdi]; rfl
  obtain ⟨BN, hBN⟩ : ∃ b, Cssp.numberAt s i = b := ⟨_, rfl⟩
  obtain ⟨BI, hBI⟩ : ∃ b, Cssp.identAt s i = b := ⟨_, rfl⟩
  obtain ⟨BC, hBC⟩ : ∃ b, Cssp.wClose.isPrefixOf (s.drop i) = b := ⟨_, rfl⟩
  obtain ⟨BO, hBO⟩ : ∃ b, Cssp.wOpen.isPrefixOf (s.drop i) = b := ⟨_, rfl⟩
  obtain ⟨BH, hBH⟩ : ∃ b, (c == 35 && (Cssp.isAt Cssp.goesOn s (i + 1) || Cssp.escAt s (i + 1))) = b := ⟨_, rfl⟩
  obtain ⟨BA, hBA⟩ : ∃ b, (c == 64 && Cssp.identAt s (i + 1)) = b := ⟨_, rfl⟩
  have hone := Cssp.one_eq (s.drop i)
  rw [hN.out, Cssp.at_drop, Nat.add_zero, hac, Cssp.isAt_drop, Cssp.escAt_drop, Cssp.identAt_drop, Cssp.numberAt_drop, Cssp.identAt_drop, hBC, hBO, hBN, show i + 0 = i from rfl, hBI, List.drop_drop, htk] at hone
  -- the order of the document
  have hO : N = if Cssp.blank c = true then ⟨Cssp.tk 1 [], Cssp.run Cssp.blank (s.drop i), false, false, 0⟩
      else if c = 34 ∨ c = 39 then Cssp.text (s.drop i)
      else if BH = true then ⟨⟨5, (Cssp.name (s.drop (i + 1))).t, [], Cssp.identAt s (i + 1)⟩, (Cssp.name (s.drop (i + 1))).k + 1, (Cssp.name (s.drop (i + 1))).o, false, 0⟩
      else if BN = true then Cssp.numeric (s.drop i)
      else if BC = true then ⟨Cssp.tk 15 [], 3, false, false, 0⟩
      else if BO = true then ⟨Cssp.tk 14 [], 4, false, false, 0⟩
      else if BI = true then Cssp.word (s.drop i)
      else if BA = true then ⟨Cssp.tk 4 (Cssp.name (s.drop (i + 1))).t, (Cssp.name (s.drop (i + 1))).k + 1, (Cssp.name (s.drop (i + 1))).o, false, 0⟩
      else if Cssp.marks.contains c = true then ⟨Cssp.tk 16 [c], 1, false, false, 0⟩
      else ⟨Cssp.tk 10 [c], 1, false, false, 0⟩ := by
    have no : ([35, 64] ++ Cssp.marks).contains c = true → BN = false ∧ BC = false ∧ BO = false ∧ BI = false := fun h => by
      have h60 : c ≠ 45 ∧ c ≠ 60 := by
        simp only [Cssp.marks, List.cons_append, List.nil_append, List.contains_cons, List.contains_nil, Bool.or_false, Bool.or_eq_true, beq_iff_eq] at h
        rcases h with rfl | rfl | rfl | rfl | rfl | rfl | rfl | rfl | rfl | rfl | rfl <;> decide
      exact ⟨by rw [← hBN]; exact Cssp.number_no hac h, by rw [← hBC]; exact Cssp.pre_no hi hac rfl h60.1, by rw [← hBO]; exact Cssp.pre_no hi hac rfl h60.2, by rw [← hBI]; exact Cssp.ident_no hi hac h⟩
    rw [hone]
    by_cases h1 : Cssp.blank c = true
    · rw [if_pos h1, if_pos h1]
    rw [if_neg h1, if_neg h1]
    by_cases h2 : c = 34 ∨ c = 39
    · rw [if_pos h2, if_pos h2]
    rw [if_neg h2, if_neg h2]
    by_cases h35 : c = 35
    · obtain ⟨n1, n2, n3, n4⟩ := no (by rw [h35]; decide)
      have hA : BA = false := by rw [← hBA, h35]; rfl
      have hm : Cssp.marks.contains c = false := by rw [h35]; decide
      have hH : BH = (Cssp.isAt Cssp.goesOn s (i + 1) || Cssp.escAt s (i + 1)) := by rw [← hBH, h35]; simp
      rw [if_pos h35, n1, n2, n3, n4, hA, hm, hH]
      by_cases hb : (Cssp.isAt Cssp.goesOn s (i + 1) || Cssp.escAt s (i + 1)) = true
      · rw [if_pos hb, if_pos hb]
      · rw [if_neg hb, if_neg hb]; rfl
    rw [if_neg h35]
    have hH : BH = false := by rw [← hBH, beq_eq_false_iff_ne.2 h35]; rfl
    rw [hH]
    by_cases h64 : c = 64
    · obtain ⟨n1, n2, n3, n4⟩ := no (by rw [h64]; decide)
      have hm : Cssp.marks.contains c = false := by rw [h64]; decide
      have hA : BA = Cssp.identAt s (i + 1) := by rw [← hBA, h64]; simp
      rw [if_pos h64, n1, n2, n3, n4, hm, hA]
      by_cases hb : Cssp.identAt s (i + 1) = true
      · rw [if_pos hb]; simp [hb]
      · rw [if_neg hb]; simp [hb]
    rw [if_neg h64]
    have hA : BA = false := by rw [← hBA, beq_eq_false_iff_ne.2 h64]; rfl
    rw [hA]
    by_cases hm : Cssp.marks.contains c = true
    · obtain ⟨n1, n2, n3, n4⟩ := no (by rw [List.contains_iff_mem] at hm ⊢; exact List.mem_append_right _ hm)
      rw [if_pos hm, n1, n2, n3, n4]; simp only [Bool.false_eq_true, if_false, hm, if_true]
    · rw [if_neg hm]
      simp only [Bool.eq_false_iff.2 hm]
      rfl
  have hT := hT0.out
  unfold oneT at hT
  rw [hac, hBN, hBI, hBC, hBO, hBH, hBA] at hT
  have HT := hide hT
  clear hT hT0
  have HO := hide hO
  have HBN := hide (rNumber s i)
  have HBI := hide (rIdent s i)
  have HBN2 := hide hBN
  have HBI2 := hide hBI
  have HBC := hide hBC
  have HBO := hide hBO
  have HBH := hide hBH
  have HBA := hide hBA
  have HTK := hide htk
  have HCI := hide hci
  have HDI := hide hdi
  have b0 : (0 : Int) ≤ (i : Int) := by omega
  have b1 : (i : Int) < (s.length : Int) := by omega
  clear hN hone hO hBN hBI hBC hBO hBH hBA htk hci hdi hac
  go_enter Tryz.func30, Tryz.ntmps30
  go_upto_region 1 with (fail)
  change Code.wp _ _ _ _ (w.alloc zeroH)
  generalize hgen : w.alloc zeroH = w1 at hz hal ⊢
  clear hgen
  have HZ1 := hide hz
  have HB1 := hide hal
  clear hz hal
  have R1 := hide (HBN.out w1 (by omega) (by omega))
  have R2 := hide (HBI.out w1 (by omega) (by omega))
  rw [HBN2.out] at R1
  rw [HBI2.out] at R2
  clear HBN HBI HBN2 HBI2
  go_wp2_with fail
  refine R1.out.mono ?_
  rintro e w' ⟨rfl, rfl⟩
  go_wp2_with fail
  refine R2.out.mono ?_
  rintro e w' ⟨rfl, rfl⟩
  clear R1 R2
  go_upto_block 0 with fail
  go_cut [1, 5] from 16 (fun s1 s5 wx => s1 = .int .i64 i ∧ s5 = .int .u8 c.toNat ∧ w1 = wx ∧ Hid (N = if Cssp.marks.contains c = true then ⟨Cssp.tk 16 [c], 1, false, false, 0⟩ else ⟨Cssp.tk 10 [c], 1, false, false, 0⟩))
  case first =>
    have hT := HT.out
    simp only [Bool.or_eq_false_iff, beq_eq_false_iff_ne, ne_eq] at hT
    obtain ⟨⟨⟨⟨⟨⟨⟨⟨hbl, h34⟩, h39⟩, hF1⟩, hF2⟩, hF3⟩, hF4⟩, hF5⟩, hF6⟩ := hT
    have HF1 := hide hF1
    have HF2 := hide hF2
    have HF3 := hide hF3
    have HF4 := hide hF4
    have HF5 := hide hF5
    have HF6 := hide hF6
    clear hF1 hF2 hF3 hF4 hF5 hF6 HT
    ·
      have hO := HO.out
      rw [hbl, if_neg (by decide)] at hO
      have HO := hide hO
      have HBL := hide hbl
      clear hO hbl
      go_wp2_with fail
      refine (rBlank c _).mono ?_
      rintro e w' ⟨rfl, rfl⟩
      rw [HBL.out]
      have p1 : ((c.toNat : Int) == 34) = false := u8f h34
      have p2 : ((c.toNat : Int) == 39) = false := u8f h39
      have hO := HO.out
      rw [if_neg (by rintro (h | h); exact h34 h; exact h39 h)] at hO
      have HO := hide hO
      clear hO h34 h39
      go_upto_region 10 with (fail)
      go_cut [53] from 16 (fun s53 wx => s53 = .bool BH ∧ w1 = wx)
      case first =>
        by_cases h35 : c = 35
        · have p3 : ((c.toNat : Int) == 35) = true := u8t h35
          have hH := HBH.out
          rw [h35, show ((35 : UInt8) == 35) = true from rfl, Bool.true_and] at hH
          have HH := hide hH
          clear hH h35
          have RE := hide (rEscape s (i + 1) w1 (by omega) (by omega))
          rw [show ((i + 1 : Nat) : Int) = (i : Int) + 1 by omega] at RE
          by_cases hn : i + 1 < s.length
          · have b2 : (i : Int) + 1 < (s.length : Int) := by omega
            have b3 : (0 : Int) ≤ (i : Int) + 1 := by omega
            have b4 : ((i : Int) + 1).toNat = i + 1 := by omega
            obtain ⟨y, hy⟩ : ∃ y, s[i + 1] = y := ⟨_, rfl⟩
            have hH := HH.out
            rw [isAt_get (p := Cssp.goesOn) (show s[i + 1]? = some y by rw [List.getElem?_eq_getElem hn, hy])] at hH
            have HH := hide hH
            clear hH
            cases hg : Cssp.goesOn y with
            | true =>
              have hb : BH = true := by rw [← HH.out, hg]; rfl
              have HG := hide hg
              clear hg
              go_wp2_with fail
              refine (rGoesOn y _).mono ?_
              rintro e w' ⟨rfl, rfl⟩
              rw [HG.out]
              go_wp2_with fail
              go_meet
              case rel => exact ⟨by rw [hb], rfl⟩
            | false =>
              have hb : BH = Cssp.escAt s (i + 1) := by rw [← HH.out, hg]; rfl
              have HB := hide hb
              have HG := hide hg
              clear hg hb
              go_wp2_with fail
              refine (rGoesOn y _).mono ?_
              rintro e w' ⟨rfl, rfl⟩
              rw [HG.out]
              go_wp2_with fail
              refine RE.out.mono ?_
              rintro e w' ⟨rfl, rfl⟩
              go_wp2_with fail
              go_meet
              case rel => exact ⟨by rw [HB.out], rfl⟩
          · have b2 : ¬ (i : Int) + 1 < (s.length : Int) := by omega
            have b2d : decide ((i : Int) + 1 < (s.length : Int)) = false := decide_eq_false b2
            have hb : BH = false := by
              rw [← HH.out, isAt_none (p := Cssp.goesOn) hn, esc_no hn]; rfl
            have HB := hide hb
            clear hb
            go_wp2_with fail
            go_meet
            case rel => exact ⟨by rw [HB.out], rfl⟩
        · have p3 : ((c.toNat : Int) == 35) = false := u8f h35
          have hb : BH = false := by rw [← HBH.out, beq_eq_false_iff_ne.2 h35]; rfl
          have HB := hide hb
          clear hb h35
          go_wp2_with fail
          go_meet
          case rel => exact ⟨by rw [HB.out], rfl⟩
      case rest =>
      obtain ⟨rfl, rfl⟩ := hcut
      have hwi : Hid (wrap64 ((i : Int) + 1) = (i : Int) + 1) := by unfold Hid; unfold wrap64; omega
      have eBH := HF1.out
      clear HF1
      subst eBH
      have hO := HO.out
      rw [if_neg (by decide)] at hO
      have HO := hide hO
      clear hO HBH
      have eBN := HF2.out
      clear HF2
      subst eBN
      have hO := HO.out
      rw [if_neg (by decide)] at hO
      have HO := hide hO
      clear hO
      go_upto_region 16 with (fail)
      go_cut [99] from 16 (fun s99 wx => s99 = .bool BC ∧ w1 = wx)
      case first =>
        by_cases hn : i + 3 ≤ s.length
        · have b2 : (i : Int) + 3 ≤ (s.length : Int) := by omega
          have b3 : (i : Int) ≤ (i : Int) + 3 := by omega
          have hq : ((s.drop i).take 3 == [45, 45, 62]) = BC := by rw [← HBC.out]; exact Cssp.pre_take Cssp.wClose s i hn
          go_wp2_with fail
          go_meet
          case rel => exact ⟨by first | rfl | rw [hq] | (rw [← hq]), rfl⟩
        · have b2 : ¬ (i : Int) + 3 ≤ (s.length : Int) := by omega
          have b2d : decide ((i : Int) + 3 ≤ (s.length : Int)) = false := decide_eq_false b2
          have hb : BC = false := by rw [← HBC.out]; exact Cssp.pre_short Cssp.wClose s i (by show _ < _ + 3; omega) (by decide)
          have HB := hide hb
          clear hb
          go_wp2_with fail
          go_meet
          case rel => exact ⟨by rw [HB.out], rfl⟩
      case rest =>
      obtain ⟨rfl, rfl⟩ := hcut
      have eBC := HF3.out
      clear HF3
      subst eBC
      have hO := HO.out
      rw [if_neg (by decide)] at hO
      have HO := hide hO
      clear hO
      go_upto_region 18 with (fail)
      go_cut [117] from 16 (fun s117 wx => s117 = .bool BO ∧ w1 = wx)
      case first =>
        by_cases hn : i + 4 ≤ s.length
        · have b2 : (i : Int) + 4 ≤ (s.length : Int) := by omega
          have b3 : (i : Int) ≤ (i : Int) + 4 := by omega
          have hq : ((s.drop i).take 4 == [60, 33, 45, 45]) = BO := by rw [← HBO.out]; exact Cssp.pre_take Cssp.wOpen s i hn
          go_wp2_with fail
          go_meet
          case rel => exact ⟨by first | rfl | rw [hq] | (rw [← hq]), rfl⟩
        · have b2 : ¬ (i : Int) + 4 ≤ (s.length : Int) := by omega
          have b2d : decide ((i : Int) + 4 ≤ (s.length : Int)) = false := decide_eq_false b2
          have hb : BO = false := by rw [← HBO.out]; exact Cssp.pre_short Cssp.wOpen s i (by show _ < _ + 4; omega) (by decide)
          have HB := hide hb
          clear hb
          go_wp2_with fail
          go_meet
          case rel => exact ⟨by rw [HB.out], rfl⟩
      case rest =>
      obtain ⟨rfl, rfl⟩ := hcut
      have eBO := HF4.out
      clear HF4
      subst eBO
      have hO := HO.out
      rw [if_neg (by decide)] at hO
      have HO := hide hO
      clear hO
      have eBI := HF5.out
      clear HF5
      subst eBI
      have hO := HO.out
      rw [if_neg (by decide)] at hO
      have HO := hide hO
      clear hO
      go_upto_region 22 with (fail)
      go_cut [140] from 16 (fun s140 wx => s140 = .bool BA ∧ w1 = wx)
      case first =>
        by_cases h64 : c = 64
        · have p3 : ((c.toNat : Int) == 64) = true := u8t h64
          have hb := HBA.out
          rw [h64, show ((64 : UInt8) == 64) = true from rfl, Bool.true_and] at hb
          have RI := hide (rIdent s (i + 1) w1 (by omega) (by omega))
          rw [show ((i + 1 : Nat) : Int) = (i : Int) + 1 by omega, hb] at RI
          clear hb h64
          go_wp2_with fail
          refine RI.out.mono ?_
          rintro e w' ⟨rfl, rfl⟩
          go_wp2_with fail
          go_meet
          case rel => exact ⟨rfl, rfl⟩
        · have p3 : ((c.toNat : Int) == 64) = false := u8f h64
          have hb : BA = false := by rw [← HBA.out, beq_eq_false_iff_ne.2 h64]; rfl
          have HB := hide hb
          clear hb h64
          go_wp2_with fail
          go_meet
          case rel => exact ⟨by rw [HB.out], rfl⟩
      case rest =>
      obtain ⟨rfl, rfl⟩ := hcut
      have eBA := HF6.out
      clear HF6
      subst eBA
      have hO := HO.out
      rw [if_neg (by decide)] at hO
      have HO := hide hO
      clear hO
      go_wp2_with fail
      go_meet
      case rel => exact ⟨rfl, rfl, rfl, HO.out⟩
  case rest =>
    obtain ⟨rfl, rfl, rfl, HO⟩ := hcut
    go_wp2_with fail
    go_loopg [15] 9 (fun g s15 wx => ∃ k : Nat, s15 = .int .i64 k ∧ k + g = 9 ∧ w1 = wx ∧ Hid (∀ m ∈ Cssp.marks.take k, c ≠ m))
    case atStart => exact ⟨0, rfl, by omega, rfl, by unfold Hid; simp⟩
    case round =>
      obtain ⟨k, rfl, hkg, hwx, hall⟩ := hrel
      subst hwx
      have hk : k = 0 ∨ k = 1 ∨ k = 2 ∨ k = 3 ∨ k = 4 ∨ k = 5 ∨ k = 6 ∨ k = 7 ∨ k = 8 ∨ k = 9 := by omega
      rcases hk with rfl | rfl | rfl | rfl | rfl | rfl | rfl | rfl | rfl | rfl
      · by_cases hv : c = 40
        · have p4 : ((40 : Int) == (c.toNat : Int)) = true := by rw [hv]; decide
          have hO := HO.out
          rw [if_pos (by rw [hv]; decide)] at hO
          have HNN := hide hO
          have b2 : (i : Int) + 1 ≤ (s.length : Int) := by omega
          have b3 : (i : Int) ≤ (i : Int) + 1 := by omega
          clear hO HO hv
          obtain ⟨z0, z1, z2, z3, z4, z5, z6⟩ := HZ1.out.cells
          have g0 := HZ1.out.frozen 0
          have g1 := HZ1.out.frozen 1
          have g2 := HZ1.out.frozen 2
          have g3 := HZ1.out.frozen 3
          have g4 := HZ1.out.frozen 4
          have g5 := HZ1.out.frozen 5
          have g6 := HZ1.out.frozen 6
          go_wp2_with fail
          rw [HTK.out]
          change bodyPost _ _ _ _ ⟨_, _⟩ (putH w1 w.heap.size (Cssp.tk 16 [c]) ((i : Int) + 1) false false)
          obtain ⟨q0, q1, q2, q3, q4, q5, q6⟩ := putH_cells HZ1.out (Cssp.tk 16 [c]) ((i : Int) + 1) false false
          refine bodyPost_ret (v := HV (Cssp.tk 16 [c]) ((i : Int) + 1) false false) (by simp [results, Tryz.results30, go_sem, q0, q1, q2, q3, q4, q5, q6]) rfl ?_
          exact ⟨by rw [HNN.out]; exact ret_H rfl (by simp only; omega) rfl rfl, putH_below HB1.out (Nat.le_refl _) _ _ _ _⟩
        have p4 : ((40 : Int) == (c.toNat : Int)) = false := by rw [beq_eq_false_iff_ne]; intro h; exact hv (u8_inj (b := 40) h.symm)
        have hall2 : Hid (∀ m ∈ Cssp.marks.take 1, c ≠ m) := fun m hm => by
          have e : Cssp.marks.take 1 = Cssp.marks.take 0 ++ [40] := rfl
          rw [e, List.mem_append] at hm
          rcases hm with hm | hm
          · exact hall.out m hm
          · rw [List.mem_singleton.1 hm]; exact hv
        clear hv
        go_wp2_with fail
        go_roundg (gk - 1)
        case measure => omega
        case rel => exact ⟨1, rfl, by omega, rfl, hall2⟩
      · by_cases hv : c = 41
        · have p4 : ((41 : Int) == (c.toNat : Int)) = true := by rw [hv]; decide
          have hO := HO.out
          rw [if_pos (by rw [hv]; decide)] at hO
          have HNN := hide hO
          have b2 : (i : Int) + 1 ≤ (s.length : Int) := by omega
          have b3 : (i : Int) ≤ (i : Int) + 1 := by omega
          clear hO HO hv
          obtain ⟨z0, z1, z2, z3, z4, z5, z6⟩ := HZ1.out.cells
          have g0 := HZ1.out.frozen 0
          have g1 := HZ1.out.frozen 1
          have g2 := HZ1.out.frozen 2
          have g3 := HZ1.out.frozen 3
          have g4 := HZ1.out.frozen 4
          have g5 := HZ1.out.frozen 5
          have g6 := HZ1.out.frozen 6
          go_wp2_with fail
          rw [HTK.out]
          change bodyPost _ _ _ _ ⟨_, _⟩ (putH w1 w.heap.size (Cssp.tk 16 [c]) ((i : Int) + 1) false false)
          obtain ⟨q0, q1, q2, q3, q4, q5, q6⟩ := putH_cells HZ1.out (Cssp.tk 16 [c]) ((i : Int) + 1) false false
          refine bodyPost_ret (v := HV (Cssp.tk 16 [c]) ((i : Int) + 1) false false) (by simp [results, Tryz.results30, go_sem, q0, q1, q2, q3, q4, q5, q6]) rfl ?_
          exact ⟨by rw [HNN.out]; exact ret_H rfl (by simp only; omega) rfl rfl, putH_below HB1.out (Nat.le_refl _) _ _ _ _⟩
        have p4 : ((41 : Int) == (c.toNat : Int)) = false := by rw [beq_eq_false_iff_ne]; intro h; exact hv (u8_inj (b := 41) h.symm)
        have hall2 : Hid (∀ m ∈ Cssp.marks.take 2, c ≠ m) := fun m hm => by
          have e : Cssp.marks.take 2 = Cssp.marks.take 1 ++ [41] := rfl
          rw [e, List.mem_append] at hm
          rcases hm with hm | hm
          · exact hall.out m hm
          · rw [List.mem_singleton.1 hm]; exact hv
        clear hv
        go_wp2_with fail
        go_roundg (gk - 1)
        case measure => omega
        case rel => exact ⟨2, rfl, by omega, rfl, hall2⟩
      · by_cases hv : c = 91
        · have p4 : ((91 : Int) == (c.toNat : Int)) = true := by rw [hv]; decide
          have hO := HO.out
          rw [if_pos (by rw [hv]; decide)] at hO
          have HNN := hide hO
          have b2 : (i : Int) + 1 ≤ (s.length : Int) := by omega
          have b3 : (i : Int) ≤ (i : Int) + 1 := by omega
          clear hO HO hv
          obtain ⟨z0, z1, z2, z3, z4, z5, z6⟩ := HZ1.out.cells
          have g0 := HZ1.out.frozen 0
          have g1 := HZ1.out.frozen 1
          have g2 := HZ1.out.frozen 2
          have g3 := HZ1.out.frozen 3
          have g4 := HZ1.out.frozen 4
          have g5 := HZ1.out.frozen 5
          have g6 := HZ1.out.frozen 6
          go_wp2_with fail
          rw [HTK.out]
          change bodyPost _ _ _ _ ⟨_, _⟩ (putH w1 w.heap.size (Cssp.tk 16 [c]) ((i : Int) + 1) false false)
          obtain ⟨q0, q1, q2, q3, q4, q5, q6⟩ := putH_cells HZ1.out (Cssp.tk 16 [c]) ((i : Int) + 1) false false
          refine bodyPost_ret (v := HV (Cssp.tk 16 [c]) ((i : Int) + 1) false false) (by simp [results, Tryz.results30, go_sem, q0, q1, q2, q3, q4, q5, q6]) rfl ?_
          exact ⟨by rw [HNN.out]; exact ret_H rfl (by simp only; omega) rfl rfl, putH_below HB1.out (Nat.le_refl _) _ _ _ _⟩
        have p4 : ((91 : Int) == (c.toNat : Int)) = false := by rw [beq_eq_false_iff_ne]; intro h; exact hv (u8_inj (b := 91) h.symm)
        have hall2 : Hid (∀ m ∈ Cssp.marks.take 3, c ≠ m) := fun m hm => by
          have e : Cssp.marks.take 3 = Cssp.marks.take 2 ++ [91] := rfl
          rw [e, List.mem_append] at hm
          rcases hm with hm | hm
          · exact hall.out m hm
          · rw [List.mem_singleton.1 hm]; exact hv
        clear hv
        go_wp2_with fail
        go_roundg (gk - 1)
        case measure => omega
        case rel => exact ⟨3, rfl, by omega, rfl, hall2⟩
      · by_cases hv : c = 93
        · have p4 : ((93 : Int) == (c.toNat : Int)) = true := by rw [hv]; decide
          have hO := HO.out
          rw [if_pos (by rw [hv]; decide)] at hO
          have HNN := hide hO
          have b2 : (i : Int) + 1 ≤ (s.length : Int) := by omega
          have b3 : (i : Int) ≤ (i : Int) + 1 := by omega
          clear hO HO hv
          obtain ⟨z0, z1, z2, z3, z4, z5, z6⟩ := HZ1.out.cells
          have g0 := HZ1.out.frozen 0
          have g1 := HZ1.out.frozen 1
          have g2 := HZ1.out.frozen 2
          have g3 := HZ1.out.frozen 3
          have g4 := HZ1.out.frozen 4
          have g5 := HZ1.out.frozen 5
          have g6 := HZ1.out.frozen 6
          go_wp2_with fail
          rw [HTK.out]
          change bodyPost _ _ _ _ ⟨_, _⟩ (putH w1 w.heap.size (Cssp.tk 16 [c]) ((i : Int) + 1) false false)
          obtain ⟨q0, q1, q2, q3, q4, q5, q6⟩ := putH_cells HZ1.out (Cssp.tk 16 [c]) ((i : Int) + 1) false false
          refine bodyPost_ret (v := HV (Cssp.tk 16 [c]) ((i : Int) + 1) false false) (by simp [results, Tryz.results30, go_sem, q0, q1, q2, q3, q4, q5, q6]) rfl ?_
          exact ⟨by rw [HNN.out]; exact ret_H rfl (by simp only; omega) rfl rfl, putH_below HB1.out (Nat.le_refl _) _ _ _ _⟩
        have p4 : ((93 : Int) == (c.toNat : Int)) = false := by rw [beq_eq_false_iff_ne]; intro h; exact hv (u8_inj (b := 93) h.symm)
        have hall2 : Hid (∀ m ∈ Cssp.marks.take 4, c ≠ m) := fun m hm => by
          have e : Cssp.marks.take 4 = Cssp.marks.take 3 ++ [93] := rfl
          rw [e, List.mem_append] at hm
          rcases hm with hm | hm
          · exact hall.out m hm
          · rw [List.mem_singleton.1 hm]; exact hv
        clear hv
        go_wp2_with fail
        go_roundg (gk - 1)
        case measure => omega
        case rel => exact ⟨4, rfl, by omega, rfl, hall2⟩
      · by_cases hv : c = 123
        · have p4 : ((123 : Int) == (c.toNat : Int)) = true := by rw [hv]; decide
          have hO := HO.out
          rw [if_pos (by rw [hv]; decide)] at hO
          have HNN := hide hO
          have b2 : (i : Int) + 1 ≤ (s.length : Int) := by omega
          have b3 : (i : Int) ≤ (i : Int) + 1 := by omega
          clear hO HO hv
          obtain ⟨z0, z1, z2, z3, z4, z5, z6⟩ := HZ1.out.cells
          have g0 := HZ1.out.frozen 0
          have g1 := HZ1.out.frozen 1
          have g2 := HZ1.out.frozen 2
          have g3 := HZ1.out.frozen 3
          have g4 := HZ1.out.frozen 4
          have g5 := HZ1.out.frozen 5
          have g6 := HZ1.out.frozen 6
          go_wp2_with fail
          rw [HTK.out]
          change bodyPost _ _ _ _ ⟨_, _⟩ (putH w1 w.heap.size (Cssp.tk 16 [c]) ((i : Int) + 1) false false)
          obtain ⟨q0, q1, q2, q3, q4, q5, q6⟩ := putH_cells HZ1.out (Cssp.tk 16 [c]) ((i : Int) + 1) false false
          refine bodyPost_ret (v := HV (Cssp.tk 16 [c]) ((i : Int) + 1) false false) (by simp [results, Tryz.results30, go_sem, q0, q1, q2, q3, q4, q5, q6]) rfl ?_
          exact ⟨by rw [HNN.out]; exact ret_H rfl (by simp only; omega) rfl rfl, putH_below HB1.out (Nat.le_refl _) _ _ _ _⟩
        have p4 : ((123 : Int) == (c.toNat : Int)) = false := by rw [beq_eq_false_iff_ne]; intro h; exact hv (u8_inj (b := 123) h.symm)
        have hall2 : Hid (∀ m ∈ Cssp.marks.take 5, c ≠ m) := fun m hm => by
          have e : Cssp.marks.take 5 = Cssp.marks.take 4 ++ [123] := rfl
          rw [e, List.mem_append] at hm
          rcases hm with hm | hm
          · exact hall.out m hm
          · rw [List.mem_singleton.1 hm]; exact hv
        clear hv
        go_wp2_with fail
        go_roundg (gk - 1)
        case measure => omega
        case rel => exact ⟨5, rfl, by omega, rfl, hall2⟩
      · by_cases hv : c = 125
        · have p4 : ((125 : Int) == (c.toNat : Int)) = true := by rw [hv]; decide
          have hO := HO.out
          rw [if_pos (by rw [hv]; decide)] at hO
          have HNN := hide hO
          have b2 : (i : Int) + 1 ≤ (s.length : Int) := by omega
          have b3 : (i : Int) ≤ (i : Int) + 1 := by omega
          clear hO HO hv
          obtain ⟨z0, z1, z2, z3, z4, z5, z6⟩ := HZ1.out.cells
          have g0 := HZ1.out.frozen 0
          have g1 := HZ1.out.frozen 1
          have g2 := HZ1.out.frozen 2
          have g3 := HZ1.out.frozen 3
          have g4 := HZ1.out.frozen 4
          have g5 := HZ1.out.frozen 5
          have g6 := HZ1.out.frozen 6
          go_wp2_with fail
          rw [HTK.out]
          change bodyPost _ _ _ _ ⟨_, _⟩ (putH w1 w.heap.size (Cssp.tk 16 [c]) ((i : Int) + 1) false false)
          obtain ⟨q0, q1, q2, q3, q4, q5, q6⟩ := putH_cells HZ1.out (Cssp.tk 16 [c]) ((i : Int) + 1) false false
          refine bodyPost_ret (v := HV (Cssp.tk 16 [c]) ((i : Int) + 1) false false) (by simp [results, Tryz.results30, go_sem, q0, q1, q2, q3, q4, q5, q6]) rfl ?_
          exact ⟨by rw [HNN.out]; exact ret_H rfl (by simp only; omega) rfl rfl, putH_below HB1.out (Nat.le_refl _) _ _ _ _⟩
        have p4 : ((125 : Int) == (c.toNat : Int)) = false := by rw [beq_eq_false_iff_ne]; intro h; exact hv (u8_inj (b := 125) h.symm)
        have hall2 : Hid (∀ m ∈ Cssp.marks.take 6, c ≠ m) := fun m hm => by
          have e : Cssp.marks.take 6 = Cssp.marks.take 5 ++ [125] := rfl
          rw [e, List.mem_append] at hm
          rcases hm with hm | hm
          · exact hall.out m hm
          · rw [List.mem_singleton.1 hm]; exact hv
        clear hv
        go_wp2_with fail
        go_roundg (gk - 1)
        case measure => omega
        case rel => exact ⟨6, rfl, by omega, rfl, hall2⟩
      · by_cases hv : c = 44
        · have p4 : ((44 : Int) == (c.toNat : Int)) = true := by rw [hv]; decide
          have hO := HO.out
          rw [if_pos (by rw [hv]; decide)] at hO
          have HNN := hide hO
          have b2 : (i : Int) + 1 ≤ (s.length : Int) := by omega
          have b3 : (i : Int) ≤ (i : Int) + 1 := by omega
          clear hO HO hv
          obtain ⟨z0, z1, z2, z3, z4, z5, z6⟩ := HZ1.out.cells
          have g0 := HZ1.out.frozen 0
          have g1 := HZ1.out.frozen 1
          have g2 := HZ1.out.frozen 2
          have g3 := HZ1.out.frozen 3
          have g4 := HZ1.out.frozen 4
          have g5 := HZ1.out.frozen 5
          have g6 := HZ1.out.frozen 6
          go_wp2_with fail
          rw [HTK.out]
          change bodyPost _ _ _ _ ⟨_, _⟩ (putH w1 w.heap.size (Cssp.tk 16 [c]) ((i : Int) + 1) false false)
          obtain ⟨q0, q1, q2, q3, q4, q5, q6⟩ := putH_cells HZ1.out (Cssp.tk 16 [c]) ((i : Int) + 1) false false
          refine bodyPost_ret (v := HV (Cssp.tk 16 [c]) ((i : Int) + 1) false false) (by simp [results, Tryz.results30, go_sem, q0, q1, q2, q3, q4, q5, q6]) rfl ?_
          exact ⟨by rw [HNN.out]; exact ret_H rfl (by simp only; omega) rfl rfl, putH_below HB1.out (Nat.le_refl _) _ _ _ _⟩
        have p4 : ((44 : Int) == (c.toNat : Int)) = false := by rw [beq_eq_false_iff_ne]; intro h; exact hv (u8_inj (b := 44) h.symm)
        have hall2 : Hid (∀ m ∈ Cssp.marks.take 7, c ≠ m) := fun m hm => by
          have e : Cssp.marks.take 7 = Cssp.marks.take 6 ++ [44] := rfl
          rw [e, List.mem_append] at hm
          rcases hm with hm | hm
          · exact hall.out m hm
          · rw [List.mem_singleton.1 hm]; exact hv
        clear hv
        go_wp2_with fail
        go_roundg (gk - 1)
        case measure => omega
        case rel => exact ⟨7, rfl, by omega, rfl, hall2⟩
      · by_cases hv : c = 58
        · have p4 : ((58 : Int) == (c.toNat : Int)) = true := by rw [hv]; decide
          have hO := HO.out
          rw [if_pos (by rw [hv]; decide)] at hO
          have HNN := hide hO
          have b2 : (i : Int) + 1 ≤ (s.length : Int) := by omega
          have b3 : (i : Int) ≤ (i : Int) + 1 := by omega
          clear hO HO hv
          obtain ⟨z0, z1, z2, z3, z4, z5, z6⟩ := HZ1.out.cells
          have g0 := HZ1.out.frozen 0
          have g1 := HZ1.out.frozen 1
          have g2 := HZ1.out.frozen 2
          have g3 := HZ1.out.frozen 3
          have g4 := HZ1.out.frozen 4
          have g5 := HZ1.out.frozen 5
          have g6 := HZ1.out.frozen 6
          go_wp2_with fail
          rw [HTK.out]
          change bodyPost _ _ _ _ ⟨_, _⟩ (putH w1 w.heap.size (Cssp.tk 16 [c]) ((i : Int) + 1) false false)
          obtain ⟨q0, q1, q2, q3, q4, q5, q6⟩ := putH_cells HZ1.out (Cssp.tk 16 [c]) ((i : Int) + 1) false false
          refine bodyPost_ret (v := HV (Cssp.tk 16 [c]) ((i : Int) + 1) false false) (by simp [results, Tryz.results30, go_sem, q0, q1, q2, q3, q4, q5, q6]) rfl ?_
          exact ⟨by rw [HNN.out]; exact ret_H rfl (by simp only; omega) rfl rfl, putH_below HB1.out (Nat.le_refl _) _ _ _ _⟩
        have p4 : ((58 : Int) == (c.toNat : Int)) = false := by rw [beq_eq_false_iff_ne]; intro h; exact hv (u8_inj (b := 58) h.symm)
        have hall2 : Hid (∀ m ∈ Cssp.marks.take 8, c ≠ m) := fun m hm => by
          have e : Cssp.marks.take 8 = Cssp.marks.take 7 ++ [58] := rfl
          rw [e, List.mem_append] at hm
          rcases hm with hm | hm
          · exact hall.out m hm
          · rw [List.mem_singleton.1 hm]; exact hv
        clear hv
        go_wp2_with fail
        go_roundg (gk - 1)
        case measure => omega
        case rel => exact ⟨8, rfl, by omega, rfl, hall2⟩
      · by_cases hv : c = 59
        · have p4 : ((59 : Int) == (c.toNat : Int)) = true := by rw [hv]; decide
          have hO := HO.out
          rw [if_pos (by rw [hv]; decide)] at hO
          have HNN := hide hO
          have b2 : (i : Int) + 1 ≤ (s.length : Int) := by omega
          have b3 : (i : Int) ≤ (i : Int) + 1 := by omega
          clear hO HO hv
          obtain ⟨z0, z1, z2, z3, z4, z5, z6⟩ := HZ1.out.cells
          have g0 := HZ1.out.frozen 0
          have g1 := HZ1.out.frozen 1
          have g2 := HZ1.out.frozen 2
          have g3 := HZ1.out.frozen 3
          have g4 := HZ1.out.frozen 4
          have g5 := HZ1.out.frozen 5
          have g6 := HZ1.out.frozen 6
          go_wp2_with fail
          rw [HTK.out]
          change bodyPost _ _ _ _ ⟨_, _⟩ (putH w1 w.heap.size (Cssp.tk 16 [c]) ((i : Int) + 1) false false)
          obtain ⟨q0, q1, q2, q3, q4, q5, q6⟩ := putH_cells HZ1.out (Cssp.tk 16 [c]) ((i : Int) + 1) false false
          refine bodyPost_ret (v := HV (Cssp.tk 16 [c]) ((i : Int) + 1) false false) (by simp [results, Tryz.results30, go_sem, q0, q1, q2, q3, q4, q5, q6]) rfl ?_
          exact ⟨by rw [HNN.out]; exact ret_H rfl (by simp only; omega) rfl rfl, putH_below HB1.out (Nat.le_refl _) _ _ _ _⟩
        have p4 : ((59 : Int) == (c.toNat : Int)) = false := by rw [beq_eq_false_iff_ne]; intro h; exact hv (u8_inj (b := 59) h.symm)
        have hall2 : Hid (∀ m ∈ Cssp.marks.take 9, c ≠ m) := fun m hm => by
          have e : Cssp.marks.take 9 = Cssp.marks.take 8 ++ [59] := rfl
          rw [e, List.mem_append] at hm
          rcases hm with hm | hm
          · exact hall.out m hm
          · rw [List.mem_singleton.1 hm]; exact hv
        clear hv
        go_wp2_with fail
        go_roundg (gk - 1)
        case measure => omega
        case rel => exact ⟨9, rfl, by omega, rfl, hall2⟩
      · have hm : ¬ Cssp.marks.contains c = true := by
          rw [List.contains_iff_mem]
          intro h
          exact hall.out c (by rw [show Cssp.marks.take 9 = Cssp.marks from rfl]; exact h) rfl
        have hO := HO.out
        rw [if_neg hm] at hO
        have HNN := hide hO
        have b2 : (i : Int) + 1 ≤ (s.length : Int) := by omega
        have b3 : (i : Int) ≤ (i : Int) + 1 := by omega
        clear hO HO hm
        obtain ⟨z0, z1, z2, z3, z4, z5, z6⟩ := HZ1.out.cells
        have g0 := HZ1.out.frozen 0
        have g1 := HZ1.out.frozen 1
        have g2 := HZ1.out.frozen 2
        have g3 := HZ1.out.frozen 3
        have g4 := HZ1.out.frozen 4
        have g5 := HZ1.out.frozen 5
        have g6 := HZ1.out.frozen 6
        go_wp2_with fail
        rw [HTK.out]
        change bodyPost _ _ _ _ ⟨_, _⟩ (putH w1 w.heap.size (Cssp.tk 10 [c]) ((i : Int) + 1) false false)
        obtain ⟨q0, q1, q2, q3, q4, q5, q6⟩ := putH_cells HZ1.out (Cssp.tk 10 [c]) ((i : Int) + 1) false false
        refine bodyPost_ret (v := HV (Cssp.tk 10 [c]) ((i : Int) + 1) false false) (by simp [results, Tryz.results30, go_sem, q0, q1, q2, q3, q4, q5, q6]) rfl ?_
        exact ⟨by rw [HNN.out]; exact ret_H rfl (by simp only; omega) rfl rfl, putH_below HB1.out (Nat.le_refl _) _ _ _ _⟩
theorem rOne (s : List UInt8) (i : Nat) (w : World) (hl : s.length ≤ 1048576) (hi : i < s.length) (hno : Hid (Cssp.NoFR s)) (N : Cssp.Th) (hN : Hid (Cssp.one (s.drop i) = N)) :
    Calls Tryz.prog 30 #[S s, .int .i64 i] w (Fresh (HV N.x ((i + N.k : Nat) : Int) N.o N.i) w) := by
  cases h : oneT s i with
  | true => exact rOne_1 s i w hl hi hno N hN h
  | false => exact rOne_2 s i w hl hi hno N hN h
end Go.Proofs.YtojgcangnkjmjaaGreatDoor
