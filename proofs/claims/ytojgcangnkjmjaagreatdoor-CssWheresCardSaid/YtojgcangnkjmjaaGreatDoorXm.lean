/- The document's answer: a string. (Printed by genCssXj.py.) -/
import Derived.Test.YtojgcangnkjmjaaGreatDoorXi
import Derived.Test.YtojgcangnkjmjaaGreatDoorSte
namespace Go.Proofs.YtojgcangnkjmjaaGreatDoor
open Go.RowKit

def txTk (x : Cssp.Tx) : Cssp.Tk := if x.bad = true then Cssp.tk 7 [] else Cssp.tk 6 x.t
set_option maxRecDepth 100000 in
set_option maxHeartbeats 1000000 in
theorem rText (s : List UInt8) (i : Nat) (w : World) (hl : s.length ≤ 1048576) (hi : i < s.length) (q : UInt8) (hq : s[i] = q) (X : Cssp.Tx) (hX : Hid (Cssp.textX q (s.drop (i + 1)) = X)) :
    Calls Tryz.prog 51 #[S s, .int .i64 i] w (Fresh (HV (txTk X) ((i + 1 + X.k : Nat) : Int) X.o X.i) w) := by
  have hz := Zh.new w
  have hal := (Below.refl w.heap.size w).alloc (Nat.le_refl _) zeroH
  have a0 : (0 : Int) ≤ (i : Int) := by omega
  have a1 : (i : Int) < (s.length : Int) := by omega
  have aw : wrap64 ((i : Int) + 1) = (i : Int) + 1 := by unfold wrap64; omega
  have hqb := u8_lt q
  go_enter Tryz.func51, Tryz.ntmps51
  go_upto_region 1 with (fail)
  change Code.wp _ _ _ _ (w.alloc zeroH)
  generalize hgen : w.alloc zeroH = w1 at hz hal ⊢
  clear hgen
  have HZ1 := hide hz
  have HB1 := hide hal
  clear hz hal
  go_wp2_with fail
  go_loopg [1, 6] (s.length - (i + 1)) (fun g s1 s6 wx => ∃ (j : Nat) (acc : List UInt8), s1 = .int .i64 j ∧ s6 = S acc ∧ g + j = s.length ∧ i + 1 ≤ j ∧ acc.length ≤ 4 * j ∧
    Hid (X = (Cssp.textX q (s.drop j)).on acc (j - (i + 1))) ∧ Hid (Zh wx w.heap.size) ∧ Hid (Below w.heap.size w wx))
  case atStart => exact ⟨i + 1, [], by go_num, rfl, by omega, Nat.le_refl _, by simp, (by unfold Hid; rw [hX.out]; simp [Cssp.Tx.on]), HZ1, HB1⟩
  case round =>
    obtain ⟨j, acc, rfl, rfl, hgj, hij, hacc, hSt, hZ, hbx⟩ := hrel
    have hwr : wrap64 ((j : Int) + 1) = (j : Int) + 1 := by unfold wrap64; omega
    have hwr2 : wrap64 ((j : Int) + 2) = (j : Int) + 2 := by unfold wrap64; omega
    by_cases hj : j < s.length
    · have b1 : (j : Int) < (s.length : Int) := by omega
      have b0 : (0 : Int) ≤ (j : Int) := by omega
      obtain ⟨c, hc⟩ : ∃ c, s[j] = c := ⟨_, rfl⟩
      have hdj : s.drop j = c :: s.drop (j + 1) := by rw [← hc]; exact List.drop_eq_getElem_cons hj
      have hcons := Cssp.textX_cons q c (s.drop (j + 1))
      rw [← hdj] at hcons
      have HE := hide (rEscape s j wr (by omega) (by omega))
      by_cases hcq : c = q
      · have p1 : ((c.toNat : Int) == (q.toNat : Int)) = true := u8t hcq
        rw [if_pos hcq] at hcons
        have hX2 := hSt.out
        rw [hcons] at hX2
        have e1 : txTk X = Cssp.tk 6 acc := by rw [hX2]; simp [txTk, Cssp.Tx.on]
        have e2 : ((i + 1 + X.k : Nat) : Int) = (j : Int) + 1 := by rw [hX2]; simp only [Cssp.Tx.on]; omega
        have e3 : X.o = false := by rw [hX2]; rfl
        have e4 : X.i = false := by rw [hX2]; rfl
        have H1 := hide e1
        have H2 := hide e2
        have H3 := hide e3
        have H4 := hide e4
        clear hX2 e1 e2 e3 e4 hcons hdj hSt hX hcq
        obtain ⟨z0, z1, z2, z3, z4, z5, z6⟩ := hZ.out.cells
        have g0 := hZ.out.frozen 0
        have g1 := hZ.out.frozen 1
        have g2 := hZ.out.frozen 2
        have g3 := hZ.out.frozen 3
        have g4 := hZ.out.frozen 4
        have g5 := hZ.out.frozen 5
        have g6 := hZ.out.frozen 6
        go_wp2_with fail
        refine HE.out.mono ?_
        rintro e w' ⟨rfl, rfl⟩
        go_wp2_with fail
        change bodyPost _ _ _ _ ⟨_, _⟩ (putH wr w.heap.size (Cssp.tk 6 acc) ((j : Int) + 1) false false)
        obtain ⟨q0, q1, q2, q3, q4, q5, q6⟩ := putH_cells hZ.out (Cssp.tk 6 acc) ((j : Int) + 1) false false
        refine bodyPost_ret (v := HV (Cssp.tk 6 acc) ((j : Int) + 1) false false) (by simp [results, Tryz.results51, go_sem, q0, q1, q2, q3, q4, q5, q6]) rfl ?_
        exact ⟨by rw [H1.out, H2.out, H3.out, H4.out], putH_below hbx.out (Nat.le_refl _) _ _ _ _⟩
      have p1 : ((c.toNat : Int) == (q.toNat : Int)) = false := u8f hcq
      rw [if_neg hcq] at hcons
      by_cases h10 : c = 10
      · have p2 : ((c.toNat : Int) == 10) = true := u8t h10
        rw [if_pos h10] at hcons
        have hX2 := hSt.out
        rw [hcons] at hX2
        have e1 : txTk X = Cssp.tk 7 [] := by rw [hX2]; simp [txTk, Cssp.Tx.on]
        have e2 : ((i + 1 + X.k : Nat) : Int) = (j : Int) := by rw [hX2]; simp only [Cssp.Tx.on]; omega
        have e3 : X.o = false := by rw [hX2]; rfl
        have e4 : X.i = false := by rw [hX2]; rfl
        have H1 := hide e1
        have H2 := hide e2
        have H3 := hide e3
        have H4 := hide e4
        clear hX2 e1 e2 e3 e4 hcons hdj hSt hX hcq h10
        obtain ⟨z0, z1, z2, z3, z4, z5, z6⟩ := hZ.out.cells
        have g0 := hZ.out.frozen 0
        have g1 := hZ.out.frozen 1
        have g2 := hZ.out.frozen 2
        have g3 := hZ.out.frozen 3
        have g4 := hZ.out.frozen 4
        have g5 := hZ.out.frozen 5
        have g6 := hZ.out.frozen 6
        go_wp2_with fail
        refine HE.out.mono ?_
        rintro e w' ⟨rfl, rfl⟩
        go_wp2_with fail
        change bodyPost _ _ _ _ ⟨_, _⟩ (putH wr w.heap.size (Cssp.tk 7 []) ((j : Int)) false false)
        obtain ⟨q0, q1, q2, q3, q4, q5, q6⟩ := putH_cells hZ.out (Cssp.tk 7 []) ((j : Int)) false false
        refine bodyPost_ret (v := HV (Cssp.tk 7 []) ((j : Int)) false false) (by simp [results, Tryz.results51, go_sem, q0, q1, q2, q3, q4, q5, q6]) rfl ?_
        exact ⟨by rw [H1.out, H2.out, H3.out, H4.out], putH_below hbx.out (Nat.le_refl _) _ _ _ _⟩
      have p2 : ((c.toNat : Int) == 10) = false := u8f h10
      rw [if_neg h10] at hcons
      by_cases h92 : c = 92
      · have p3 : ((c.toNat : Int) == 92) = true := u8t h92
        rw [if_pos h92] at hcons
        by_cases hla : j + 1 = s.length
        · have p4 : ((j : Int) + 1 == (s.length : Int)) = true := by rw [beq_iff_eq]; omega
          have hesc : Cssp.escAt s j = true := esc_last (x := c) (by rw [List.getElem?_eq_getElem hj, hc]) h92 hla
          rw [hesc] at HE
          rw [if_pos (List.drop_eq_nil_of_le (by omega))] at hcons
          have hX2 := hSt.out
          rw [hcons] at hX2
          have e1 : txTk X = Cssp.tk 6 acc := by rw [hX2]; simp [txTk, Cssp.Tx.on]
          have e2 : ((i + 1 + X.k : Nat) : Int) = (j : Int) + 1 := by rw [hX2]; simp only [Cssp.Tx.on]; omega
          have e3 : X.o = true := by rw [hX2]; rfl
          have e4 : X.i = true := by rw [hX2]; rfl
          have H1 := hide e1
          have H2 := hide e2
          have H3 := hide e3
          have H4 := hide e4
          clear hX2 e1 e2 e3 e4 hcons hdj hSt hX hcq h10 h92 hesc hla
          obtain ⟨z0, z1, z2, z3, z4, z5, z6⟩ := hZ.out.cells
          have g0 := hZ.out.frozen 0
          have g1 := hZ.out.frozen 1
          have g2 := hZ.out.frozen 2
          have g3 := hZ.out.frozen 3
          have g4 := hZ.out.frozen 4
          have g5 := hZ.out.frozen 5
          have g6 := hZ.out.frozen 6
          go_wp2_with fail
          refine HE.out.mono ?_
          rintro e w' ⟨rfl, rfl⟩
          go_wp2_with fail
          change bodyPost _ _ _ _ ⟨_, _⟩ (putH wr w.heap.size (Cssp.tk 6 acc) ((j : Int) + 1) true true)
          obtain ⟨q0, q1, q2, q3, q4, q5, q6⟩ := putH_cells hZ.out (Cssp.tk 6 acc) ((j : Int) + 1) true true
          refine bodyPost_ret (v := HV (Cssp.tk 6 acc) ((j : Int) + 1) true true) (by simp [results, Tryz.results51, go_sem, q0, q1, q2, q3, q4, q5, q6]) rfl ?_
          exact ⟨by rw [H1.out, H2.out, H3.out, H4.out], putH_below hbx.out (Nat.le_refl _) _ _ _ _⟩
        · have p4 : ((j : Int) + 1 == (s.length : Int)) = false := by rw [beq_eq_false_iff_ne]; omega
          have hj1 : j + 1 < s.length := by omega
          obtain ⟨d, hd⟩ : ∃ d, s[j + 1] = d := ⟨_, rfl⟩
          have hdj1 : s.drop (j + 1) = d :: s.drop (j + 2) := by rw [← hd]; exact List.drop_eq_getElem_cons hj1
          have hesc : Cssp.escAt s j = !(d == 10) := esc_next (x := c) (y := d) (by rw [List.getElem?_eq_getElem hj, hc]) h92 (by rw [List.getElem?_eq_getElem hj1, hd])
          rw [hdj1, if_neg (by simp)] at hcons
          by_cases hd10 : d = 10
          · rw [hd10] at hesc
            rw [if_pos (by rw [hd10]; rfl)] at hcons
            rw [show Cssp.escAt s j = false from hesc] at HE
            have hnext : Hid (X = (Cssp.textX q (s.drop (j + 2))).on acc (j + 2 - (i + 1))) := by
              unfold Hid
              rw [hSt.out, hcons, List.drop_succ_cons, List.drop_zero]
              simp only [Cssp.Tx.on, List.nil_append, Cssp.Tx.mk.injEq, true_and]
              omega
            clear hcons hdj hdj1 hSt hcq h10 h92 hesc hla hd10
            go_wp2_with fail
            refine HE.out.mono ?_
            rintro e w' ⟨rfl, rfl⟩
            go_wp2_with fail
            go_roundg (gk - 2)
            case measure => omega
            case rel => exact ⟨j + 2, acc, by go_num, rfl, by omega, by omega, by omega, hnext, hZ, hbx⟩
          · rw [beq_eq_false_iff_ne.2 hd10] at hesc
            rw [if_neg (by simpa using hd10)] at hcons
            rw [show Cssp.escAt s j = true from hesc] at HE
            obtain ⟨E, hE⟩ : ∃ E, Cssp.esc (s.drop j) = E := ⟨_, rfl⟩
            have hdl : (s.drop j).length = s.length - j := List.length_drop
            have hE1 := Cssp.esc_pos (s.drop j)
            have hE2 := (Cssp.esc_len (s.drop j)).2 (by omega)
            have hE3 := (Cssp.esc_len (s.drop j)).1
            rw [hE] at hE1 hE2 hE3 hcons
            rw [List.drop_drop] at hcons
            have HEs := hide (rEscaped s j wr hl hj E hE)
            have hEk : j + E.k ≤ s.length := by omega
            have hap : ¬ 9223372036854775807 < acc.length + E.t.length := by omega
            have hX2 := hSt.out
            rw [hcons] at hX2
            have HX2 := hide hX2
            clear hcons hX2 hdj hdj1 hSt hcq h10 h92 hesc hla hd10 hE hdl hX
            obtain ⟨Et, Ek, Eo⟩ := E
            simp only at hE1 hE2 hE3 HEs hEk hap HX2
            cases Eo with
            | true =>
              rw [if_pos rfl] at HX2
              have H1 : Hid (txTk X = Cssp.tk 6 (acc ++ Et)) := by unfold Hid; rw [HX2.out]; simp [txTk, Cssp.Tx.on]
              have H2 : Hid (((i + 1 + X.k : Nat) : Int) = (j : Int) + (Ek : Int)) := by unfold Hid; rw [HX2.out]; simp only [Cssp.Tx.on]; omega
              have H3 : Hid (X.o = true) := by unfold Hid; rw [HX2.out]; rfl
              have H4 : Hid (X.i = true) := by unfold Hid; rw [HX2.out]; rfl
              go_wp2_with fail
              refine HE.out.mono ?_
              rintro e w' ⟨rfl, rfl⟩
              go_wp2_with fail
              refine HEs.out.mono ?_
              rintro e w2 ⟨rfl, hb2⟩
              have HB2 : Hid (Below w.heap.size w w2) := hbx.out.trans (hb2.mono hbx.out.size)
              have HZ2 : Hid (Zh w2 w.heap.size) := hZ.out.below hb2
              clear hb2 HEs HE
              obtain ⟨z0, z1, z2, z3, z4, z5, z6⟩ := HZ2.out.cells
              have g0 := HZ2.out.frozen 0
              have g1 := HZ2.out.frozen 1
              have g2 := HZ2.out.frozen 2
              have g3 := HZ2.out.frozen 3
              have g4 := HZ2.out.frozen 4
              have g5 := HZ2.out.frozen 5
              have g6 := HZ2.out.frozen 6
              go_wp2_with fail
              change bodyPost _ _ _ _ ⟨_, _⟩ (putH w2 w.heap.size (Cssp.tk 6 (acc ++ Et)) ((j : Int) + (Ek : Int)) true true)
              obtain ⟨q0, q1, q2, q3, q4, q5, q6⟩ := putH_cells HZ2.out (Cssp.tk 6 (acc ++ Et)) ((j : Int) + (Ek : Int)) true true
              refine bodyPost_ret (v := HV (Cssp.tk 6 (acc ++ Et)) ((j : Int) + (Ek : Int)) true true) (by simp [results, Tryz.results51, go_sem, q0, q1, q2, q3, q4, q5, q6]) rfl ?_
              exact ⟨by rw [H1.out, H2.out, H3.out, H4.out], putH_below HB2.out (Nat.le_refl _) _ _ _ _⟩
            | false =>
              rw [if_neg (by decide)] at HX2
              have hnext : Hid (X = (Cssp.textX q (s.drop (j + Ek))).on (acc ++ Et) (j + Ek - (i + 1))) := by
                unfold Hid
                rw [HX2.out]
                simp only [Cssp.Tx.on, List.append_assoc, Cssp.Tx.mk.injEq, true_and]
                omega
              clear HX2
              have HAL : Hid ((acc ++ Et).length ≤ 4 * (j + Ek)) := by unfold Hid; rw [List.length_append]; omega
              go_wp2_with fail
              refine HE.out.mono ?_
              rintro e w' ⟨rfl, rfl⟩
              go_wp2_with fail
              refine HEs.out.mono ?_
              rintro e w2 ⟨rfl, hb2⟩
              have HB2 : Hid (Below w.heap.size w w2) := hbx.out.trans (hb2.mono hbx.out.size)
              have HZ2 : Hid (Zh w2 w.heap.size) := hZ.out.below hb2
              clear hb2 HEs HE
              go_wp2_with fail
              go_roundg (gk - Ek)
              case measure => omega
              case rel => exact ⟨j + Ek, acc ++ Et, rfl, rfl, by omega, by omega, HAL.out, hnext, HZ2, HB2⟩
      · have p3 : ((c.toNat : Int) == 92) = false := u8f h92
        rw [if_neg h92] at hcons
        have hesc : Cssp.escAt s j = false := esc_ne (x := c) (by rw [List.getElem?_eq_getElem hj, hc]) h92
        rw [hesc] at HE
        have hnext : Hid (X = (Cssp.textX q (s.drop (j + 1))).on (acc ++ [c]) (j + 1 - (i + 1))) := by
          unfold Hid
          rw [hSt.out, hcons]
          simp only [Cssp.Tx.on, List.append_assoc, List.cons_append, List.nil_append, Cssp.Tx.mk.injEq, true_and]
          omega
        have hsl : (s.drop j).take 1 = [c] := by rw [hdj]; rfl
        have hap : ¬ 9223372036854775807 < acc.length + 1 := by omega
        have b2 : (j : Int) + 1 ≤ (s.length : Int) := by omega
        have b3 : (j : Int) ≤ (j : Int) + 1 := by omega
        clear hcons hdj hSt hcq h10 h92 hesc
        go_wp2_with fail
        refine HE.out.mono ?_
        rintro e w' ⟨rfl, rfl⟩
        go_wp2_with fail
        go_roundg (gk - 1)
        case measure => omega
        case rel => exact ⟨j + 1, acc ++ [c], by go_num, (by rw [← hsl]), by omega, by omega, (by simp; omega), hnext, hZ, hbx⟩
    · have b1 : ¬ (j : Int) < (s.length : Int) := by omega
      have hdj : s.drop j = [] := List.drop_eq_nil_of_le (by omega)
      have hcons : Cssp.textX q (s.drop j) = ⟨false, [], 0, false, true, 0⟩ := by rw [hdj]; rfl
      have hX2 := hSt.out
      rw [hcons] at hX2
      have e1 : txTk X = Cssp.tk 6 acc := by rw [hX2]; simp [txTk, Cssp.Tx.on]
      have e2 : ((i + 1 + X.k : Nat) : Int) = (s.length : Int) := by rw [hX2]; simp only [Cssp.Tx.on]; omega
      have e3 : X.o = false := by rw [hX2]; rfl
      have e4 : X.i = true := by rw [hX2]; rfl
      have H1 := hide e1
      have H2 := hide e2
      have H3 := hide e3
      have H4 := hide e4
      clear hX2 e1 e2 e3 e4 hcons hdj hSt hX 
      obtain ⟨z0, z1, z2, z3, z4, z5, z6⟩ := hZ.out.cells
      have g0 := hZ.out.frozen 0
      have g1 := hZ.out.frozen 1
      have g2 := hZ.out.frozen 2
      have g3 := hZ.out.frozen 3
      have g4 := hZ.out.frozen 4
      have g5 := hZ.out.frozen 5
      have g6 := hZ.out.frozen 6
      go_wp2_with fail
      change bodyPost _ _ _ _ ⟨_, _⟩ (putH wr w.heap.size (Cssp.tk 6 acc) ((s.length : Int)) false true)
      obtain ⟨q0, q1, q2, q3, q4, q5, q6⟩ := putH_cells hZ.out (Cssp.tk 6 acc) ((s.length : Int)) false true
      refine bodyPost_ret (v := HV (Cssp.tk 6 acc) ((s.length : Int)) false true) (by simp [results, Tryz.results51, go_sem, q0, q1, q2, q3, q4, q5, q6]) rfl ?_
      exact ⟨by rw [H1.out, H3.out, H4.out, show (i : Int) + 1 + (X.k : Int) = (s.length : Int) by have := H2.out; omega], putH_below hbx.out (Nat.le_refl _) _ _ _ _⟩
end Go.Proofs.YtojgcangnkjmjaaGreatDoor
namespace Go.Proofs.YtojgcangnkjmjaaGreatDoor
namespace Cssp
open Go

theorem cleanC_true {r : List UInt8} (h : r.head? ≠ some 10) : cleanC true r = cleanC false r := by
  cases r with
  | nil => rfl
  | cons c r =>
    have hc : c ≠ 10 := fun e => h (by rw [e]; rfl)
    simp [cleanC, hc]
theorem clean_nil : clean [] = [] := rfl
theorem clean_0 (r : List UInt8) : clean (0 :: r) = fffd ++ clean r := by
  unfold clean; rw [cleanC, if_neg (by rintro ⟨e, _⟩; cases e), if_pos rfl]
theorem clean_12 (r : List UInt8) : clean (12 :: r) = 10 :: clean r := by
  unfold clean; rw [cleanC, if_neg (by rintro ⟨e, _⟩; cases e), if_neg (by decide), if_pos rfl]
theorem clean_13 (r : List UInt8) (h : r.head? ≠ some 10) : clean (13 :: r) = 10 :: clean r := by
  unfold clean; rw [cleanC, if_neg (by rintro ⟨e, _⟩; cases e), if_neg (by decide), if_neg (by decide), if_pos rfl, cleanC_true h]
theorem clean_crlf (r : List UInt8) : clean (13 :: 10 :: r) = 10 :: clean r := by
  unfold clean; rw [cleanC, if_neg (by rintro ⟨e, _⟩; cases e), if_neg (by decide), if_neg (by decide), if_pos rfl, cleanC, if_pos ⟨rfl, rfl⟩]
theorem clean_cons {c : UInt8} (r : List UInt8) (h0 : c ≠ 0) (h12 : c ≠ 12) (h13 : c ≠ 13) : clean (c :: r) = c :: clean r := by
  unfold clean; rw [cleanC, if_neg (by rintro ⟨e, _⟩; cases e), if_neg h0, if_neg h12, if_neg h13]
/-- a text that has been read has no page's end, no return -/
def NoFR (s : List UInt8) : Prop := ∀ c ∈ s, c ≠ 12 ∧ c ≠ 13
theorem cleanC_no : ∀ (s : List UInt8) (b : Bool), NoFR (cleanC b s)
  | [], _ => fun c hc => by simp [cleanC] at hc
  | x :: r, b => by
    have h1 := cleanC_no r false
    have h2 := cleanC_no r true
    rw [cleanC]
    split
    · exact h1
    · split
      · intro c hc
        rcases List.mem_append.1 hc with hc | hc
        · have hf : ∀ c ∈ fffd, c ≠ 12 ∧ c ≠ 13 := by decide
          exact hf c hc
        · exact h1 c hc
      · split
        · intro c hc
          rcases List.mem_cons.1 hc with rfl | hc
          · decide
          · exact h1 c hc
        · split
          · intro c hc
            rcases List.mem_cons.1 hc with rfl | hc
            · decide
            · exact h2 c hc
          · rename_i h12 h13
            intro c hc
            rcases List.mem_cons.1 hc with rfl | hc
            · exact ⟨h12, h13⟩
            · exact h1 c hc
theorem clean_no (s : List UInt8) : NoFR (clean s) := cleanC_no s false
theorem NoFR.get {s : List UInt8} (h : NoFR s) {i : Nat} {c : UInt8} (hc : s[i]? = some c) : c ≠ 12 ∧ c ≠ 13 := h c (List.mem_of_getElem? hc)
/-- of what has been read: what no URL bears -/
theorem plainU_iff {c : UInt8} (h12 : c ≠ 12) (h13 : c ≠ 13) (h41 : c ≠ 41) (hb : blank c = false) :
    plainU c = false ↔ (c = 34 ∨ c = 39 ∨ c = 40 ∨ c = 92 ∨ c.toNat < 9 ∨ c = 11 ∨ (13 < c.toNat ∧ c.toNat < 32) ∨ c = 127) := by
  simp only [blank, Bool.or_eq_false_iff, beq_eq_false_iff_ne, ne_eq] at hb
  obtain ⟨⟨h32, h9⟩, h10⟩ := hb
  have e : ∀ n : UInt8, c = n ↔ c.toNat = n.toNat := fun n => UInt8.toNat_inj.symm
  rw [ne_eq, e] at h12 h13 h41
  rw [e] at h32 h9 h10
  unfold plainU
  rw [Bool.eq_false_iff]
  simp only [ne_eq, Bool.and_eq_true, bne_iff_ne, decide_eq_true_eq]
  rw [e 34, e 39, e 40, e 92, e 11, e 127, e 41]
  have t34 : (34 : UInt8).toNat = 34 := rfl
  have t39 : (39 : UInt8).toNat = 39 := rfl
  have t40 : (40 : UInt8).toNat = 40 := rfl
  have t41 : (41 : UInt8).toNat = 41 := rfl
  have t92 : (92 : UInt8).toNat = 92 := rfl
  have t11 : (11 : UInt8).toNat = 11 := rfl
  have t12 : (12 : UInt8).toNat = 12 := rfl
  have t13 : (13 : UInt8).toNat = 13 := rfl
  have t127 : (127 : UInt8).toNat = 127 := rfl
  have t32 : (32 : UInt8).toNat = 32 := rfl
  have t9 : (9 : UInt8).toNat = 9 := rfl
  have t10 : (10 : UInt8).toNat = 10 := rfl
  rw [t12] at h12
  rw [t13] at h13
  rw [t41] at h41 ⊢
  rw [t32] at h32
  rw [t9] at h9
  rw [t10] at h10
  rw [t34, t39, t40, t92, t11, t127]
  omega
end Cssp
end Go.Proofs.YtojgcangnkjmjaaGreatDoor
namespace Go.Proofs.YtojgcangnkjmjaaGreatDoor
namespace Cssp
open Go

theorem lp_len : ∀ (f : Nat) (s : List UInt8) (w : Wh) (t : List UInt8), s.length ≤ f → (lp s w t).l.length ≤ s.length
  | 0, s, w, t, h => by
    have : s = [] := List.eq_nil_of_length_eq_zero (by omega)
    subst this
    rw [lp_nil]; exact Nat.le_refl _
  | f + 1, s, w, t, h => by
    by_cases h0 : s = []
    · subst h0
      rw [lp_nil]; exact Nat.le_refl _
    have h1 := (one_le s h0)
    have hpos := List.length_pos_iff.2 h0
    rw [lp_step s w t h0]
    split
    · cases shut (s.drop 2) with
      | none => exact Nat.zero_le _
      | some k =>
        have := lp_len f (s.drop (2 + k + 2)) ⟨1, 0⟩ t (by rw [List.length_drop]; omega)
        rw [List.length_drop] at this
        show (lp (s.drop (2 + k + 2)) ⟨1, 0⟩ t).l.length ≤ _
        omega
    · have := lp_len f (s.drop (one s).k) (ends (one s) (at_ s 0)) (s.drop (one s).e) (by rw [List.length_drop]; omega)
      rw [List.length_drop] at this
      rw [List.length_cons]
      omega
theorem digit_at {s : List UInt8} {i j : Nat} (h1 : i ≤ j) (h2 : j ≤ i + run digit (s.drop i)) : (digit (at_ s j) = true → j < i + run digit (s.drop i)) ∧ (digit (at_ s j) = false → j = i + run digit (s.drop i)) := by
  have hr := run_le digit (s.drop i)
  rw [List.length_drop] at hr
  constructor
  · intro h
    rcases Nat.lt_or_ge j (i + run digit (s.drop i)) with h3 | h3
    · exact h3
    · have h4 : j = i + run digit (s.drop i) := by omega
      have h5 := run_drop digit (s.drop i)
      rw [isAt_drop, ← h4] at h5
      have hlt := digit_lt h
      rw [isAt_at hlt, h] at h5
      cases h5
  · intro h
    rcases Nat.lt_or_ge j (i + run digit (s.drop i)) with h3 | h3
    · have h5 := run_isAt digit (s.drop i) (j - i) (by omega)
      rw [isAt_drop, show i + (j - i) = j by omega] at h5
      rw [isAt_at (isAt_lt h5), h] at h5
      cases h5
    · omega
/-- of the bytes behind a string's beginning: where its last escape, that could go on, stands -/
theorem scan_end (q : UInt8) (s : List UInt8) (k : Nat) (h : (textX q (s.drop k)).o = true) : k < s.length := by
  rcases Nat.lt_or_ge k s.length with h1 | h1
  · exact h1
  · rw [List.drop_eq_nil_of_le h1, textX_nil] at h
    cases h
theorem scan_step (q : UInt8) (s : List UInt8) (k : Nat) (h : (textX q (s.drop k)).o = true) :
    if escAt s k = true then
      if k + 1 = s.length then (textX q (s.drop k)).e = 0
      else if (esc (s.drop k)).o = true then (textX q (s.drop k)).e = 0
      else (textX q (s.drop (k + (esc (s.drop k)).k))).o = true ∧ (textX q (s.drop k)).e = (textX q (s.drop (k + (esc (s.drop k)).k))).e + (esc (s.drop k)).k
    else if at_ s k = 92 then (textX q (s.drop (k + 2))).o = true ∧ (textX q (s.drop k)).e = (textX q (s.drop (k + 2))).e + 2
    else (textX q (s.drop (k + 1))).o = true ∧ (textX q (s.drop k)).e = (textX q (s.drop (k + 1))).e + 1 := by
  have hk := scan_end q s k h
  obtain ⟨c, hc⟩ : ∃ c, s[k] = c := ⟨_, rfl⟩
  have hd : s.drop k = c :: s.drop (k + 1) := by rw [← hc]; exact List.drop_eq_getElem_cons hk
  have hac : at_ s k = c := by rw [at_, List.getD_eq_getElem?_getD, List.getElem?_eq_getElem hk, hc]; rfl
  have hx := textX_cons q c (s.drop (k + 1))
  rw [← hd] at hx
  by_cases h1 : c = q
  · rw [if_pos h1] at hx; rw [hx] at h; cases h
  rw [if_neg h1] at hx
  by_cases h2 : c = 10
  · rw [if_pos h2] at hx; rw [hx] at h; cases h
  rw [if_neg h2] at hx
  by_cases h92 : c = 92
  · rw [if_pos h92] at hx
    by_cases hl : k + 1 = s.length
    · rw [if_pos (escAt_last (by rw [hac]; exact h92) hl), if_pos hl]
      rw [if_pos (List.drop_eq_nil_of_le (by omega))] at hx
      rw [hx]
    · have hk1 : k + 1 < s.length := by omega
      obtain ⟨d, hdd⟩ : ∃ d, s[k + 1] = d := ⟨_, rfl⟩
      have hd1 : s.drop (k + 1) = d :: s.drop (k + 2) := by rw [← hdd]; exact List.drop_eq_getElem_cons hk1
      have he : escAt s k = !(d == 10) := by
        have h3 : isAt (· == 92) s k = true := by rw [isAt_at hk, hac, h92]; rfl
        have h4 : isAt (· == 10) s (k + 1) = (d == 10) := by rw [isAt, List.getElem?_eq_getElem hk1, hdd]
        rw [escAt, h3, h4]; rfl
      rw [if_neg (by rw [hd1]; simp)] at hx
      by_cases hd10 : d = 10
      · rw [he, hd10]
        rw [if_pos (by rw [hd1, hd10]; rfl), List.drop_drop] at hx
        rw [if_neg (by decide), if_pos (by rw [hac]; exact h92)]
        rw [hx] at h ⊢
        exact ⟨h, rfl⟩
      · rw [if_neg (by rw [hd1]; simpa using hd10)] at hx
        rw [he, beq_eq_false_iff_ne.2 hd10, if_pos (by decide), if_neg hl]
        by_cases ho : (esc (s.drop k)).o = true
        · rw [if_pos ho]; rw [if_pos ho] at hx; rw [hx]
        · rw [if_neg ho]; rw [if_neg ho, List.drop_drop] at hx
          rw [hx] at h ⊢
          exact ⟨h, rfl⟩
  · rw [if_neg h92] at hx
    have he : escAt s k = false := escAt_ne (by rw [hac]; exact h92)
    rw [he, if_neg (by decide), if_neg (by rw [hac]; exact h92)]
    rw [hx] at h ⊢
    exact ⟨h, rfl⟩
end Cssp
end Go.Proofs.YtojgcangnkjmjaaGreatDoor
namespace Go.Proofs.YtojgcangnkjmjaaGreatDoor
open Go.RowKit

theorem ret_H {x x' : Cssp.Tk} {e e' : Int} {o o' n n' : Bool} (h1 : x = x') (h2 : e = e') (h3 : o = o') (h4 : n = n') : Ending.returned (HV x e o n) = .returned (HV x' e' o' n') := by rw [h1, h2, h3, h4]
def urTk (x : Cssp.Ur) : Cssp.Tk := if x.bad = true then Cssp.tk 9 [] else Cssp.tk 8 x.t
theorem Cssp.run_at {p : UInt8 → Bool} {s : List UInt8} {i j : Nat} {c : UInt8} (h1 : i ≤ j) (h2 : j ≤ i + Cssp.run p (s.drop i)) (hc : s[j]? = some c) : (p c = true → j < i + Cssp.run p (s.drop i)) ∧ (p c = false → j = i + Cssp.run p (s.drop i)) := by
  have hc' : (s.drop i)[j - i]? = some c := by rw [List.getElem?_drop, show i + (j - i) = j by omega]; exact hc
  have := Cssp.run_next (p := p) (L := s.drop i) (k := j - i) (c := c) (by omega) hc'
  exact ⟨fun h => by have := this.1 h; omega, fun h => by have := this.2 h; omega⟩
theorem Cssp.run_to (p : UInt8 → Bool) (s : List UInt8) (i : Nat) (hi : i ≤ s.length) : i + Cssp.run p (s.drop i) ≤ s.length := by
  have := Cssp.run_le p (s.drop i)
  rw [List.length_drop] at this
  omega
set_option maxRecDepth 100000 in
set_option maxHeartbeats 4000000 in
theorem rUrl (s : List UInt8) (i : Nat) (w : World) (hl : s.length ≤ 1048576) (hi : i ≤ s.length) (hno : Hid (Cssp.NoFR s)) (U : Cssp.Th) (hU : Hid (Cssp.url (s.drop i) = U)) :
    Calls Tryz.prog 88 #[S s, .int .i64 i] w (Fresh (HV U.x ((i + U.k : Nat) : Int) U.o U.i) w) := by
  have hz := Zh.new w
  have hal := (Below.refl w.heap.size w).alloc (Nat.le_refl _) zeroH
  obtain ⟨J, hJ⟩ : ∃ J, i + Cssp.run Cssp.blank (s.drop i) = J := ⟨_, rfl⟩
  have hJl := Cssp.run_to Cssp.blank s i hi
  have hJs : ∀ j c, i ≤ j → j ≤ J → s[j]? = some c → (Cssp.blank c = true → j < J) ∧ (Cssp.blank c = false → j = J) := fun j c h1 h2 h3 => by
    rw [← hJ] at h2 ⊢
    exact Cssp.run_at h1 h2 h3
  obtain ⟨X, hX⟩ : ∃ X, Cssp.urlX (s.drop J) = X := ⟨_, rfl⟩
  have hUx : Hid (U = ⟨urTk X, X.k + (J - i), X.o, X.i, 0⟩) := by
    unfold Hid
    rw [← hU.out, Cssp.url_eq, List.drop_drop, hJ, hX, show Cssp.run Cssp.blank (s.drop i) = J - i by omega]
    rfl
  rw [hJ] at hJl
  have hiJ : i ≤ J := by omega
  have HJS := hide hJs
  have hX := hide hX
  clear hJ hJs
  go_enter Tryz.func88, Tryz.ntmps88
  go_upto_block 0 with fail
  change Code.wp _ _ _ _ (w.alloc zeroH)
  generalize hgen : w.alloc zeroH = w1 at hz hal ⊢
  clear hgen
  have HZ1 := hide hz
  have HB1 := hide hal
  clear hz hal
  go_cut [1] from 10 (fun s1 wx => s1 = .int .i64 J ∧ w1 = wx)
  case first =>
    go_wp2_with fail
    go_loopg [1] (J - i) (fun g s1 wx => ∃ j : Nat, s1 = .int .i64 j ∧ g + j = J ∧ i ≤ j ∧ w1 = wx)
    case atStart => exact ⟨i, rfl, by omega, Nat.le_refl _, rfl⟩
    case round =>
      obtain ⟨j, rfl, hgj, hij, hwx⟩ := hrel
      subst hwx
      by_cases hj : j < s.length
      · have b1 : (j : Int) < (s.length : Int) := by omega
        have b0 : (0 : Int) ≤ (j : Int) := by omega
        obtain ⟨c, hc⟩ : ∃ c, s[j] = c := ⟨_, rfl⟩
        have hJc := HJS.out j c hij (by omega) (by rw [List.getElem?_eq_getElem hj, hc])
        cases hb : Cssp.blank c with
        | true =>
          have hlt := hJc.1 hb
          have HBL := hide hb
          clear hJc hb
          go_wp2_with fail
          refine (rBlank c _).mono ?_
          rintro e w' ⟨rfl, rfl⟩
          rw [HBL.out]
          go_wp2_with fail
          go_roundg (gk - 1)
          case measure => omega
          case rel => exact ⟨j + 1, by go_num, by omega, by omega, rfl⟩
        | false =>
          obtain rfl := hJc.2 hb
          have HBL := hide hb
          clear hJc hb
          go_wp2_with fail
          refine (rBlank c _).mono ?_
          rintro e w' ⟨rfl, rfl⟩
          rw [HBL.out]
          go_wp2_with fail
          go_meet
          case rel => exact ⟨rfl, rfl⟩
      · have b1 : ¬ (j : Int) < (s.length : Int) := by omega
        have hd : decide ((j : Int) < (s.length : Int)) = false := decide_eq_false b1
        obtain rfl : j = J := by omega
        go_wp2_with fail
        go_meet
        case rel => exact ⟨rfl, rfl⟩
  case rest =>
    obtain ⟨rfl, rfl⟩ := hcut
    go_wp2_with fail
    go_loopg [1, 5, 6] (s.length - J) (fun g s1 s5 s6 wx => ∃ (j : Nat) (acc : List UInt8) (op : Bool), s1 = .int .i64 j ∧ s5 = S acc ∧ s6 = .bool op ∧ g + j = s.length ∧ J ≤ j ∧ acc.length ≤ 4 * j ∧
      Hid ((op = false ∧ X = (Cssp.urlX (s.drop j)).on acc (j - J)) ∨ (op = true ∧ j = s.length ∧ X = ⟨false, acc, j - J, true, true⟩)) ∧ Hid (Zh wx w.heap.size) ∧ Hid (Below w.heap.size w wx))
    case atStart => exact ⟨J, [], false, rfl, rfl, rfl, by omega, Nat.le_refl _, by simp, .inl ⟨rfl, by rw [hX.out]; simp [Cssp.Ur.on]⟩, HZ1, HB1⟩
    case round =>
      obtain ⟨j, acc, op, rfl, rfl, rfl, hgj, hij, hacc, hSt, hZ, hbx⟩ := hrel
      have hwr : wrap64 ((j : Int) + 1) = (j : Int) + 1 := by unfold wrap64; omega
      by_cases hj : j < s.length
      · have b1 : (j : Int) < (s.length : Int) := by omega
        have b0 : (0 : Int) ≤ (j : Int) := by omega
        have hSt : Hid (X = (Cssp.urlX (s.drop j)).on acc (j - J)) := by
          unfold Hid
          rcases hSt.out with ⟨_, h⟩ | ⟨_, h, _⟩
          · exact h
          · omega
        obtain ⟨c, hc⟩ : ∃ c, s[j] = c := ⟨_, rfl⟩
        have hcj : s[j]? = some c := by rw [List.getElem?_eq_getElem hj, hc]
        have hdj : s.drop j = c :: s.drop (j + 1) := by rw [← hc]; exact List.drop_eq_getElem_cons hj
        have hcons := Cssp.urlX_cons c (s.drop (j + 1))
        rw [← hdj] at hcons
        have HE := hide (rEscape s j wr (by omega) (by omega))
        by_cases h41 : c = 41
        · have p1 : ((c.toNat : Int) == 41) = true := u8t h41
          rw [if_pos h41] at hcons
          have hX2 := hSt.out
          rw [hcons] at hX2
          have H1 : Hid (urTk X = Cssp.tk 8 acc) := by unfold Hid; rw [hX2]; simp [urTk, Cssp.Ur.on]
          have H2 : Hid (((J + X.k : Nat) : Int) = (j : Int) + 1) := by unfold Hid; rw [hX2]; simp only [Cssp.Ur.on]; omega
          have H3 : Hid (X.o = false) := by unfold Hid; rw [hX2]; rfl
          have H4 : Hid (X.i = false) := by unfold Hid; rw [hX2]; rfl
          clear hX2 hcons hdj hSt hX h41 hcj hno
          obtain ⟨z0, z1, z2, z3, z4, z5, z6⟩ := hZ.out.cells
          have g0 := hZ.out.frozen 0
          have g1 := hZ.out.frozen 1
          have g2 := hZ.out.frozen 2
          have g3 := hZ.out.frozen 3
          have g4 := hZ.out.frozen 4
          have g5 := hZ.out.frozen 5
          have g6 := hZ.out.frozen 6
          go_wp2_with fail
          refine HE.out.mono ?_
          rintro e w' ⟨rfl, rfl⟩
          go_wp2_with fail
          change bodyPost _ _ _ _ ⟨_, _⟩ (putH wr w.heap.size (Cssp.tk 8 acc) ((j : Int) + 1) false false)
          obtain ⟨q0, q1, q2, q3, q4, q5, q6⟩ := putH_cells hZ.out (Cssp.tk 8 acc) ((j : Int) + 1) false false
          refine bodyPost_ret (v := HV (Cssp.tk 8 acc) ((j : Int) + 1) false false) (by simp [results, Tryz.results88, go_sem, q0, q1, q2, q3, q4, q5, q6]) rfl ?_
          exact ⟨by rw [hUx.out]; exact ret_H H1.out.symm (by have := H2.out; simp only; omega) H3.out.symm H4.out.symm, putH_below hbx.out (Nat.le_refl _) _ _ _ _⟩
        · have p1 : ((c.toNat : Int) == 41) = false := u8f h41
          rw [if_neg h41] at hcons
          cases hbl : Cssp.blank c with
          | true =>
            rw [hbl, if_pos rfl] at hcons
            have HBL := hide hbl
            obtain ⟨K, hK⟩ : ∃ K, j + Cssp.run Cssp.blank (s.drop j) = K := ⟨_, rfl⟩
            have hKl := Cssp.run_to Cssp.blank s j (by omega)
            have hKs : ∀ k d, j ≤ k → k ≤ K → s[k]? = some d → (Cssp.blank d = true → k < K) ∧ (Cssp.blank d = false → k = K) := fun k d h1 h2 h3 => by
              rw [← hK] at h2 ⊢
              exact Cssp.run_at h1 h2 h3
            have hrn : Cssp.run Cssp.blank (s.drop j) = K - j := by omega
            rw [hK] at hKl
            have hjK : j < K := (hKs j c (Nat.le_refl _) (by omega) hcj).1 hbl
            have hdl : (s.drop j).length = s.length - j := List.length_drop
            rw [hrn, List.drop_drop, show j + (K - j) = K by omega, hdl, Cssp.isAt_drop, show j + (K - j) = K by omega] at hcons
            have HKS := hide hKs
            have HCONS := hide hcons
            clear hcons hKs hK hrn hdl hbl hcj hdj h41
            go_wp2_with fail
            refine HE.out.mono ?_
            rintro e w' ⟨rfl, rfl⟩
            go_wp2_with fail
            refine (rBlank c _).mono ?_
            rintro e w' ⟨rfl, rfl⟩
            rw [HBL.out]
            go_upto_block 5 with fail
            go_cut [1] from 22 to 126 (fun s1 wx => s1 = .int .i64 K ∧ wr = wx)
            case first =>
              go_wp2_with fail
              go_loopg [1] (K - j) (fun g s1 wx => ∃ k : Nat, s1 = .int .i64 k ∧ g + k = K ∧ j ≤ k ∧ wr = wx)
              case atStart => exact ⟨j, rfl, by omega, Nat.le_refl _, rfl⟩
              case round =>
                obtain ⟨k, rfl, hgk, hjk, hwx⟩ := hrel
                subst hwx
                by_cases hk : k < s.length
                · have c1 : (k : Int) < (s.length : Int) := by omega
                  have c0 : (0 : Int) ≤ (k : Int) := by omega
                  obtain ⟨d, hd⟩ : ∃ d, s[k] = d := ⟨_, rfl⟩
                  have hKc := HKS.out k d hjk (by omega) (by rw [List.getElem?_eq_getElem hk, hd])
                  cases hb : Cssp.blank d with
                  | true =>
                    have hlt := hKc.1 hb
                    have HBD := hide hb
                    clear hKc hb
                    go_wp2_with fail
                    refine (rBlank d _).mono ?_
                    rintro e w' ⟨rfl, rfl⟩
                    rw [HBD.out]
                    go_wp2_with fail
                    go_roundg (gk - 1)
                    case measure => omega
                    case rel => exact ⟨k + 1, by go_num, by omega, by omega, rfl⟩
                  | false =>
                    obtain rfl := hKc.2 hb
                    have HBD := hide hb
                    clear hKc hb
                    go_wp2_with fail
                    refine (rBlank d _).mono ?_
                    rintro e w' ⟨rfl, rfl⟩
                    rw [HBD.out]
                    go_wp2_with fail
                    go_meet
                    case rel => exact ⟨rfl, rfl⟩
                · have c1 : ¬ (k : Int) < (s.length : Int) := by omega
                  have cd : decide ((k : Int) < (s.length : Int)) = false := decide_eq_false c1
                  obtain rfl : k = K := by omega
                  go_wp2_with fail
                  go_meet
                  case rel => exact ⟨rfl, rfl⟩
            case rest =>
              obtain ⟨rfl, rfl⟩ := hcut
              by_cases hk : K < s.length
              · have c1 : (K : Int) < (s.length : Int) := by omega
                have c0 : (0 : Int) ≤ (K : Int) := by omega
                obtain ⟨d, hd⟩ : ∃ d, s[K] = d := ⟨_, rfl⟩
                have hdk : s[K]? = some d := by rw [List.getElem?_eq_getElem hk, hd]
                have hdK : s.drop K = d :: s.drop (K + 1) := by rw [← hd]; exact List.drop_eq_getElem_cons hk
                by_cases h41 : d = 41
                · have p2 : ((d.toNat : Int) == 41) = true := u8t h41
                  have p3 : ((d.toNat : Int) != 41) = false := by rw [bne, p2]; rfl
                  have hnext : Hid (X = (Cssp.urlX (s.drop K)).on acc (K - J)) := by
                    unfold Hid
                    rw [hSt.out, HCONS.out, if_neg (by rintro ⟨_, h⟩; rw [isAt_get hdk, h41] at h; cases h), if_pos (by omega), hdK, Cssp.urlX_cons, if_pos h41]
                    simp only [Cssp.Ur.on, Cssp.Ur.mk.injEq, true_and, and_true]
                    omega
                  clear HCONS hSt hdK hdk h41
                  go_wp2_with fail
                  go_roundg (gk - (K - j))
                  case measure => omega
                  case rel => exact ⟨K, acc, false, rfl, rfl, rfl, by omega, by omega, by omega, .inl ⟨rfl, hnext.out⟩, hZ, hbx⟩
                · have p2 : ((d.toNat : Int) == 41) = false := u8f h41
                  have p3 : ((d.toNat : Int) != 41) = true := by rw [bne, p2]; rfl
                  obtain ⟨R, hR⟩ : ∃ R, Cssp.bad (s.drop K) = R := ⟨_, rfl⟩
                  have HBad := hide (rBad s K wr hl (by omega) R hR)
                  have hX2 : X = (Cssp.badU (s.drop K)).on acc (K - J) := by
                    rw [hSt.out, HCONS.out, if_pos ⟨by omega, by rw [isAt_get hdk]; simpa using h41⟩]
                    simp only [Cssp.Ur.on, Cssp.badU, List.append_nil, Cssp.Ur.mk.injEq, true_and, and_true]
                    omega
                  rw [Cssp.badU, hR] at hX2
                  obtain ⟨R1, R2, R3⟩ := R
                  have H1 : Hid (urTk X = Cssp.tk 9 []) := by unfold Hid; rw [hX2]; simp [urTk, Cssp.Ur.on]
                  have H2 : Hid (((J + X.k : Nat) : Int) = (K : Int) + (R1 : Int)) := by unfold Hid; rw [hX2]; simp only [Cssp.Ur.on]; omega
                  have H3 : Hid (X.o = R2) := by unfold Hid; rw [hX2]; rfl
                  have H4 : Hid (X.i = R3) := by unfold Hid; rw [hX2]; rfl
                  clear hX2 hR HCONS hSt hdK hdk h41 hX
                  go_wp2_with fail
                  refine HBad.out.mono ?_
                  rintro e w2 ⟨rfl, hb2⟩
                  have HB2 : Hid (Below w.heap.size w w2) := hbx.out.trans (hb2.mono hbx.out.size)
                  have HZ2 : Hid (Zh w2 w.heap.size) := hZ.out.below hb2
                  clear hb2 HBad HE
                  obtain ⟨z0, z1, z2, z3, z4, z5, z6⟩ := HZ2.out.cells
                  have g0 := HZ2.out.frozen 0
                  have g1 := HZ2.out.frozen 1
                  have g2 := HZ2.out.frozen 2
                  have g3 := HZ2.out.frozen 3
                  have g4 := HZ2.out.frozen 4
                  have g5 := HZ2.out.frozen 5
                  have g6 := HZ2.out.frozen 6
                  go_wp2_with fail
                  change bodyPost _ _ _ _ ⟨_, _⟩ (putH w2 w.heap.size (Cssp.tk 9 []) ((K : Int) + (R1 : Int)) R2 R3)
                  obtain ⟨q0, q1, q2, q3, q4, q5, q6⟩ := putH_cells HZ2.out (Cssp.tk 9 []) ((K : Int) + (R1 : Int)) R2 R3
                  refine bodyPost_ret (v := HV (Cssp.tk 9 []) ((K : Int) + (R1 : Int)) R2 R3) (by simp [results, Tryz.results88, go_sem, q0, q1, q2, q3, q4, q5, q6]) rfl ?_
                  exact ⟨by rw [hUx.out]; exact ret_H H1.out.symm (by have := H2.out; simp only; omega) H3.out.symm H4.out.symm, putH_below HB2.out (Nat.le_refl _) _ _ _ _⟩
              · have c1 : ¬ (K : Int) < (s.length : Int) := by omega
                have cd : decide ((K : Int) < (s.length : Int)) = false := decide_eq_false c1
                have hnext : Hid (X = (Cssp.urlX (s.drop K)).on acc (K - J)) := by
                  unfold Hid
                  rw [hSt.out, HCONS.out, if_neg (by rintro ⟨h, _⟩; omega), if_neg (by omega), List.drop_eq_nil_of_le (show s.length ≤ K by omega), Cssp.urlX_nil]
                  simp only [Cssp.Ur.on, Cssp.Ur.mk.injEq, true_and, and_true]
                  omega
                clear HCONS hSt
                go_wp2_with fail
                go_roundg (gk - (K - j))
                case measure => omega
                case rel => exact ⟨K, acc, false, rfl, rfl, rfl, by omega, by omega, by omega, .inl ⟨rfl, hnext.out⟩, hZ, hbx⟩
          | false =>
            rw [hbl, if_neg (by decide)] at hcons
            have HBL := hide hbl
            have hd0 : Cssp.escAt (s.drop j) 0 = Cssp.escAt s j := by rw [Cssp.escAt_drop, Nat.add_zero]
            rw [hd0] at hcons
            cases he : Cssp.escAt s j with
            | true =>
              rw [he] at HE
              rw [he, if_pos rfl] at hcons
              obtain ⟨E, hE⟩ : ∃ E, Cssp.esc (s.drop j) = E := ⟨_, rfl⟩
              have hdl : (s.drop j).length = s.length - j := List.length_drop
              have hE1 := Cssp.esc_pos (s.drop j)
              have hE2 := (Cssp.esc_len (s.drop j)).2 (by omega)
              have hE3 := (Cssp.esc_len (s.drop j)).1
              have hE4 := Cssp.esc_open (s.drop j)
              rw [hE] at hE1 hE2 hE3 hE4 hcons
              rw [List.drop_drop] at hE4 hcons
              have HEs := hide (rEscaped s j wr hl hj E hE)
              have hEk : j + E.k ≤ s.length := by omega
              have hap : ¬ 9223372036854775807 < acc.length + E.t.length := by omega
              have hnext : Hid ((E.o = false ∧ X = (Cssp.urlX (s.drop (j + E.k))).on (acc ++ E.t) (j + E.k - J)) ∨ (E.o = true ∧ j + E.k = s.length ∧ X = ⟨false, acc ++ E.t, j + E.k - J, true, true⟩)) := by
                unfold Hid
                cases ho : E.o with
                | true =>
                  rw [if_pos ho] at hcons
                  have h2 := congrArg List.length (hE4 ho)
                  rw [List.length_drop, List.length_nil] at h2
                  refine .inr ⟨rfl, by omega, ?_⟩
                  rw [hSt.out, hcons]
                  simp only [Cssp.Ur.on, Cssp.Ur.mk.injEq, true_and, and_true]
                  omega
                | false =>
                  rw [if_neg (by rw [ho]; decide)] at hcons
                  refine .inl ⟨rfl, ?_⟩
                  rw [hSt.out, hcons]
                  simp only [Cssp.Ur.on, List.append_assoc, Cssp.Ur.mk.injEq, true_and, and_true]
                  omega
              have HAL : Hid ((acc ++ E.t).length ≤ 4 * (j + E.k)) := by unfold Hid; rw [List.length_append]; omega
              clear hE hE4 hdl hd0 hcons hdj hSt he h41 hcj hbl
              obtain ⟨Et, Ek, Eo⟩ := E
              simp only at hE1 hE2 hE3 hnext HEs hEk hap HAL
              go_wp2_with fail
              refine HE.out.mono ?_
              rintro e w' ⟨rfl, rfl⟩
              go_wp2_with fail
              refine (rBlank c _).mono ?_
              rintro e w' ⟨rfl, rfl⟩
              rw [HBL.out]
              go_wp2_with fail
              refine HEs.out.mono ?_
              rintro e w2 ⟨rfl, hb2⟩
              have HB2 : Hid (Below w.heap.size w w2) := hbx.out.trans (hb2.mono hbx.out.size)
              have HZ2 : Hid (Zh w2 w.heap.size) := hZ.out.below hb2
              clear hb2 HEs HE
              go_wp2_with fail
              go_roundg (gk - Ek)
              case measure => omega
              case rel => exact ⟨j + Ek, acc ++ Et, Eo, rfl, rfl, rfl, by omega, by omega, HAL.out, hnext, HZ2, HB2⟩
            | false =>
              rw [he] at HE
              rw [he, if_neg (by decide)] at hcons
              obtain ⟨n12, n13⟩ := hno.out.get hcj
              have hpl := Cssp.plainU_iff n12 n13 h41 hbl
              have hcb := u8_lt c
              cases hpu : Cssp.plainU c with
              | false =>
                rw [hpu, if_neg (by decide)] at hcons
                have hway := hpl.1 hpu
                obtain ⟨R, hR⟩ : ∃ R, Cssp.bad (s.drop j) = R := ⟨_, rfl⟩
                have HBad := hide (rBad s j wr hl (by omega) R hR)
                have hX2 : X = (Cssp.badU (s.drop j)).on acc (j - J) := by rw [hSt.out, hcons]
                rw [Cssp.badU, hR] at hX2
                obtain ⟨R1, R2, R3⟩ := R
                have H1 : Hid (urTk X = Cssp.tk 9 []) := by unfold Hid; rw [hX2]; simp [urTk, Cssp.Ur.on]
                have H2 : Hid (((J + X.k : Nat) : Int) = (j : Int) + (R1 : Int)) := by unfold Hid; rw [hX2]; simp only [Cssp.Ur.on]; omega
                have H3 : Hid (X.o = R2) := by unfold Hid; rw [hX2]; rfl
                have H4 : Hid (X.i = R3) := by unfold Hid; rw [hX2]; rfl
                have HWAY := hide hway
                clear hX2 hR hcons hdj hSt hX hd0 he hpl hpu hway n12 n13 h41 hcj hbl
                go_wp2_with fail
                refine HE.out.mono ?_
                rintro e w' ⟨rfl, rfl⟩
                go_wp2_with fail
                refine (rBlank c _).mono ?_
                rintro e w' ⟨rfl, rfl⟩
                rw [HBL.out]
                go_upto_region 22 with (fail)
                go_cut [89] from 22 to 126 (fun s89 wx => s89 = .bool true ∧ wr = wx)
                case first =>
                  by_cases h34 : c = 34
                  · have q34 : ((c.toNat : Int) == 34) = true := u8t h34
                    clear HWAY h34
                    go_wp2_with fail
                    go_meet
                    case rel => exact ⟨rfl, rfl⟩
                  · have q34 : ((c.toNat : Int) == 34) = false := u8f h34
                    by_cases h39 : c = 39
                    · have q39 : ((c.toNat : Int) == 39) = true := u8t h39
                      clear HWAY h34 h39
                      go_wp2_with fail
                      go_meet
                      case rel => exact ⟨rfl, rfl⟩
                    · have q39 : ((c.toNat : Int) == 39) = false := u8f h39
                      by_cases h40 : c = 40
                      · have q40 : ((c.toNat : Int) == 40) = true := u8t h40
                        clear HWAY h34 h39 h40
                        go_wp2_with fail
                        go_meet
                        case rel => exact ⟨rfl, rfl⟩
                      · have q40 : ((c.toNat : Int) == 40) = false := u8f h40
                        by_cases h92 : c = 92
                        · have q92 : ((c.toNat : Int) == 92) = true := u8t h92
                          clear HWAY h34 h39 h40 h92
                          go_wp2_with fail
                          go_meet
                          case rel => exact ⟨rfl, rfl⟩
                        · have q92 : ((c.toNat : Int) == 92) = false := u8f h92
                          by_cases h9 : c.toNat < 9
                          · have q9 : (c.toNat : Int) < 9 := by omega
                            have d9 : decide ((c.toNat : Int) < 9) = true := decide_eq_true q9
                            clear HWAY
                            go_wp2_with fail
                            go_meet
                            case rel => exact ⟨rfl, rfl⟩
                          · have q9 : ¬ (c.toNat : Int) < 9 := by omega
                            have d9 : decide ((c.toNat : Int) < 9) = false := decide_eq_false q9
                            by_cases h11 : c = 11
                            · have q11 : ((c.toNat : Int) == 11) = true := u8t h11
                              clear HWAY h34 h39 h40 h92 h11
                              go_wp2_with fail
                              go_meet
                              case rel => exact ⟨rfl, rfl⟩
                            · have q11 : ((c.toNat : Int) == 11) = false := u8f h11
                              by_cases h13 : 13 < c.toNat ∧ c.toNat < 32
                              · have qa : (13 : Int) < (c.toNat : Int) := by omega
                                have qb : (c.toNat : Int) < 32 := by omega
                                have da : decide ((13 : Int) < (c.toNat : Int)) = true := decide_eq_true qa
                                have db : decide ((c.toNat : Int) < 32) = true := decide_eq_true qb
                                clear HWAY h13
                                go_wp2_with fail
                                go_meet
                                case rel => exact ⟨rfl, rfl⟩
                              · by_cases ha : 13 < c.toNat
                                · have qa : (13 : Int) < (c.toNat : Int) := by omega
                                  have qb : ¬ (c.toNat : Int) < 32 := by omega
                                  have da : decide ((13 : Int) < (c.toNat : Int)) = true := decide_eq_true qa
                                  have db : decide ((c.toNat : Int) < 32) = false := decide_eq_false qb
                                  by_cases h127 : c = 127
                                  · have q127 : ((c.toNat : Int) == 127) = true := u8t h127
                                    clear HWAY h34 h39 h40 h92 h11 h127
                                    go_wp2_with fail
                                    go_meet
                                    case rel => exact ⟨rfl, rfl⟩
                                  · have q127 : ((c.toNat : Int) == 127) = false := u8f h127
                                    exfalso
                                    rcases HWAY.out with h | h | h | h | h | h | h | h <;> first | exact absurd h ‹_› | omega
                                · have qa : ¬ (13 : Int) < (c.toNat : Int) := by omega
                                  have da : decide ((13 : Int) < (c.toNat : Int)) = false := decide_eq_false qa
                                  by_cases h127 : c = 127
                                  · have q127 : ((c.toNat : Int) == 127) = true := u8t h127
                                    clear HWAY h34 h39 h40 h92 h11 h127
                                    go_wp2_with fail
                                    go_meet
                                    case rel => exact ⟨rfl, rfl⟩
                                  · have q127 : ((c.toNat : Int) == 127) = false := u8f h127
                                    exfalso
                                    rcases HWAY.out with h | h | h | h | h | h | h | h <;> first | exact absurd h ‹_› | omega
                case rest =>
                  obtain ⟨rfl, rfl⟩ := hcut
                  go_wp2_with fail
                  refine HBad.out.mono ?_
                  rintro e w2 ⟨rfl, hb2⟩
                  have HB2 : Hid (Below w.heap.size w w2) := hbx.out.trans (hb2.mono hbx.out.size)
                  have HZ2 : Hid (Zh w2 w.heap.size) := hZ.out.below hb2
                  clear hb2 HBad HE
                  obtain ⟨z0, z1, z2, z3, z4, z5, z6⟩ := HZ2.out.cells
                  have g0 := HZ2.out.frozen 0
                  have g1 := HZ2.out.frozen 1
                  have g2 := HZ2.out.frozen 2
                  have g3 := HZ2.out.frozen 3
                  have g4 := HZ2.out.frozen 4
                  have g5 := HZ2.out.frozen 5
                  have g6 := HZ2.out.frozen 6
                  go_wp2_with fail
                  change bodyPost _ _ _ _ ⟨_, _⟩ (putH w2 w.heap.size (Cssp.tk 9 []) ((j : Int) + (R1 : Int)) R2 R3)
                  obtain ⟨q0, q1, q2, q3, q4, q5, q6⟩ := putH_cells HZ2.out (Cssp.tk 9 []) ((j : Int) + (R1 : Int)) R2 R3
                  refine bodyPost_ret (v := HV (Cssp.tk 9 []) ((j : Int) + (R1 : Int)) R2 R3) (by simp [results, Tryz.results88, go_sem, q0, q1, q2, q3, q4, q5, q6]) rfl ?_
                  exact ⟨by rw [hUx.out]; exact ret_H H1.out.symm (by have := H2.out; simp only; omega) H3.out.symm H4.out.symm, putH_below HB2.out (Nat.le_refl _) _ _ _ _⟩
              | true =>
                rw [hpu, if_pos rfl] at hcons
                have hway : ¬ (c = 34 ∨ c = 39 ∨ c = 40 ∨ c = 92 ∨ c.toNat < 9 ∨ c = 11 ∨ (13 < c.toNat ∧ c.toNat < 32) ∨ c = 127) := fun h => by rw [hpl.2 h] at hpu; cases hpu
                have q34 : ((c.toNat : Int) == 34) = false := u8f fun h => hway (.inl h)
                have q39 : ((c.toNat : Int) == 39) = false := u8f fun h => hway (.inr (.inl h))
                have q40 : ((c.toNat : Int) == 40) = false := u8f fun h => hway (.inr (.inr (.inl h)))
                have q92 : ((c.toNat : Int) == 92) = false := u8f fun h => hway (.inr (.inr (.inr (.inl h))))
                have q9 : ¬ (c.toNat : Int) < 9 := fun h => hway (.inr (.inr (.inr (.inr (.inl (by omega))))))
                have d9 : decide ((c.toNat : Int) < 9) = false := decide_eq_false q9
                have q11 : ((c.toNat : Int) == 11) = false := u8f fun h => hway (.inr (.inr (.inr (.inr (.inr (.inl h))))))
                have q13 : ¬ (13 < c.toNat ∧ c.toNat < 32) := fun h => hway (.inr (.inr (.inr (.inr (.inr (.inr (.inl h)))))))
                have q127 : ((c.toNat : Int) == 127) = false := u8f fun h => hway (.inr (.inr (.inr (.inr (.inr (.inr (.inr h)))))))
                have hnext : Hid (X = (Cssp.urlX (s.drop (j + 1))).on (acc ++ [c]) (j + 1 - J)) := by
                  unfold Hid
                  rw [hSt.out, hcons]
                  simp only [Cssp.Ur.on, List.append_assoc, List.cons_append, List.nil_append, Cssp.Ur.mk.injEq, true_and, and_true]
                  omega
                have hsl : (s.drop j).take 1 = [c] := by rw [hdj]; rfl
                have hap : ¬ 9223372036854775807 < acc.length + 1 := by omega
                have b2 : (j : Int) + 1 ≤ (s.length : Int) := by omega
                have b3 : (j : Int) ≤ (j : Int) + 1 := by omega
                have HQ13 := hide q13
                clear hcons hdj hSt hX hd0 he hpl hpu hway n12 n13 h41 hcj hbl q13
                go_wp2_with fail
                refine HE.out.mono ?_
                rintro e w' ⟨rfl, rfl⟩
                go_wp2_with fail
                refine (rBlank c _).mono ?_
                rintro e w' ⟨rfl, rfl⟩
                rw [HBL.out]
                go_upto_region 22 with (fail)
                go_cut [89] from 22 to 126 (fun s89 wx => s89 = .bool false ∧ wr = wx)
                case first =>
                  by_cases ha : 13 < c.toNat
                  · have qa : (13 : Int) < (c.toNat : Int) := by omega
                    have qb : ¬ (c.toNat : Int) < 32 := by have := HQ13.out; omega
                    have da : decide ((13 : Int) < (c.toNat : Int)) = true := decide_eq_true qa
                    have db : decide ((c.toNat : Int) < 32) = false := decide_eq_false qb
                    clear HQ13
                    go_wp2_with fail
                    go_meet
                    case rel => exact ⟨rfl, rfl⟩
                  · have qa : ¬ (13 : Int) < (c.toNat : Int) := by omega
                    have da : decide ((13 : Int) < (c.toNat : Int)) = false := decide_eq_false qa
                    clear HQ13
                    go_wp2_with fail
                    go_meet
                    case rel => exact ⟨rfl, rfl⟩
                case rest =>
                  obtain ⟨rfl, rfl⟩ := hcut
                  go_wp2_with fail
                  go_roundg (gk - 1)
                  case measure => omega
                  case rel => exact ⟨j + 1, acc ++ [c], false, by go_num, (by rw [← hsl]), rfl, by omega, by omega, (by simp; omega), .inl ⟨rfl, hnext.out⟩, hZ, hbx⟩
      · have b1 : ¬ (j : Int) < (s.length : Int) := by omega
        have hdj : s.drop j = [] := List.drop_eq_nil_of_le (by omega)
        have hX2 : X = ⟨false, acc, j - J, op, true⟩ := by
          rcases hSt.out with ⟨h1, h⟩ | ⟨h1, _, h⟩
          · rw [h, hdj, Cssp.urlX_nil, h1]
            simp [Cssp.Ur.on]
          · rw [h, h1]
        have H1 : Hid (urTk X = Cssp.tk 8 acc) := by unfold Hid; rw [hX2]; simp [urTk]
        have H2 : Hid (((J + X.k : Nat) : Int) = (s.length : Int)) := by unfold Hid; rw [hX2]; simp only; omega
        have H3 : Hid (X.o = op) := by unfold Hid; rw [hX2]
        have H4 : Hid (X.i = true) := by unfold Hid; rw [hX2]
        clear hX2 hdj hSt hX
        obtain ⟨z0, z1, z2, z3, z4, z5, z6⟩ := hZ.out.cells
        have g0 := hZ.out.frozen 0
        have g1 := hZ.out.frozen 1
        have g2 := hZ.out.frozen 2
        have g3 := hZ.out.frozen 3
        have g4 := hZ.out.frozen 4
        have g5 := hZ.out.frozen 5
        have g6 := hZ.out.frozen 6
        go_wp2_with fail
        change bodyPost _ _ _ _ ⟨_, _⟩ (putH wr w.heap.size (Cssp.tk 8 acc) ((s.length : Int)) op true)
        obtain ⟨q0, q1, q2, q3, q4, q5, q6⟩ := putH_cells hZ.out (Cssp.tk 8 acc) ((s.length : Int)) op true
        refine bodyPost_ret (v := HV (Cssp.tk 8 acc) ((s.length : Int)) op true) (by simp [results, Tryz.results88, go_sem, q0, q1, q2, q3, q4, q5, q6]) rfl ?_
        exact ⟨by rw [hUx.out]; exact ret_H H1.out.symm (by have := H2.out; simp only; omega) H3.out.symm H4.out.symm, putH_below hbx.out (Nat.le_refl _) _ _ _ _⟩
end Go.Proofs.YtojgcangnkjmjaaGreatDoor
namespace Go.Proofs.YtojgcangnkjmjaaGreatDoor
open Go.RowKit

theorem rAtI (s : List UInt8) (k : Int) (n : Nat) (w : World) (h : k = (n : Int)) : Calls Tryz.prog 84 #[S s, .int .i64 k] w (Ret (.int .u8 (Cssp.at_ s n).toNat) w) := by
  subst h; exact rAt s n w
/-- where a number's parts end -/
theorem Cssp.num_abs (s : List UInt8) (i : Nat) (hi : i < s.length) : ∃ (A I p k q : Nat) (wp wq : Bool),
    A = i + (if Cssp.at_ s i = 43 ∨ Cssp.at_ s i = 45 then 1 else 0) ∧ I = A + Cssp.run Cssp.digit (s.drop A) ∧
    (if Cssp.at_ s I = 46 ∧ Cssp.digit (Cssp.at_ s (I + 1)) = true then p = I + 1 + Cssp.run Cssp.digit (s.drop (I + 1)) ∧ wp = false else p = I ∧ wp = true) ∧
    k = p + 1 + (if Cssp.at_ s (p + 1) = 43 ∨ Cssp.at_ s (p + 1) = 45 then 1 else 0) ∧
    (if (Cssp.at_ s p = 101 ∨ Cssp.at_ s p = 69) ∧ Cssp.digit (Cssp.at_ s k) = true then q = k + Cssp.run Cssp.digit (s.drop k) ∧ wq = false else q = p ∧ wq = true) ∧
    Cssp.numLen (s.drop i) = (q - i, wp && wq) ∧ i ≤ A ∧ A ≤ I ∧ I ≤ p ∧ p ≤ q ∧ q ≤ s.length := by
  have hL : (s.drop i).length = s.length - i := List.length_drop
  have h0 : Cssp.signed (s.drop i) 0 = if Cssp.at_ s i = 43 ∨ Cssp.at_ s i = 45 then 1 else 0 := by rw [Cssp.signed_at, Cssp.at_drop, Nat.add_zero]; simp only [Bool.or_eq_true, beq_iff_eq]
  obtain ⟨sg, hsg⟩ : ∃ sg, Cssp.signed (s.drop i) 0 = sg := ⟨_, rfl⟩
  rw [hsg] at h0
  have hsl : sg ≤ 1 := by rw [h0]; split <;> omega
  have hr1 := Cssp.run_le Cssp.digit (s.drop (i + sg))
  rw [List.length_drop] at hr1
  obtain ⟨I, hI⟩ : ∃ I, i + sg + Cssp.run Cssp.digit (s.drop (i + sg)) = I := ⟨_, rfl⟩
  have hP : Cssp.point (s.drop i) (I - i) = if Cssp.at_ s I = 46 ∧ Cssp.digit (Cssp.at_ s (I + 1)) = true then (I - i + 1 + Cssp.run Cssp.digit (s.drop (I + 1)), false) else (I - i, true) := by
    unfold Cssp.point
    rw [Cssp.at_drop, Cssp.at_drop, List.drop_drop, show i + (I - i) = I by omega, show i + (I - i + 1) = I + 1 by omega]
  obtain ⟨⟨p0, wp⟩, hp⟩ : ∃ P, Cssp.point (s.drop i) (I - i) = P := ⟨_, rfl⟩
  have hp0 := Cssp.point_le (s.drop i) (I - i)
  rw [hp] at hP hp0
  have hp0 : I - i ≤ p0 := hp0
  have hQ : ∀ k, k = i + p0 + 1 + (if Cssp.at_ s (i + p0 + 1) = 43 ∨ Cssp.at_ s (i + p0 + 1) = 45 then 1 else 0) → Cssp.power (s.drop i) p0 = if (Cssp.at_ s (i + p0) = 101 ∨ Cssp.at_ s (i + p0) = 69) ∧ Cssp.digit (Cssp.at_ s k) = true then (k - i + Cssp.run Cssp.digit (s.drop k), false) else (p0, true) := by
    intro k hk
    have hsg2 : Cssp.signed (s.drop i) (p0 + 1) = if Cssp.at_ s (i + p0 + 1) = 43 ∨ Cssp.at_ s (i + p0 + 1) = 45 then 1 else 0 := by rw [Cssp.signed_at, Cssp.at_drop, ← Nat.add_assoc]; simp only [Bool.or_eq_true, beq_iff_eq]
    obtain ⟨g2, hg2⟩ : ∃ g2, Cssp.signed (s.drop i) (p0 + 1) = g2 := ⟨_, rfl⟩
    unfold Cssp.power
    rw [hg2]
    rw [hg2] at hsg2
    rw [← hsg2] at hk
    rw [Cssp.at_drop, Cssp.at_drop, List.drop_drop, show i + (p0 + 1 + g2) = k by omega, show p0 + 1 + g2 = k - i by omega]
  obtain ⟨k, hk⟩ : ∃ k, k = i + p0 + 1 + (if Cssp.at_ s (i + p0 + 1) = 43 ∨ Cssp.at_ s (i + p0 + 1) = 45 then 1 else 0) := ⟨_, rfl⟩
  have hQ := hQ k hk
  obtain ⟨⟨q0, wq⟩, hq⟩ : ∃ Q, Cssp.power (s.drop i) p0 = Q := ⟨_, rfl⟩
  have hq0 := Cssp.power_le (s.drop i) p0
  rw [hq] at hQ hq0
  have hq0 : p0 ≤ q0 := hq0
  have hnl : Cssp.numLen (s.drop i) = (q0, wp && wq) := by
    rw [Cssp.numLen_eq, hsg, List.drop_drop, show sg + Cssp.run Cssp.digit (s.drop (i + sg)) = I - i by omega, hp]
    show ((Cssp.power (s.drop i) p0).1, wp && (Cssp.power (s.drop i) p0).2) = _
    rw [hq]
  have hle := Cssp.numLen_le (s.drop i) (fun e => by rw [e] at hL; simp at hL; omega)
  rw [hnl, hL] at hle
  have hle : q0 ≤ s.length - i := hle
  refine ⟨i + sg, I, i + p0, k, i + q0, wp, wq, by rw [h0], hI.symm, ?_, hk, ?_, ?_, by omega, by omega, by omega, by omega, by omega⟩
  · split
    · rename_i h
      rw [if_pos h] at hP
      injection hP with e1 e2
      exact ⟨by omega, e2⟩
    · rename_i h
      rw [if_neg h] at hP
      injection hP with e1 e2
      exact ⟨by omega, e2⟩
  · split
    · rename_i h
      rw [if_pos h] at hQ
      injection hQ with e1 e2
      exact ⟨by omega, e2⟩
    · rename_i h
      rw [if_neg h] at hQ
      injection hQ with e1 e2
      exact ⟨by omega, e2⟩
  · rw [hnl, show i + q0 - i = q0 by omega]
set_option maxRecDepth 100000 in
set_option maxHeartbeats 4000000 in
theorem rNumeric (s : List UInt8) (i : Nat) (w : World) (hl : s.length ≤ 1048576) (hi : i < s.length) (N : Cssp.Th) (hN : Hid (Cssp.numeric (s.drop i) = N)) :
    Calls Tryz.prog 54 #[S s, .int .i64 i] w (Fresh (HV N.x ((i + N.k : Nat) : Int) N.o N.i) w) := by
  have hz := Zh.new w
  have hal := (Below.refl w.heap.size w).alloc (Nat.le_refl _) zeroH
  obtain ⟨A, I, p, k, q, wp, wq, hA, hI, hp, hk, hq, hnl, l1, l2, l3, l4, l5⟩ := Cssp.num_abs s i hi
  have hNN : N = if Cssp.identAt s q = true then ⟨⟨13, (s.drop i).take (q - i), (Cssp.name (s.drop q)).t, wp && wq⟩, q - i + (Cssp.name (s.drop q)).k, (Cssp.name (s.drop q)).o, false, 0⟩
      else if Cssp.at_ s q = 37 then ⟨⟨12, (s.drop i).take (q - i), [], false⟩, q - i + 1, false, false, 0⟩ else ⟨⟨11, (s.drop i).take (q - i), [], wp && wq⟩, q - i, false, false, 0⟩ := by
    rw [← hN.out, Cssp.numeric_eq, hnl]
    simp only [Cssp.identAt_drop, Cssp.at_drop, List.drop_drop, show i + (q - i) = q by omega]
  have HNN := hide hNN
  have b0 : (0 : Int) ≤ (i : Int) := by omega
  have b1 : (i : Int) < (s.length : Int) := by omega
  obtain ⟨c, hc⟩ : ∃ c, s[i] = c := ⟨_, rfl⟩
  have hac : Cssp.at_ s i = c := by rw [Cssp.at_, List.getD_eq_getElem?_getD, List.getElem?_eq_getElem hi, hc]; rfl
  rw [hac] at hA
  have hA2 : A = i ∨ A = i + 1 := by rw [hA]; split <;> omega
  have hwi : wrap64 ((i : Int) + 1) = (i : Int) + 1 := by unfold wrap64; omega
  obtain ⟨B, hB⟩ : ∃ B, decide (c = 43 ∨ c = 45) = B := ⟨_, rfl⟩
  have HA := hide hA
  have HI := hide hI
  have HP := hide hp
  have HK := hide hk
  have HQ := hide hq
  have HB := hide hB
  have HA2 := hide hA2
  have HL := hide (And.intro l1 (And.intro l2 (And.intro l3 (And.intro l4 l5))))
  have bq : q ≤ 1048576 := Nat.le_trans l5 hl
  have bp : p ≤ 1048576 := Nat.le_trans l4 bq
  have bI : I ≤ 1048576 := Nat.le_trans l3 bp
  have BI := hide bI
  have BP := hide bp
  have BQ := hide bq
  clear hA hI hp hk hq hnl hNN hac hB hN hA2 l1 l2 l3 l4 l5 bI bp bq
  go_enter Tryz.func54, Tryz.ntmps54
  go_upto_region 2 with (fail)
  change Code.wp _ _ _ _ (w.alloc zeroH)
  generalize hgen : w.alloc zeroH = w1 at hz hal ⊢
  clear hgen
  have HZ1 := hide hz
  have HB1 := hide hal
  clear hz hal
  go_cut [5, 23] from 13 (fun s5 s23 wx => s5 = .int .i64 i ∧ s23 = .bool B ∧ w1 = wx)
  case first =>
    by_cases h43 : c = 43
    · have p1 : ((c.toNat : Int) == 43) = true := u8t h43
      have hb : B = true := by rw [← HB.out, h43]; decide
      clear h43
      go_wp2_with fail
      go_meet
      case rel => exact ⟨rfl, by rw [hb], rfl⟩
    · have p1 : ((c.toNat : Int) == 43) = false := u8f h43
      by_cases h45 : c = 45
      · have p2 : ((c.toNat : Int) == 45) = true := u8t h45
        have hb : B = true := by rw [← HB.out, h45]; decide
        clear h43 h45
        go_wp2_with fail
        go_meet
        case rel => exact ⟨rfl, by rw [hb], rfl⟩
      · have p2 : ((c.toNat : Int) == 45) = false := u8f h45
        have hb : B = false := by rw [← HB.out, decide_eq_false_iff_not]; rintro (h | h) <;> contradiction
        clear h43 h45
        go_wp2_with fail
        go_meet
        case rel => exact ⟨rfl, by rw [hb], rfl⟩
  case rest =>
  obtain ⟨rfl, rfl, rfl⟩ := hcut
  clear hc
  go_upto_if 23 with (fail)
  go_cut [5] from 13 (fun s5 wx => s5 = .int .i64 A ∧ w1 = wx)
  case first =>
    cases B with
    | true =>
      have hA : A = i + 1 := by rw [HA.out, if_pos (of_decide_eq_true HB.out)]
      subst hA
      go_wp2_with fail
      go_meet
      case rel => exact ⟨by go_num, rfl⟩
    | false =>
      have hA : A = i := by rw [HA.out, if_neg (of_decide_eq_false HB.out)]; rfl
      subst hA
      go_wp2_with fail
      go_meet
      case rel => exact ⟨rfl, rfl⟩
  case rest =>
  obtain ⟨rfl, rfl⟩ := hcut
  clear HA HB b0 b1 hwi
  go_upto_block 0 with fail
  go_cut [5, 6] from 13 (fun s5 s6 wx => s5 = .int .i64 I ∧ s6 = .bool true ∧ w1 = wx)
  case first =>
    have hst : ∀ j, A ≤ j → j ≤ I → (Cssp.digit (Cssp.at_ s j) = true → j < I) ∧ (Cssp.digit (Cssp.at_ s j) = false → j = I) := fun j h1 h2 => by
      rw [HI.out] at h2 ⊢
      exact Cssp.digit_at h1 h2
    have HST := hide hst
    have hAI : A ≤ I := HL.out.2.1
    have bI := BI.out
    clear hst
    go_wp2_with fail
    go_loopg [5] (I - A) (fun g s5 wx => ∃ j : Nat, s5 = .int .i64 j ∧ g + j = I ∧ A ≤ j ∧ w1 = wx)
    case atStart => exact ⟨A, rfl, by omega, Nat.le_refl _, rfl⟩
    case round =>
      obtain ⟨j, rfl, hgj, hij, hwx⟩ := hrel
      subst hwx
      have hst := HST.out j hij (by omega)
      obtain ⟨d, hd⟩ : ∃ d, Cssp.at_ s j = d := ⟨_, rfl⟩
      rw [hd] at hst
      have hwr : wrap64 ((j : Int) + 1) = (j : Int) + 1 := by unfold wrap64; omega
      have HD := hide hd
      clear hd
      go_wp2_with fail
      refine (rAtI s ((j : Int)) (j) _ (by omega)).mono ?_
      rintro e w' ⟨rfl, rfl⟩
      rw [HD.out]
      go_wp2_with fail
      refine (rDigit (d) _).mono ?_
      rintro e w' ⟨rfl, rfl⟩
      cases hb : Cssp.digit d with
      | true =>
        have hlt := hst.1 hb
        clear hst hb
        go_wp2_with fail
        go_roundg (gk - 1)
        case measure => omega
        case rel => exact ⟨j + 1, by go_num, by omega, by omega, rfl⟩
      | false =>
        obtain rfl := hst.2 hb
        clear hst hb
        go_wp2_with fail
        go_meet
        case rel => exact ⟨rfl, rfl, rfl⟩
  case rest =>
  obtain ⟨rfl, rfl, rfl⟩ := hcut
  clear HI
  obtain ⟨c1, hc1⟩ : ∃ x, Cssp.at_ s I = x := ⟨_, rfl⟩
  obtain ⟨c2, hc2⟩ : ∃ x, Cssp.at_ s (I + 1) = x := ⟨_, rfl⟩
  have hp := HP.out
  rw [hc1, hc2] at hp
  obtain ⟨B, hB⟩ : ∃ B, decide (c1 = 46 ∧ Cssp.digit c2 = true) = B := ⟨_, rfl⟩
  have HP := hide hp
  have HB := hide hB
  have HC1 := hide hc1
  have HC2 := hide hc2
  have hwI : wrap64 ((I : Int) + 1) = (I : Int) + 1 := by have := BI.out; unfold wrap64; omega
  clear hp hB hc1 hc2
  go_upto_region 7 with (fail)
  go_cut [5, 6, 42] from 13 (fun s5 s6 s42 wx => s5 = .int .i64 I ∧ s6 = .bool true ∧ s42 = .bool B ∧ w1 = wx)
  case first =>
    by_cases h46 : c1 = 46
    · have p1 : ((c1.toNat : Int) == 46) = true := u8t h46
      have hb : B = Cssp.digit c2 := by rw [← HB.out, h46]; simp
      clear h46
      go_wp2_with fail
      refine (rAtI s (I : Int) I _ (by omega)).mono ?_
      rintro e w' ⟨rfl, rfl⟩
      rw [HC1.out]
      go_wp2_with fail
      refine (rAtI s ((I : Int) + 1) (I + 1) _ (by omega)).mono ?_
      rintro e w' ⟨rfl, rfl⟩
      rw [HC2.out]
      go_wp2_with fail
      refine (rDigit c2 _).mono ?_
      rintro e w' ⟨rfl, rfl⟩
      go_wp2_with fail
      go_meet
      case rel => exact ⟨rfl, rfl, by rw [hb], rfl⟩
    · have p1 : ((c1.toNat : Int) == 46) = false := u8f h46
      have hb : B = false := by rw [← HB.out, decide_eq_false_iff_not]; rintro ⟨h, _⟩; exact h46 h
      clear h46
      go_wp2_with fail
      refine (rAtI s (I : Int) I _ (by omega)).mono ?_
      rintro e w' ⟨rfl, rfl⟩
      rw [HC1.out]
      go_wp2_with fail
      go_meet
      case rel => exact ⟨rfl, rfl, by rw [hb], rfl⟩
  case rest =>
  obtain ⟨rfl, rfl, rfl, rfl⟩ := hcut
  clear HC1 HC2
  go_upto_if 42 with (fail)
  go_cut [5, 6] from 13 (fun s5 s6 wx => s5 = .int .i64 p ∧ s6 = .bool wp ∧ w1 = wx)
  case first =>
    cases B with
    | true =>
      have hp := HP.out
      rw [if_pos (of_decide_eq_true HB.out)] at hp
      obtain ⟨hp, rfl⟩ := hp
      obtain ⟨J, hJ⟩ : ∃ J : Nat, J = I + 1 := ⟨_, rfl⟩
      have hJz : wrap64 ((I : Int) + 1) = (J : Int) := by rw [hwI]; omega
      rw [← hJ] at hp
      have hst : ∀ j, J ≤ j → j ≤ p → (Cssp.digit (Cssp.at_ s j) = true → j < p) ∧ (Cssp.digit (Cssp.at_ s j) = false → j = p) := fun j h1 h2 => by
        rw [hp] at h2 ⊢
        exact Cssp.digit_at h1 h2
      have HST := hide hst
      have hIp : J ≤ p := by omega
      have bp := BP.out
      have HJ := hide hJ
      clear hst hp hwI hJ
      go_wp2_with fail
      clear hJz
      go_loopg [5] (p - J) (fun g s5 wx => ∃ j : Nat, s5 = .int .i64 j ∧ g + j = p ∧ J ≤ j ∧ w1 = wx)
      case atStart => exact ⟨J, rfl, by omega, Nat.le_refl _, rfl⟩
      case round =>
        obtain ⟨j, rfl, hgj, hij, hwx⟩ := hrel
        subst hwx
        have hst := HST.out j hij (by omega)
        obtain ⟨d, hd⟩ : ∃ d, Cssp.at_ s j = d := ⟨_, rfl⟩
        rw [hd] at hst
        have hwr : wrap64 ((j : Int) + 1) = (j : Int) + 1 := by unfold wrap64; omega
        have HD := hide hd
        clear hd
        go_wp2_with fail
        refine (rAtI s ((j : Int)) (j) _ (by omega)).mono ?_
        rintro e w' ⟨rfl, rfl⟩
        rw [HD.out]
        go_wp2_with fail
        refine (rDigit (d) _).mono ?_
        rintro e w' ⟨rfl, rfl⟩
        cases hb : Cssp.digit d with
        | true =>
          have hlt := hst.1 hb
          clear hst hb
          go_wp2_with fail
          go_roundg (gk - 1)
          case measure => omega
          case rel => exact ⟨j + 1, by go_num, by omega, by omega, rfl⟩
        | false =>
          obtain rfl := hst.2 hb
          clear hst hb
          go_wp2_with fail
          go_meet
          case rel => exact ⟨rfl, rfl, rfl⟩
    | false =>
      have hp := HP.out
      rw [if_neg (of_decide_eq_false HB.out)] at hp
      obtain ⟨rfl, rfl⟩ := hp
      go_wp2_with fail
      go_meet
      case rel => exact ⟨rfl, rfl, rfl⟩
  case rest =>
  obtain ⟨rfl, rfl, rfl⟩ := hcut
  clear HP HB hwI
  obtain ⟨c3, hc3⟩ : ∃ x, Cssp.at_ s (p + 1) = x := ⟨_, rfl⟩
  have hk := HK.out
  rw [hc3] at hk
  obtain ⟨B, hB⟩ : ∃ B, decide (c3 = 43 ∨ c3 = 45) = B := ⟨_, rfl⟩
  have hk2 : k = p + 1 ∨ k = p + 1 + 1 := by rw [hk]; split <;> omega
  have HK := hide hk
  have HK2 := hide hk2
  have HB := hide hB
  have HC3 := hide hc3
  have hwp : wrap64 ((p : Int) + 1) = (p : Int) + 1 := by have := BP.out; unfold wrap64; omega
  have hwp2 : wrap64 ((p : Int) + 1 + 1) = (p : Int) + 1 + 1 := by have := BP.out; unfold wrap64; omega
  clear hk hB hc3 hk2
  go_upto_region 13 with (fail)
  go_cut [5, 6, 7, 62] from 13 (fun s5 s6 s7 s62 wx => s5 = .int .i64 p ∧ s6 = .bool wp ∧ s7 = .int .i64 ((p : Int) + 1) ∧ s62 = .bool B ∧ w1 = wx)
  case first =>
    by_cases h43 : c3 = 43
    · have p1 : ((c3.toNat : Int) == 43) = true := u8t h43
      have hb : B = true := by rw [← HB.out, h43]; decide
      clear h43
      go_wp2_with fail
      refine (rAtI s ((p : Int) + 1) (p + 1) _ (by omega)).mono ?_
      rintro e w' ⟨rfl, rfl⟩
      rw [HC3.out]
      go_wp2_with fail
      go_meet
      case rel => exact ⟨rfl, rfl, rfl, by rw [hb], rfl⟩
    · have p1 : ((c3.toNat : Int) == 43) = false := u8f h43
      by_cases h45 : c3 = 45
      · have p2 : ((c3.toNat : Int) == 45) = true := u8t h45
        have hb : B = true := by rw [← HB.out, h45]; decide
        clear h43 h45
        go_wp2_with fail
        refine (rAtI s ((p : Int) + 1) (p + 1) _ (by omega)).mono ?_
        rintro e w' ⟨rfl, rfl⟩
        rw [HC3.out]
        go_wp2_with fail
        refine (rAtI s ((p : Int) + 1) (p + 1) _ (by omega)).mono ?_
        rintro e w' ⟨rfl, rfl⟩
        rw [HC3.out]
        go_wp2_with fail
        go_meet
        case rel => exact ⟨rfl, rfl, rfl, by rw [hb], rfl⟩
      · have p2 : ((c3.toNat : Int) == 45) = false := u8f h45
        have hb : B = false := by rw [← HB.out, decide_eq_false_iff_not]; rintro (h | h) <;> contradiction
        clear h43 h45
        go_wp2_with fail
        refine (rAtI s ((p : Int) + 1) (p + 1) _ (by omega)).mono ?_
        rintro e w' ⟨rfl, rfl⟩
        rw [HC3.out]
        go_wp2_with fail
        refine (rAtI s ((p : Int) + 1) (p + 1) _ (by omega)).mono ?_
        rintro e w' ⟨rfl, rfl⟩
        rw [HC3.out]
        go_wp2_with fail
        go_meet
        case rel => exact ⟨rfl, rfl, rfl, by rw [hb], rfl⟩
  case rest =>
  obtain ⟨rfl, rfl, rfl, rfl, rfl⟩ := hcut
  clear HC3
  go_upto_if 62 with (fail)
  go_cut [5, 6, 7] from 13 (fun s5 s6 s7 wx => s5 = .int .i64 p ∧ s6 = .bool wp ∧ s7 = .int .i64 k ∧ w1 = wx)
  case first =>
    cases B with
    | true =>
      have hk : k = p + 1 + 1 := by rw [HK.out, if_pos (of_decide_eq_true HB.out)]
      subst hk
      go_wp2_with fail
      go_meet
      case rel => exact ⟨rfl, rfl, by go_num, rfl⟩
    | false =>
      have hk : k = p + 1 := by rw [HK.out, if_neg (of_decide_eq_false HB.out)]
      subst hk
      go_wp2_with fail
      go_meet
      case rel => exact ⟨rfl, rfl, by go_num, rfl⟩
  case rest =>
  obtain ⟨rfl, rfl, rfl, rfl⟩ := hcut
  clear HK HB hwp hwp2
  have hkp : p + 1 ≤ k ∧ k ≤ p + 2 := by have := HK2.out; omega
  obtain ⟨k1, k2⟩ := hkp
  clear HK2
  have hKP := hide (And.intro k1 k2)
  clear k1 k2
  obtain ⟨c4, hc4⟩ : ∃ x, Cssp.at_ s p = x := ⟨_, rfl⟩
  obtain ⟨c5, hc5⟩ : ∃ x, Cssp.at_ s k = x := ⟨_, rfl⟩
  have hq := HQ.out
  rw [hc4, hc5] at hq
  obtain ⟨B, hB⟩ : ∃ B, decide ((c4 = 101 ∨ c4 = 69) ∧ Cssp.digit c5 = true) = B := ⟨_, rfl⟩
  have HQ := hide hq
  have HB := hide hB
  have HC4 := hide hc4
  have HC5 := hide hc5
  clear hq hB hc4 hc5
  go_upto_region 15 with (fail)
  go_cut [5, 6, 7, 80] from 13 (fun s5 s6 s7 s80 wx => s5 = .int .i64 p ∧ s6 = .bool wp ∧ s7 = .int .i64 k ∧ s80 = .bool B ∧ w1 = wx)
  case first =>
    by_cases he : c4 = 101
    · have p1 : ((c4.toNat : Int) == 101) = true := u8t he
      have hb : B = Cssp.digit c5 := by rw [← HB.out, he]; simp
      clear he
      go_wp2_with fail
      refine (rAtI s (p : Int) p _ (by omega)).mono ?_
      rintro e w' ⟨rfl, rfl⟩
      rw [HC4.out]
      go_wp2_with fail
      refine (rAtI s (k : Int) k _ (by omega)).mono ?_
      rintro e w' ⟨rfl, rfl⟩
      rw [HC5.out]
      go_wp2_with fail
      refine (rDigit c5 _).mono ?_
      rintro e w' ⟨rfl, rfl⟩
      go_wp2_with fail
      go_meet
      case rel => exact ⟨rfl, rfl, rfl, by rw [hb], rfl⟩
    · have p1 : ((c4.toNat : Int) == 101) = false := u8f he
      by_cases hE : c4 = 69
      · have p2 : ((c4.toNat : Int) == 69) = true := u8t hE
        have hb : B = Cssp.digit c5 := by rw [← HB.out, hE]; simp
        clear he hE
        go_wp2_with fail
        refine (rAtI s (p : Int) p _ (by omega)).mono ?_
        rintro e w' ⟨rfl, rfl⟩
        rw [HC4.out]
        go_wp2_with fail
        refine (rAtI s (p : Int) p _ (by omega)).mono ?_
        rintro e w' ⟨rfl, rfl⟩
        rw [HC4.out]
        go_wp2_with fail
        refine (rAtI s (k : Int) k _ (by omega)).mono ?_
        rintro e w' ⟨rfl, rfl⟩
        rw [HC5.out]
        go_wp2_with fail
        refine (rDigit c5 _).mono ?_
        rintro e w' ⟨rfl, rfl⟩
        go_wp2_with fail
        go_meet
        case rel => exact ⟨rfl, rfl, rfl, by rw [hb], rfl⟩
      · have p2 : ((c4.toNat : Int) == 69) = false := u8f hE
        have hb : B = false := by rw [← HB.out, decide_eq_false_iff_not]; rintro ⟨h | h, _⟩ <;> contradiction
        clear he hE
        go_wp2_with fail
        refine (rAtI s (p : Int) p _ (by omega)).mono ?_
        rintro e w' ⟨rfl, rfl⟩
        rw [HC4.out]
        go_wp2_with fail
        refine (rAtI s (p : Int) p _ (by omega)).mono ?_
        rintro e w' ⟨rfl, rfl⟩
        rw [HC4.out]
        go_wp2_with fail
        go_meet
        case rel => exact ⟨rfl, rfl, rfl, by rw [hb], rfl⟩
  case rest =>
  obtain ⟨rfl, rfl, rfl, rfl, rfl⟩ := hcut
  clear HC4 HC5
  go_upto_if 80 with (fail)
  go_cut [5, 6] from 13 (fun s5 s6 wx => s5 = .int .i64 q ∧ s6 = .bool (wp && wq) ∧ w1 = wx)
  case first =>
    cases B with
    | true =>
      have hq := HQ.out
      rw [if_pos (of_decide_eq_true HB.out)] at hq
      obtain ⟨hq, rfl⟩ := hq
      have hst : ∀ j, k ≤ j → j ≤ q → (Cssp.digit (Cssp.at_ s j) = true → j < q) ∧ (Cssp.digit (Cssp.at_ s j) = false → j = q) := fun j h1 h2 => by
        rw [hq] at h2 ⊢
        exact Cssp.digit_at h1 h2
      have HST := hide hst
      have hkq : k ≤ q := by omega
      have bq := BQ.out
      clear hst hq
      go_wp2_with fail
      go_loopg [5] (q - k) (fun g s5 wx => ∃ j : Nat, s5 = .int .i64 j ∧ g + j = q ∧ k ≤ j ∧ w1 = wx)
      case atStart => exact ⟨k, rfl, by omega, Nat.le_refl _, rfl⟩
      case round =>
        obtain ⟨j, rfl, hgj, hij, hwx⟩ := hrel
        subst hwx
        have hst := HST.out j hij (by omega)
        obtain ⟨d, hd⟩ : ∃ d, Cssp.at_ s j = d := ⟨_, rfl⟩
        rw [hd] at hst
        have hwr : wrap64 ((j : Int) + 1) = (j : Int) + 1 := by unfold wrap64; omega
        have HD := hide hd
        clear hd
        go_wp2_with fail
        refine (rAtI s ((j : Int)) (j) _ (by omega)).mono ?_
        rintro e w' ⟨rfl, rfl⟩
        rw [HD.out]
        go_wp2_with fail
        refine (rDigit (d) _).mono ?_
        rintro e w' ⟨rfl, rfl⟩
        cases hb : Cssp.digit d with
        | true =>
          have hlt := hst.1 hb
          clear hst hb
          go_wp2_with fail
          go_roundg (gk - 1)
          case measure => omega
          case rel => exact ⟨j + 1, by go_num, by omega, by omega, rfl⟩
        | false =>
          obtain rfl := hst.2 hb
          clear hst hb
          go_wp2_with fail
          go_meet
          case rel => exact ⟨rfl, by rw [Bool.and_false], rfl⟩
    | false =>
      have hq := HQ.out
      rw [if_neg (of_decide_eq_false HB.out)] at hq
      obtain ⟨rfl, rfl⟩ := hq
      go_wp2_with fail
      go_meet
      case rel => exact ⟨rfl, by rw [Bool.and_true], rfl⟩
  case rest =>
  obtain ⟨rfl, rfl, rfl⟩ := hcut
  clear HQ HB hKP
  obtain ⟨l1, l2, l3, l4, l5⟩ := HL.out
  have l6 : i ≤ q := by omega
  have s1 : (i : Int) ≤ (q : Int) := by omega
  have s2 : (q : Int) ≤ (s.length : Int) := by omega
  have b0 : (0 : Int) ≤ (i : Int) := by omega
  clear l1 l2 l3 l4
  have hwq : wrap64 ((q : Int) + 1) = (q : Int) + 1 := by unfold wrap64; omega
  have hNN := HNN.out
  have HID := hide (rIdent s q w1 (by omega) (by omega))
  obtain ⟨T, hT⟩ : ∃ T, (s.drop i).take (q - i) = T := ⟨_, rfl⟩
  rw [hT] at hNN
  obtain ⟨V, hV⟩ : ∃ V, (wp && wq) = V := ⟨_, rfl⟩
  rw [hV] at hNN ⊢
  clear hV
  cases hid : Cssp.identAt s q with
  | true =>
    rw [hid] at HID
    rw [hid, if_pos rfl] at hNN
    obtain ⟨M, hM⟩ : ∃ M, Cssp.name (s.drop q) = M := ⟨_, rfl⟩
    have HNM := hide (rName s q w1 hl l5 M hM)
    rw [hM] at hNN
    obtain ⟨mt, mk, mo⟩ := M
    have HNN := hide hNN
    clear hNN hM hid
    go_wp2_with fail
    refine HID.out.mono ?_
    rintro e w' ⟨rfl, rfl⟩
    go_wp2_with fail
    refine HNM.out.mono ?_
    rintro e w2 ⟨rfl, hb2⟩
    have HB2 : Hid (Below w.heap.size w w2) := HB1.out.trans (hb2.mono HB1.out.size)
    have HZ2 : Hid (Zh w2 w.heap.size) := HZ1.out.below hb2
    clear hb2 HNM HID
    obtain ⟨z0, z1, z2, z3, z4, z5, z6⟩ := HZ2.out.cells
    have g0 := HZ2.out.frozen 0
    have g1 := HZ2.out.frozen 1
    have g2 := HZ2.out.frozen 2
    have g3 := HZ2.out.frozen 3
    have g4 := HZ2.out.frozen 4
    have g5 := HZ2.out.frozen 5
    have g6 := HZ2.out.frozen 6
    go_wp2_with fail
    change bodyPost _ _ _ _ ⟨_, _⟩ (putH w2 w.heap.size (⟨13, T, mt, V⟩) ((q : Int) + (mk : Int)) mo false)
    obtain ⟨q0, q1, q2, q3, q4, q5, q6⟩ := putH_cells HZ2.out (⟨13, T, mt, V⟩) ((q : Int) + (mk : Int)) mo false
    refine bodyPost_ret (v := HV (⟨13, T, mt, V⟩) ((q : Int) + (mk : Int)) mo false) (by simp [results, Tryz.results54, go_sem, q0, q1, q2, q3, q4, q5, q6]) rfl ?_
    exact ⟨by rw [HNN.out]; exact ret_H rfl (by simp only; omega) rfl rfl, putH_below HB2.out (Nat.le_refl _) _ _ _ _⟩
  | false =>
    rw [hid] at HID
    rw [hid, if_neg (by decide)] at hNN
    obtain ⟨c6, hc6⟩ : ∃ x, Cssp.at_ s q = x := ⟨_, rfl⟩
    rw [hc6] at hNN
    have HC6 := hide hc6
    clear hc6 hid
    by_cases h37 : c6 = 37
    · have p1 : ((c6.toNat : Int) == 37) = true := u8t h37
      rw [if_pos h37] at hNN
      have HNN := hide hNN
      clear hNN h37
      go_wp2_with fail
      refine HID.out.mono ?_
      rintro e w' ⟨rfl, rfl⟩
      obtain ⟨z0, z1, z2, z3, z4, z5, z6⟩ := HZ1.out.cells
      have g0 := HZ1.out.frozen 0
      have g1 := HZ1.out.frozen 1
      have g2 := HZ1.out.frozen 2
      have g3 := HZ1.out.frozen 3
      have g4 := HZ1.out.frozen 4
      have g5 := HZ1.out.frozen 5
      have g6 := HZ1.out.frozen 6
      go_wp2_with fail
      refine (rAtI s (q : Int) q _ (by omega)).mono ?_
      rintro e w' ⟨rfl, rfl⟩
      rw [HC6.out]
      go_wp2_with fail
      change bodyPost _ _ _ _ ⟨_, _⟩ (putH w1 w.heap.size (⟨12, T, [], false⟩) ((q : Int) + 1) false false)
      obtain ⟨q0, q1, q2, q3, q4, q5, q6⟩ := putH_cells HZ1.out (⟨12, T, [], false⟩) ((q : Int) + 1) false false
      refine bodyPost_ret (v := HV (⟨12, T, [], false⟩) ((q : Int) + 1) false false) (by simp [results, Tryz.results54, go_sem, q0, q1, q2, q3, q4, q5, q6]) rfl ?_
      exact ⟨by rw [HNN.out]; exact ret_H rfl (by simp only; omega) rfl rfl, putH_below HB1.out (Nat.le_refl _) _ _ _ _⟩
    · have p1 : ((c6.toNat : Int) == 37) = false := u8f h37
      rw [if_neg h37] at hNN
      have HNN := hide hNN
      clear hNN h37
      go_wp2_with fail
      refine HID.out.mono ?_
      rintro e w' ⟨rfl, rfl⟩
      obtain ⟨z0, z1, z2, z3, z4, z5, z6⟩ := HZ1.out.cells
      have g0 := HZ1.out.frozen 0
      have g1 := HZ1.out.frozen 1
      have g2 := HZ1.out.frozen 2
      have g3 := HZ1.out.frozen 3
      have g4 := HZ1.out.frozen 4
      have g5 := HZ1.out.frozen 5
      have g6 := HZ1.out.frozen 6
      go_wp2_with fail
      refine (rAtI s (q : Int) q _ (by omega)).mono ?_
      rintro e w' ⟨rfl, rfl⟩
      rw [HC6.out]
      go_wp2_with fail
      change bodyPost _ _ _ _ ⟨_, _⟩ (putH w1 w.heap.size (⟨11, T, [], V⟩) ((q : Int)) false false)
      obtain ⟨q0, q1, q2, q3, q4, q5, q6⟩ := putH_cells HZ1.out (⟨11, T, [], V⟩) ((q : Int)) false false
      refine bodyPost_ret (v := HV (⟨11, T, [], V⟩) ((q : Int)) false false) (by simp [results, Tryz.results54, go_sem, q0, q1, q2, q3, q4, q5, q6]) rfl ?_
      exact ⟨by rw [HNN.out]; exact ret_H rfl (by simp only; omega) rfl rfl, putH_below HB1.out (Nat.le_refl _) _ _ _ _⟩
end Go.Proofs.YtojgcangnkjmjaaGreatDoor
namespace Go.Proofs.YtojgcangnkjmjaaGreatDoor
open Go.RowKit

theorem Cssp.twos_step : ∀ (r : List UInt8) (m : Nat), m ≤ Cssp.twos r → ((Cssp.isAt Cssp.blank r m = true ∧ Cssp.isAt Cssp.blank r (m + 1) = true) → m < Cssp.twos r) ∧ (¬ (Cssp.isAt Cssp.blank r m = true ∧ Cssp.isAt Cssp.blank r (m + 1) = true) → m = Cssp.twos r)
  | [], m, h => by
    have h : m ≤ 0 := h
    obtain rfl : m = 0 := by omega
    exact ⟨(fun h => by cases h.1), fun _ => rfl⟩
  | c :: r, 0, _ => by
    rw [Cssp.twos]
    have e : Cssp.isAt Cssp.blank (c :: r) (0 + 1) = Cssp.isAt Cssp.blank r 0 := rfl
    have e0 : Cssp.isAt Cssp.blank (c :: r) 0 = Cssp.blank c := rfl
    rw [e, e0]
    exact ⟨fun h => by rw [if_pos h]; omega, fun h => by rw [if_neg h]⟩
  | c :: r, m + 1, h => by
    rw [Cssp.twos] at h ⊢
    by_cases hc : Cssp.blank c = true ∧ Cssp.isAt Cssp.blank r 0 = true
    · rw [if_pos hc] at h ⊢
      have ih := Cssp.twos_step r m (by omega)
      exact ⟨fun h2 => by have := ih.1 h2; omega, fun h2 => by have := ih.2 h2; omega⟩
    · rw [if_neg hc] at h; omega
theorem Cssp.twos_at {s : List UInt8} {i j : Nat} (h1 : i ≤ j) (h2 : j ≤ i + Cssp.twos (s.drop i)) : ((Cssp.isAt Cssp.blank s j = true ∧ Cssp.isAt Cssp.blank s (j + 1) = true) → j < i + Cssp.twos (s.drop i)) ∧ (¬ (Cssp.isAt Cssp.blank s j = true ∧ Cssp.isAt Cssp.blank s (j + 1) = true) → j = i + Cssp.twos (s.drop i)) := by
  have h := Cssp.twos_step (s.drop i) (j - i) (by omega)
  rw [Cssp.isAt_drop, Cssp.isAt_drop, show i + (j - i) = j by omega, show i + (j - i + 1) = j + 1 by omega] at h
  exact ⟨fun h2 => by have := h.1 h2; omega, fun h2 => by have := h.2 h2; omega⟩
theorem Cssp.quoted_at (s : List UInt8) (G : Nat) : Cssp.quoted (s.drop G) = (Cssp.at_ s (G + if Cssp.isAt Cssp.blank s G = true then 1 else 0) == 34 || Cssp.at_ s (G + if Cssp.isAt Cssp.blank s G = true then 1 else 0) == 39) := by
  unfold Cssp.quoted
  rw [Cssp.isAt_drop, Cssp.isAt_drop, Nat.add_zero]
  obtain ⟨k, hk⟩ : ∃ k, G + (if Cssp.isAt Cssp.blank s G = true then 1 else 0) = k := ⟨_, rfl⟩
  rw [hk]
  rcases Nat.lt_or_ge k s.length with h | h
  · rw [Cssp.isAt_at h]
  · rw [Cssp.isAt_end _ h, Cssp.at_end h]; rfl
set_option maxRecDepth 100000 in
set_option maxHeartbeats 4000000 in
theorem rWord (s : List UInt8) (i : Nat) (w : World) (hl : s.length ≤ 1048576) (hi : i ≤ s.length) (hno : Hid (Cssp.NoFR s)) (N : Cssp.Th) (hN : Hid (Cssp.word (s.drop i) = N)) :
    Calls Tryz.prog 55 #[S s, .int .i64 i] w (Fresh (HV N.x ((i + N.k : Nat) : Int) N.o N.i) w) := by
  have hz := Zh.new w
  have hal := (Below.refl w.heap.size w).alloc (Nat.le_refl _) zeroH
  obtain ⟨M, hM⟩ : ∃ M, Cssp.name (s.drop i) = M := ⟨_, rfl⟩
  have hle := Cssp.name_le (s.drop i)
  have htl := (Cssp.name_len (s.drop i).length (s.drop i) (Nat.le_refl _)).1
  rw [hM, List.length_drop] at hle
  rw [hM] at htl
  have hNN : N = if Cssp.at_ s (i + M.k) ≠ 40 then ⟨Cssp.tk 2 M.t, M.k, M.o, false, 0⟩
    else if Cssp.lower M.t ≠ [117, 114, 108] then ⟨Cssp.tk 3 M.t, M.k + 1, false, false, 0⟩
    else if Cssp.quoted (s.drop (i + M.k + 1 + Cssp.twos (s.drop (i + M.k + 1)))) = true then ⟨Cssp.tk 3 M.t, M.k + 1 + Cssp.twos (s.drop (i + M.k + 1)), false, false, 0⟩
    else ⟨(Cssp.url (s.drop (i + M.k + 1 + Cssp.twos (s.drop (i + M.k + 1))))).x, M.k + 1 + Cssp.twos (s.drop (i + M.k + 1)) + (Cssp.url (s.drop (i + M.k + 1 + Cssp.twos (s.drop (i + M.k + 1))))).k,
      (Cssp.url (s.drop (i + M.k + 1 + Cssp.twos (s.drop (i + M.k + 1))))).o, (Cssp.url (s.drop (i + M.k + 1 + Cssp.twos (s.drop (i + M.k + 1))))).i, 0⟩ := by
    rw [← hN.out, Cssp.word_eq, hM]
    simp only [Cssp.at_drop, List.drop_drop, ← Nat.add_assoc]
  have HM := hide hM
  obtain ⟨mt, mk, mo⟩ := M
  simp only at hNN hle htl
  have hE : i + mk ≤ s.length := by omega
  have hml : mt.length ≤ 4194304 := by omega
  have HNN := hide hNN
  clear hNN hM hle htl hN
  go_enter Tryz.func55, Tryz.ntmps55
  go_upto_region 1 with (fail)
  change Code.wp _ _ _ _ (w.alloc zeroH)
  generalize hgen : w.alloc zeroH = w1 at hz hal ⊢
  clear hgen
  have HZ1 := hide hz
  have HB1 := hide hal
  clear hz hal
  have HNM := hide (rName s i w1 hl hi ⟨mt, mk, mo⟩ HM)
  clear HM
  obtain ⟨E, hEE⟩ : ∃ E, i + mk = E := ⟨_, rfl⟩
  have hn := HNN.out
  rw [hEE] at HNM hn hE
  have HEE := hide hEE
  have HNN := hide hn
  clear hEE hn
  go_wp2_with fail
  refine HNM.out.mono ?_
  rintro e w2 ⟨rfl, hb2⟩
  have HB2 : Hid (Below w.heap.size w w2) := HB1.out.trans (hb2.mono HB1.out.size)
  have HZ2 : Hid (Zh w2 w.heap.size) := HZ1.out.below hb2
  clear hb2 HNM HB1 HZ1
  obtain ⟨c, hc⟩ : ∃ c, Cssp.at_ s E = c := ⟨_, rfl⟩
  have hn := HNN.out
  rw [hc] at hn
  have HC := hide hc
  clear HNN
  by_cases h40 : c = 40
  · have p1 : ((c.toNat : Int) == 40) = true := u8t h40
    have p2 : ((c.toNat : Int) != 40) = false := by rw [bne, p1]; rfl
    rw [if_neg (by simpa using h40)] at hn
    have hEl : E < s.length := Cssp.at_lt (by rw [hc, h40]; decide)
    obtain ⟨F, hF⟩ : ∃ F, F = E + 1 := ⟨_, rfl⟩
    rw [← hF] at hn
    have hFl : F ≤ s.length := by omega
    have HF := hide hF
    have hFz : wrap64 ((E : Int) + 1) = (E : Int) + 1 := by unfold wrap64; omega
    have HN := hide hn
    clear hn h40 hc hF
    go_wp2_with fail
    refine (rAtI s (E : Int) E _ (by omega)).mono ?_
    rintro e w' ⟨rfl, rfl⟩
    rw [HC.out]
    obtain ⟨u, hu⟩ : ∃ u, Cssp.lower mt = u := ⟨_, rfl⟩
    have HLO := hide (rLower mt u w2 hml hu)
    have hn := HN.out
    rw [hu] at hn
    clear hu HN
    by_cases hurl : u = [117, 114, 108]
    · rw [if_neg (by simpa using hurl)] at hn
      have HN := hide hn
      clear hn
      subst hurl
      go_wp2_with fail
      refine HLO.out.mono ?_
      rintro e w3 ⟨rfl, hb3⟩
      have HB3 : Hid (Below w.heap.size w w3) := HB2.out.trans (hb3.mono HB2.out.size)
      have HZ3 : Hid (Zh w3 w.heap.size) := HZ2.out.below hb3
      clear hb3 HLO HB2 HZ2
      obtain ⟨G, hG⟩ : ∃ G, F + Cssp.twos (s.drop F) = G := ⟨_, rfl⟩
      have htw := Cssp.twos_len (s.drop F)
      rw [List.length_drop] at htw
      have hGl : G ≤ s.length := by omega
      have hFG : F ≤ G := by omega
      have hst : ∀ j, F ≤ j → j ≤ G → ((Cssp.isAt Cssp.blank s j = true ∧ Cssp.isAt Cssp.blank s (j + 1) = true) → j < G) ∧ (¬ (Cssp.isAt Cssp.blank s j = true ∧ Cssp.isAt Cssp.blank s (j + 1) = true) → j = G) := fun j h1 h2 => by
        rw [← hG] at h2 ⊢
        exact Cssp.twos_at h1 h2
      have HST := hide hst
      have hn := HN.out
      rw [hG, show Cssp.twos (s.drop F) = G - F by omega] at hn
      have HN := hide hn
      have hFi : ((E : Int) + 1) = (F : Int) := by have := HF.out; omega
      clear hst hn htw hG hFz
      go_upto_block 0 with fail
      go_cut [5, 6] from 10 (fun s5 s6 wx => s5 = S mt ∧ s6 = .int .i64 G ∧ w3 = wx)
      case first =>
        clear hFi
        go_wp2_with fail
        go_loopg [6] (G - F) (fun g s6 wx => ∃ j : Nat, s6 = .int .i64 j ∧ g + j = G ∧ F ≤ j ∧ w3 = wx)
        case atStart => exact ⟨F, (by rw [show (F : Int) = (E : Int) + 1 by have := HF.out; omega]), by omega, Nat.le_refl _, rfl⟩
        case round =>
          obtain ⟨j, rfl, hgj, hij, hwx⟩ := hrel
          subst hwx
          have hJ := HST.out j hij (by omega)
          have b0 : (0 : Int) ≤ (j : Int) := by omega
          have hwr : wrap64 ((j : Int) + 1) = (j : Int) + 1 := by unfold wrap64; omega
          have b4 : ((j : Int) + 1).toNat = j + 1 := by omega
          by_cases hj : j + 1 < s.length
          · have b1 : (j : Int) + 1 < (s.length : Int) := by omega
            have b2 : (j : Int) < (s.length : Int) := by omega
            have hj0 : j < s.length := by omega
            obtain ⟨x, hx⟩ : ∃ x, s[j] = x := ⟨_, rfl⟩
            obtain ⟨y, hy⟩ : ∃ y, s[j + 1] = y := ⟨_, rfl⟩
            rw [isAt_get (p := Cssp.blank) (show s[j]? = some x by rw [List.getElem?_eq_getElem hj0, hx]), isAt_get (p := Cssp.blank) (show s[j + 1]? = some y by rw [List.getElem?_eq_getElem hj, hy])] at hJ
            cases hbx : Cssp.blank x with
            | true =>
              have HBX := hide hbx
              cases hby : Cssp.blank y with
              | true =>
                have hlt := hJ.1 ⟨hbx, hby⟩
                have HBY := hide hby
                clear hJ hbx hby
                go_wp2_with fail
                refine (rBlank x _).mono ?_
                rintro e w' ⟨rfl, rfl⟩
                rw [HBX.out]
                go_wp2_with fail
                refine (rBlank y _).mono ?_
                rintro e w' ⟨rfl, rfl⟩
                rw [HBY.out]
                go_wp2_with fail
                go_roundg (gk - 1)
                case measure => omega
                case rel => exact ⟨j + 1, by go_num, by omega, by omega, rfl⟩
              | false =>
                obtain rfl := hJ.2 (by rw [hby]; rintro ⟨_, h⟩; cases h)
                have HBY := hide hby
                clear hJ hbx hby
                go_wp2_with fail
                refine (rBlank x _).mono ?_
                rintro e w' ⟨rfl, rfl⟩
                rw [HBX.out]
                go_wp2_with fail
                refine (rBlank y _).mono ?_
                rintro e w' ⟨rfl, rfl⟩
                rw [HBY.out]
                go_wp2_with fail
                go_meet
                case rel => exact ⟨rfl, rfl, rfl⟩
            | false =>
              obtain rfl := hJ.2 (by rw [hbx]; rintro ⟨h, _⟩; cases h)
              have HBX := hide hbx
              clear hJ hbx
              go_wp2_with fail
              refine (rBlank x _).mono ?_
              rintro e w' ⟨rfl, rfl⟩
              rw [HBX.out]
              go_wp2_with fail
              go_meet
              case rel => exact ⟨rfl, rfl, rfl⟩
          · have b1 : ¬ (j : Int) + 1 < (s.length : Int) := by omega
            have bd : decide ((j : Int) + 1 < (s.length : Int)) = false := decide_eq_false b1
            obtain rfl := hJ.2 (by rw [isAt_none (p := Cssp.blank) hj]; rintro ⟨_, h⟩; cases h)
            clear hJ
            go_wp2_with fail
            go_meet
            case rel => exact ⟨rfl, rfl, rfl⟩
      case rest =>
      obtain ⟨rfl, rfl, rfl⟩ := hcut
      clear HST hFi
      obtain ⟨k, hk⟩ : ∃ k, G + (if Cssp.isAt Cssp.blank s G = true then 1 else 0) = k := ⟨_, rfl⟩
      have hq := Cssp.quoted_at s G
      rw [hk] at hq
      obtain ⟨d, hd⟩ : ∃ d, Cssp.at_ s k = d := ⟨_, rfl⟩
      rw [hd] at hq
      have hn := HN.out
      rw [hq] at hn
      have HN := hide hn
      have HD := hide hd
      have HK := hide hk
      have hwG : wrap64 ((G : Int) + 1) = (G : Int) + 1 := by unfold wrap64; omega
      clear hn hd hk hq
      go_upto_region 9 with (fail)
      go_cut [5, 6, 8, 61] from 10 (fun s5 s6 s8 s61 wx => s5 = S mt ∧ s6 = .int .i64 G ∧ s8 = .int .i64 G ∧ s61 = .bool (Cssp.isAt Cssp.blank s G) ∧ w3 = wx)
      case first =>
        by_cases hg : G < s.length
        · have b1 : (G : Int) < (s.length : Int) := by omega
          have b0 : (0 : Int) ≤ (G : Int) := by omega
          obtain ⟨x, hx⟩ : ∃ x, s[G] = x := ⟨_, rfl⟩
          have hi : Cssp.isAt Cssp.blank s G = Cssp.blank x := isAt_get (by rw [List.getElem?_eq_getElem hg, hx])
          have HI := hide hi
          clear hi
          go_wp2_with fail
          refine (rBlank x _).mono ?_
          rintro e w' ⟨rfl, rfl⟩
          go_wp2_with fail
          go_meet
          case rel => exact ⟨rfl, rfl, rfl, by rw [HI.out], rfl⟩
        · have b1 : ¬ (G : Int) < (s.length : Int) := by omega
          have bd : decide ((G : Int) < (s.length : Int)) = false := decide_eq_false b1
          have HI := hide (isAt_none (p := Cssp.blank) hg)
          go_wp2_with fail
          go_meet
          case rel => exact ⟨rfl, rfl, rfl, by rw [HI.out], rfl⟩
      case rest =>
      obtain ⟨rfl, rfl, rfl, rfl, rfl⟩ := hcut
      go_upto_if 61 with (fail)
      go_cut [5, 6, 8] from 10 (fun s5 s6 s8 wx => s5 = S mt ∧ s6 = .int .i64 G ∧ s8 = .int .i64 k ∧ w3 = wx)
      case first =>
        cases hb : Cssp.isAt Cssp.blank s G with
        | true =>
          have hk : k = G + 1 := by have := HK.out; rw [hb, if_pos rfl] at this; exact this.symm
          clear hb
          go_wp2_with fail
          go_meet
          case rel => exact ⟨rfl, rfl, by rw [hk]; go_num, rfl⟩
        | false =>
          have hk : k = G := by have := HK.out; rw [hb, if_neg (by decide)] at this; exact this.symm
          clear hb
          go_wp2_with fail
          go_meet
          case rel => exact ⟨rfl, rfl, by rw [hk], rfl⟩
      case rest =>
      obtain ⟨rfl, rfl, rfl, rfl⟩ := hcut
      clear HK hwG
      by_cases h34 : d = 34
      · have p3 : ((d.toNat : Int) == 34) = true := u8t h34
        have p4 : ((d.toNat : Int) != 34) = false := by rw [bne, p3]; rfl
        have hn := HN.out
        rw [h34, if_pos (by decide)] at hn
        have HNN := hide hn
        have HL := hide (And.intro HEE.out HF.out)
        clear hn h34 HN
        obtain ⟨z0, z1, z2, z3, z4, z5, z6⟩ := HZ3.out.cells
        have g0 := HZ3.out.frozen 0
        have g1 := HZ3.out.frozen 1
        have g2 := HZ3.out.frozen 2
        have g3 := HZ3.out.frozen 3
        have g4 := HZ3.out.frozen 4
        have g5 := HZ3.out.frozen 5
        have g6 := HZ3.out.frozen 6
        go_wp2_with fail
        refine (rAtI s (k : Int) k _ (by omega)).mono ?_
        rintro e w' ⟨rfl, rfl⟩
        rw [HD.out]
        go_wp2_with fail
        have hll := HL.out
        change bodyPost _ _ _ _ ⟨_, _⟩ (putH w3 w.heap.size (Cssp.tk 3 mt) ((G : Int)) false false)
        obtain ⟨q0, q1, q2, q3, q4, q5, q6⟩ := putH_cells HZ3.out (Cssp.tk 3 mt) ((G : Int)) false false
        refine bodyPost_ret (v := HV (Cssp.tk 3 mt) ((G : Int)) false false) (by simp [results, Tryz.results55, go_sem, q0, q1, q2, q3, q4, q5, q6]) rfl ?_
        exact ⟨by rw [HNN.out]; exact ret_H rfl (by simp only; omega) rfl rfl, putH_below HB3.out (Nat.le_refl _) _ _ _ _⟩
      · have p3 : ((d.toNat : Int) == 34) = false := u8f h34
        have p4 : ((d.toNat : Int) != 34) = true := by rw [bne, p3]; rfl
        by_cases h39 : d = 39
        · have p5 : ((d.toNat : Int) == 39) = true := u8t h39
          have p6 : ((d.toNat : Int) != 39) = false := by rw [bne, p5]; rfl
          have hn := HN.out
          rw [h39, if_pos (by decide)] at hn
          have HNN := hide hn
          have HL := hide (And.intro HEE.out HF.out)
          clear hn h34 h39 HN
          obtain ⟨z0, z1, z2, z3, z4, z5, z6⟩ := HZ3.out.cells
          have g0 := HZ3.out.frozen 0
          have g1 := HZ3.out.frozen 1
          have g2 := HZ3.out.frozen 2
          have g3 := HZ3.out.frozen 3
          have g4 := HZ3.out.frozen 4
          have g5 := HZ3.out.frozen 5
          have g6 := HZ3.out.frozen 6
          go_wp2_with fail
          refine (rAtI s (k : Int) k _ (by omega)).mono ?_
          rintro e w' ⟨rfl, rfl⟩
          rw [HD.out]
          go_wp2_with fail
          have hll := HL.out
          change bodyPost _ _ _ _ ⟨_, _⟩ (putH w3 w.heap.size (Cssp.tk 3 mt) ((G : Int)) false false)
          obtain ⟨q0, q1, q2, q3, q4, q5, q6⟩ := putH_cells HZ3.out (Cssp.tk 3 mt) ((G : Int)) false false
          refine bodyPost_ret (v := HV (Cssp.tk 3 mt) ((G : Int)) false false) (by simp [results, Tryz.results55, go_sem, q0, q1, q2, q3, q4, q5, q6]) rfl ?_
          exact ⟨by rw [HNN.out]; exact ret_H rfl (by simp only; omega) rfl rfl, putH_below HB3.out (Nat.le_refl _) _ _ _ _⟩
        · have p5 : ((d.toNat : Int) == 39) = false := u8f h39
          have p6 : ((d.toNat : Int) != 39) = true := by rw [bne, p5]; rfl
          have hn := HN.out
          rw [beq_eq_false_iff_ne.2 h34, beq_eq_false_iff_ne.2 h39, if_neg (by decide)] at hn
          obtain ⟨U, hU⟩ : ∃ U, Cssp.url (s.drop G) = U := ⟨_, rfl⟩
          have HUR := hide (rUrl s G w3 hl hGl hno U hU)
          rw [hU] at hn
          obtain ⟨Ux, Uk, Uo, Ui, Ue⟩ := U
          have HNN := hide hn
          have HL := hide (And.intro HEE.out HF.out)
          obtain ⟨x0, x1, x2, x3⟩ := Ux
          clear hn h34 h39 HN hU
          go_wp2_with fail
          refine (rAtI s (k : Int) k _ (by omega)).mono ?_
          rintro e w' ⟨rfl, rfl⟩
          rw [HD.out]
          go_wp2_with fail
          refine HUR.out.mono ?_
          rintro e w4 ⟨rfl, hb4⟩
          have HB4 : Hid (Below w.heap.size w w4) := HB3.out.trans (hb4.mono HB3.out.size)
          have HZ4 : Hid (Zh w4 w.heap.size) := HZ3.out.below hb4
          clear hb4 HUR
          obtain ⟨z0, z1, z2, z3, z4, z5, z6⟩ := HZ4.out.cells
          have g0 := HZ4.out.frozen 0
          have g1 := HZ4.out.frozen 1
          have g2 := HZ4.out.frozen 2
          have g3 := HZ4.out.frozen 3
          have g4 := HZ4.out.frozen 4
          have g5 := HZ4.out.frozen 5
          have g6 := HZ4.out.frozen 6
          go_wp2_with fail
          have hll := HL.out
          change bodyPost _ _ _ _ ⟨_, _⟩ (putH w4 w.heap.size (⟨x0, x1, x2, x3⟩) ((G : Int) + (Uk : Int)) Uo Ui)
          obtain ⟨q0, q1, q2, q3, q4, q5, q6⟩ := putH_cells HZ4.out (⟨x0, x1, x2, x3⟩) ((G : Int) + (Uk : Int)) Uo Ui
          refine bodyPost_ret (v := HV (⟨x0, x1, x2, x3⟩) ((G : Int) + (Uk : Int)) Uo Ui) (by simp [results, Tryz.results55, go_sem, q0, q1, q2, q3, q4, q5, q6]) rfl ?_
          exact ⟨by rw [HNN.out]; exact ret_H rfl (by simp only; omega) rfl rfl, putH_below HB4.out (Nat.le_refl _) _ _ _ _⟩
    · rw [if_pos (by simpa using hurl)] at hn
      have hne : (u == [117, 114, 108]) = false := by simpa using hurl
      have HNN := hide hn
      have HL := hide (And.intro HEE.out HF.out)
      have HU := hide hurl
      clear hn hurl
      go_wp2_with fail
      refine HLO.out.mono ?_
      rintro e w3 ⟨rfl, hb3⟩
      have HB3 : Hid (Below w.heap.size w w3) := HB2.out.trans (hb3.mono HB2.out.size)
      have HZ3 : Hid (Zh w3 w.heap.size) := HZ2.out.below hb3
      clear hb3 HLO HB2 HZ2
      obtain ⟨z0, z1, z2, z3, z4, z5, z6⟩ := HZ3.out.cells
      have g0 := HZ3.out.frozen 0
      have g1 := HZ3.out.frozen 1
      have g2 := HZ3.out.frozen 2
      have g3 := HZ3.out.frozen 3
      have g4 := HZ3.out.frozen 4
      have g5 := HZ3.out.frozen 5
      have g6 := HZ3.out.frozen 6
      go_wp2_with fail
      have hll := HL.out
      change bodyPost _ _ _ _ ⟨_, _⟩ (putH w3 w.heap.size (Cssp.tk 3 mt) ((E : Int) + 1) false false)
      obtain ⟨q0, q1, q2, q3, q4, q5, q6⟩ := putH_cells HZ3.out (Cssp.tk 3 mt) ((E : Int) + 1) false false
      refine bodyPost_ret (v := HV (Cssp.tk 3 mt) ((E : Int) + 1) false false) (by simp [results, Tryz.results55, go_sem, q0, q1, q2, q3, q4, q5, q6]) rfl ?_
      exact ⟨by rw [HNN.out]; exact ret_H rfl (by simp only; omega) rfl rfl, putH_below HB3.out (Nat.le_refl _) _ _ _ _⟩
  · have p1 : ((c.toNat : Int) == 40) = false := u8f h40
    have p2 : ((c.toNat : Int) != 40) = true := by rw [bne, p1]; rfl
    rw [if_pos h40] at hn
    have HNN := hide hn
    clear hn h40 hc
    obtain ⟨z0, z1, z2, z3, z4, z5, z6⟩ := HZ2.out.cells
    have g0 := HZ2.out.frozen 0
    have g1 := HZ2.out.frozen 1
    have g2 := HZ2.out.frozen 2
    have g3 := HZ2.out.frozen 3
    have g4 := HZ2.out.frozen 4
    have g5 := HZ2.out.frozen 5
    have g6 := HZ2.out.frozen 6
    go_wp2_with fail
    refine (rAtI s (E : Int) E _ (by omega)).mono ?_
    rintro e w' ⟨rfl, rfl⟩
    rw [HC.out]
    go_wp2_with fail
    have hll := HEE.out
    change bodyPost _ _ _ _ ⟨_, _⟩ (putH w2 w.heap.size (Cssp.tk 2 mt) ((E : Int)) mo false)
    obtain ⟨q0, q1, q2, q3, q4, q5, q6⟩ := putH_cells HZ2.out (Cssp.tk 2 mt) ((E : Int)) mo false
    refine bodyPost_ret (v := HV (Cssp.tk 2 mt) ((E : Int)) mo false) (by simp [results, Tryz.results55, go_sem, q0, q1, q2, q3, q4, q5, q6]) rfl ?_
    exact ⟨by rw [HNN.out]; exact ret_H rfl (by simp only; omega) rfl rfl, putH_below HB2.out (Nat.le_refl _) _ _ _ _⟩
end Go.Proofs.YtojgcangnkjmjaaGreatDoor
