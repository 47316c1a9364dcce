/- The reference: a host, written. -/
import Derived.Test.YtahjndignkhmoaaGreatDoorRp
import Derived.Test.YtahjndignkhmoaaGreatDoorRh
import Derived.Test.YtahjndignkhmoaaGreatDoorRm
namespace Go.Proofs.YtahjndignkhmoaaGreatDoor
namespace Hostp

theorem digL_lo (n : Nat) (h : n < 10) : digL n = UInt8.ofNat (48 + n) := by unfold digL; rw [if_pos h]
theorem repr10 (n : Nat) (h : n < 256) : repr 10 n = dec3 n := by
  unfold dec3
  by_cases h1 : n < 10
  · rw [if_pos h1, repr_lo 10 n h1, digL_lo n h1]
  · rw [if_neg h1, repr_hi 10 n (by omega) (by decide), digL_lo (n % 10) (by omega)]
    by_cases h2 : n < 100
    · rw [if_pos h2, repr_lo 10 (n / 10) (by omega), digL_lo (n / 10) (by omega)]; rfl
    · rw [if_neg h2, repr_hi 10 (n / 10) (by omega) (by decide), repr_lo 10 (n / 10 / 10) (by omega), digL_lo (n / 10 % 10) (by omega), digL_lo (n / 10 / 10) (by omega), Nat.div_div_eq_div_mul]
      rfl
theorem joinW_snoc (c : UInt8) : ∀ (ws : List (List UInt8)) (w : List UInt8), ws ≠ [] → joinW c (ws ++ [w]) = joinW c ws ++ c :: w
  | [], _, h => absurd rfl h
  | [x], w, _ => rfl
  | x :: y :: l, w, _ => by
    show x ++ c :: joinW c ((y :: l) ++ [w]) = (x ++ c :: joinW c (y :: l)) ++ c :: w
    rw [joinW_snoc c (y :: l) w (by simp)]
    simp
theorem joinW_last : ∀ (ws : List (List UInt8)), ws ≠ [] → (∀ x ∈ ws, x ≠ [] ∧ ∀ b ∈ x, b ≠ 58) → ∃ l b, joinW 58 ws = l ++ [b] ∧ b ≠ 58
  | [], h, _ => absurd rfl h
  | [x], _, hw => by
    obtain ⟨hx, hb⟩ := hw x (by simp)
    exact ⟨x.dropLast, x.getLast hx, (List.dropLast_concat_getLast hx).symm, hb _ (List.getLast_mem hx)⟩
  | x :: y :: l, _, hw => by
    obtain ⟨p, b, e, hb⟩ := joinW_last (y :: l) (by simp) (fun z hz => hw z (by simp [hz]))
    exact ⟨x ++ 58 :: p, b, by show x ++ 58 :: joinW 58 (y :: l) = _; rw [e]; simp, hb⟩
theorem show_step (P : List UInt8) (ws : List (List UInt8)) (w : List UInt8) (hP : P = [] ∨ P.getLast? = some 58) (hw : ∀ x ∈ ws, x ≠ [] ∧ ∀ b ∈ x, b ≠ 58) :
    (if P ++ joinW 58 ws ≠ [] ∧ (P ++ joinW 58 ws).getLast? ≠ some 58 then (P ++ joinW 58 ws) ++ [58] else P ++ joinW 58 ws) ++ w = P ++ joinW 58 (ws ++ [w]) := by
  by_cases h : ws = []
  · subst h
    show (if P ++ [] ≠ [] ∧ (P ++ []).getLast? ≠ some 58 then (P ++ []) ++ [58] else P ++ []) ++ w = P ++ w
    rw [List.append_nil, if_neg]
    rintro ⟨h1, h2⟩
    rcases hP with h | h
    · exact h1 h
    · exact h2 h
  · obtain ⟨l, b, e, hb⟩ := joinW_last ws h hw
    rw [if_pos, joinW_snoc 58 ws w h]
    · simp
    · rw [e, ← List.append_assoc]
      exact ⟨by simp, by simpa using hb⟩
end Hostp
end Go.Proofs.YtahjndignkhmoaaGreatDoor
namespace Go.Proofs.YtahjndignkhmoaaGreatDoor
open Go.RowKit

/-! ### plain laws -/
namespace Hostp
theorem foldl_max_start : ∀ (l : List Nat) (a : Nat), l.foldl max a = max a (l.foldl max 0)
  | [], a => by simp
  | b :: l, a => by
    show l.foldl max (max a b) = max a (l.foldl max (max 0 b))
    rw [foldl_max_start l (max a b), foldl_max_start l (max 0 b)]
    omega
theorem longs_eq (v : List Int) (hl : v.length = 8) : longs v = longs8 v ++ [0] := by
  unfold longs longs8
  rw [show (9 : Nat) = 8 + 1 from rfl, List.range_succ, List.map_append, List.map_singleton, List.drop_eq_nil_of_le (by omega)]
  rfl
theorem most_eq (v : List Int) (hl : v.length = 8) : mostOf v = (longs8 v).foldl max 0 := by
  unfold mostOf
  rw [longs_eq v hl, List.foldl_append]
  show max _ 0 = _
  omega
theorem run_lo (v : List Int) (hl : v.length = 8) (h : mostOf v < 2) : runR (longs8 v) 0 (-1, 1) = (-1, 1) := by
  have := runR_eq (longs8 v) 0 (-1) 1
  rw [foldl_max_start, ← most_eq v hl, if_pos (by omega)] at this
  exact this
theorem run_hi (v : List Int) (hl : v.length = 8) (h : 2 ≤ mostOf v) : runR (longs8 v) 0 (-1, 1) = ((atOf v : Int), (mostOf v : Int)) := by
  have := runR_eq (longs8 v) 0 (-1) 1
  rw [foldl_max_start, ← most_eq v hl, if_neg (by omega), show max 1 (mostOf v) = mostOf v by omega] at this
  refine this.trans ?_
  congr 2
  unfold atOf
  rw [longs_eq v hl, Nat.zero_add]
  have hm : mostOf v ∈ longs8 v := by
    rw [most_eq v hl]
    rcases foldl_max_mem (longs8 v) 0 with q | q
    · have := most_eq v hl; omega
    · exact q
  rw [List.findIdx_append, if_pos (List.findIdx_lt_length_of_exists ⟨_, hm, by simp⟩)]
theorem at_most (v : List Int) (hl : v.length = 8) (h : 2 ≤ mostOf v) : atOf v + mostOf v ≤ 8 := by
  obtain ⟨h1, h2⟩ := at_ok v (by omega)
  have h3 := (noughts_take (v.drop (atOf v))).2
  rw [h2, List.length_drop, hl] at h3
  omega
end Hostp

/-- what is written so far: P, and the words of us -/
def Fin (v : List Int) (p : Int) (m i : Nat) (P : List UInt8) (us : List Int) : Prop :=
  (p = -1 ∧ P = [] ∧ us = v.take i) ∨ (∃ a : Nat, p = (a : Int) ∧ i ≤ a ∧ P = [] ∧ us = v.take i) ∨ (∃ a : Nat, p = (a : Int) ∧ a + m ≤ i ∧ P = Hostp.joinW 58 (Hostp.words (v.take a)) ++ [58, 58] ∧ us = (v.drop (a + m)).take (i - (a + m)))
theorem fin_step {v : List Int} {p : Int} {m i : Nat} {P : List UInt8} {us : List Int} {x : Int} (h : Fin v p m i P us) (hx : v[i]? = some x) (hp : (i : Int) ≠ p) : Fin v p m (i + 1) P (us ++ [x]) := by
  obtain ⟨hi, e⟩ := List.getElem?_eq_some_iff.1 hx
  have ht : v.take (i + 1) = v.take i ++ [x] := by rw [List.take_succ_eq_append_getElem hi, e]
  rcases h with ⟨h1, h2, h3⟩ | ⟨a, h1, h2, h3, h4⟩ | ⟨a, h1, h2, h3, h4⟩
  · exact .inl ⟨h1, h2, by rw [ht, h3]⟩
  · exact .inr (.inl ⟨a, h1, by omega, h3, by rw [ht, h4]⟩)
  · refine .inr (.inr ⟨a, h1, by omega, h3, ?_⟩)
    rw [h4, show i + 1 - (a + m) = (i - (a + m)) + 1 by omega]
    have hj : i - (a + m) < (v.drop (a + m)).length := by rw [List.length_drop]; omega
    rw [List.take_succ_eq_append_getElem hj, List.getElem_drop]
    congr 2
    rw [← e]
    congr 1
    omega
theorem fin_at {v : List Int} {m i : Nat} {P : List UInt8} {us : List Int} (h : Fin v (i : Int) m i P us) (hm : 1 ≤ m) : P = [] ∧ us = v.take i ∧ Fin v (i : Int) m (i + m) (Hostp.joinW 58 (Hostp.words (v.take i)) ++ [58, 58]) [] := by
  rcases h with ⟨h1, h2, h3⟩ | ⟨a, h1, h2, h3, h4⟩ | ⟨a, h1, h2, h3, h4⟩
  · omega
  · have : i = a := by omega
    subst this
    exact ⟨h3, h4, .inr (.inr ⟨i, rfl, Nat.le_refl _, rfl, by rw [Nat.sub_self]; rfl⟩)⟩
  · omega
theorem fin_end {v : List Int} {p : Int} {m i : Nat} {P : List UInt8} {us : List Int} (hl : v.length = 8) (hi : i = 8) (h : Fin v p m i P us) (hp : (p = -1 ∧ Hostp.mostOf v < 2) ∨ (p = (Hostp.atOf v : Int) ∧ m = Hostp.mostOf v ∧ 2 ≤ Hostp.mostOf v)) : P ++ Hostp.joinW 58 (Hostp.words us) = Hostp.show6 v := by
  subst hi
  unfold Hostp.show6
  have ht : v.take 8 = v := List.take_of_length_le (by omega)
  rcases hp with ⟨rfl, hlo⟩ | ⟨rfl, rfl, hhi⟩
  · rw [if_pos hlo]
    rcases h with ⟨_, rfl, rfl⟩ | ⟨a, h1, _⟩ | ⟨a, h1, _⟩
    · rw [ht]; rfl
    · omega
    · omega
  · rw [if_neg (by omega)]
    have hle := Hostp.at_most v hl hhi
    rcases h with ⟨h1, _⟩ | ⟨a, h1, h2, _⟩ | ⟨a, h1, h2, h3, h4⟩
    · omega
    · omega
    · have : Hostp.atOf v = a := by omega
      rw [h3, h4, this]
      rw [this] at hle
      have e : List.take (8 - (a + Hostp.mostOf v)) (List.drop (a + Hostp.mostOf v) v) = List.drop (a + Hostp.mostOf v) v := List.take_of_length_le (by rw [List.length_drop]; omega)
      rw [e]
      simp
theorem fin_last {v : List Int} {p : Int} {m i : Nat} {P : List UInt8} {us : List Int} (h : Fin v p m i P us) : P = [] ∨ P.getLast? = some 58 := by
  rcases h with ⟨_, h, _⟩ | ⟨_, _, _, h, _⟩ | ⟨_, _, _, h, _⟩
  · exact .inl h
  · exact .inl h
  · right
    rw [h, show ∀ l : List UInt8, l ++ [58, 58] = (l ++ [58]) ++ [58] from fun l => by simp, List.getLast?_concat]
/-- one word more -/
theorem fin_word {v : List Int} {p : Int} {m i : Nat} {P acc : List UInt8} {us : List Int} {x : Int} (h : Fin v p m i P us) (ha : acc = P ++ Hostp.joinW 58 (Hostp.words us)) :
    (if acc ≠ [] ∧ acc.getLast? ≠ some 58 then acc ++ [58] else acc) ++ Hostp.repr 16 x.toNat = P ++ Hostp.joinW 58 (Hostp.words (us ++ [x])) := by
  subst ha
  have := Hostp.show_step P (Hostp.words us) (Hostp.repr 16 x.toNat) (fin_last h) (Hostp.words_ok us)
  rw [this]
  simp [Hostp.words]
set_option maxHeartbeats 2000000 in
theorem host_cell {w : World} {B : Nat} {a0 a1 a2 : Value} {n0 n1 n2 n3 n4 n5 n6 n7 : Int} {T : TypeId} (h : w.heap[B]? = some (.cells #[a0, a1, a2, U16 n0, U16 n1, U16 n2, U16 n3, U16 n4, U16 n5, U16 n6, U16 n7] T (0, 0))) (i : Nat) (x : Int) (hx : [n0, n1, n2, n3, n4, n5, n6, n7][i]? = some x) :
    w.cell? ⟨B, 3 + i, none⟩ = some (U16 x) := by
  obtain ⟨⟨c0, c1, c2, c3, c4, c5, c6, c7, c8, c9, c10⟩, hf⟩ := cells11 h
  have hi : i < 8 := by
    have := (List.getElem?_eq_some_iff.1 hx).1
    simpa using this
  have : i = 0 ∨ i = 1 ∨ i = 2 ∨ i = 3 ∨ i = 4 ∨ i = 5 ∨ i = 6 ∨ i = 7 := by omega
  rcases this with rfl | rfl | rfl | rfl | rfl | rfl | rfl | rfl
  · simp at hx; subst hx; exact c3
  · simp at hx; subst hx; exact c4
  · simp at hx; subst hx; exact c5
  · simp at hx; subst hx; exact c6
  · simp at hx; subst hx; exact c7
  · simp at hx; subst hx; exact c8
  · simp at hx; subst hx; exact c9
  · simp at hx; subst hx; exact c10

set_option maxHeartbeats 16000000 in
set_option maxRecDepth 100000 in
theorem rShow (k : Int) (s : List UInt8) (n : Int) (n0 n1 n2 n3 n4 n5 n6 n7 : Int) (u : List UInt8) (w : World) (h0 : 0 ≤ n) (h1 : n < 4294967296) (hv : ∀ n ∈ [n0, n1, n2, n3, n4, n5, n6, n7], 0 ≤ n ∧ n < 65536)
    (hu : Hid (showH k s n [n0, n1, n2, n3, n4, n5, n6, n7] = u)) :
    Calls Tryz.prog 15 #[H11 k s n n0 n1 n2 n3 n4 n5 n6 n7] w (Fresh (S u) w) := by
  have hu2 := hu.out
  unfold showH at hu2
  have hnew : (w.alloc (.cells #[.int .u8 k, S s, .int .u32 n, U16 n0, U16 n1, U16 n2, U16 n3, U16 n4, U16 n5, U16 n6, U16 n7] 27)).heap[w.heap.size]? = some (.cells #[.int .u8 k, S s, .int .u32 n, U16 n0, U16 n1, U16 n2, U16 n3, U16 n4, U16 n5, U16 n6, U16 n7] 27 (0, 0)) := heap_alloc_last _ _
  have hnb : Below w.heap.size w (w.alloc (.cells #[.int .u8 k, S s, .int .u32 n, U16 n0, U16 n1, U16 n2, U16 n3, U16 n4, U16 n5, U16 n6, U16 n7] 27)) := (Below.refl _ _).alloc (Nat.le_refl _) _
  have hnz : (w.alloc (.cells #[.int .u8 k, S s, .int .u32 n, U16 n0, U16 n1, U16 n2, U16 n3, U16 n4, U16 n5, U16 n6, U16 n7] 27)).heap.size = w.heap.size + 1 := by simp
  by_cases k12 : k = 1 ∨ k = 2
  · rw [if_pos k12] at hu2
    subst hu2
    clear hu
    rcases k12 with rfl | rfl
    all_goals
      go_enter Tryz.func15, Tryz.ntmps15
      go_wp2_with fail
      go_ret
      exact ⟨rfl, hnb⟩
  · rw [if_neg k12] at hu2
    have e1 : (k == 1) = false := beq_eq_false_iff_ne.2 (fun h => k12 (.inl h))
    have e2 : (k == 2) = false := beq_eq_false_iff_ne.2 (fun h => k12 (.inr h))
    clear k12
    by_cases k3 : k = 3
    · rw [if_pos k3] at hu2
      subst k3
      obtain ⟨m, rfl⟩ := Int.eq_ofNat_of_zero_le h0
      have hm : m < 4294967296 := by omega
      rw [Int.toNat_natCast, Hostp.show4] at hu2
      obtain ⟨q0, hq0⟩ : ∃ q, m / 16777216 = q := ⟨_, rfl⟩
      obtain ⟨q1, hq1⟩ : ∃ q, m / 65536 % 256 = q := ⟨_, rfl⟩
      obtain ⟨q2, hq2⟩ : ∃ q, m / 256 % 256 = q := ⟨_, rfl⟩
      obtain ⟨q3, hq3⟩ : ∃ q, m % 256 = q := ⟨_, rfl⟩
      have f0 : (m : Int) / 16777216 = (q0 : Int) := by omega
      have f1 : (m : Int) / 65536 % 256 = (q1 : Int) := by omega
      have f2 : (m : Int) / 256 % 256 = (q2 : Int) := by omega
      have f3 : (m : Int) % 256 = (q3 : Int) := by omega
      have g0 : q0 < 256 := by omega
      have g1 : q1 < 256 := by omega
      have g2 : q2 < 256 := by omega
      have g3 : q3 < 256 := by omega
      rw [hq0, hq1, hq2, hq3, ← Hostp.repr10 q0 g0, ← Hostp.repr10 q1 g1, ← Hostp.repr10 q2 g2, ← Hostp.repr10 q3 g3] at hu2
      obtain ⟨t0, ht0⟩ : ∃ t, Hostp.repr 10 q0 = t := ⟨_, rfl⟩
      obtain ⟨t1, ht1⟩ : ∃ t, Hostp.repr 10 q1 = t := ⟨_, rfl⟩
      obtain ⟨t2, ht2⟩ : ∃ t, Hostp.repr 10 q2 = t := ⟨_, rfl⟩
      obtain ⟨t3, ht3⟩ : ∃ t, Hostp.repr 10 q3 = t := ⟨_, rfl⟩
      have l0 : t0.length ≤ 3 := by rw [← ht0]; exact Hostp.repr_len 10 (by decide) 2 q0 (by omega)
      have l1 : t1.length ≤ 3 := by rw [← ht1]; exact Hostp.repr_len 10 (by decide) 2 q1 (by omega)
      have l2 : t2.length ≤ 3 := by rw [← ht2]; exact Hostp.repr_len 10 (by decide) 2 q2 (by omega)
      have l3 : t3.length ≤ 3 := by rw [← ht3]; exact Hostp.repr_len 10 (by decide) 2 q3 (by omega)
      rw [ht0, ht1, ht2, ht3] at hu2
      have HU := hide hu2
      have HT0 := hide ht0
      have HT1 := hide ht1
      have HT2 := hide ht2
      have HT3 := hide ht3
      have s1 : ¬ 9223372036854775807 < t0.length + 1 := by omega
      have s2 : ¬ 9223372036854775807 < t0.length + 1 + t1.length := by omega
      have s3 : ¬ 9223372036854775807 < t0.length + (t1.length + 1) + 1 := by omega
      have s4 : ¬ 9223372036854775807 < t0.length + (t1.length + 1 + 1) + t2.length := by omega
      have s5 : ¬ 9223372036854775807 < t0.length + (t1.length + (t2.length + 1) + 1) + 1 := by omega
      have s6 : ¬ 9223372036854775807 < t0.length + (t1.length + (t2.length + 1 + 1) + 1) + t3.length := by omega
      obtain ⟨w1, hw1⟩ : ∃ x, x = w.alloc (.cells #[.int .u8 3, S s, .int .u32 m, U16 n0, U16 n1, U16 n2, U16 n3, U16 n4, U16 n5, U16 n6, U16 n7] 27) := ⟨_, rfl⟩
      have HW1 := hide hw1
      rw [← hw1] at hnew hnb hnz
      clear hw1 hu hu2 e1 e2 hq0 hq1 hq2 hq3 ht0 ht1 ht2 ht3 h0 h1 hnew
      go_enter Tryz.func15, Tryz.ntmps15
      go_wp2_with fail
      rw [← HW1.out]
      refine (rText q0 10 t0 _ (by omega) (by decide) (by decide) HT0).mono ?_
      rintro e w2 ⟨rfl, hb2⟩
      have hbw2 : Below w.heap.size w w2 := hnb.trans (hb2.mono (by omega))
      have hs2 := hb2.size
      go_wp2_with fail
      refine (rText q1 10 t1 _ (by omega) (by decide) (by decide) HT1).mono ?_
      rintro e w3 ⟨rfl, hb3⟩
      have hbw3 : Below w.heap.size w w3 := hbw2.trans (hb3.mono (by omega))
      have hs3 := hb3.size
      go_wp2_with fail
      refine (rText q2 10 t2 _ (by omega) (by decide) (by decide) HT2).mono ?_
      rintro e w4 ⟨rfl, hb4⟩
      have hbw4 : Below w.heap.size w w4 := hbw3.trans (hb4.mono (by omega))
      have hs4 := hb4.size
      go_wp2_with fail
      refine (rText q3 10 t3 _ (by omega) (by decide) (by decide) HT3).mono ?_
      rintro e w5 ⟨rfl, hb5⟩
      have hbw5 : Below w.heap.size w w5 := hbw4.trans (hb5.mono (by omega))
      go_wp2_with fail
      go_ret
      exact ⟨by rw [← HU.out]; simp, hbw5⟩
    · rw [if_neg k3] at hu2
      have e3 : (k == 3) = false := beq_eq_false_iff_ne.2 k3
      clear k3
      by_cases k4 : k = 4
      · rw [if_pos k4] at hu2
        subst k4
        obtain ⟨v, hvv⟩ : ∃ v, [n0, n1, n2, n3, n4, n5, n6, n7] = v := ⟨_, rfl⟩
        have hvl : v.length = 8 := by rw [← hvv]; rfl
        obtain ⟨p, m, hrun, hpm⟩ : ∃ (p : Int) (m : Nat), Hostp.runR (longs8 [n0, n1, n2, n3, n4, n5, n6, n7]) 0 (-1, 1) = (p, (m : Int)) ∧ ((p = -1 ∧ m = 1 ∧ Hostp.mostOf v < 2) ∨ (p = (Hostp.atOf v : Int) ∧ m = Hostp.mostOf v ∧ 2 ≤ Hostp.mostOf v)) := by
          rw [hvv]
          by_cases h : Hostp.mostOf v < 2
          · exact ⟨-1, 1, Hostp.run_lo v hvl h, .inl ⟨rfl, rfl, h⟩⟩
          · exact ⟨_, _, Hostp.run_hi v hvl (by omega), .inr ⟨rfl, rfl, by omega⟩⟩
        have hp0 : -1 ≤ p := by rcases hpm with ⟨h, _⟩ | ⟨h, _⟩ <;> omega
        have hm1 : 1 ≤ m := by rcases hpm with ⟨_, h, _⟩ | ⟨_, h, h2⟩ <;> omega
        have hpm8 : p + (m : Int) ≤ 8 := by
          rcases hpm with ⟨h, h2, _⟩ | ⟨h, h2, h3⟩
          · omega
          · have := Hostp.at_most v hvl h3; omega
        have HPM := hide hpm
        have HRUN := hide hrun
        have hx6 := show6_len [n0, n1, n2, n3, n4, n5, n6, n7] rfl hv
        rw [hvv] at hu2 hx6
        obtain ⟨y6, hy6⟩ : ∃ y, Hostp.show6 v = y := ⟨_, rfl⟩
        rw [hy6] at hu2 hx6
        have HY6 := hide hy6
        have HX6 := hide hx6
        have HU := hide hu2
        have hhc := fun (W : World) (h : W.heap[w.heap.size]? = some (.cells #[.int .u8 4, S s, .int .u32 n, U16 n0, U16 n1, U16 n2, U16 n3, U16 n4, U16 n5, U16 n6, U16 n7] 27 (0, 0))) (i : Nat) (x : Int) => host_cell h i x
        rw [hvv] at hv
        have hvx : ∀ (i : Nat) (x : Int), v[i]? = some x → 0 ≤ x ∧ x < 65536 := fun i x h => hv x (List.mem_of_getElem? h)
        rw [hvv] at hhc
        have HHC := hide hhc
        have HVX := hide hvx
        have HVL := hide hvl
        clear hpm hrun hu hu2 e1 e2 e3 hhc hvx hvv hv hx6 hvl hy6
        obtain ⟨w1, hw1⟩ : ∃ x, x = w.alloc (.cells #[.int .u8 4, S s, .int .u32 n, U16 n0, U16 n1, U16 n2, U16 n3, U16 n4, U16 n5, U16 n6, U16 n7] 27) := ⟨_, rfl⟩
        have HW1 := hide hw1
        rw [← hw1] at hnew hnb hnz
        have HNEW := hide hnew
        have HNZ := hide hnz
        clear hw1 hnew hnz
        go_enter Tryz.func15, Tryz.ntmps15
        go_wp2_with fail
        rw [← HW1.out]
        refine (rRun n0 n1 n2 n3 n4 n5 n6 n7 p m _ HRUN).mono ?_
        rintro e w2 ⟨rfl, hb2⟩
        obtain ⟨B, hB⟩ : ∃ B, w.heap.size = B := ⟨_, rfl⟩
        rw [hB] at hnb HNEW HNZ HHC ⊢
        have HB := hide hB
        have hs2 := hb2.size
        have hbw2 : Below B w w2 := hnb.trans (hb2.mono (by have := HNZ.out; omega))
        have h2 := (hb2.block B (by have := HNZ.out; omega)).trans HNEW.out
        have hs2 : B + 1 ≤ w2.heap.size := by have := HNZ.out; omega
        have H2 := hide h2
        clear hB hnb hb2 h2 HRUN
        go_wp2_with fail
        go_loopg [6, 7] 8 (fun g s6 s7 wx => ∃ (i : Nat) (P acc : List UInt8) (us : List Int), i + g = 8 ∧ s7 = .int .i64 i ∧ s6 = S acc ∧ acc.length ≤ 100 * i ∧ Hid (acc = P ++ Hostp.joinW 58 (Hostp.words us)) ∧ Hid (Fin v p m i P us) ∧ Below (B + 1) w2 wx)
        case atStart => exact ⟨0, [], [], [], by omega, rfl, rfl, by simp, hide rfl, by
          rcases HPM.out with ⟨h, _⟩ | ⟨h, _⟩
          · exact .inl ⟨h, rfl, rfl⟩
          · exact .inr (.inl ⟨_, h, by omega, rfl, rfl⟩), Below.refl _ _⟩
        case round =>
          obtain ⟨i, P, acc, us, hi, rfl, rfl, hal, hacc, hF, hbx⟩ := hrel
          have hsx := hbx.size
          have hBx : B + 1 ≤ wr.heap.size := by omega
          by_cases hlt : i < 8
          · by_cases hip : (i : Int) = p
            · subst hip
              obtain ⟨rfl, rfl, hF2⟩ := fin_at hF.out hm1
              have hacc2 : Hid (acc ++ [58, 58] = (Hostp.joinW 58 (Hostp.words (v.take i)) ++ [58, 58]) ++ Hostp.joinW 58 (Hostp.words [])) := by
                unfold Hid
                rw [hacc.out]
                show _ = _ ++ []
                simp
              have HF2 := hide hF2
              have hsum : ¬ 9223372036854775807 < acc.length + 2 := by omega
              clear hF hF2 hacc
              go_wp2_with fail
              go_roundg (8 - (i + m))
              case measure => omega
              case rel => exact ⟨i + m, _, acc ++ [58, 58], [], by omega, by go_num, rfl, by simp; omega, hacc2, HF2, hbx⟩
            · obtain ⟨x, hx⟩ : ∃ x, v[i]? = some x := ⟨v[i]'(by rw [HVL.out]; exact hlt), List.getElem?_eq_getElem _⟩
              have hrow : wr.heap[B]? = _ := (hbx.block B (by omega)).trans H2.out
              have hcell := HHC.out wr hrow i x hx
              obtain ⟨hx0, hx1⟩ := HVX.out i x hx
              obtain ⟨y, rfl⟩ := Int.eq_ofNat_of_zero_le hx0
              have hF2 := hide (fin_step hF.out hx hip)
              have hW := fin_word (x := (y : Int)) hF.out hacc.out
              rw [Int.toNat_natCast] at hW
              obtain ⟨t, ht⟩ : ∃ t, Hostp.repr 16 y = t := ⟨_, rfl⟩
              have htl : t.length ≤ 4 := by rw [← ht]; exact Hostp.repr_len 16 (by decide) 3 y (by omega)
              rw [ht] at hW
              have HT := hide ht
              have hbi : ((i : Int) == p) = false := beq_eq_false_iff_ne.2 hip
              have tj : (i : Int) < 8 := by omega
              clear hF hx hacc hip hrow ht
              rcases List.eq_nil_or_concat acc with rfl | ⟨l, b, rfl⟩
              · rw [if_neg (fun q => q.1 rfl), List.nil_append] at hW
                have HW := hide hW.symm
                clear hW
                go_wp2_with fail
                refine (rText y 16 t _ (by omega) (by decide) (by decide) HT).mono ?_
                rintro e w3 ⟨rfl, hb3⟩
                have hsum : ¬ 9223372036854775807 < t.length := by omega
                go_wp2_with fail
                go_roundg (7 - i)
                case measure => omega
                case rel => exact ⟨i + 1, P, t, us ++ [(y : Int)], by omega, by go_num, rfl, by omega, hide HW.out.symm, hF2, hbx.trans (hb3.mono hBx)⟩
              · rw [List.concat_eq_append] at hal hW ⊢
                simp only [List.length_append, List.length_cons, List.length_nil] at hal
                have hix : ∀ W : World, (Instr.index 9 (S (l ++ [b])) (.int .i64 (l.length : Int))).run Tryz.prog W = .ok (B8 b) W := fun W => by
                  simp [go_sem]
                  intro h
                  omega
                by_cases hb58 : b = 58
                · subst hb58
                  rw [if_neg (fun q => q.2 List.getLast?_concat)] at hW
                  have HW := hide hW.symm
                  have hsum : ¬ 9223372036854775807 < l.length + 1 + t.length := by omega
                  clear hW
                  go_wp2_with fail
                  refine (rText y 16 t _ (by omega) (by decide) (by decide) HT).mono ?_
                  rintro e w3 ⟨rfl, hb3⟩
                  go_wp2_with fail
                  go_roundg (7 - i)
                  case measure => omega
                  case rel => exact ⟨i + 1, P, l ++ [58] ++ t, us ++ [(y : Int)], by omega, by go_num, by simp, by simp; omega, hide HW.out.symm, hF2, hbx.trans (hb3.mono hBx)⟩
                · rw [if_pos ⟨by simp, by rw [List.getLast?_concat]; intro q; injection q with q; exact hb58 q⟩] at hW
                  have HW := hide hW.symm
                  have b1 : ((b.toNat : Int) != 58) = true := bne_iff_ne.2 (fun h => hb58 (UInt8.toNat_inj.1 (by show b.toNat = 58; omega)))
                  have b2 : ¬ (b.toNat : Int) = 58 := fun h => hb58 (UInt8.toNat_inj.1 (by show b.toNat = 58; omega))
                  have hsum : ¬ 9223372036854775807 < l.length + 1 + 1 := by omega
                  have hsum3 : ¬ 9223372036854775807 < l.length + 2 + t.length := by omega
                  have he1 : (l ++ [b] == []) = false := by simp
                  have he2 : (l ++ [b]).isEmpty = false := by simp
                  have he3 : ¬ (l ++ [b]) = [] := by simp
                  clear hW hb58
                  go_wp2_with fail
                  refine (rText y 16 t _ (by omega) (by decide) (by decide) HT).mono ?_
                  rintro e w3 ⟨rfl, hb3⟩
                  go_wp2_with fail
                  go_roundg (7 - i)
                  case measure => omega
                  case rel => exact ⟨i + 1, P, l ++ [b] ++ [58] ++ t, us ++ [(y : Int)], by omega, by go_num, by simp, by simp; omega, hide HW.out.symm, hF2, hbx.trans (hb3.mono hBx)⟩
          · have e : i = 8 := by omega
            have h6 := fin_end HVL.out e hF.out (by
              rcases HPM.out with ⟨h, _, h2⟩ | h
              · exact .inl ⟨h, h2⟩
              · exact .inr h)
            rw [← hacc.out, HY6.out] at h6
            have hal2 : acc.length ≤ 90 := by rw [h6]; exact HX6.out
            have H6 := hide h6
            have s1 : ¬ 9223372036854775807 < 1 + acc.length := by omega
            have s2 : ¬ 9223372036854775807 < acc.length + 1 := by omega
            have s3 : ¬ 9223372036854775807 < acc.length + 1 + 1 := by omega
            clear hacc hF h6
            go_wp2_with fail
            go_ret
            refine ⟨?_, by rw [HB.out]; exact hbw2.trans (hbx.mono (by omega))⟩
            rw [← HU.out, ← H6.out]; simp
      · rw [if_neg k4] at hu2
        subst hu2
        have e4 : (k == 4) = false := beq_eq_false_iff_ne.2 k4
        clear k4 hu
        go_enter Tryz.func15, Tryz.ntmps15
        go_wp2_with fail
        go_ret
        exact ⟨rfl, hnb⟩
end Go.Proofs.YtahjndignkhmoaaGreatDoor
