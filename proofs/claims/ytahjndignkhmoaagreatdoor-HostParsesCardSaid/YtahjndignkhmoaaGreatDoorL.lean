/- A number of 0 to 255 without noughts ahead; an address of four as two groups. -/
import Derived.Test.YtahjndignkhmoaaGreatDoorK
namespace Go.Proofs.YtahjndignkhmoaaGreatDoor
open Go.RowKit

namespace Hostp
theorem hex_dig (c : UInt8) (h : 0 ≤ hex c) (h10 : hex c < 10) : 48 ≤ c.toNat ∧ c.toNat ≤ 57 ∧ hex c = (c.toNat : Int) - 48 := by
  unfold hex at h h10 ⊢
  split
  · rename_i q; exact ⟨q.1, q.2, rfl⟩
  · rename_i q1
    rw [if_neg q1] at h h10
    split at h
    · rename_i q; rw [if_pos q] at h10; omega
    · rename_i q2
      rw [if_neg q2] at h10
      split at h
      · rename_i q; rw [if_pos q] at h10; omega
      · omega
theorem hex_of_dig (c : UInt8) (h : 48 ≤ c.toNat ∧ c.toNat ≤ 57) : hex c = (c.toNat : Int) - 48 := by
  unfold hex; rw [if_pos h]
theorem isDig10 (c : UInt8) : isDig 10 c = true ↔ (48 ≤ c.toNat ∧ c.toNat ≤ 57) := by
  unfold isDig
  rw [Bool.and_eq_true, decide_eq_true_eq, decide_eq_true_eq]
  constructor
  · rintro ⟨h1, h2⟩
    exact ⟨(hex_dig c h1 h2).1, (hex_dig c h1 h2).2.1⟩
  · intro h
    rw [hex_of_dig c h]; omega

/-- the kit's reading of digits is this one -/
theorem pum_law (M : Nat) (hM : M ≤ 255) : ∀ (l : List UInt8) (acc : Nat), acc ≤ M →
    (∀ u, Lib.parseUintM M acc l = .ok u → allB 10 l = true ∧ valFrom 10 acc l = (u : Int) ∧ u ≤ M) ∧ (allB 10 l = true → valFrom 10 acc l ≤ (M : Int) → ∃ u, Lib.parseUintM M acc l = .ok u)
  | [], acc, hacc => by
    constructor
    · intro u h
      unfold Lib.parseUintM at h
      injection h with h
      subst h
      exact ⟨rfl, rfl, hacc⟩
    · intro _ _
      exact ⟨acc, rfl⟩
  | c :: l, acc, hacc => by
    have step : valFrom 10 acc (c :: l) = valFrom 10 ((acc : Int) * 10 + hex c) l := rfl
    have hcons : allB 10 (c :: l) = (isDig 10 c && allB 10 l) := rfl
    constructor
    · intro u h
      unfold Lib.parseUintM at h
      split at h
      · rename_i hc
        split at h
        · cases h
        · split at h
          · cases h
          · rename_i h1 h2
            obtain ⟨a1, a2, a3⟩ := (pum_law M hM l _ (by omega)).1 u h
            refine ⟨by rw [hcons, a1, (isDig10 c).2 hc]; rfl, ?_, a3⟩
            rw [step, hex_of_dig c hc, ← a2]
            congr 1
            omega
      · cases h
    · intro ha hv
      rw [hcons, Bool.and_eq_true] at ha
      have hc := (isDig10 c).1 ha.1
      rw [step, hex_of_dig c hc] at hv
      have hge := valFrom_ge 10 (by decide) l ((acc : Int) * 10 + ((c.toNat : Int) - 48)) (by omega) (allB_hex ha.2)
      have e : ((acc : Int) * 10 + ((c.toNat : Int) - 48)) = ((acc * 10 + (c.toNat - 48) : Nat) : Int) := by omega
      rw [e] at hv hge
      unfold Lib.parseUintM
      rw [if_pos hc, if_neg (by omega), if_neg (by omega)]
      exact (pum_law M hM l _ (by omega)).2 ha.2 hv

theorem value_snoc (base : Int) (l : List UInt8) (c : UInt8) : value base (l ++ [c]) = value base l * base + hex c := by
  unfold value
  rw [List.foldl_append]; rfl
theorem dec_canon : ∀ (n : Nat) (w : List UInt8), w.length = n → w ≠ [] → allB 10 w = true → (w.length = 1 ∨ w.head? ≠ some 48) → Lib.decDigits (value 10 w).toNat = w := by
  intro n
  induction n with
  | zero =>
    intro w hn hne
    exact absurd (List.eq_nil_of_length_eq_zero hn) hne
  | succ n ih =>
    intro w hn hne hall h0
    obtain ⟨q, c, rfl⟩ : ∃ q c, w = q ++ [c] := ⟨w.dropLast, w.getLast hne, (List.dropLast_concat_getLast hne).symm⟩
    have hallq : allB 10 q = true ∧ isDig 10 c = true := by
      unfold allB at hall ⊢
      rw [List.all_append, Bool.and_eq_true] at hall
      refine ⟨hall.1, ?_⟩
      have := hall.2
      rw [List.all_cons, List.all_nil, Bool.and_true] at this
      exact this
    have hc := (isDig10 c).1 hallq.2
    have hcv := hex_of_dig c hc
    have e48 : ∀ m : Nat, 48 + m = c.toNat → UInt8.ofNat (48 + m) = c := fun m hm => by rw [hm, UInt8.ofNat_toNat]
    rw [value_snoc, hcv]
    by_cases hq : q = []
    · subst hq
      have : (value 10 [] * 10 + ((c.toNat : Int) - 48)).toNat = c.toNat - 48 := by
        show ((0 : Int) * 10 + ((c.toNat : Int) - 48)).toNat = _
        omega
      rw [this, Lib.decDigits_one (by omega), e48 _ (by omega)]; rfl
    · have hh : (q ++ [c]).head? = q.head? := by
        cases q with
        | nil => exact absurd rfl hq
        | cons a r => rfl
      have hql : 1 ≤ q.length := by
        cases q with
        | nil => exact absurd rfl hq
        | cons a r => simp
      have h0q : q.head? ≠ some 48 := by
        rcases h0 with h0 | h0
        · simp at h0; exact absurd h0 hq
        · rw [hh] at h0; exact h0
      have ihq := ih q (by simp at hn; omega) hq hallq.1 (.inr h0q)
      have hpos : 1 ≤ value 10 q := by
        cases q with
        | nil => exact absurd rfl hq
        | cons a r =>
          have ha : isDig 10 a = true ∧ allB 10 r = true := by
            have := hallq.1
            rw [show allB 10 (a :: r) = (isDig 10 a && allB 10 r) from rfl, Bool.and_eq_true] at this
            exact this
          have had := (isDig10 a).1 ha.1
          have hav := hex_of_dig a had
          have hne : a.toNat ≠ 48 := fun h => h0q (by rw [List.head?_cons]; congr 1; exact UInt8.toNat_inj.1 (by rw [h]; rfl))
          have := valFrom_ge 10 (by decide) r (0 * 10 + hex a) (by omega) (allB_hex ha.2)
          have e : value 10 (a :: r) = valFrom 10 (0 * 10 + hex a) r := rfl
          omega
      have e : (value 10 q * 10 + ((c.toNat : Int) - 48)).toNat = (value 10 q).toNat * 10 + (c.toNat - 48) := by omega
      rw [e, Lib.decDigits, dif_neg (by omega)]
      rw [show ((value 10 q).toNat * 10 + (c.toNat - 48)) / 10 = (value 10 q).toNat by omega, ihq, show ((value 10 q).toNat * 10 + (c.toNat - 48)) % 10 = c.toNat - 48 by omega, e48 _ (by omega)]
theorem decDigits_dec3 (n : Nat) (h : n < 256) : Lib.decDigits n = dec3 n := by
  unfold dec3
  by_cases h1 : n < 10
  · rw [if_pos h1, Lib.decDigits_one h1]
  · rw [if_neg h1]
    by_cases h2 : n < 100
    · rw [if_pos h2, Lib.decDigits_two h1 h2]
    · rw [if_neg h2, Lib.decDigits, dif_neg h1, Lib.decDigits_two (by omega) (by omega)]
      rw [Nat.div_div_eq_div_mul]; rfl
theorem dec3_head : ∀ n : Fin 256, ¬ (1 < (dec3 n.val).length ∧ (dec3 n.val).head? = some 48) := by decide +kernel
/-- an error, or the number; and whether it is spelt just so -/
theorem byte_ok (w : List UInt8) (u : Nat) (h : Lib.parseUintB 8 w = .ok u) : u < 256 ∧ byteP w = if Lib.decDigits u = w then some (u : Int) else none := by
  unfold Lib.parseUintB at h
  split at h
  · cases h
  · rename_i hne
    obtain ⟨h1, h2, h3⟩ := (pum_law 255 (Nat.le_refl _) w 0 (by decide)).1 u h
    have hv : value 10 w = (u : Int) := h2
    have hu : u < 256 := by omega
    refine ⟨hu, ?_⟩
    unfold byteP
    rw [h1, hv]
    by_cases hd : Lib.decDigits u = w
    · rw [if_pos hd, if_neg]
      rintro (h | h | h | h)
      · exact hne h
      · cases h
      · omega
      · rw [← hd, decDigits_dec3 u hu] at h
        exact dec3_head ⟨u, hu⟩ h
    · rw [if_neg hd, if_pos]
      by_cases h48 : 1 < w.length ∧ w.head? = some 48
      · exact .inr (.inr (.inr h48))
      · refine absurd ?_ hd
        have := dec_canon w.length w rfl hne h1 (by
          by_cases hl : w.length = 1
          · exact .inl hl
          · refine .inr fun hh => h48 ⟨?_, hh⟩
            have : w.length ≠ 0 := fun h => hne (List.eq_nil_of_length_eq_zero h)
            omega)
        rw [hv, Int.toNat_natCast] at this
        exact this
theorem byte_no (w : List UInt8) (h : ∀ u, Lib.parseUintB 8 w ≠ .ok u) : byteP w = none := by
  unfold byteP
  by_cases hne : w = []
  · rw [if_pos (.inl hne)]
  · by_cases ha : allB 10 w = true
    · by_cases hv : 255 < value 10 w
      · rw [if_pos (.inr (.inr (.inl hv)))]
      · obtain ⟨u, hu⟩ := (pum_law 255 (Nat.le_refl _) w 0 (by decide)).2 ha (by
          have : valFrom 10 ((0 : Nat) : Int) w = value 10 w := rfl
          rw [this]; omega)
        exact absurd (by unfold Lib.parseUintB; rw [if_neg hne]; exact hu) (h u)
    · rw [if_pos (.inr (.inl (eq_false_of_ne_true ha)))]
end Hostp
end Go.Proofs.YtahjndignkhmoaaGreatDoor
