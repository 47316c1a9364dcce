/- Plain laws of package host: percent signs; great and small letters. No program in sight. -/
import Derived.Test.YtahjndignkhmoaaGreatDoorPlain
namespace Go.Proofs.YtahjndignkhmoaaGreatDoor
namespace Hostp
open Go

theorem pDec_cons (c : UInt8) (r : List UInt8) (hc : c ≠ 37) : pDec (c :: r) = c :: pDec r := by
  match r with
  | [] => rfl
  | [a] => rfl
  | a :: b :: l => rw [pDec, if_neg (fun h => hc h.1)]
theorem pDec_no : ∀ s : List UInt8, (∀ c ∈ s, c ≠ 37) → pDec s = s
  | [], _ => rfl
  | c :: r, h => by rw [pDec_cons c r (h c (by simp)), pDec_no r (fun x hx => h x (by simp [hx]))]
theorem pDec_app : ∀ (a r : List UInt8), (∀ c ∈ a, c ≠ 37) → pDec (a ++ r) = a ++ pDec r
  | [], _, _ => rfl
  | c :: a, r, h => by rw [List.cons_append, pDec_cons c _ (h c (by simp)), pDec_app a r (fun x hx => h x (by simp [hx]))]; rfl
/-- behind a percent sign -/
theorem pDec_hit (a b : UInt8) (l : List UInt8) (ha : 0 ≤ hex a) (hb : 0 ≤ hex b) : pDec (37 :: a :: b :: l) = UInt8.ofNat (hex a * 16 + hex b).toNat :: pDec l := by
  rw [pDec, if_pos ⟨rfl, ha, hb⟩]
theorem pDec_miss (a b : UInt8) (l : List UInt8) (h : ¬ (0 ≤ hex a ∧ 0 ≤ hex b)) : pDec (37 :: a :: b :: l) = 37 :: pDec (a :: b :: l) := by
  rw [pDec, if_neg (fun x => h x.2)]
theorem pDec_short (r : List UInt8) (h : r.length < 2) : pDec (37 :: r) = 37 :: pDec r := by
  match r, h with
  | [], _ => rfl
  | [a], _ => rfl
theorem pDec_le : ∀ (n : Nat) (s : List UInt8), s.length ≤ n → (pDec s).length ≤ s.length
  | 0, s, h => by
    have : s = [] := List.eq_nil_of_length_eq_zero (by omega)
    subst this; simp [pDec]
  | n + 1, s, h => by
    match s, h with
    | [], _ => simp [pDec]
    | [a], _ => simp [pDec]
    | [a, b], _ => simp [pDec]
    | c :: a :: b :: l, h =>
      rw [pDec]
      split
      · have := pDec_le n l (by simp at h; omega)
        simp only [List.length_cons]; omega
      · have := pDec_le n (a :: b :: l) (by simp at h ⊢; omega)
        simp only [List.length_cons] at this ⊢; omega

theorem lowB_low (c : UInt8) : lowB (lowB c) = lowB c := by
  unfold lowB
  split
  · rename_i h
    have e : (UInt8.ofNat (c.toNat + 32)).toNat = c.toNat + 32 := UInt8.toNat_ofNat_of_lt' (by show c.toNat + 32 < 256; omega)
    rw [e, if_neg (by omega)]
  · rfl
theorem lower_low (s : List UInt8) : lower (lower s) = lower s := by
  unfold lower
  rw [List.map_map]
  exact List.map_congr_left fun c _ => lowB_low c
theorem pEnc_ok : ∀ s : List UInt8, ∀ c ∈ pEnc s, ctl c = false
  | [], c, h => by simp [pEnc] at h
  | x :: l, c, h => by
    rw [pEnc] at h
    split at h
    · have hu : ∀ n, n < 16 → ctl (hexU n) = false := by decide
      rcases List.mem_cons.1 h with rfl | h
      · decide
      · rcases List.mem_cons.1 h with rfl | h
        · exact hu _ (by have := x.toNat_lt; omega)
        · rcases List.mem_cons.1 h with rfl | h
          · exact hu _ (Nat.mod_lt _ (by decide))
          · exact pEnc_ok l c h
    · rename_i hx
      rcases List.mem_cons.1 h with rfl | h
      · exact eq_false_of_ne_true hx
      · exact pEnc_ok l c h
theorem pEnc_id : ∀ s : List UInt8, (∀ c ∈ s, ctl c = false) → pEnc s = s
  | [], _ => rfl
  | c :: l, h => by rw [pEnc, h c (by simp), if_neg (by decide), pEnc_id l (fun x hx => h x (by simp [hx]))]
theorem pEnc_enc (s : List UInt8) : pEnc (pEnc s) = pEnc s := pEnc_id _ (pEnc_ok s)
theorem pEnc_le : ∀ s : List UInt8, (pEnc s).length ≤ 3 * s.length
  | [] => Nat.le_refl _
  | c :: l => by
    have := pEnc_le l
    rw [pEnc]
    split <;> simp only [List.length_cons] <;> omega
theorem pEnc_bad : ∀ s : List UInt8, s.any bad = false → (pEnc s).any bad = false
  | [], _ => rfl
  | c :: l, h => by
    rw [List.any_cons, Bool.or_eq_false_iff] at h
    have ih := pEnc_bad l h.2
    rw [pEnc]
    split
    · have hu : ∀ n, n < 16 → bad (hexU n) = false := by decide
      rw [List.any_cons, List.any_cons, List.any_cons, ih, hu _ (by have := c.toNat_lt; omega), hu _ (Nat.mod_lt _ (by decide))]
      decide
    · rw [List.any_cons, h.1, ih]; rfl
end Hostp
end Go.Proofs.YtahjndignkhmoaaGreatDoor
