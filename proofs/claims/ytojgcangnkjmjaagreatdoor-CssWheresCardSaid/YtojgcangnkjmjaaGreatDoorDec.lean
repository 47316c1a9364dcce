/- Plain: bytes as code points. No program in sight. -/
import Derived.Test.YtojgcangnkjmjaaGreatDoorRun2
import Derived.Lib.ValidLaws
import Derived.Lib.MapLaws
namespace Go.Proofs.YtojgcangnkjmjaaGreatDoor
namespace Cssp
open Go

/-- what a first byte asks for: how many more, the bounds of the next one; whether it begins anything -/
def first (c : UInt8) : (Nat × Nat × Nat) × Bool :=
  if c.toNat < 128 then ((0, 128, 191), true)
  else if 194 ≤ c.toNat ∧ c.toNat ≤ 223 then ((1, 128, 191), true)
  else if c.toNat < 224 ∨ 244 < c.toNat then ((0, 128, 191), false)
  else if c.toNat = 224 then ((2, 160, 191), true)
  else if c.toNat = 237 then ((2, 128, 159), true)
  else if c.toNat = 240 then ((3, 144, 191), true)
  else if c.toNat = 244 then ((3, 128, 143), true)
  else if c.toNat < 240 then ((2, 128, 191), true)
  else ((3, 128, 191), true)
/-- how many bytes the piece has, from n on; whether it is a code point's -/
def goOn : Nat → Nat → Nat → Nat → List UInt8 → Nat × Bool
  | 0, _, _, n, _ => (n, true)
  | _ + 1, _, _, n, [] => (n, false)
  | k + 1, low, top, n, c :: r => if c.toNat < low ∨ top < c.toNat then (n, false) else goOn k 128 191 (n + 1) r
def piece : List UInt8 → Nat × Bool
  | [] => (1, false)
  | c :: r => if (first c).2 = true then goOn (first c).1.1 (first c).1.2.1 (first c).1.2.2 1 r else (1, false)
def code (s : List UInt8) : List UInt8 := if (piece s).2 = true then s.take (piece s).1 else fffd
def decodeF : Nat → List UInt8 → List UInt8
  | 0, _ => []
  | f + 1, s => if s = [] then [] else code s ++ decodeF f (s.drop (piece s).1)
def decode (s : List UInt8) : List UInt8 := decodeF s.length s

theorem goOn_le : ∀ (k lo hi n : Nat) (r : List UInt8), n ≤ (goOn k lo hi n r).1 ∧ (goOn k lo hi n r).1 ≤ n + r.length ∧ (goOn k lo hi n r).1 ≤ n + k
  | 0, _, _, n, r => by simp [goOn]
  | k + 1, _, _, n, [] => by simp [goOn]
  | k + 1, lo, hi, n, c :: r => by
    have := goOn_le k 128 191 (n + 1) r
    rw [goOn]
    split
    · simp
    · simp only [List.length_cons]; omega
theorem piece_le : ∀ s : List UInt8, s ≠ [] → 1 ≤ (piece s).1 ∧ (piece s).1 ≤ s.length ∧ (piece s).1 ≤ 4
  | [], h => absurd rfl h
  | c :: r, _ => by
    rw [piece]
    split
    · have h := goOn_le (first c).1.1 (first c).1.2.1 (first c).1.2.2 1 r
      have h3 : (first c).1.1 ≤ 3 := by unfold first; (repeat' split) <;> decide
      simp only [List.length_cons]
      omega
    · simp
theorem piece_pos (s : List UInt8) : 1 ≤ (piece s).1 := by
  cases s with
  | nil => exact Nat.le_refl _
  | cons c r => exact (piece_le (c :: r) (by simp)).1
theorem decodeF_fuel : ∀ (f g : Nat) (s : List UInt8), s.length ≤ f → s.length ≤ g → decodeF f s = decodeF g s
  | 0, g, s, hf, _ => by
    have : s = [] := List.eq_nil_of_length_eq_zero (by omega)
    subst this
    cases g <;> rfl
  | f + 1, 0, s, _, hg => by
    have : s = [] := List.eq_nil_of_length_eq_zero (by omega)
    subst this; rfl
  | f + 1, g + 1, s, hf, hg => by
    rw [decodeF, decodeF]
    split
    · rfl
    · have := piece_pos s
      rw [decodeF_fuel f g _ (by rw [List.length_drop]; omega) (by rw [List.length_drop]; omega)]
theorem decode_nil : decode [] = [] := rfl
theorem decode_step (s : List UInt8) (h : s ≠ []) : decode s = code s ++ decode (s.drop (piece s).1) := by
  obtain ⟨c, r, rfl⟩ := List.exists_cons_of_ne_nil h
  have := piece_pos (c :: r)
  unfold decode
  rw [List.length_cons, decodeF, if_neg h, decodeF_fuel r.length ((c :: r).drop (piece (c :: r)).1).length _ (by rw [List.length_drop, List.length_cons]; omega) (Nat.le_refl _)]
theorem code_len (s : List UInt8) : (code s).length ≤ 4 := by
  unfold code
  split
  · cases s with
    | nil => simp
    | cons c r =>
      have := (piece_le (c :: r) (by simp)).2.2
      rw [List.length_take]; omega
  · decide
theorem code_len3 (s : List UInt8) (h : s ≠ []) : (code s).length ≤ 3 * (piece s).1 := by
  have := piece_le s h
  unfold code
  split
  · rw [List.length_take]; omega
  · show 3 ≤ _; omega
theorem decode_len : ∀ (f : Nat) (s : List UInt8), s.length ≤ f → (decode s).length ≤ 3 * s.length
  | 0, s, h => by
    have : s = [] := List.eq_nil_of_length_eq_zero (by omega)
    subst this; exact Nat.le_refl _
  | f + 1, s, h => by
    by_cases hn : s = []
    · subst hn; exact Nat.zero_le _
    · have hp := piece_le s hn
      have ih := decode_len f (s.drop (piece s).1) (by rw [List.length_drop]; omega)
      have := code_len3 s hn
      rw [decode_step s hn, List.length_append]
      rw [List.length_drop] at ih
      omega

/-! ### valid texts -/
theorem goOn_app : ∀ (k lo hi n : Nat) (r m : List UInt8), (goOn k lo hi n r).2 = true → goOn k lo hi n (r ++ m) = goOn k lo hi n r
  | 0, _, _, _, _, _, _ => by simp [goOn]
  | k + 1, _, _, n, [], _, h => by simp [goOn] at h
  | k + 1, lo, hi, n, c :: r, m, h => by
    rw [List.cons_append, goOn, goOn]
    rw [goOn] at h
    split
    · rfl
    · rename_i hc
      rw [if_neg hc] at h
      exact goOn_app k _ _ _ r m h
theorem piece_app (s m : List UInt8) (hs : s ≠ []) (h : (piece s).2 = true) : piece (s ++ m) = piece s := by
  cases s with
  | nil => exact absurd rfl hs
  | cons c r =>
    rw [piece] at h ⊢
    rw [List.cons_append, piece]
    split
    · rename_i hc
      rw [if_pos hc] at h
      exact goOn_app _ _ _ _ r m h
    · rfl
/-- all pieces are code points' -/
def validF : Nat → List UInt8 → Bool
  | 0, _ => true
  | f + 1, s => if s = [] then true else (piece s).2 && validF f (s.drop (piece s).1)
def valid (s : List UInt8) : Bool := validF s.length s
theorem validF_fuel : ∀ (f g : Nat) (s : List UInt8), s.length ≤ f → s.length ≤ g → validF f s = validF g s
  | 0, g, s, hf, _ => by
    have : s = [] := List.eq_nil_of_length_eq_zero (by omega)
    subst this
    cases g <;> rfl
  | f + 1, 0, s, _, hg => by
    have : s = [] := List.eq_nil_of_length_eq_zero (by omega)
    subst this; rfl
  | f + 1, g + 1, s, hf, hg => by
    rw [validF, validF]
    split
    · rfl
    · have := piece_pos s
      rw [validF_fuel f g _ (by rw [List.length_drop]; omega) (by rw [List.length_drop]; omega)]
theorem valid_step (s : List UInt8) (h : s ≠ []) : valid s = ((piece s).2 && valid (s.drop (piece s).1)) := by
  obtain ⟨c, r, rfl⟩ := List.exists_cons_of_ne_nil h
  have := piece_pos (c :: r)
  unfold valid
  rw [List.length_cons, validF, if_neg h, validF_fuel r.length ((c :: r).drop (piece (c :: r)).1).length _ (by rw [List.length_drop, List.length_cons]; omega) (Nat.le_refl _)]
theorem decode_app : ∀ (f : Nat) (s m : List UInt8), s.length ≤ f → valid s = true → decode (s ++ m) = s ++ decode m
  | 0, s, m, h, _ => by
    have : s = [] := List.eq_nil_of_length_eq_zero (by omega)
    subst this; rfl
  | f + 1, s, m, h, hv => by
    by_cases hn : s = []
    · subst hn; rfl
    · rw [valid_step s hn, Bool.and_eq_true] at hv
      have hp := piece_le s hn
      have hpa := piece_app s m hn hv.1
      have ih := decode_app f (s.drop (piece s).1) m (by rw [List.length_drop]; omega) hv.2
      rw [decode_step (s ++ m) (by simp [hn]), code, hpa, if_pos hv.1, List.take_append_of_le_length hp.2.1, List.drop_append_of_le_length hp.2.1, ih, ← List.append_assoc, List.take_append_drop]
theorem decode_valid (s : List UInt8) (h : valid s = true) : decode s = s := by
  have := decode_app s.length s [] (Nat.le_refl _) h
  simpa [decode_nil] using this
theorem valid_app (s m : List UInt8) (hs : valid s = true) : valid (s ++ m) = valid m := by
  suffices H : ∀ (f : Nat) (s : List UInt8), s.length ≤ f → valid s = true → valid (s ++ m) = valid m from H s.length s (Nat.le_refl _) hs
  intro f
  induction f with
  | zero =>
    intro s h _
    have : s = [] := List.eq_nil_of_length_eq_zero (by omega)
    subst this; rfl
  | succ f ih =>
    intro s h hv
    by_cases hn : s = []
    · subst hn; rfl
    · rw [valid_step s hn, Bool.and_eq_true] at hv
      have hp := piece_le s hn
      have hpa := piece_app s m hn hv.1
      rw [valid_step (s ++ m) (by simp [hn]), hpa, hv.1, Bool.true_and, List.drop_append_of_le_length hp.2.1]
      exact ih _ (by rw [List.length_drop]; omega) hv.2

/-! ### against the library's decoding -/
def badL (s : List UInt8) : Prop := (Lib.decodeL s).1 = 65533 ∧ (Lib.decodeL s).2 = 1
theorem first_all : ∀ n : Fin 256, (n.val < 128 ∧ first (UInt8.ofNat n.val) = ((0, 128, 191), true)) ∨ (Lib.firstT n.val = 241 ∧ (first (UInt8.ofNat n.val)).2 = false) ∨
    (Lib.firstT n.val < 240 ∧ (Lib.firstT n.val % 8 = 2 ∨ Lib.firstT n.val % 8 = 3 ∨ Lib.firstT n.val % 8 = 4) ∧ first (UInt8.ofNat n.val) = ((Lib.firstT n.val % 8 - 1, Lib.accLo (Lib.firstT n.val / 16), Lib.accHi (Lib.firstT n.val / 16)), true)) := by decide +kernel
theorem first_class (c : UInt8) : (c.toNat < 128 ∧ first c = ((0, 128, 191), true)) ∨ (Lib.firstT c.toNat = 241 ∧ (first c).2 = false) ∨
    (Lib.firstT c.toNat < 240 ∧ (Lib.firstT c.toNat % 8 = 2 ∨ Lib.firstT c.toNat % 8 = 3 ∨ Lib.firstT c.toNat % 8 = 4) ∧ first c = ((Lib.firstT c.toNat % 8 - 1, Lib.accLo (Lib.firstT c.toNat / 16), Lib.accHi (Lib.firstT c.toNat / 16)), true)) := by
  have := first_all ⟨c.toNat, c.toNat_lt⟩
  simpa only [UInt8.ofNat_toNat] using this
theorem slow_goOn (b0 sz lo hi : Nat) (r : List UInt8) (hsz : sz = 2 ∨ sz = 3 ∨ sz = 4) :
    ((goOn (sz - 1) lo hi 1 r).2 = true → (goOn (sz - 1) lo hi 1 r).1 = (Lib.slowN (r.length + 1) b0 (r.getD 0 0).toNat (r.getD 1 0).toNat (r.getD 2 0).toNat sz lo hi).2 ∧ 2 ≤ (goOn (sz - 1) lo hi 1 r).1) ∧
    ((goOn (sz - 1) lo hi 1 r).2 = false → Lib.slowN (r.length + 1) b0 (r.getD 0 0).toNat (r.getD 1 0).toNat (r.getD 2 0).toNat sz lo hi = (65533, 1)) := by
  rcases hsz with rfl | rfl | rfl
  · match r with
    | [] => simp [goOn, Lib.slowN]
    | c :: r =>
      simp only [Nat.reduceSub, goOn, Lib.slowN, List.length_cons, List.getD_cons_zero]
      rw [if_neg (by omega : ¬ r.length + 1 + 1 < 2)]
      split <;> simp
  · match r with
    | [] => simp [goOn, Lib.slowN]
    | [c] =>
      simp only [Nat.reduceSub, goOn, Lib.slowN, List.length_cons, List.length_nil, List.getD_cons_zero]
      split <;> simp
    | c :: d :: r =>
      simp only [Nat.reduceSub, goOn, Lib.slowN, List.length_cons, List.getD_cons_zero, List.getD_cons_succ]
      rw [if_neg (by omega : ¬ r.length + 1 + 1 + 1 < 3)]
      split
      · simp
      · rw [if_neg (by omega : ¬ 3 ≤ 2)]
        split <;> simp
  · match r with
    | [] => simp [goOn, Lib.slowN]
    | [c] =>
      simp only [Nat.reduceSub, goOn, Lib.slowN, List.length_cons, List.length_nil, List.getD_cons_zero]
      split <;> simp
    | [c, d] =>
      simp only [Nat.reduceSub, goOn, Lib.slowN, List.length_cons, List.length_nil, List.getD_cons_zero, List.getD_cons_succ]
      split
      · simp
      · split <;> simp
    | c :: d :: e :: r =>
      simp only [Nat.reduceSub, goOn, Lib.slowN, List.length_cons, List.getD_cons_zero, List.getD_cons_succ]
      rw [if_neg (by omega : ¬ r.length + 1 + 1 + 1 + 1 < 4)]
      split
      · simp
      · rw [if_neg (by omega : ¬ 4 ≤ 2)]
        split
        · simp
        · rw [if_neg (by omega : ¬ 4 ≤ 3)]
          split <;> simp
theorem piece_lib : ∀ s : List UInt8, s ≠ [] → ((piece s).2 = true → (piece s).1 = (Lib.decodeL s).2 ∧ ¬ badL s) ∧ ((piece s).2 = false → badL s)
  | [], h => absurd rfl h
  | a :: r, _ => by
    unfold badL
    have e0 : (a :: r).getD 0 0 = a := rfl
    have e1 : ∀ i, (a :: r).getD (i + 1) 0 = r.getD i 0 := fun i => by simp
    rw [Lib.decodeL_N, e0, e1 0, e1 1, e1 2, List.length_cons, piece]
    rcases first_class a with ⟨h, hf⟩ | ⟨h, hf⟩ | ⟨h, hz, hf⟩
    · rw [hf, if_pos rfl]
      have hd : Lib.decodeN (r.length + 1) a.toNat (r.getD 0 0).toNat (r.getD 1 0).toNat (r.getD 2 0).toNat = (a.toNat, 1) := by unfold Lib.decodeN; rw [if_pos h]
      rw [hd]
      refine ⟨fun _ => ⟨rfl, fun h2 => ?_⟩, fun h2 => by simp [goOn] at h2⟩
      have := h2.1
      simp only at this
      omega
    · rw [if_neg (by rw [hf]; decide), Lib.bad_eq _ _ _ _ _ a.toNat_lt h]
      exact ⟨fun h2 => (by cases h2), fun _ => ⟨rfl, rfl⟩⟩
    · rw [hf, if_pos rfl, ← Lib.slow_eq _ _ _ _ _ (by omega) (UInt8.toNat_lt _) (UInt8.toNat_lt _) (UInt8.toNat_lt _) h]
      obtain ⟨h1, h2⟩ := slow_goOn a.toNat (Lib.firstT a.toNat % 8) (Lib.accLo (Lib.firstT a.toNat / 16)) (Lib.accHi (Lib.firstT a.toNat / 16)) r hz
      refine ⟨fun h3 => ?_, fun h3 => ?_⟩
      · obtain ⟨h4, h5⟩ := h1 h3
        exact ⟨h4, fun h6 => by rw [← h4] at h6; omega⟩
      · rw [h2 h3]; exact ⟨rfl, rfl⟩
theorem code_lib (s : List UInt8) (h : s ≠ []) (hp : (piece s).2 = true) : Lib.encodeRune ((Lib.decodeL s).1 : Int) = code s := by
  obtain ⟨h1, h2⟩ := (piece_lib s h).1 hp
  rw [Lib.encode_decode s h h2, code, if_pos hp, h1]
theorem valid_lib (s : List UInt8) : Lib.validD s = valid s := by
  suffices H : ∀ (f : Nat) (s : List UInt8), s.length ≤ f → Lib.validD s = valid s from H s.length s (Nat.le_refl _)
  intro f
  induction f with
  | zero =>
    intro s h
    have : s = [] := List.eq_nil_of_length_eq_zero (by omega)
    subst this; rfl
  | succ f ih =>
    intro s h
    by_cases hn : s = []
    · subst hn; rfl
    · rw [Lib.validD_step s hn, valid_step s hn]
      have hp := piece_le s hn
      cases hq : (piece s).2 with
      | false => rw [if_pos (show (Lib.decodeL s).1 = 65533 ∧ (Lib.decodeL s).2 = 1 from (piece_lib s hn).2 hq)]; rfl
      | true =>
        obtain ⟨h1, h2⟩ := (piece_lib s hn).1 hq
        rw [if_neg (show ¬ ((Lib.decodeL s).1 = 65533 ∧ (Lib.decodeL s).2 = 1) from h2), ← h1, Bool.true_and]
        exact ih _ (by rw [List.length_drop]; omega)
end Cssp
end Go.Proofs.YtojgcangnkjmjaaGreatDoor
