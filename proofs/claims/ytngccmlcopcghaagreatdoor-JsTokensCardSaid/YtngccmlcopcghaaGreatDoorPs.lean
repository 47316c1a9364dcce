/- Plain: the tokens of a script, with gaps between, are its tokens again. No program in sight. -/
import Derived.Test.YtngccmlcopcghaaGreatDoorPd
set_option maxRecDepth 100000
set_option maxHeartbeats 8000000
namespace Go.Proofs.YtngccmlcopcghaaGreatDoor
namespace Jsp
open Go
def Sp (c : UInt8) : Prop := c = 32 \/ c = 10
theorem piece_ascii {c : UInt8} (h : c.toNat < 128) (r : List UInt8) : Cssp.piece (c :: r) = (1, true) := by
 have : Cssp.first c = ((0, 128, 191), true) := by unfold Cssp.first; rw [if_pos h]
 rw [Cssp.piece, this]; rfl
theorem pt_ascii {c : UInt8} (h : c.toNat < 128) (r : List UInt8) : pt (c :: r) = c.toNat := by
 rw [pt, if_neg (by simp), Cssp.cpt, piece_ascii h]; rfl
theorem pn_ascii {c : UInt8} (h : c.toNat < 128) (r : List UInt8) : pn (c :: r) = 1 := by
 rw [pn, if_neg (by simp), piece_ascii h]
theorem Sp.lt {c : UInt8} (h : Sp c) : c.toNat < 128 := by rcases h with rfl | rfl <;> decide
theorem valid_split {s : List UInt8} (hv : Cssp.valid s = true) (h : s ≠ []) : (Cssp.piece s).2 = true /\ Cssp.valid (s.drop (Cssp.piece s).1) = true := by
 rw [Cssp.valid_step s h, Bool.and_eq_true] at hv
 exact hv
theorem pt_app {s : List UInt8} (m : List UInt8) (hv : Cssp.valid s = true) (h : s ≠ []) : pt (s ++ m) = pt s /\ pn (s ++ m) = pn s := by
 have hp := (valid_split hv h).1
 have ha := Cssp.piece_app s m h hp
 have hl := (Cssp.piece_le s h).2.1
 have hne : s ++ m ≠ [] := by simp [h]
 constructor
 ·rw [pt, pt, if_neg h, if_neg hne, Cssp.cpt, Cssp.cpt, ha, List.take_append_of_le_length hl]
  cases s with
  | nil => exact absurd rfl h
  | cons c r => rfl
 ·rw [pn, pn, if_neg h, if_neg hne, ha]
theorem pn_le {s : List UInt8} (h : s ≠ []) : 1 <= pn s /\ pn s <= s.length := by
 have := Cssp.piece_le s h
 rw [pn, if_neg h]; omega
theorem valid_pn {s : List UInt8} (hv : Cssp.valid s = true) : Cssp.valid (s.drop (pn s)) = true := by
 by_cases h : s = []
 ·subst h; exact hv
 ·rw [pn, if_neg h]; exact (valid_split hv h).2
theorem runF_fuel (p : Nat -> Bool) : ∀ (f g : Nat) (s : List UInt8), s.length <= f -> s.length <= g -> runF p f s = runF p g s
 | 0, g, s, hf, _ => by
  have : s = [] := List.eq_nil_of_length_eq_zero (by omega)
  subst this
  cases g <;> rfl
 | f + 1, 0, s, _, hg => by
  have : s = [] := List.eq_nil_of_length_eq_zero (by omega)
  subst this; rfl
 | f + 1, g + 1, s, hf, hg => by
  rw [runF, runF]
  by_cases h : s = []
  ·rw [if_pos h, if_pos h]
  ·have := pn_le h
   rw [if_neg h, if_neg h, runF_fuel p f g _ (by rw [List.length_drop]; omega) (by rw [List.length_drop]; omega)]
theorem run_step (p : Nat -> Bool) (s : List UInt8) (h : s ≠ []) : run p s = if p (pt s) = true then pn s + run p (s.drop (pn s)) else 0 := by
 obtain ⟨c, r, rfl⟩ := List.exists_cons_of_ne_nil h
 have := pn_le h
 unfold run
 rw [List.length_cons, runF, if_neg h, runF_fuel p r.length ((c :: r).drop (pn (c :: r))).length _ (by rw [List.length_drop, List.length_cons]; omega) (Nat.le_refl _)]
theorem run_le (p : Nat -> Bool) : ∀ (f : Nat) (s : List UInt8), s.length <= f -> run p s <= s.length
 | 0, s, h => by
  have : s = [] := List.eq_nil_of_length_eq_zero (by omega)
  subst this; exact Nat.le_refl _
 | f + 1, s, h => by
  by_cases h0 : s = []
  ·subst h0; exact Nat.le_refl _
  ·have h1 := pn_le h0
   have ih := run_le p f (s.drop (pn s)) (by rw [List.length_drop]; omega)
   rw [List.length_drop] at ih
   rw [run_step p s h0]
   split <;> omega
theorem run_sp (p : Nat -> Bool) {c : UInt8} (hc : c.toNat < 128) (hp : p c.toNat = false) (D : List UInt8) : ∀ (f : Nat) (s : List UInt8), s.length <= f -> Cssp.valid s = true -> run p (s ++ c :: D) = run p s
 | 0, s, h, _ => by
  have : s = [] := List.eq_nil_of_length_eq_zero (by omega)
  subst this
  rw [List.nil_append, run_step p _ (by simp), pt_ascii hc, hp]; rfl
 | f + 1, s, h, hv => by
  by_cases h0 : s = []
  ·subst h0
   rw [List.nil_append, run_step p _ (by simp), pt_ascii hc, hp]; rfl
  ·have h1 := pn_le h0
   obtain ⟨e1, e2⟩ := pt_app (c :: D) hv h0
   rw [run_step p s h0, run_step p (s ++ c :: D) (by simp), e1, e2, List.drop_append_of_le_length h1.2, run_sp p hc hp D f _ (by rw [List.length_drop]; omega) (valid_pn hv)]
theorem digitsF_le (base : Int) : ∀ (s : List UInt8) (last : UInt8) (any : Bool), (digitsF base last any s).1 <= s.length
 | [], _, _ => Nat.le_refl _
 | c :: r, last, any => by
  have := digitsF_le base r c true
  rw [digitsF, List.length_cons]
  split
  ·split
   ·exact Nat.zero_le _
   ·show _ + 1 <= _; omega
  ·split
   ·exact Nat.zero_le _
   ·show _ + 1 <= _; omega
theorem digits_le (base : Int) (s : List UInt8) : (digits base s).1 <= s.length := digitsF_le base s 95 false
theorem digitsF_sp (base : Int) {c : UInt8} (hc : Sp c) (D : List UInt8) : ∀ (s : List UInt8) (last : UInt8) (any : Bool), digitsF base last any (s ++ c :: D) = digitsF base last any s
 | [], last, any => by
  have h95 : c ≠ 95 := by rcases hc with rfl | rfl <;> decide
  have hx : hexV c < 0 := by rcases hc with rfl | rfl <;> decide
  show (if c = 95 then _ else if hexV c < 0 \/ base <= hexV c then (0, any && last != 95) else _) = _
  rw [if_neg h95, if_pos (.inl hx)]
  rfl
 | d :: r, last, any => by
  rw [List.cons_append, digitsF, digitsF, digitsF_sp base hc D r]
theorem digits_sp (base : Int) {c : UInt8} (hc : Sp c) (s D : List UInt8) : digits base (s ++ c :: D) = digits base s := digitsF_sp base hc D s 95 false
theorem isB_sp {p : UInt8 -> Bool} {c : UInt8} (hp : p c = false) (s D : List UInt8) : isB p (s ++ c :: D) = isB p s := by
 cases s with
 | nil => exact hp
 | cons d r => rfl
theorem isB_ne {p : UInt8 -> Bool} {s : List UInt8} (h : isB p s = true) : 1 <= s.length := by
 cases s with
 | nil => cases h
 | cons c r => simp
theorem drop_sp {s D : List UInt8} {c : UInt8} {k : Nat} (h : k <= s.length) : (s ++ c :: D).drop k = s.drop k ++ c :: D := List.drop_append_of_le_length h
theorem frac_le (s : List UInt8) : (frac s).1 <= s.length := by
 unfold frac
 split
 ·rename_i h
  have := isB_ne h
  split
  ·have := digits_le 10 (s.drop 1)
   rw [List.length_drop] at this
   show _ + 1 <= _; omega
  ·exact this
 ·exact Nat.zero_le _
theorem frac_sp {c : UInt8} (hc : Sp c) (s D : List UInt8) : frac (s ++ c :: D) = frac s := by
 have h1 : isB (· == 46) (s ++ c :: D) = isB (· == 46) s := isB_sp (by rcases hc with rfl | rfl <;> decide) s D
 unfold frac
 rw [h1]
 split
 ·rename_i h
  have hl := isB_ne h
  rw [drop_sp hl, isB_sp (by rcases hc with rfl | rfl <;> decide), digits_sp 10 hc]
 ·rfl
theorem expo_sp {c : UInt8} (hc : Sp c) (s D : List UInt8) : expo (s ++ c :: D) = expo s := by
 have h1 : isB (fun c => c == 101 || c == 69) (s ++ c :: D) = isB (fun c => c == 101 || c == 69) s := isB_sp (by rcases hc with rfl | rfl <;> decide) s D
 unfold expo
 rw [h1]
 split
 ·rename_i h
  have hl := isB_ne h
  rw [drop_sp hl, isB_sp (by rcases hc with rfl | rfl <;> decide)]
  split
  ·rename_i h2
   have hl2 := isB_ne h2
   rw [List.length_drop] at hl2
   rw [drop_sp (by omega), digits_sp 10 hc]
  ·rw [digits_sp 10 hc]
 ·rfl
theorem numeral_sp {c : UInt8} (hc : Sp c) (s D : List UInt8) (h0 : s ≠ []) : numeral (s ++ c :: D) = numeral s := by
 have hs := List.length_pos_iff.2 h0
 have e48 : isB (· == 48) (s ++ c :: D) = isB (· == 48) s := isB_sp (by rcases hc with rfl | rfl <;> decide) s D
 have e46 : isB (· == 46) (s ++ c :: D) = isB (· == 46) s := isB_sp (by rcases hc with rfl | rfl <;> decide) s D
 have hb : baseOf (Cssp.at_ (s ++ c :: D) 1) = baseOf (Cssp.at_ s 1) /\ (baseOf (Cssp.at_ s 1) ≠ 0 -> 2 <= s.length) := by
  match s, h0 with
  | [x], _ =>
   refine ⟨?_, fun h => absurd ?_ h⟩
   ·show baseOf c = baseOf 10
    rcases hc with rfl | rfl <;> decide
   ·rfl
  | x :: y :: r, _ => exact ⟨rfl, fun _ => by simp⟩
 unfold numeral
 rw [e48, e46, hb.1]
 by_cases h1 : isB (· == 48) s = true /\ baseOf (Cssp.at_ s 1) ≠ 0
 ·rw [if_pos h1, if_pos h1]
  have h2 := hb.2 h1.2
  have hd := digits_le (baseOf (Cssp.at_ s 1)) (s.drop 2)
  rw [List.length_drop] at hd
  simp only [drop_sp h2, digits_sp _ hc]
  rw [drop_sp (show (digits (baseOf (Cssp.at_ s 1)) (s.drop 2)).1 + 2 <= s.length by omega), isB_sp (by rcases hc with rfl | rfl <;> decide)]
 ·rw [if_neg h1, if_neg h1]
  simp only [digits_sp _ hc]
  obtain ⟨w, hw⟩ : ∃ w, (if isB (· == 46) s = true then (0, true) else digits 10 s) = w := ⟨_, rfl⟩
  have hwl : w.1 <= s.length := by
   rw [<- hw]
   split
   ·exact Nat.zero_le _
   ·exact digits_le 10 s
  rw [hw]
  have hf := frac_le (s.drop w.1)
  rw [List.length_drop] at hf
  simp only [drop_sp hwl, frac_sp hc]
  rw [isB_sp (by rcases hc with rfl | rfl <;> decide)]
  rw [drop_sp (show w.1 + (frac (s.drop w.1)).1 <= s.length by omega), expo_sp hc]
open Go
def Suf (s : List UInt8) : Prop := ∃ pre, Cssp.valid (pre ++ s) = true
theorem goOn_tail : ∀ (k lo hi n : Nat) (r : List UInt8), 128 <= lo -> (Cssp.goOn k lo hi n r).2 = true -> ∀ i c, i < k -> r[i]? = some c -> 128 <= c.toNat
 | 0, _, _, _, _, _, _, i, _, hi, _ => by omega
 | k + 1, lo, hi, n, [], _, h, i, c, _, hc => by simp at hc
 | k + 1, lo, hi, n, d :: r, hlo, h, 0, c, _, hc => by
  simp at hc; subst hc
  rw [Cssp.goOn] at h
  split at h
  ·cases h
  ·omega
 | k + 1, lo, hi, n, d :: r, hlo, h, i + 1, c, hik, hc => by
  rw [Cssp.goOn] at h
  split at h
  ·cases h
  ·exact goOn_tail k 128 191 (n + 1) r (Nat.le_refl _) h i c (by omega) (by simpa using hc)
theorem first_lo (c : UInt8) : 128 <= (Cssp.first c).1.2.1 := by
 unfold Cssp.first
 (repeat' split) <;> decide
theorem piece_tail {s : List UInt8} (h : s ≠ []) (hp : (Cssp.piece s).2 = true) {i : Nat} {c : UInt8} (h1 : 1 <= i) (hi : i < (Cssp.piece s).1) (hc : s[i]? = some c) : 128 <= c.toNat := by
 cases s with
 | nil => exact absurd rfl h
 | cons d r =>
  rw [Cssp.piece] at hp hi
  by_cases hf : (Cssp.first d).2 = true
  ·rw [if_pos hf] at hp hi
   have hg := Cssp.goOn_le (Cssp.first d).1.1 (Cssp.first d).1.2.1 (Cssp.first d).1.2.2 1 r
   obtain ⟨j, rfl⟩ : ∃ j, i = j + 1 := ⟨i - 1, by omega⟩
   exact goOn_tail _ _ _ _ r (first_lo d) hp j c (by omega) (by simpa using hc)
  ·rw [if_neg hf] at hp; cases hp
theorem suf_valid : ∀ (f : Nat) (pre s : List UInt8) (c : UInt8), pre.length <= f -> c.toNat < 128 -> Cssp.valid (pre ++ c :: s) = true -> Cssp.valid (c :: s) = true
 | f, [], s, c, _, _, h => h
 | 0, d :: pre, s, c, hf, _, _ => by simp at hf
 | f + 1, d :: pre, s, c, hf, hc, h => by
  have hne : d :: pre ++ c :: s ≠ [] := by simp
  obtain ⟨hp, hv⟩ := valid_split h hne
  have hle := Cssp.piece_le _ hne
  by_cases hk : (Cssp.piece (d :: pre ++ c :: s)).1 <= (d :: pre).length
  ·rw [List.drop_append_of_le_length hk] at hv
   have hp1 := hle.1
   obtain ⟨K, hK⟩ : ∃ K, (Cssp.piece (d :: pre ++ c :: s)).1 = K := ⟨_, rfl⟩
   rw [hK] at hv hp1
   rw [List.length_cons] at hf
   exact suf_valid f ((d :: pre).drop K) s c (by rw [List.length_drop, List.length_cons]; omega) hc hv
  ·have := piece_tail hne hp (i := (d :: pre).length) (c := c) (by simp) (Nat.lt_of_not_le hk) (by rw [List.getElem?_append_right (Nat.le_refl _)]; simp)
   omega
theorem Suf.of {s : List UInt8} (h : Cssp.valid s = true) : Suf s := ⟨[], h⟩
theorem Suf.tail {c : UInt8} {s : List UInt8} (h : Suf (c :: s)) : Suf s := by
 obtain ⟨pre, h⟩ := h
 exact ⟨pre ++ [c], by simpa using h⟩
theorem Suf.valid {c : UInt8} {s : List UInt8} (h : Suf (c :: s)) (hc : c.toNat < 128) : Cssp.valid s = true := by
 obtain ⟨pre, h⟩ := h
 have h1 := suf_valid _ pre s c (Nat.le_refl _) hc h
 have h2 := (valid_split h1 (by simp)).2
 rwa [piece_ascii hc] at h2
theorem rawF_fuel (q : UInt8) : ∀ (f g : Nat) (s : List UInt8), s.length < f -> s.length < g -> rawF q f s = rawF q g s
 | 0, _, _, h, _ => by omega
 | _, 0, _, _, h => by omega
 | f + 1, g + 1, [], _, _ => rfl
 | f + 1, g + 1, c :: r, hf, hg => by
  simp only [List.length_cons] at hf hg
  rw [rawF, rawF, rawF_fuel q f g r (by omega) (by omega), rawF_fuel q f g (r.drop (skip r)) (by rw [List.length_drop]; omega) (by rw [List.length_drop]; omega)]
theorem raw_nil (q : UInt8) : raw q [] = .script := rfl
theorem raw_cons (q c : UInt8) (r : List UInt8) : raw q (c :: r) =
  if c = q \/ (q = 96 /\ [36, 123].isPrefixOf (c :: r) = true) then .ends 0
  else if q ≠ 96 /\ (c = 10 \/ c = 13) then .line
  else if c = 92 then (raw q (r.drop (skip r))).on (1 + skip r)
  else (raw q r).on 1 := by
 unfold raw
 rw [rawF, rawF_fuel q (c :: r).length ((r.drop (skip r)).length + 1) (r.drop (skip r)) (by rw [List.length_drop, List.length_cons]; omega) (Nat.lt_succ_self _)]
 rfl
theorem on_ends {x : Raw} {n k : Nat} (h : x.on n = .ends k) : ∃ j, x = .ends j /\ k = j + n := by
 cases x with
 | ends j => exact ⟨j, rfl, by simpa [Raw.on] using h.symm⟩
 | script => cases h
 | line => cases h
theorem pre_sp {a b c : UInt8} (hc : c ≠ b) (s D : List UInt8) (h0 : s ≠ []) : ([a, b] : List UInt8).isPrefixOf (s ++ c :: D) = ([a, b] : List UInt8).isPrefixOf s := by
 match s, h0 with
 | [x], _ => simp [List.isPrefixOf, Ne.symm hc]
 | x :: y :: r, _ => simp [List.isPrefixOf]
theorem raw_sp (q : UInt8) {c0 : UInt8} (h0 : Sp c0) (D : List UInt8) : ∀ (f : Nat) (s : List UInt8) (k : Nat), s.length <= f -> Suf s -> raw q s = .ends k -> raw q (s ++ c0 :: D) = .ends k /\ k < s.length
 | _, [], k, _, _, h => by rw [raw_nil] at h; cases h
 | 0, c :: r, k, hf, _, _ => by simp at hf
 | f + 1, c :: r, k, hf, hs, h => by
  have hf : r.length <= f := by simpa using hf
  have hc0 : c0 ≠ 123 := by rcases h0 with rfl | rfl <;> decide
  rw [raw_cons] at h
  rw [List.cons_append, raw_cons, <- List.cons_append, pre_sp hc0 _ _ (by simp)]
  by_cases h1 : c = q \/ (q = 96 /\ ([36, 123] : List UInt8).isPrefixOf (c :: r) = true)
  ·rw [if_pos h1] at h ⊢
   injection h with h
   subst h
   exact ⟨rfl, by simp⟩
  rw [if_neg h1] at h ⊢
  by_cases h2 : q ≠ 96 /\ (c = 10 \/ c = 13)
  ·rw [if_pos h2] at h; cases h
  rw [if_neg h2] at h ⊢
  by_cases h3 : c = 92
  ·rw [if_pos h3] at h ⊢
   obtain ⟨j, hj, hk⟩ := on_ends h
   have hv := hs.valid (by rw [h3]; decide)
   have hr : r ≠ [] := fun e => by rw [e] at hj; cases hj
   have hsk : skip (r ++ c0 :: D) = skip r /\ skip r <= r.length /\ 1 <= skip r /\ Cssp.valid (r.drop (skip r)) = true := by
    have hp := pn_le hr
    unfold skip
    by_cases h13 : ([13, 10] : List UInt8).isPrefixOf r = true
    ·obtain ⟨t, ht⟩ := List.isPrefixOf_iff_prefix.1 h13
     have h13' : ([13, 10] : List UInt8).isPrefixOf (r ++ c0 :: D) = true := List.isPrefixOf_iff_prefix.2 ⟨t ++ c0 :: D, by rw [<- ht]; simp⟩
     rw [if_pos h13, if_pos h13']
     refine ⟨rfl, by rw [<- ht]; simp, by omega, ?_⟩
     have s1 : Suf (13 :: (10 :: t)) := by have := hs.tail; rw [<- ht] at this; exact this
     have := s1.tail.valid (by decide)
     rw [<- ht]; exact this
    ·rw [if_neg h13]
     have h13' : ¬ ([13, 10] : List UInt8).isPrefixOf (r ++ c0 :: D) = true := fun e => by
      match r, hr with
      | [x], _ =>
       have e' : 13 = x /\ 10 = c0 := by simpa [List.isPrefixOf] using e
       obtain ⟨e1, e2⟩ := e'
       subst e1
       have : skip [13] = 1 := by decide
       rw [this] at hj
       cases hj
      | x :: y :: t, _ => exact h13 (by simpa [List.isPrefixOf] using e)
     rw [if_neg h13', (pt_app (c0 :: D) hv hr).2]
     exact ⟨rfl, hp.2, hp.1, valid_pn hv⟩
   obtain ⟨k1, k2, k3, k4⟩ := hsk
   have ih := raw_sp q h0 D f (r.drop (skip r)) j (by rw [List.length_drop]; omega) (.of k4) hj
   rw [k1, List.drop_append_of_le_length k2, ih.1, hk]
   have hl := ih.2
   rw [List.length_drop] at hl
   exact ⟨rfl, by rw [List.length_cons]; omega⟩
  ·rw [if_neg h3] at h ⊢
   obtain ⟨j, hj, hk⟩ := on_ends h
   have ih := raw_sp q h0 D f r j hf hs.tail hj
   rw [ih.1, hk]
   exact ⟨rfl, by rw [List.length_cons]; have := ih.2; omega⟩
theorem regF_fuel : ∀ (f g : Nat) (b : Bool) (s : List UInt8), s.length < f -> s.length < g -> regF b f s = regF b g s
 | 0, _, _, _, h, _ => by omega
 | _, 0, _, _, _, h => by omega
 | f + 1, g + 1, b, s, hf, hg => by
  by_cases h0 : s = []
  ·subst h0; rfl
  have hp := pn_le h0
  have e1 : ∀ b' k, 1 <= k -> regF b' f (s.drop k) = regF b' g (s.drop k) := fun b' k hk => regF_fuel f g b' _ (by rw [List.length_drop]; omega) (by rw [List.length_drop]; omega)
  rw [regF, regF]
  simp only [List.drop_drop]
  rw [e1 b (1 + pn (s.drop 1)) (by omega), e1 _ (pn s) hp.1]
def regX (b : Bool) (s : List UInt8) : Option Nat := regF b (s.length + 1) s
theorem regX_step (b : Bool) (s : List UInt8) (h0 : s ≠ []) : regX b s =
  if lineEnd (pt s) = true then none
  else if pt s = 92 then (if s.drop 1 = [] then none else if lineEnd (pt (s.drop 1)) = true then none else (regX b (s.drop (1 + pn (s.drop 1)))).map (· + 1 + pn (s.drop 1)))
  else if pt s = 47 /\ b = false then some 0
  else (regX (if pt s = 91 then true else if pt s = 93 then false else b) (s.drop (pn s))).map (· + pn s) := by
 have hp := pn_le h0
 have e1 : ∀ b' k, 1 <= k -> regF b' s.length (s.drop k) = regX b' (s.drop k) := fun b' k hk => regF_fuel _ _ _ _ (by rw [List.length_drop]; omega) (Nat.lt_succ_self _)
 conv => lhs; unfold regX
 rw [regF, if_neg h0]
 simp only [List.drop_drop]
 rw [e1 b (1 + pn (s.drop 1)) (by omega), e1 _ (pn s) hp.1]
theorem pt_small {s : List UInt8} (hv : Cssp.valid s = true) (h0 : s ≠ []) (h : pt s < 128) : ∃ c r, s = c :: r /\ c.toNat = pt s /\ pn s = 1 := by
 obtain ⟨c, r, rfl⟩ := List.exists_cons_of_ne_nil h0
 by_cases hc : c.toNat < 128
 ·exact ⟨c, r, rfl, (pt_ascii hc r).symm, pn_ascii hc r⟩
 ·exfalso
  have hok := (Cssp.cpt_ok (c :: r) h0).1
  rw [pt, if_neg h0] at h
  rw [Cssp.encp1 _ h] at hok
  have hp := (valid_split hv h0).1
  rw [Cssp.code, if_pos hp] at hok
  have hl := Cssp.piece_le (c :: r) h0
  have h1 := congrArg List.head? hok
  obtain ⟨k, hk⟩ : ∃ k, (Cssp.piece (c :: r)).1 = k + 1 := ⟨(Cssp.piece (c :: r)).1 - 1, by omega⟩
  rw [hk, List.take_succ_cons] at h1
  simp only [List.head?_cons, Option.some.injEq] at h1
  have := congrArg UInt8.toNat h1
  rw [UInt8.toNat_ofNat_of_lt' (by show _ < 256; omega)] at this
  omega
theorem regX_sp {c0 : UInt8} (D : List UInt8) : ∀ (f : Nat) (s : List UInt8) (b : Bool) (k : Nat), s.length <= f -> Cssp.valid s = true -> regX b s = some k -> regX b (s ++ c0 :: D) = some k /\ k < s.length
 | 0, s, b, k, hf, _, h => by
  have : s = [] := List.eq_nil_of_length_eq_zero (by omega)
  subst this; cases h
 | f + 1, s, b, k, hf, hv, h => by
  by_cases hs0 : s = []
  ·subst hs0; cases h
  have hp := pn_le hs0
  obtain ⟨e1, e2⟩ := pt_app (c0 :: D) hv hs0
  rw [regX_step b s hs0] at h
  rw [regX_step b (s ++ c0 :: D) (by simp), e1, e2]
  by_cases h1 : lineEnd (pt s) = true
  ·rw [if_pos h1] at h; cases h
  rw [if_neg h1] at h ⊢
  by_cases h2 : pt s = 92
  ·rw [if_pos h2] at h ⊢
   obtain ⟨c, r, rfl, hcc, hpn⟩ := pt_small hv hs0 (by omega)
   have hvr := (Suf.of hv).valid (by rw [hcc, h2]; decide)
   simp only [List.cons_append, List.drop_succ_cons, List.drop_zero] at h ⊢
   by_cases h3 : r = []
   ·rw [if_pos h3] at h; cases h
   rw [if_neg h3] at h
   rw [if_neg (by simp)]
   obtain ⟨e3, e4⟩ := pt_app (c0 :: D) hvr h3
   rw [e3, e4]
   by_cases h4 : lineEnd (pt r) = true
   ·rw [if_pos h4] at h; cases h
   rw [if_neg h4] at h ⊢
   have hpr := pn_le h3
   rw [show 1 + pn r = pn r + 1 by omega] at h ⊢
   simp only [List.drop_succ_cons] at h ⊢
   rw [List.drop_append_of_le_length hpr.2]
   obtain ⟨j, hj, hk⟩ := Option.map_eq_some_iff.1 h
   simp only [List.length_cons] at hf ⊢
   have ih := regX_sp (c0 := c0) D f (r.drop (pn r)) b j (by rw [List.length_drop]; omega) (valid_pn hvr) hj
   rw [ih.1]
   have hl := ih.2
   rw [List.length_drop] at hl
   exact ⟨by rw [<- hk]; rfl, by omega⟩
  rw [if_neg h2] at h ⊢
  by_cases h3 : pt s = 47 /\ b = false
  ·rw [if_pos h3] at h ⊢
   injection h with h
   exact ⟨by rw [h], by omega⟩
  rw [if_neg h3] at h ⊢
  obtain ⟨j, hj, hk⟩ := Option.map_eq_some_iff.1 h
  have ih := regX_sp (c0 := c0) D f (s.drop (pn s)) _ j (by rw [List.length_drop]; omega) (valid_pn hv) hj
  rw [List.drop_append_of_le_length hp.2, ih.1]
  have hl := ih.2
  rw [List.length_drop] at hl
  exact ⟨by rw [<- hk]; rfl, by omega⟩
open Go
theorem Suf.drop {s : List UInt8} (h : Suf s) : ∀ k, Suf (s.drop k)
 | 0 => h
 | k + 1 => by
  have ih := h.drop k
  rw [show s.drop (k + 1) = (s.drop k).drop 1 by rw [List.drop_drop]]
  cases hd : s.drop k with
  | nil => rw [hd] at ih; exact ih
  | cons c r => rw [hd] at ih; exact ih.tail
theorem valid_run (p : Nat -> Bool) : ∀ (f : Nat) (s : List UInt8), s.length <= f -> Cssp.valid s = true -> Cssp.valid (s.drop (run p s)) = true
 | 0, s, hf, hv => by
  have : s = [] := List.eq_nil_of_length_eq_zero (by omega)
  subst this; exact hv
 | f + 1, s, hf, hv => by
  by_cases h0 : s = []
  ·subst h0; exact hv
  ·have hp := pn_le h0
   rw [run_step p s h0]
   split
   ·rw [<- List.drop_drop]
    exact valid_run p f _ (by rw [List.length_drop]; omega) (valid_pn hv)
   ·exact hv
theorem run_app (p : Nat -> Bool) (m : List UInt8) : ∀ (f : Nat) (s : List UInt8), s.length <= f -> Cssp.valid s = true -> run p s < s.length -> run p (s ++ m) = run p s
 | 0, s, hf, _, h => by omega
 | f + 1, s, hf, hv, h => by
  by_cases h0 : s = []
  ·subst h0; simp at h
  ·have hp := pn_le h0
   obtain ⟨e1, e2⟩ := pt_app m hv h0
   rw [run_step p s h0] at h ⊢
   rw [run_step p (s ++ m) (by simp [h0]), e1, e2]
   by_cases hq : p (pt s) = true
   ·rw [if_pos hq] at h ⊢
    rw [if_pos hq, List.drop_append_of_le_length hp.2, run_app p m f _ (by rw [List.length_drop]; omega) (valid_pn hv) (by rw [List.length_drop]; omega)]
   ·rw [if_neg hq, if_neg hq]
theorem shut_cons (c : UInt8) (r : List UInt8) : shut (c :: r) = if c = 42 /\ r.head? = some 47 then some 0 else (shut r).map (· + 1) := rfl
theorem shut_app (m : List UInt8) : ∀ (s : List UInt8) (n : Nat), shut s = some n -> shut (s ++ m) = some n /\ ∃ r, s.drop (n + 1) = 47 :: r
 | [], n, h => by cases h
 | c :: r, n, h => by
  rw [shut_cons] at h
  rw [List.cons_append, shut_cons]
  by_cases h1 : c = 42 /\ r.head? = some 47
  ·rw [if_pos h1] at h
   injection h with h
   subst h
   cases r with
   | nil => cases h1.2
   | cons d r =>
    have hd : d = 47 := by simpa using h1.2
    subst hd
    rw [if_pos ⟨h1.1, rfl⟩]
    exact ⟨rfl, r, rfl⟩
  ·rw [if_neg h1] at h
   obtain ⟨j, hj, hk⟩ := Option.map_eq_some_iff.1 h
   obtain ⟨i1, x, hx⟩ := shut_app m r j hj
   have h2 : ¬ (c = 42 /\ (r ++ m).head? = some 47) := by
    rintro ⟨e1, e2⟩
    cases r with
    | nil => cases hj
    | cons d r => exact h1 ⟨e1, by simpa using e2⟩
   rw [if_neg h2, i1, <- hk]
   exact ⟨rfl, x, by rw [show j + 1 + 1 = (j + 1) + 1 from rfl, List.drop_succ_cons]; exact hx⟩
theorem gapF_fuel : ∀ (f g : Nat) (s : List UInt8), s.length < f -> s.length < g -> gapF f s = gapF g s
 | 0, _, _, h, _ => by omega
 | _, 0, _, _, h => by omega
 | f + 1, g + 1, s, hf, hg => by
  by_cases h0 : s = []
  ·subst h0; rfl
  have hp := pn_le h0
  have e1 : ∀ k, 1 <= k -> gapF f (s.drop k) = gapF g (s.drop k) := fun k hk => gapF_fuel f g _ (by rw [List.length_drop]; omega) (by rw [List.length_drop]; omega)
  rw [gapF, gapF, if_neg h0, if_neg h0, e1 _ hp.1]
  by_cases h1 : blank (pt s) = true \/ lineEnd (pt s) = true
  ·rw [if_pos h1, if_pos h1]
  rw [if_neg h1, if_neg h1]
  have h1' : lineEnd (pt s) = false := by
   cases h : lineEnd (pt s) with
   | false => rfl
   | true => exact absurd (.inr h) h1
  have hr : 1 <= run (fun r => !lineEnd r) s := by
   rw [run_step _ s h0, h1']
   show 1 <= pn s + _
   omega
  simp only [e1 _ hr]
  cases shut (s.drop 2) with
  | none => rfl
  | some n => simp only [e1 (2 + n + 2) (by omega)]
def gapOn (k : Nat) : (Nat × Bool) ⊕ Nat -> (Nat × Bool) ⊕ Nat
 | .inl (n, l) => .inl (n + k, l)
 | .inr o => .inr (o + k)
theorem gap_step (s : List UInt8) (h0 : s ≠ []) : gap s =
  if blank (pt s) = true \/ lineEnd (pt s) = true then gapOn (pn s) (gap (s.drop (pn s)))
  else if [47, 47].isPrefixOf s = true then
   if s.drop (run (fun r => !lineEnd r) s) = [] then .inl (run (fun r => !lineEnd r) s, true) else gapOn (run (fun r => !lineEnd r) s) (gap (s.drop (run (fun r => !lineEnd r) s)))
  else if [47, 42].isPrefixOf s = true then
   match shut (s.drop 2) with
   | none => .inr 0
   | some n => gapOn (2 + n + 2) (gap (s.drop (2 + n + 2)))
  else .inl (0, false) := by
 have hp := pn_le h0
 have e1 : ∀ k, 1 <= k -> gapF s.length (s.drop k) = gap (s.drop k) := fun k hk => gapF_fuel _ _ _ (by rw [List.length_drop]; have := List.length_pos_iff.2 h0; omega) (Nat.lt_succ_self _)
 conv => lhs; unfold gap
 rw [gapF, if_neg h0, e1 _ hp.1]
 by_cases h1 : blank (pt s) = true \/ lineEnd (pt s) = true
 ·rw [if_pos h1, if_pos h1]
  cases gap (s.drop (pn s)) with
  | inl x => rfl
  | inr o => rfl
 rw [if_neg h1, if_neg h1]
 have h1' : lineEnd (pt s) = false := by
  cases h : lineEnd (pt s) with
  | false => rfl
  | true => exact absurd (.inr h) h1
 have hr : 1 <= run (fun r => !lineEnd r) s := by
  rw [run_step _ s h0, h1']
  show 1 <= pn s + _
  omega
 simp only [e1 _ hr]
 by_cases h2 : ([47, 47] : List UInt8).isPrefixOf s = true
 ·rw [if_pos h2, if_pos h2]
  by_cases h3 : s.drop (run (fun r => !lineEnd r) s) = []
  ·simp only [if_pos h3]
  ·simp only [if_neg h3]
   cases gap (s.drop (run (fun r => !lineEnd r) s)) with
   | inl x => rfl
   | inr o => rfl
 ·rw [if_neg h2, if_neg h2]
  split
  ·cases shut (s.drop 2) with
   | none => rfl
   | some n =>
    simp only [e1 (2 + n + 2) (by omega)]
    cases gap (s.drop (2 + n + 2)) with
    | inl x => rfl
    | inr o => rfl
  ·rfl
theorem gapOn_inl {k g : Nat} {ln : Bool} {x : (Nat × Bool) ⊕ Nat} (h : gapOn k x = .inl (g, ln)) : ∃ j, x = .inl (j, ln) /\ g = j + k := by
 cases x with
 | inl y =>
  obtain ⟨n, l⟩ := y
  simp only [gapOn, Sum.inl.injEq, Prod.mk.injEq] at h
  exact ⟨n, by rw [h.2], h.1.symm⟩
 | inr o => cases h
theorem gapOn_on (a b : Nat) (x : (Nat × Bool) ⊕ Nat) : gapOn a (gapOn b x) = gapOn (b + a) x := by
 cases x with
 | inl y =>
  obtain ⟨n, l⟩ := y
  simp only [gapOn, Nat.add_assoc]
 | inr o => simp only [gapOn, Nat.add_assoc]
theorem gap_sp {c0 : UInt8} (hc : Sp c0) (D : List UInt8) : ∀ (f : Nat) (s : List UInt8) (g : Nat) (ln : Bool), s.length <= f -> Cssp.valid s = true -> gap s = .inl (g, ln) ->
  g <= s.length /\ Cssp.valid (s.drop g) = true /\ (s.drop g ≠ [] -> gap (s ++ c0 :: D) = .inl (g, false)) /\ (s.drop g = [] -> ln = false -> gap (s ++ c0 :: D) = gapOn s.length (gap (c0 :: D)))
 | f, [], g, ln, _, hv, h => by
  have e : gap [] = .inl (0, false) := rfl
  rw [e] at h
  injection h with h
  injection h with h1 h2
  subst h1; subst h2
  refine ⟨Nat.le_refl _, hv, fun h => absurd rfl h, fun _ _ => ?_⟩
  rw [List.nil_append]
  cases gap (c0 :: D) with
  | inl y => rfl
  | inr o => rfl
 | 0, c :: r, _, _, hf, _, _ => by simp at hf
 | f + 1, c :: r, g, ln, hf, hv, h => by
  obtain ⟨s, hs⟩ : ∃ s, c :: r = s := ⟨_, rfl⟩
  rw [hs] at hf hv h ⊢
  have h0 : s ≠ [] := by rw [<- hs]; simp
  clear hs
  have hp := pn_le h0
  obtain ⟨e1, e2⟩ := pt_app (c0 :: D) hv h0
  have c47 : c0 ≠ 47 := by rcases hc with rfl | rfl <;> decide
  have c42 : c0 ≠ 42 := by rcases hc with rfl | rfl <;> decide
  rw [gap_step s h0] at h
  rw [gap_step (s ++ c0 :: D) (by simp), e1, e2, pre_sp c47 s D h0, pre_sp c42 s D h0]
  have step : ∀ (k j : Nat), 1 <= k -> k <= s.length -> Cssp.valid (s.drop k) = true -> gap (s.drop k) = .inl (j, ln) -> g = j + k ->
    g <= s.length /\ Cssp.valid (s.drop g) = true /\ (s.drop g ≠ [] -> gapOn k (gap ((s ++ c0 :: D).drop k)) = .inl (g, false)) /\ (s.drop g = [] -> ln = false -> gapOn k (gap ((s ++ c0 :: D).drop k)) = gapOn s.length (gap (c0 :: D))) := fun k j h1 h2 h3 h4 h5 => by
   obtain ⟨i1, i2, i3, i4⟩ := gap_sp hc D f (s.drop k) j ln (by rw [List.length_drop]; omega) h3 h4
   rw [List.length_drop] at i1 i4
   rw [List.drop_drop, show k + j = g by omega] at i2 i3 i4
   rw [List.drop_append_of_le_length h2]
   refine ⟨by omega, i2, fun h => ?_, fun h h' => ?_⟩
   ·rw [i3 h, h5]; rfl
   ·rw [i4 h h', gapOn_on, show s.length - k + k = s.length by omega]
  by_cases h1 : blank (pt s) = true \/ lineEnd (pt s) = true
  ·rw [if_pos h1] at h ⊢
   obtain ⟨j, hj, hg⟩ := gapOn_inl h
   exact step (pn s) j hp.1 hp.2 (valid_pn hv) hj hg
  rw [if_neg h1] at h ⊢
  have h1' : lineEnd (pt s) = false := by
   cases h : lineEnd (pt s) with
   | false => rfl
   | true => exact absurd (.inr h) h1
  by_cases h2 : ([47, 47] : List UInt8).isPrefixOf s = true
  ·rw [if_pos h2] at h ⊢
   have hrl := run_le (fun r => !lineEnd r) s.length s (Nat.le_refl _)
   by_cases h3 : s.drop (run (fun r => !lineEnd r) s) = []
   ·rw [if_pos h3] at h
    injection h with h
    injection h with ha hb
    subst ha; subst hb
    exact ⟨hrl, by rw [h3]; rfl, fun h => absurd h3 h, fun _ h => by cases h⟩
   ·rw [if_neg h3] at h
    have hlt : run (fun r => !lineEnd r) s < s.length := by
     rcases Nat.lt_or_ge (run (fun r => !lineEnd r) s) s.length with h4 | h4
     ·exact h4
     ·exact absurd (List.drop_eq_nil_of_le h4) h3
    rw [run_app _ (c0 :: D) s.length s (Nat.le_refl _) hv hlt]
    have h5 : (s ++ c0 :: D).drop (run (fun r => !lineEnd r) s) ≠ [] := by
     rw [List.drop_append_of_le_length hrl]; simp
    rw [if_neg h5]
    obtain ⟨j, hj, hg⟩ := gapOn_inl h
    have hr : 1 <= run (fun r => !lineEnd r) s := by
     rw [run_step _ s h0, h1']
     show 1 <= pn s + _
     omega
    exact step _ j hr hrl (valid_run _ s.length s (Nat.le_refl _) hv) hj hg
  rw [if_neg h2] at h ⊢
  by_cases h3 : ([47, 42] : List UInt8).isPrefixOf s = true
  ·rw [if_pos h3] at h ⊢
   obtain ⟨t, ht⟩ := List.isPrefixOf_iff_prefix.1 h3
   have hl2 : 2 <= s.length := by rw [<- ht]; simp
   rw [List.drop_append_of_le_length hl2]
   cases hsh : shut (s.drop 2) with
   | none => rw [hsh] at h; cases h
   | some n =>
    rw [hsh] at h
    obtain ⟨a1, x, hx⟩ := shut_app (c0 :: D) (s.drop 2) n hsh
    rw [a1]
    rw [List.drop_drop] at hx
    have hln : 2 + (n + 1) < s.length := by
     rcases Nat.lt_or_ge (2 + (n + 1)) s.length with h4 | h4
     ·exact h4
     ·rw [List.drop_eq_nil_of_le h4] at hx; cases hx
    have hvx : Cssp.valid (s.drop (2 + n + 2)) = true := by
     have hsf := (Suf.of hv).drop (2 + (n + 1))
     rw [hx] at hsf
     have := hsf.valid (by decide)
     rw [show s.drop (2 + n + 2) = x by rw [show 2 + n + 2 = 2 + (n + 1) + 1 by omega, <- List.drop_drop, hx]; rfl]
     exact this
    obtain ⟨j, hj, hg⟩ := gapOn_inl h
    exact step (2 + n + 2) j (by omega) (by omega) hvx hj hg
  ·rw [if_neg h3] at h ⊢
   injection h with h
   injection h with ha hb
   subst ha; subst hb
   exact ⟨Nat.zero_le _, hv, fun _ => rfl, fun h => absurd h h0⟩
open Go
theorem Suf.valid_at {s : List UInt8} (h : Suf s) {k : Nat} {c : UInt8} (hc : s[k]? = some c) (h128 : c.toNat < 128) : Cssp.valid (s.drop (k + 1)) = true := by
 have hk : k < s.length := by
  rcases Nat.lt_or_ge k s.length with h1 | h1
  ·exact h1
  ·rw [List.getElem?_eq_none h1] at hc; cases hc
 have hd : s.drop k = c :: s.drop (k + 1) := by
  rw [List.drop_eq_getElem_cons hk]
  congr 1
  rw [List.getElem?_eq_getElem hk] at hc
  exact Option.some.inj hc
 have := h.drop k
 rw [hd] at this
 exact this.valid h128
def Asc (n : Nat) (s : List UInt8) : Prop := n <= s.length /\ ∀ (i : Nat) (c : UInt8), i < n -> s[i]? = some c -> c.toNat < 128
theorem Asc.zero (s : List UInt8) : Asc 0 s := ⟨Nat.zero_le _, fun _ _ h => by omega⟩
theorem Asc.add {a b : Nat} {s : List UInt8} (h1 : Asc a s) (h2 : Asc b (s.drop a)) : Asc (a + b) s := by
 obtain ⟨l1, a1⟩ := h1
 obtain ⟨l2, a2⟩ := h2
 rw [List.length_drop] at l2
 refine ⟨by omega, fun i c hi hc => ?_⟩
 rcases Nat.lt_or_ge i a with h | h
 ·exact a1 i c h hc
 ·exact a2 (i - a) c (by omega) (by rw [List.getElem?_drop, show a + (i - a) = i by omega]; exact hc)
theorem Asc.valid {n : Nat} {s : List UInt8} (h : Asc n s) (hv : Cssp.valid s = true) : Cssp.valid (s.drop n) = true := by
 cases n with
 | zero => exact hv
 | succ n =>
  have hn : n < s.length := by have := h.1; omega
  exact (Suf.of hv).valid_at (List.getElem?_eq_getElem hn) (h.2 n _ (by omega) (List.getElem?_eq_getElem hn))
theorem Asc.one {p : UInt8 -> Bool} {s : List UInt8} (h : isB p s = true) (hp : ∀ c, p c = true -> c.toNat < 128) : Asc 1 s := by
 cases s with
 | nil => cases h
 | cons c r =>
  refine ⟨by simp, fun i d hi hd => ?_⟩
  obtain rfl : i = 0 := by omega
  simp at hd
  subst hd
  exact hp c h
theorem hexV_asc {c : UInt8} (h : ¬ hexV c < 0) : c.toNat < 128 := by
 unfold hexV at h
 split at h
 ·omega
 ·split at h
  ·omega
  ·split at h
   ·omega
   ·exact absurd (by decide) h
theorem digitsF_asc (base : Int) : ∀ (s : List UInt8) (last : UInt8) (any : Bool), Asc (digitsF base last any s).1 s
 | [], _, _ => Asc.zero _
 | c :: r, last, any => by
  have ih := digitsF_asc base r c true
  have one : c.toNat < 128 -> Asc ((digitsF base c true r).1 + 1) (c :: r) := fun h => by
   rw [Nat.add_comm]
   have a1 : Asc 1 (c :: r) := by
    refine ⟨by simp, fun i d hi hd => ?_⟩
    have h0 : i = 0 := by omega
    rw [h0] at hd
    simp at hd
    rw [<- hd]; exact h
   exact Asc.add (b := (digitsF base c true r).1) a1 ih
  rw [digitsF]
  split
  ·rename_i h95
   split
   ·exact Asc.zero _
   ·exact one (by rw [h95]; decide)
  ·split
   ·exact Asc.zero _
   ·rename_i h
    exact one (hexV_asc fun e => h (.inl e))
theorem digits_asc (base : Int) (s : List UInt8) : Asc (digits base s).1 s := digitsF_asc base s 95 false
theorem b46 : ∀ c : UInt8, (c == 46) = true -> c.toNat < 128 := fun c h => by rw [beq_iff_eq.1 h]; decide
theorem b110 : ∀ c : UInt8, (c == 110) = true -> c.toNat < 128 := fun c h => by rw [beq_iff_eq.1 h]; decide
theorem bE : ∀ c : UInt8, (c == 101 || c == 69) = true -> c.toNat < 128 := fun c h => by
 rw [Bool.or_eq_true, beq_iff_eq, beq_iff_eq] at h
 rcases h with rfl | rfl <;> decide
theorem bS : ∀ c : UInt8, (c == 43 || c == 45) = true -> c.toNat < 128 := fun c h => by
 rw [Bool.or_eq_true, beq_iff_eq, beq_iff_eq] at h
 rcases h with rfl | rfl <;> decide
theorem frac_asc (s : List UInt8) : Asc (frac s).1 s := by
 unfold frac
 split
 ·rename_i h
  have h1 := Asc.one h b46
  split
  ·rw [Nat.add_comm]; exact h1.add (digits_asc 10 _)
  ·exact h1
 ·exact Asc.zero _
theorem expo_asc (s : List UInt8) : Asc (expo s).1 s := by
 unfold expo
 split
 ·rename_i h
  have h1 := Asc.one h bE
  split
  ·rename_i h2
   have h3 := h1.add (Asc.one h2 bS)
   rw [Nat.add_comm]; exact h3.add (digits_asc 10 _)
  ·rw [Nat.add_comm]; exact h1.add (digits_asc 10 _)
 ·exact Asc.zero _
theorem base_asc {c : UInt8} (h : baseOf c ≠ 0) : c.toNat < 128 := by
 unfold baseOf at h
 split at h
 ·rename_i e; rcases e with rfl | rfl <;> decide
 ·split at h
  ·rename_i e; rcases e with rfl | rfl <;> decide
  ·split at h
   ·rename_i e; rcases e with rfl | rfl <;> decide
   ·exact absurd rfl h
theorem numeral_asc (s : List UInt8) (h0 : s ≠ []) : Asc (numeral s).1 s := by
 unfold numeral
 split
 ·rename_i h
  obtain ⟨h1, h2⟩ := h
  have a1 := Asc.one h1 (fun c hc => by rw [beq_iff_eq.1 hc]; decide)
  have a2 : Asc 2 s := by
   match s, h0, h1, h2 with
   | [x], _, _, h2 => exact absurd rfl h2
   | x :: y :: r, _, h1, h2 =>
    refine ⟨by simp, fun i c hi hc => ?_⟩
    match i, hi, hc with
    | 0, _, hc => exact a1.2 0 c (by omega) hc
    | 1, _, hc =>
     simp at hc
     subst hc
     exact base_asc h2
  have a3 := a2.add (digits_asc (baseOf (Cssp.at_ s 1)) (s.drop 2))
  simp only
  split
  ·rename_i h3
   have a4 := a3.add (Asc.one (by rw [Nat.add_comm]; exact h3.2) b110)
   rw [show (digits (baseOf (Cssp.at_ s 1)) (s.drop 2)).1 + 3 = 2 + (digits (baseOf (Cssp.at_ s 1)) (s.drop 2)).1 + 1 by omega]
   exact a4
  ·rw [Nat.add_comm]; exact a3
 ·simp only
  obtain ⟨w, hw⟩ : ∃ w, (if isB (· == 46) s = true then (0, true) else digits 10 s) = w := ⟨_, rfl⟩
  have aw : Asc w.1 s := by
   rw [<- hw]
   split
   ·exact Asc.zero _
   ·exact digits_asc 10 s
  rw [hw]
  have af := aw.add (frac_asc (s.drop w.1))
  split
  ·exact aw
  ·split
   ·rename_i h
    exact aw.add (Asc.one h.2 b110)
   ·split
    ·exact af
    ·exact af.add (by exact expo_asc _)
theorem raw_end (q : UInt8) : ∀ (f : Nat) (s : List UInt8) (k : Nat), s.length <= f -> raw q s = .ends k -> (s[k]? = some q \/ (q = 96 /\ s[k]? = some 36 /\ s[k + 1]? = some 123)) 
 | _, [], k, _, h => by rw [raw_nil] at h; cases h
 | 0, c :: r, k, hf, _ => by simp at hf
 | f + 1, c :: r, k, hf, h => by
  have hf : r.length <= f := by simpa using hf
  rw [raw_cons] at h
  by_cases h1 : c = q \/ (q = 96 /\ ([36, 123] : List UInt8).isPrefixOf (c :: r) = true)
  ·rw [if_pos h1] at h
   injection h with h
   subst h
   rcases h1 with h1 | ⟨h1, h2⟩
   ·left; rw [h1]; rfl
   ·right
    obtain ⟨t, ht⟩ := List.isPrefixOf_iff_prefix.1 h2
    rw [<- ht]
    exact ⟨h1, rfl, rfl⟩
  rw [if_neg h1] at h
  by_cases h2 : q ≠ 96 /\ (c = 10 \/ c = 13)
  ·rw [if_pos h2] at h; cases h
  rw [if_neg h2] at h
  by_cases h3 : c = 92
  ·rw [if_pos h3] at h
   obtain ⟨j, hj, hk⟩ := on_ends h
   have ih := raw_end q f (r.drop (skip r)) j (by rw [List.length_drop]; omega) hj
   rw [List.getElem?_drop, List.getElem?_drop] at ih
   rw [hk, show j + (1 + skip r) = (skip r + j) + 1 by omega, List.getElem?_cons_succ, List.getElem?_cons_succ]
   exact ih
  ·rw [if_neg h3] at h
   obtain ⟨j, hj, hk⟩ := on_ends h
   have ih := raw_end q f r j hf hj
   rw [hk, List.getElem?_cons_succ, List.getElem?_cons_succ]
   exact ih
theorem reg_end : ∀ (f : Nat) (s : List UInt8) (b : Bool) (k : Nat), s.length <= f -> Cssp.valid s = true -> regX b s = some k -> s[k]? = some 47
 | 0, s, b, k, hf, _, h => by
  have : s = [] := List.eq_nil_of_length_eq_zero (by omega)
  subst this; cases h
 | f + 1, s, b, k, hf, hv, h => by
  by_cases hs0 : s = []
  ·subst hs0; cases h
  have hp := pn_le hs0
  rw [regX_step b s hs0] at h
  by_cases h1 : lineEnd (pt s) = true
  ·rw [if_pos h1] at h; cases h
  rw [if_neg h1] at h
  by_cases h2 : pt s = 92
  ·rw [if_pos h2] at h
   obtain ⟨c, r, rfl, hcc, hpn⟩ := pt_small hv hs0 (by omega)
   have hvr := (Suf.of hv).valid (by rw [hcc, h2]; decide)
   simp only [List.drop_succ_cons, List.drop_zero] at h
   by_cases h3 : r = []
   ·rw [if_pos h3] at h; cases h
   rw [if_neg h3] at h
   by_cases h4 : lineEnd (pt r) = true
   ·rw [if_pos h4] at h; cases h
   rw [if_neg h4] at h
   have hpr := pn_le h3
   rw [show 1 + pn r = pn r + 1 by omega] at h
   simp only [List.drop_succ_cons] at h
   obtain ⟨j, hj, hk⟩ := Option.map_eq_some_iff.1 h
   simp only [List.length_cons] at hf
   have ih := reg_end f (r.drop (pn r)) b j (by rw [List.length_drop]; omega) (valid_pn hvr) hj
   rw [List.getElem?_drop] at ih
   rw [<- hk, show j + 1 + pn r = (pn r + j) + 1 by omega, List.getElem?_cons_succ]
   exact ih
  rw [if_neg h2] at h
  by_cases h3 : pt s = 47 /\ b = false
  ·rw [if_pos h3] at h
   injection h with h
   subst h
   obtain ⟨c, r, rfl, hcc, hpn⟩ := pt_small hv hs0 (by omega)
   show some c = some 47
   rw [show c = 47 from UInt8.toNat_inj.1 (by rw [hcc, h3.1]; rfl)]
  rw [if_neg h3] at h
  obtain ⟨j, hj, hk⟩ := Option.map_eq_some_iff.1 h
  have ih := reg_end f (s.drop (pn s)) _ j (by rw [List.length_drop]; omega) (valid_pn hv) hj
  rw [List.getElem?_drop] at ih
  rw [<- hk, Nat.add_comm]
  exact ih
theorem digitsF_pos (base : Int) {c : UInt8} {r : List UInt8} (h : ¬ hexV c < 0) (h2 : hexV c < base) (h95 : c ≠ 95) (last : UInt8) (any : Bool) : 1 <= (digitsF base last any (c :: r)).1 := by
 rw [digitsF, if_neg h95, if_neg (by rintro (e | e); exact h e; omega)]
 show 1 <= _ + 1
 omega
theorem numeral_pos {s : List UInt8} (c3 : digit (pt s) = true \/ (pt s = 46 /\ digit (pt (s.drop 1)) = true)) (hv : Cssp.valid s = true) (h0 : s ≠ []) (_h2 : (numeral s).2 = true) (hz : (numeral s).1 = 0) : False := by
 have hlt : pt s < 128 := by
  rcases c3 with h | h
  ·simp only [digit, Bool.and_eq_true, decide_eq_true_eq] at h; omega
  ·omega
 obtain ⟨c, r, rfl, hcc, _⟩ := pt_small hv h0 hlt
 unfold numeral at hz
 split at hz
 ·simp only at hz
  split at hz
  ·simp at hz
  ·simp at hz
 ·simp only at hz
  by_cases h46 : c = 46
  ·have e46 : isB (· == 46) (c :: r) = true := by rw [h46]; rfl
   simp only [e46, if_true] at hz
   rw [if_neg (by simp), if_neg (by simp)] at hz
   have hf : 1 <= (frac (c :: r)).1 := by
    unfold frac
    rw [if_pos e46]
    split
    ·show 1 <= _ + 1; omega
    ·exact Nat.le_refl _
   simp only [List.drop_zero] at hz
   split at hz
   ·simp only at hz; omega
   ·simp only at hz; omega
  ·have e46 : isB (· == 46) (c :: r) = false := beq_eq_false_iff_ne.2 h46
   have hd : 48 <= c.toNat /\ c.toNat <= 57 := by
    rcases c3 with h | h
    ·simp only [digit, Bool.and_eq_true, decide_eq_true_eq] at h; omega
    ·exfalso; apply h46; exact UInt8.toNat_inj.1 (by rw [hcc, h.1]; rfl)
   have hw : 1 <= (digits 10 (c :: r)).1 := by
    refine digitsF_pos 10 ?_ ?_ ?_ _ _
    ·unfold hexV; rw [if_pos hd]; omega
    ·unfold hexV; rw [if_pos hd]; omega
    ·rintro rfl
     have : (95 : UInt8).toNat = 95 := rfl
     omega
   simp only [e46, Bool.false_eq_true, if_false, true_and] at hz
   split at hz
   ·simp only at hz; omega
   ·split at hz
    ·simp at hz
    ·split at hz
     ·simp only at hz; omega
     ·simp only at hz; omega
theorem pre_not {c0 : UInt8} (D : List UInt8) : ∀ (m s : List UInt8), c0 ∉ m -> m.isPrefixOf (s ++ c0 :: D) = m.isPrefixOf s
 | [], _, _ => by simp
 | x :: m, [], h => by
  have : x ≠ c0 := fun e => h (by rw [e]; simp)
  simp [List.isPrefixOf, this]
 | x :: m, y :: s, h => by
  rw [List.cons_append, List.isPrefixOf, List.isPrefixOf, pre_not D m s (fun e => h (List.mem_cons_of_mem _ e))]
theorem find_congr {α : Type} {p q : α -> Bool} : ∀ l : List α, (∀ m ∈ l, p m = q m) -> l.find? p = l.find? q
 | [], _ => rfl
 | a :: l, h => by
  rw [List.find?_cons, List.find?_cons, h a (by simp), find_congr l fun m hm => h m (List.mem_cons_of_mem _ hm)]
theorem marks_no : ∀ m ∈ marks, (32 : UInt8) ∉ m /\ (10 : UInt8) ∉ m /\ (∀ c ∈ m, c.toNat < 128) /\ 1 <= m.length := by decide
theorem markOf_sp {c0 : UInt8} (hc : Sp c0) (D s : List UInt8) : markOf (s ++ c0 :: D) = markOf s := by
 unfold markOf
 refine find_congr _ fun m hm => ?_
 have hno : c0 ∉ m := by rcases hc with rfl | rfl; exact (marks_no m hm).1; exact (marks_no m hm).2.1
 rw [pre_not D m s hno]
 by_cases hp : m.isPrefixOf s = true
 ·by_cases h2 : m = [63, 46]
  ·have hl : 2 <= s.length := by
    have := List.IsPrefix.length_le (List.isPrefixOf_iff_prefix.1 hp)
    rw [h2] at this; exact this
   rw [drop_sp hl, isB_sp (by rcases hc with rfl | rfl <;> decide)]
  ·rw [beq_eq_false_iff_ne.2 h2]; simp
 ·rw [Bool.eq_false_iff.2 hp]; simp
theorem markOf_some {s m : List UInt8} (h : markOf s = some m) : m ∈ marks /\ m.isPrefixOf s = true := by
 unfold markOf at h
 have h1 := List.mem_of_find?_eq_some h
 have h2 := List.find?_some h
 rw [Bool.and_eq_true] at h2
 exact ⟨h1, h2.1⟩
open Go
theorem goesOn_sp {c : UInt8} (h : Sp c) : goesOn c.toNat = false := by rcases h with rfl | rfl <;> decide
theorem name_sp {c0 : UInt8} (hc : Sp c0) (D s : List UInt8) (hv : Cssp.valid s = true) : name (s ++ c0 :: D) = name s := run_sp goesOn hc.lt (goesOn_sp hc) D s.length s (Nat.le_refl _) hv
theorem name_le (s : List UInt8) : name s <= s.length := run_le goesOn s.length s (Nat.le_refl _)
theorem valid_name {s : List UInt8} (hv : Cssp.valid s = true) : Cssp.valid (s.drop (name s)) = true := valid_run goesOn s.length s (Nat.le_refl _) hv
theorem take_sp {s D : List UInt8} {c : UInt8} {k : Nat} (h : k <= s.length) : (s ++ c :: D).take k = s.take k := List.take_append_of_le_length h
theorem pt_sp {c0 : UInt8} (hc : Sp c0) (D r : List UInt8) (hv : Cssp.valid r = true) : digit (pt (r ++ c0 :: D)) = digit (pt r) := by
 by_cases h : r = []
 ·subst h
  rw [List.nil_append, pt_ascii hc.lt]
  rcases hc with rfl | rfl <;> decide
 ·rw [(pt_app (c0 :: D) hv h).1]
theorem at0_app {s : List UInt8} (m : List UInt8) (h : s ≠ []) : Cssp.at_ (s ++ m) 0 = Cssp.at_ s 0 := by
 cases s with
 | nil => exact absurd rfl h
 | cons c r => rfl
theorem Cssp_at_app {s m : List UInt8} {k : Nat} (h : k < s.length) : Cssp.at_ (s ++ m) k = Cssp.at_ s k := by
 simp only [Cssp.at_, List.getD_eq_getElem?_getD, List.getElem?_append_left h]
theorem quote_sp {c0 : UInt8} (hc : Sp c0) (D s : List UInt8) (h0 : s ≠ []) (hs : Suf (s.drop 1)) {k : Nat} {v : List UInt8} (h : quote s = .inr (k, v)) :
  quote (s ++ c0 :: D) = .inr (k, v) /\ k + 2 <= s.length /\ s[k + 1]? = some (Cssp.at_ s 0) \/ Cssp.at_ s 0 = 96 := by
 by_cases h96 : Cssp.at_ s 0 = 96
 ·exact .inr h96
 left
 have hl := List.length_pos_iff.2 h0
 unfold quote at h ⊢
 rw [at0_app _ h0, drop_sp (show 1 <= s.length by omega)]
 cases hr : raw (Cssp.at_ s 0) (s.drop 1) with
 | script => rw [hr] at h; cases h
 | line => rw [hr] at h; cases h
 | ends j =>
  rw [hr] at h
  obtain ⟨e1, e2⟩ := raw_sp (Cssp.at_ s 0) hc D (s.drop 1).length (s.drop 1) j (Nat.le_refl _) hs hr
  have e3 := raw_end (Cssp.at_ s 0) (s.drop 1).length (s.drop 1) j (Nat.le_refl _) hr
  rw [e1]
  simp only
  rw [take_sp (Nat.le_of_lt e2)]
  have h' : (match cook false ((s.drop 1).take j) with
   | .inl v => (.inr (j, v) : Rs ⊕ (Nat × List UInt8))
   | .inr o => .inl (.no 172 (o + 1))) = .inr (k, v) := h
  refine ⟨h', ?_, ?_⟩
  ·have hjk : j = k := by
    cases hk : cook false ((s.drop 1).take j) with
    | inl w => rw [hk] at h'; injection h' with h'; injection h' with a b
    | inr o => rw [hk] at h'; cases h'
   rw [List.length_drop] at e2
   omega
  ·have hjk : j = k := by
    cases hk : cook false ((s.drop 1).take j) with
    | inl w => rw [hk] at h'; injection h' with h'; injection h' with a b
    | inr o => rw [hk] at h'; cases h'
   rcases e3 with e3 | ⟨e3, _⟩
   ·rw [List.getElem?_drop, hjk, Nat.add_comm] at e3; exact e3
   ·exact absurd e3 h96
theorem tmpl_sp {c0 : UInt8} (hc : Sp c0) (D s : List UInt8) (h0 : s ≠ []) (hs : Suf s) (st : St) {x : Tk} {k : Nat} {st2 : St} (h : tmpl st s = .ok x k st2) :
  tmpl st (s ++ c0 :: D) = .ok x k st2 /\ 1 <= k /\ k <= s.length /\ Cssp.valid (s.drop k) = true := by
 have hl := List.length_pos_iff.2 h0
 have hs1 : Suf (s.drop 1) := hs.drop 1
 have e125 : isB (· == 125) (s ++ c0 :: D) = isB (· == 125) s := isB_sp (by rcases hc with rfl | rfl <;> decide) s D
 unfold tmpl at h ⊢
 rw [e125, drop_sp (show 1 <= s.length by omega)]
 simp only at h ⊢
 cases hr : raw 96 (s.drop 1) with
 | script => rw [hr] at h; cases h
 | line => rw [hr] at h; cases h
 | ends j =>
  rw [hr] at h
  obtain ⟨e1, e2⟩ := raw_sp 96 hc D (s.drop 1).length (s.drop 1) j (Nat.le_refl _) hs1 hr
  have e3 := raw_end 96 (s.drop 1).length (s.drop 1) j (Nat.le_refl _) hr
  rw [List.getElem?_drop, List.getElem?_drop, Nat.add_comm 1 j, show 1 + (j + 1) = j + 2 by omega] at e3
  rw [List.length_drop] at e2
  rw [e1]
  simp only at h ⊢
  rw [take_sp (show j <= (s.drop 1).length by rw [List.length_drop]; omega)]
  cases hk : cook true ((s.drop 1).take j) with
  | inr o => rw [hk] at h; cases h
  | inl v =>
   rw [hk] at h
   simp only at h ⊢
   rw [Cssp_at_app (show j + 1 < s.length by omega)]
   by_cases h96 : Cssp.at_ s (j + 1) = 96
   ·rw [if_pos h96] at h ⊢
    rw [take_sp (show j + 2 <= s.length by omega)]
    have hk2 : k = j + 2 := by injection h with a b c; exact b.symm
    have hat : s[j + 1]? = some 96 := by
     rw [List.getElem?_eq_getElem (by omega)]
     rw [Cssp.at_, List.getD_eq_getElem?_getD, List.getElem?_eq_getElem (by omega)] at h96
     exact congrArg some h96
    exact ⟨h, by omega, by omega, by rw [hk2]; exact hs.valid_at hat (by decide)⟩
   ·rw [if_neg h96] at h ⊢
    have hd : s[j + 1]? = some 36 /\ s[j + 2]? = some 123 := by
     rcases e3 with e3 | e3
     ·exfalso
      apply h96
      rw [Cssp.at_, List.getD_eq_getElem?_getD, e3]; rfl
     ·exact e3.2
    have hl3 : j + 2 < s.length := by
     rcases Nat.lt_or_ge (j + 2) s.length with h1 | h1
     ·exact h1
     ·rw [List.getElem?_eq_none h1] at hd; cases hd.2
    rw [take_sp (show j + 3 <= s.length by omega)]
    cases hp : push (if isB (· == 125) s = true then pop st else st) 36 with
    | none => rw [hp] at h; cases h
    | some st3 =>
     rw [hp] at h
     have hk2 : k = j + 3 := by injection h with a b c; exact b.symm
     exact ⟨h, by omega, by omega, by rw [hk2]; exact hs.valid_at hd.2 (by decide)⟩
theorem next_sp {c0 : UInt8} (hc : Sp c0) (D s : List UInt8) (st : St) (hv : Cssp.valid s = true) (h0 : s ≠ []) {x : Tk} {k : Nat} {st2 : St} (h : next st s = .ok x k st2) :
  next st (s ++ c0 :: D) = .ok x k st2 /\ 1 <= k /\ k <= s.length /\ Cssp.valid (s.drop k) = true := by
 have hl := List.length_pos_iff.2 h0
 have hsf := Suf.of hv
 have ept := (pt_app (c0 :: D) hv h0).1
 unfold next at h ⊢
 rw [ept]
 by_cases c1 : begins (pt s) = true
 ·rw [if_pos c1] at h ⊢
  rw [name_sp hc D s hv, take_sp (name_le s)]
  have hk : k = name s := by injection h with a b c; exact b.symm
  have h1 : 1 <= name s := by
   unfold name
   rw [run_step _ s h0, if_pos (by unfold goesOn; rw [c1]; rfl)]
   have := (pn_le h0).1
   omega
  exact ⟨h, by omega, by rw [hk]; exact name_le s, by rw [hk]; exact valid_name hv⟩
 rw [if_neg c1] at h ⊢
 by_cases c2 : pt s = 35
 ·rw [if_pos c2] at h ⊢
  obtain ⟨c, r, rfl, hcc, _⟩ := pt_small hv h0 (by omega)
  have hvr := hsf.valid (by rw [hcc, c2]; decide)
  simp only [List.cons_append, List.drop_succ_cons, List.drop_zero] at h ⊢
  by_cases c3 : r = [] \/ begins (pt r) = false
  ·rw [if_pos c3] at h; cases h
  rw [if_neg c3] at h
  have hr : r ≠ [] := fun e => c3 (.inl e)
  rw [(pt_app (c0 :: D) hvr hr).1, if_neg (by rintro (e | e); exact absurd e (by simp); exact c3 (.inr e)), name_sp hc D r hvr]
  have hk : k = 1 + name r := by injection h with a b c; exact b.symm
  have hnl := name_le r
  rw [<- List.cons_append, take_sp (show 1 + name r <= (c :: r).length by rw [List.length_cons]; omega)]
  refine ⟨h, by omega, by rw [hk, List.length_cons]; omega, ?_⟩
  rw [hk, Nat.add_comm, List.drop_succ_cons]
  exact valid_name hvr
 rw [if_neg c2] at h ⊢
 have e3 : (digit (pt s) = true \/ (pt s = 46 /\ digit (pt ((s ++ c0 :: D).drop 1)) = true)) ↔ (digit (pt s) = true \/ (pt s = 46 /\ digit (pt (s.drop 1)) = true)) := by
  by_cases h46 : pt s = 46
  ·obtain ⟨c, r, rfl, hcc, _⟩ := pt_small hv h0 (by omega)
   have hvr := hsf.valid (by rw [hcc, h46]; decide)
   simp only [List.cons_append, List.drop_succ_cons, List.drop_zero]
   rw [pt_sp hc D r hvr]
  ·simp [h46]
 by_cases c3 : digit (pt s) = true \/ (pt s = 46 /\ digit (pt (s.drop 1)) = true)
 ·rw [if_pos c3] at h
  rw [if_pos (e3.2 c3)]
  have ha := numeral_asc s h0
  have hvn := ha.valid hv
  simp only at h ⊢
  rw [numeral_sp hc s D h0, drop_sp ha.1, name_sp hc D _ hvn]
  by_cases c4 : (numeral s).2 = false \/ name (s.drop (numeral s).1) ≠ 0
  ·rw [if_pos c4] at h; cases h
  rw [if_neg c4] at h ⊢
  rw [take_sp ha.1]
  have hk : k = (numeral s).1 := by injection h with a b c; exact b.symm
  refine ⟨h, ?_, by rw [hk]; exact ha.1, by rw [hk]; exact hvn⟩
  rw [hk]
  rcases Nat.eq_zero_or_pos (numeral s).1 with hz | hz
  ·exfalso
   exact numeral_pos c3 hv h0 (by
    cases h2 : (numeral s).2 with
    | true => rfl
    | false => exact absurd (.inl h2) c4) hz
  ·exact hz
 rw [if_neg c3] at h
 rw [if_neg fun e => c3 (e3.1 e)]
 by_cases c4 : pt s = 34 \/ pt s = 39
 ·rw [if_pos c4] at h ⊢
  have hq : Cssp.at_ s 0 ≠ 96 /\ (Cssp.at_ s 0).toNat < 128 := by
   obtain ⟨c, r, rfl, hcc, _⟩ := pt_small hv h0 (by omega)
   have hca : Cssp.at_ (c :: r) 0 = c := rfl
   rw [hca]
   constructor
   ·rintro rfl
    have : (96 : UInt8).toNat = 96 := rfl
    omega
   ·omega
  cases hqq : quote s with
  | inl r =>
   rw [hqq] at h
   simp only at h
   exfalso
   unfold quote at hqq
   revert hqq
   cases raw (Cssp.at_ s 0) (s.drop 1) with
   | ends j =>
    simp only
    cases cook false ((s.drop 1).take j) with
    | inl w => intro e; cases e
    | inr o => intro e; injection e with e; rw [<- e] at h; cases h
   | script => intro e; injection e with e; rw [<- e] at h; cases h
   | line => intro e; injection e with e; rw [<- e] at h; cases h
  | inr p =>
   obtain ⟨j, v⟩ := p
   rw [hqq] at h
   simp only at h
   rcases quote_sp hc D s h0 (hsf.drop 1) hqq with ⟨e1, e2, e4⟩ | e
   ·rw [e1]
    simp only
    rw [take_sp e2]
    have hk : k = j + 2 := by injection h with a b c; exact b.symm
    refine ⟨h, by omega, by omega, by rw [hk]; exact hsf.valid_at e4 hq.2⟩
   ·exact absurd e hq.1
 rw [if_neg c4] at h ⊢
 by_cases c5 : pt s = 96 \/ (pt s = 125 /\ top st = 36)
 ·rw [if_pos c5] at h ⊢
  exact tmpl_sp hc D s h0 hsf st h
 rw [if_neg c5] at h ⊢
 by_cases c6 : pt s = 47 /\ st.goal = true
 ·rw [if_pos c6] at h ⊢
  obtain ⟨c, r, rfl, hcc, _⟩ := pt_small hv h0 (by omega)
  have hvr := hsf.valid (by rw [hcc, c6.1]; decide)
  simp only [List.cons_append, List.drop_succ_cons, List.drop_zero] at h ⊢
  have er : ∀ t, reg t = regX false t := fun _ => rfl
  rw [er] at h ⊢
  cases hr : regX false r with
  | none => rw [hr] at h; cases h
  | some j =>
   rw [hr] at h
   obtain ⟨e1, e2⟩ := regX_sp (c0 := c0) D r.length r false j (Nat.le_refl _) hvr hr
   rw [e1]
   (try simp only at h ⊢)
   have hvj : Cssp.valid (r.drop (j + 1)) = true := by
    have := reg_end r.length r false j (Nat.le_refl _) hvr hr
    exact (Suf.of hvr).valid_at this (by decide)
   rw [show j + 2 = (j + 1) + 1 by omega] at h ⊢
   (try simp only [List.drop_succ_cons] at h ⊢)
   rw [drop_sp (show j + 1 <= r.length by omega), name_sp hc D _ hvj]
   have hnl := name_le (r.drop (j + 1))
   rw [List.length_drop] at hnl
   have hk : k = j + 1 + 1 + name (r.drop (j + 1)) := by injection h with a b c; exact b.symm
   rw [<- List.cons_append, take_sp (show j + 1 + 1 + name (r.drop (j + 1)) <= (c :: r).length by rw [List.length_cons]; omega)]
   refine ⟨h, by omega, by rw [hk, List.length_cons]; omega, ?_⟩
   rw [hk, show j + 1 + 1 + name (r.drop (j + 1)) = (j + 1 + name (r.drop (j + 1))) + 1 by omega, List.drop_succ_cons, <- List.drop_drop]
   exact valid_name hvj
 rw [if_neg c6] at h ⊢
 rw [markOf_sp hc D s]
 cases hm : markOf s with
 | none => rw [hm] at h; cases h
 | some m =>
  rw [hm] at h
  (try simp only at h ⊢)
  obtain ⟨m1, m2⟩ := markOf_some hm
  obtain ⟨t, ht⟩ := List.isPrefixOf_iff_prefix.1 m2
  obtain ⟨_, _, m3, m4⟩ := marks_no m m1
  cases hb : bracket st m with
  | none => rw [hb] at h; cases h
  | some st3 =>
   rw [hb] at h
   have hk : k = m.length := by injection h with a b c; exact b.symm
   have hml : m.length <= s.length := by rw [<- ht]; simp
   have ha : Asc m.length s := ⟨hml, fun i c hi hcc => m3 c (by
    rw [<- ht, List.getElem?_append_left hi] at hcc
    exact List.mem_of_getElem? hcc)⟩
   exact ⟨h, by omega, by omega, by rw [hk]; exact ha.valid hv⟩
open Go
theorem lexF_fuel : ∀ (f g : Nat) (st : St) (s : List UInt8) (p : Nat) (l : List Tk), Cssp.valid s = true -> s.length < f -> s.length < g -> lexF f st s p l = lexF g st s p l
 | 0, _, _, _, _, _, _, h, _ => by omega
 | _, 0, _, _, _, _, _, _, h => by omega
 | f + 1, g + 1, st, s, p, l, hv, hf, hg => by
  rw [lexF, lexF]
  cases hgp : gap s with
  | inr o => rfl
  | inl y =>
   obtain ⟨j, ln⟩ := y
   simp only
   by_cases h1 : s.drop j = []
   ·rw [if_pos h1, if_pos h1]
   ·rw [if_neg h1, if_neg h1]
    obtain ⟨i1, i2, _, _⟩ := gap_sp (c0 := 32) (.inl rfl) [] s.length s j ln (Nat.le_refl _) hv hgp
    cases hn : next st (s.drop j) with
    | no e o => rfl
    | ok x k st2 =>
     simp only
     obtain ⟨_, n1, n2, n3⟩ := next_sp (c0 := 32) (.inl rfl) [] (s.drop j) st i2 h1 hn
     rw [List.drop_drop] at n3
     rw [List.length_drop] at n2
     exact lexF_fuel f g st2 _ _ _ n3 (by rw [List.length_drop]; omega) (by rw [List.length_drop]; omega)
def lexX (st : St) (s : List UInt8) (p : Nat) (l : List Tk) : Al := lexF (s.length + 1) st s p l
theorem lexX_step (st : St) (s : List UInt8) (p : Nat) (l : List Tk) (hv : Cssp.valid s = true) : lexX st s p l = match gap s with
  | .inr o => .no 175 (p + o)
  | .inl (g, ln) =>
   if s.drop g = [] then .ok l st ln (g == 0 && match l.getLast? with
    | none => false
    | some x => wordy x)
   else match next st (s.drop g) with
    | .no e o => .no e (p + g + o)
    | .ok x k st2 => lexX st2 (s.drop (g + k)) (p + g + k) (l ++ [x]) := by
 conv => lhs; unfold lexX
 rw [lexF]
 cases hgp : gap s with
 | inr o => rfl
 | inl y =>
  obtain ⟨j, ln⟩ := y
  simp only
  by_cases h1 : s.drop j = []
  ·rw [if_pos h1, if_pos h1]
   rfl
  ·rw [if_neg h1, if_neg h1]
   obtain ⟨i1, i2, _, _⟩ := gap_sp (c0 := 32) (.inl rfl) [] s.length s j ln (Nat.le_refl _) hv hgp
   cases hn : next st (s.drop j) with
   | no e o => rfl
   | ok x k st2 =>
    simp only
    obtain ⟨_, n1, n2, n3⟩ := next_sp (c0 := 32) (.inl rfl) [] (s.drop j) st i2 h1 hn
    rw [List.drop_drop] at n3
    rw [List.length_drop] at n2
    exact lexF_fuel _ _ st2 _ _ _ n3 (by rw [List.length_drop]; omega) (Nat.lt_succ_self _)
theorem goOn_self : ∀ (k lo hi n : Nat) (r : List UInt8), (Cssp.goOn k lo hi n r).2 = true -> Cssp.goOn k lo hi n (r.take k) = Cssp.goOn k lo hi n r
 | 0, _, _, _, _, _ => by simp [Cssp.goOn]
 | k + 1, _, _, _, [], h => by simp [Cssp.goOn] at h
 | k + 1, lo, hi, n, c :: r, h => by
  rw [Cssp.goOn] at h
  rw [List.take_succ_cons, Cssp.goOn, Cssp.goOn]
  split
  ·rfl
  ·rename_i hc
   rw [if_neg hc] at h
   exact goOn_self k 128 191 (n + 1) r h
theorem valid_code (s : List UInt8) (h : s ≠ []) : Cssp.valid (Cssp.code s) = true := by
 unfold Cssp.code
 split
 ·rename_i hp
  obtain ⟨c, r, rfl⟩ := List.exists_cons_of_ne_nil h
  have hle := Cssp.piece_le (c :: r) h
  rw [Cssp.piece] at hp hle ⊢
  by_cases hf : (Cssp.first c).2 = true
  ·rw [if_pos hf] at hp hle ⊢
   have hfu := Cssp.goOn_full (Cssp.first c).1.1 (Cssp.first c).1.2.1 (Cssp.first c).1.2.2 1 r
   rw [hp] at hfu
   have hfu := of_decide_eq_true hfu.symm
   obtain ⟨K, hK⟩ : ∃ K, (Cssp.first c).1.1 = K := ⟨_, rfl⟩
   have hs := goOn_self _ _ _ 1 r hp
   rw [hfu, Nat.add_comm, List.take_succ_cons]
   have hpc : Cssp.piece (c :: r.take (Cssp.first c).1.1) = (1 + (Cssp.first c).1.1, true) := by
    rw [Cssp.piece, if_pos hf, hs, <- hfu, <- hp]
   rw [Cssp.valid_step _ (by simp), hpc]
   have hd : (c :: r.take (Cssp.first c).1.1).drop (1 + (Cssp.first c).1.1) = [] := List.drop_eq_nil_of_le (by rw [List.length_cons, List.length_take]; omega)
   rw [hd]; rfl
  ·rw [if_neg hf] at hp; cases hp
 ·decide
theorem valid_decode : ∀ (f : Nat) (s : List UInt8), s.length <= f -> Cssp.valid (Cssp.decode s) = true
 | 0, s, h => by
  have : s = [] := List.eq_nil_of_length_eq_zero (by omega)
  subst this; rfl
 | f + 1, s, h => by
  by_cases h0 : s = []
  ·subst h0; rfl
  ·have := Cssp.piece_le s h0
   rw [Cssp.decode_step s h0, Cssp.valid_app _ _ (valid_code s h0)]
   exact valid_decode f _ (by rw [List.length_drop]; omega)
open Go
theorem valid_asc : ∀ d : List UInt8, (∀ c ∈ d, c.toNat < 128) -> Cssp.valid d = true
 | [], _ => rfl
 | c :: r, h => by
  rw [Cssp.valid_step _ (by simp), piece_ascii (h c (by simp))]
  exact valid_asc r fun x hx => h x (List.mem_cons_of_mem _ hx)
open Go
theorem goOn_hi : ∀ (k lo hi n : Nat) (r : List UInt8), hi <= 191 -> (Cssp.goOn k lo hi n r).2 = true -> ∀ i c, i < k -> r[i]? = some c -> c.toNat <= 191
 | 0, _, _, _, _, _, _, i, _, hi, _ => by omega
 | k + 1, lo, hi, n, [], _, h, i, c, _, hc => by simp at hc
 | k + 1, lo, hi, n, d :: r, hlo, h, 0, c, _, hc => by
  simp at hc; subst hc
  rw [Cssp.goOn] at h
  split at h
  ·cases h
  ·omega
 | k + 1, lo, hi, n, d :: r, hlo, h, i + 1, c, hik, hc => by
  rw [Cssp.goOn] at h
  split at h
  ·cases h
  ·exact goOn_hi k 128 191 (n + 1) r (Nat.le_refl _) h i c (by omega) (by simpa using hc)
theorem first_hi (c : UInt8) : (Cssp.first c).1.2.2 <= 191 := by
 unfold Cssp.first
 (repeat' split) <;> decide
theorem piece_tail_hi {s : List UInt8} (h : s ≠ []) (hp : (Cssp.piece s).2 = true) {i : Nat} {c : UInt8} (h1 : 1 <= i) (hi : i < (Cssp.piece s).1) (hc : s[i]? = some c) : c.toNat <= 191 := by
 cases s with
 | nil => exact absurd rfl h
 | cons d r =>
  rw [Cssp.piece] at hp hi
  by_cases hf : (Cssp.first d).2 = true
  ·rw [if_pos hf] at hp hi
   have hg := Cssp.goOn_le (Cssp.first d).1.1 (Cssp.first d).1.2.1 (Cssp.first d).1.2.2 1 r
   obtain ⟨j, rfl⟩ : ∃ j, i = j + 1 := ⟨i - 1, by omega⟩
   exact goOn_hi _ _ _ _ r (first_hi d) hp j c (by omega) (by simpa using hc)
  ·rw [if_neg hf] at hp; cases hp
theorem valid_take : ∀ (f : Nat) (s : List UInt8) (k : Nat), s.length <= f -> Cssp.valid s = true -> Cssp.valid (s.drop k) = true -> Cssp.valid (s.take k) = true
 | f, s, 0, _, _, _ => by rw [List.take_zero]; rfl
 | 0, s, k + 1, hf, _, _ => by
  have : s = [] := List.eq_nil_of_length_eq_zero (by omega)
  subst this; rw [List.take_nil]; rfl
 | f + 1, s, k + 1, hf, hv, hd => by
  by_cases h0 : s = []
  ·subst h0; rw [List.take_nil]; rfl
  obtain ⟨hp, hvd⟩ := valid_split hv h0
  have hle := Cssp.piece_le s h0
  by_cases hk : (Cssp.piece s).1 <= k + 1
  ·obtain ⟨n, hn⟩ : ∃ n, (Cssp.piece s).1 = n := ⟨_, rfl⟩
   have hc := valid_code s h0
   rw [Cssp.code, if_pos hp] at hc
   rw [hn] at hk hvd hle hc
   rw [show k + 1 = n + (k + 1 - n) by omega, List.take_add, Cssp.valid_app _ _ hc]
   exact valid_take f (s.drop n) (k + 1 - n) (by rw [List.length_drop]; omega) hvd (by rw [List.drop_drop, show n + (k + 1 - n) = k + 1 by omega]; exact hd)
  ·exfalso
   have hlt : k + 1 < s.length := by omega
   obtain ⟨d, hdc⟩ : ∃ d, s[k + 1] = d := ⟨_, rfl⟩
   have hg : s[k + 1]? = some d := by rw [List.getElem?_eq_getElem hlt, hdc]
   have b1 := piece_tail h0 hp (i := k + 1) (by omega) (by omega) hg
   have b2 := piece_tail_hi h0 hp (i := k + 1) (by omega) (by omega) hg
   have hdd : s.drop (k + 1) = d :: s.drop (k + 1 + 1) := by rw [<- hdc]; exact List.drop_eq_getElem_cons hlt
   rw [hdd] at hd
   have hq := (valid_split hd (by simp)).1
   rw [Cssp.piece] at hq
   have hf : (Cssp.first d).2 = false := by
    unfold Cssp.first
    rw [if_neg (by omega), if_neg (by omega), if_pos (by omega)]
   rw [hf] at hq
   cases hq
open Go
theorem at_take (s : List UInt8) {n i : Nat} (h : i < n) : Cssp.at_ (s.take n) i = Cssp.at_ s i := by
 simp only [Cssp.at_, List.getD_eq_getElem?_getD, List.getElem?_take_of_lt h]
open Go
theorem goOn_upto : ∀ (k lo hi n : Nat) (r : List UInt8) (m : Nat), k <= m -> (Cssp.goOn k lo hi n r).2 = true -> Cssp.goOn k lo hi n (r.take m) = Cssp.goOn k lo hi n r
 | 0, _, _, _, _, _, _, _ => by simp [Cssp.goOn]
 | k + 1, _, _, _, [], _, _, h => by simp [Cssp.goOn] at h
 | k + 1, _, _, _, c :: r, 0, hm, _ => by omega
 | k + 1, lo, hi, n, c :: r, m + 1, hm, h => by
  rw [Cssp.goOn] at h
  rw [List.take_succ_cons, Cssp.goOn, Cssp.goOn]
  split
  ·rfl
  ·rename_i hc
   rw [if_neg hc] at h
   exact goOn_upto k 128 191 (n + 1) r m (by omega) h
theorem piece_take {s : List UInt8} (h0 : s ≠ []) (hp : (Cssp.piece s).2 = true) {m : Nat} (hm : (Cssp.piece s).1 <= m) : Cssp.piece (s.take m) = Cssp.piece s := by
 obtain ⟨c, r, rfl⟩ := List.exists_cons_of_ne_nil h0
 have hle := Cssp.piece_le (c :: r) h0
 obtain ⟨j, rfl⟩ : ∃ j, m = j + 1 := ⟨m - 1, by omega⟩
 rw [List.take_succ_cons]
 rw [Cssp.piece] at hp hm ⊢
 rw [Cssp.piece]
 by_cases hf : (Cssp.first c).2 = true
 ·rw [if_pos hf] at hp hm ⊢
  rw [if_pos hf]
  have hfu := Cssp.goOn_full (Cssp.first c).1.1 (Cssp.first c).1.2.1 (Cssp.first c).1.2.2 1 r
  rw [hp] at hfu
  have hfu := of_decide_eq_true hfu.symm
  exact goOn_upto _ _ _ _ r j (by omega) hp
 ·rw [if_neg hf] at hp; cases hp
theorem pn_take {s : List UInt8} (h0 : s ≠ []) (hv : Cssp.valid s = true) {m : Nat} (hm : pn s <= m) : pn (s.take m) = pn s /\ pt (s.take m) = pt s /\ s.take m ≠ [] := by
 have hp := (valid_split hv h0).1
 have h1 := pn_le h0
 rw [pn, if_neg h0] at hm h1
 have hne : s.take m ≠ [] := by
  obtain ⟨c, r, rfl⟩ := List.exists_cons_of_ne_nil h0
  obtain ⟨j, rfl⟩ : ∃ j, m = j + 1 := ⟨m - 1, by omega⟩
  simp
 have e := piece_take h0 hp hm
 refine ⟨by rw [pn, pn, if_neg h0, if_neg hne, e], ?_, hne⟩
 rw [pt, pt, if_neg h0, if_neg hne, Cssp.cpt, Cssp.cpt, e, List.take_take, Nat.min_eq_left hm, at_take s (show 0 < m by omega)]
theorem pre_take_of {p s : List UInt8} {n : Nat} (h : p.isPrefixOf (s.take n) = true) : p.isPrefixOf s = true :=
 List.isPrefixOf_iff_prefix.2 ((List.isPrefixOf_iff_prefix.1 h).trans (List.take_prefix n s))
theorem pre_take_to {p s : List UInt8} {n : Nat} (h : p.isPrefixOf s = true) (hn : p.length <= n) : p.isPrefixOf (s.take n) = true := by
 obtain ⟨t, ht⟩ := List.isPrefixOf_iff_prefix.1 h
 refine List.isPrefixOf_iff_prefix.2 ⟨t.take (n - p.length), ?_⟩
 rw [<- ht, List.take_append, List.take_of_length_le hn]
open Go
open Go
open Go
open Go
end Jsp
end Go.Proofs.YtngccmlcopcghaaGreatDoor
