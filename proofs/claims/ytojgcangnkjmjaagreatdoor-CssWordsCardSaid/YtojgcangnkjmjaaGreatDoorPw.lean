/- Plain: names of letters, digits, comments, as they are read. No program in sight. -/
import Derived.Test.YtojgcangnkjmjaaGreatDoorPq
namespace Go.Proofs.YtojgcangnkjmjaaGreatDoor
namespace Cssp
open Go

def lowC (c : UInt8) : Bool := decide (97 ≤ c.toNat) && decide (c.toNat ≤ 122)
set_option maxRecDepth 100000 in
theorem low_all : ∀ n : Fin 256, lowC (UInt8.ofNat n.val) = true → goesOn (UInt8.ofNat n.val) = true ∧ begins (UInt8.ofNat n.val) = true ∧ blank (UInt8.ofNat n.val) = false ∧ digit (UInt8.ofNat n.val) = false ∧ marks.contains (UInt8.ofNat n.val) = false ∧
    ([34, 39, 35, 64, 43, 45, 46, 60, 92, 47, 40, 0, 12, 13] : List UInt8).contains (UInt8.ofNat n.val) = false := by decide
set_option maxRecDepth 100000 in
theorem digit_all : ∀ n : Fin 256, digit (UInt8.ofNat n.val) = true → blank (UInt8.ofNat n.val) = false ∧ marks.contains (UInt8.ofNat n.val) = false ∧
    ([34, 39, 35, 64, 43, 45, 46, 60, 92, 47, 40, 0, 12, 13] : List UInt8).contains (UInt8.ofNat n.val) = false := by decide
theorem ofNat_self (c : UInt8) : UInt8.ofNat c.toNat = c := by simp
theorem low_facts {c : UInt8} (h : lowC c = true) : goesOn c = true ∧ begins c = true ∧ blank c = false ∧ digit c = false ∧ marks.contains c = false ∧ ([34, 39, 35, 64, 43, 45, 46, 60, 92, 47, 40, 0, 12, 13] : List UInt8).contains c = false := by
  have := low_all ⟨c.toNat, c.toNat_lt⟩
  rw [ofNat_self] at this
  exact this h
theorem digit_facts {c : UInt8} (h : digit c = true) : blank c = false ∧ marks.contains c = false ∧ ([34, 39, 35, 64, 43, 45, 46, 60, 92, 47, 40, 0, 12, 13] : List UInt8).contains c = false := by
  have := digit_all ⟨c.toNat, c.toNat_lt⟩
  rw [ofNat_self] at this
  exact this h
theorem not_in {c : UInt8} {l : List UInt8} (h : l.contains c = false) {x : UInt8} (hx : x ∈ l) : c ≠ x := by
  rintro rfl
  rw [List.contains_iff_mem.2 hx] at h
  cases h

theorem name_low (x : UInt8) (r : List UInt8) (hx : goesOn x = false) (h92 : x ≠ 92) : ∀ t : List UInt8, (∀ c ∈ t, lowC c = true) → name (t ++ x :: r) = ⟨t, t.length, false⟩
  | [], _ => name_stop (escAt_ne h92) hx
  | c :: t, h => by
    have hc := (low_facts (h c (by simp))).1
    rw [List.cons_append, name_cons (not_esc (goesOn_ne hc)) hc, name_low x r hx h92 t fun d hd => h d (by simp [hd])]
    rfl

/-! ### what a text's tokens are -/
def toks (s : List UInt8) : List Tk := (lp s ⟨1, 0⟩ []).l
theorem lp_l (s : List UInt8) (w : Wh) (t : List UInt8) : (lp s w t).l = toks s := by
  unfold toks
  by_cases h0 : s = []
  · subst h0; rfl
  rw [lp_step s w t h0, lp_step s ⟨1, 0⟩ [] h0]
  by_cases hc : [47, 42].isPrefixOf s = true
  · rw [if_pos hc, if_pos hc]
    cases shut (s.drop 2) with
    | none => rfl
    | some k => exact (lp_same _ (s.drop (2 + k + 2)) ⟨1, 0⟩ t [] (Nat.le_refl _)).1
  · rw [if_neg hc, if_neg hc]
theorem toks_one (s : List UInt8) (h0 : s ≠ []) (hc : ¬ [47, 42].isPrefixOf s = true) : toks s = (one s).x :: toks (s.drop (one s).k) := by
  conv => lhs; unfold toks
  rw [lp_step s _ _ h0, if_neg hc]
  simp only [lp_l]
theorem toks_shut (r : List UInt8) (k : Nat) (h : shut r = some k) : toks (47 :: 42 :: r) = toks (r.drop (k + 2)) := by
  conv => lhs; unfold toks
  rw [lp_step _ _ _ (by simp), if_pos (by rfl)]
  simp only [List.drop_succ_cons, List.drop_zero, h, lp_l]
  rw [Nat.add_comm 2 k]
theorem not_comment {c : UInt8} {r : List UInt8} (h : c ≠ 47) : ¬ [47, 42].isPrefixOf (c :: r) = true := by
  simp only [List.isPrefixOf_iff_prefix, List.cons_prefix_cons]
  exact fun e => h e.1.symm

theorem at_shift (d R : List UInt8) (i : Nat) : at_ (d ++ R) (d.length + i) = at_ R i := by
  unfold at_
  rw [List.getD_eq_getElem?_getD, List.getD_eq_getElem?_getD, List.getElem?_append_right (by omega), Nat.add_sub_cancel_left]
theorem isAt_shift (p : UInt8 → Bool) (d R : List UInt8) (i : Nat) : isAt p (d ++ R) (d.length + i) = isAt p R i := by
  unfold isAt
  rw [List.getElem?_append_right (by omega), Nat.add_sub_cancel_left]
theorem escAt_shift (d R : List UInt8) (i : Nat) : escAt (d ++ R) (d.length + i) = escAt R i := by
  unfold escAt
  rw [isAt_shift, show d.length + i + 1 = d.length + (i + 1) by omega, isAt_shift]
theorem identAt_shift (d R : List UInt8) (i : Nat) : identAt (d ++ R) (d.length + i) = identAt R i := by
  unfold identAt
  rw [isAt_shift, isAt_shift, escAt_shift, show d.length + i + 1 = d.length + (i + 1) by omega, isAt_shift, escAt_shift]
theorem signed_shift (d R : List UInt8) (i : Nat) : signed (d ++ R) (d.length + i) = signed R i := by
  unfold signed
  rw [isAt_shift]

/-- digits, and what may stand behind them -/
theorem numLen_digits (d R : List UInt8) (h0 : d ≠ []) (hd : ∀ c ∈ d, digit c = true) (hR : run digit R = 0) (h46 : at_ R 0 ≠ 46) (he : ¬ ((at_ R 0 = 101 ∨ at_ R 0 = 69) ∧ digit (at_ R (1 + signed R 1)) = true)) :
    numLen (d ++ R) = (d.length, true) ∧ signed (d ++ R) 0 = 0 ∧ digit (at_ (d ++ R) 0) = true := by
  have hs : signed (d ++ R) 0 = 0 ∧ digit (at_ (d ++ R) 0) = true := by
    cases d with
    | nil => exact absurd rfl h0
    | cons c d =>
      have hc := hd c (by simp)
      have hf := (digit_facts hc).2.2
      have e1 : isAt (fun c => c == 43 || c == 45) (c :: d ++ R) 0 = false := by
        show (c == 43 || c == 45) = false
        simp only [Bool.or_eq_false_iff, beq_eq_false_iff_ne]
        exact ⟨not_in hf (by simp), not_in hf (by simp)⟩
      exact ⟨by unfold signed; rw [e1]; rfl, hc⟩
  refine ⟨?_, hs⟩
  have hr : run digit (d ++ R) = d.length := by rw [run_good digit d R hd, hR, Nat.add_zero]
  have a0 := at_shift d R 0
  rw [Nat.add_zero] at a0
  have hp : point (d ++ R) d.length = (d.length, true) := by
    unfold point
    rw [a0, if_neg fun h => h46 h.1]
  have hq : power (d ++ R) d.length = (d.length, true) := by
    unfold power
    rw [a0, signed_shift, show d.length + 1 + signed R 1 = d.length + (1 + signed R 1) by omega, at_shift, if_neg he]
  rw [numLen_eq, hs.1, List.drop_zero, Nat.zero_add, hr, hp]
  simp only [hq, Bool.and_self]

theorem one_number (d R : List UInt8) (_h0 : d ≠ []) (hs : signed (d ++ R) 0 = 0) (_hd : ∀ c ∈ d, digit c = true) (h1 : digit (at_ (d ++ R) 0) = true) : one (d ++ R) = numeric (d ++ R) := by
  obtain ⟨b, m, hf⟩ := digit_facts h1
  have hn : numberAt (d ++ R) 0 = true := by
    unfold numberAt
    rw [hs, Nat.add_zero, h1]
    rfl
  rw [one_eq, b, if_neg (by decide), if_neg (by
    rintro (e | e)
    · exact not_in hf (by simp) e
    · exact not_in hf (by simp) e), if_neg (not_in hf (by simp)), if_neg (not_in hf (by simp)), m, if_neg (by decide), if_pos hn]

theorem toks_digits (d : List UInt8) (h0 : d ≠ []) (hd : ∀ c ∈ d, digit c = true) : toks d = [⟨11, d, [], true⟩] := by
  obtain ⟨hn, hs, h1⟩ := numLen_digits d [] h0 hd rfl (by decide) (by decide)
  have ho := one_number d [] h0 hs hd h1
  rw [List.append_nil] at hn hs h1 ho
  have hx : numeric d = ⟨⟨11, d, [], true⟩, d.length, false, false, 0⟩ := by
    have hi := identAt_shift d [] 0
    have ha := at_shift d [] 0
    rw [List.append_nil, Nat.add_zero] at hi ha
    rw [numeric_eq, hn]
    simp only [hi, ha]
    rw [if_neg (by decide), if_neg (by decide), List.take_length]
  have hc : ¬ [47, 42].isPrefixOf d = true := by
    cases d with
    | nil => exact absurd rfl h0
    | cons c r => exact not_comment (not_in (digit_facts (hd c (by simp))).2.2 (by simp))
  rw [toks_one d h0 hc, ho, hx]
  simp only [List.drop_length]
  rfl

theorem toks_dim (d t R : List UInt8) (h0 : d ≠ []) (hd : ∀ c ∈ d, digit c = true) (t0 : t ≠ []) (ht : ∀ c ∈ t, lowC c = true) : toks (d ++ (t ++ 47 :: R)) = ⟨13, d, t, true⟩ :: toks (47 :: R) := by
  have hname := name_low 47 R (by decide) (by decide) t ht
  have hfirst : ∃ x r, t ++ 47 :: R = x :: r ∧ lowC x = true ∧ (digit (at_ r 0) = false ∧ at_ r 0 ≠ 43 ∧ at_ r 0 ≠ 45 ∧ isAt (fun c => c == 43 || c == 45) r 0 = false) := by
    cases t with
    | nil => exact absurd rfl t0
    | cons x t =>
      refine ⟨x, t ++ 47 :: R, rfl, ht x (by simp), ?_⟩
      cases t with
      | nil => exact ⟨show digit 47 = false by decide, show (47 : UInt8) ≠ 43 by decide, show (47 : UInt8) ≠ 45 by decide, rfl⟩
      | cons y t =>
        obtain ⟨g, b, bl, dg, m, nf⟩ := low_facts (ht y (by simp))
        have n1 : y ≠ 43 := not_in nf (by simp)
        have n2 : y ≠ 45 := not_in nf (by simp)
        exact ⟨dg, n1, n2, by show (y == 43 || y == 45) = false; simp [n1, n2]⟩
  obtain ⟨x, r, hxr, hx, hdr, -, -, hsr⟩ := hfirst
  obtain ⟨g, b, bl, dg, m, nf⟩ := low_facts hx
  have hsg : signed (x :: r) 1 = 0 := by
    unfold signed
    rw [show isAt (fun c => c == 43 || c == 45) (x :: r) 1 = isAt (fun c => c == 43 || c == 45) r 0 from rfl, hsr]
    rfl
  obtain ⟨hn, hs, h1⟩ := numLen_digits d (x :: r) h0 hd (by rw [run, dg]; rfl) (not_in nf (by simp)) (by
    rw [hsg, Nat.add_zero]
    rintro ⟨-, h⟩
    rw [show at_ (x :: r) 1 = at_ r 0 from rfl, hdr] at h
    cases h)
  have ho := one_number d (x :: r) h0 hs hd h1
  have hid : identAt (x :: r) 0 = true := by
    unfold identAt
    rw [show isAt (· == 45) (x :: r) 0 = (x == 45) from rfl, show (x == 45) = false from by simpa using (not_in nf (x := 45) (by simp)), if_neg (by decide), show isAt begins (x :: r) 0 = begins x from rfl, b]
    rfl
  have hx : numeric (d ++ x :: r) = ⟨⟨13, d, t, true⟩, d.length + t.length, false, false, 0⟩ := by
    have hi := identAt_shift d (x :: r) 0
    rw [Nat.add_zero, hid] at hi
    rw [numeric_eq, hn]
    simp only [hi, if_true, List.drop_left, List.take_left]
    rw [← hxr, hname]
  have hc : ¬ [47, 42].isPrefixOf (d ++ x :: r) = true := by
    cases d with
    | nil => exact absurd rfl h0
    | cons c r => exact not_comment (not_in (digit_facts (hd c (by simp))).2.2 (by simp))
  rw [hxr, toks_one _ (by simp) hc, ho, hx]
  simp only []
  rw [← hxr, ← List.append_assoc, List.drop_append_of_le_length (by simp), List.drop_eq_nil_of_le (by simp), List.nil_append]

theorem toks_name (t R : List UInt8) (t0 : t ≠ []) (ht : ∀ c ∈ t, lowC c = true) : toks (t ++ 32 :: R) = ⟨2, t, [], false⟩ :: toks (32 :: R) := by
  have hname := name_low 32 R (by decide) (by decide) t ht
  have hw : word (t ++ 32 :: R) = ⟨tk 2 t, t.length, false, false, 0⟩ := by
    have ha := at_shift t (32 :: R) 0
    rw [Nat.add_zero, show at_ (32 :: R) 0 = 32 from rfl] at ha
    rw [word_eq, hname]
    simp only [ha]
    rw [if_pos (by decide)]
  obtain ⟨x, r, hxr, hx⟩ : ∃ x r, t ++ 32 :: R = x :: r ∧ lowC x = true := by
    cases t with
    | nil => exact absurd rfl t0
    | cons x t => exact ⟨x, t ++ 32 :: R, rfl, ht x (by simp)⟩
  obtain ⟨g, b, bl, dg, m, nf⟩ := low_facts hx
  have n43 : x ≠ 43 := not_in nf (by simp)
  have n45 : x ≠ 45 := not_in nf (by simp)
  have n46 : x ≠ 46 := not_in nf (by simp)
  have n60 : x ≠ 60 := not_in nf (by simp)
  have hsg : signed (x :: r) 0 = 0 := by
    unfold signed
    rw [show isAt (fun c => c == 43 || c == 45) (x :: r) 0 = (x == 43 || x == 45) from rfl, show (x == 43 || x == 45) = false from by simp [n43, n45]]
    rfl
  have hnum : numberAt (x :: r) 0 = false := by
    unfold numberAt
    rw [hsg, Nat.add_zero, show at_ (x :: r) 0 = x from rfl, dg, show (x == 46) = false from by simpa using n46]
    rfl
  have hid : identAt (x :: r) 0 = true := by
    unfold identAt
    rw [show isAt (· == 45) (x :: r) 0 = (x == 45) from rfl, show (x == 45) = false from by simpa using n45, if_neg (by decide), show isAt begins (x :: r) 0 = begins x from rfl, b]
    rfl
  have h1 : ¬ wClose.isPrefixOf (x :: r) = true := by
    simp only [wClose, List.isPrefixOf_iff_prefix, List.cons_prefix_cons]
    exact fun e => n45 e.1.symm
  have h2 : ¬ wOpen.isPrefixOf (x :: r) = true := by
    simp only [wOpen, List.isPrefixOf_iff_prefix, List.cons_prefix_cons]
    exact fun e => n60 e.1.symm
  have ho : one (x :: r) = word (x :: r) := by
    rw [one_eq, show at_ (x :: r) 0 = x from rfl, bl, if_neg (by decide), if_neg (by
      rintro (e | e)
      · exact not_in nf (by simp) e
      · exact not_in nf (by simp) e), if_neg (not_in nf (by simp)), if_neg (not_in nf (by simp)), m, if_neg (by decide), hnum, if_neg (by decide), if_neg h1, if_neg h2, if_pos hid]
  rw [hxr, toks_one _ (by simp) (not_comment (not_in nf (by simp))), ho, ← hxr, hw]
  simp only [List.drop_left]
  rfl
theorem toks_blank (R : List UInt8) : toks (32 :: 47 :: R) = ⟨1, [], [], false⟩ :: toks (47 :: R) := by
  have ho : one (32 :: 47 :: R) = ⟨tk 1 [], 1, false, false, 0⟩ := by
    rw [one_eq, show at_ (32 :: 47 :: R) 0 = 32 from rfl, if_pos (by decide)]
    rfl
  rw [toks_one _ (by simp) (not_comment (by decide)), ho]
  rfl

def cC : List UInt8 := [32, 47, 42, 99, 42, 47]
def cD : List UInt8 := [47, 42, 42, 47]
def wordsT (d : List UInt8) (l : List (List UInt8)) : List UInt8 := l.flatMap fun t => t ++ (cC ++ (d ++ (t ++ cD)))
def wantT (d : List UInt8) (l : List (List UInt8)) : List Tk := l.flatMap fun t => [⟨2, t, [], false⟩, ⟨1, [], [], false⟩, ⟨13, d, t, true⟩]
def okName (t : List UInt8) : Prop := t ≠ [] ∧ ∀ c ∈ t, lowC c = true
theorem toks_words (d : List UInt8) (h0 : d ≠ []) (hd : ∀ c ∈ d, digit c = true) : ∀ l : List (List UInt8), (∀ t ∈ l, okName t) → toks (wordsT d l ++ d) = wantT d l ++ [⟨11, d, [], true⟩]
  | [], _ => toks_digits d h0 hd
  | t :: l, h => by
    obtain ⟨t0, ht⟩ := h t (by simp)
    have ih := toks_words d h0 hd l fun u hu => h u (by simp [hu])
    have e : wordsT d (t :: l) ++ d = t ++ 32 :: 47 :: 42 :: 99 :: 42 :: 47 :: (d ++ (t ++ 47 :: 42 :: 42 :: 47 :: (wordsT d l ++ d))) := by
      simp [wordsT, cC, cD]
    rw [e, toks_name t _ t0 ht, toks_blank, toks_shut _ 1 (by rfl)]
    simp only [List.drop_succ_cons, List.drop_zero]
    rw [toks_dim d t _ h0 hd t0 ht, toks_shut _ 0 (by rfl)]
    simp only [List.drop_succ_cons, List.drop_zero]
    rw [ih]
    rfl

theorem valid_ascii : ∀ s : List UInt8, (∀ c ∈ s, c.toNat < 128) → valid s = true
  | [], _ => rfl
  | c :: s, h => by
    have := valid_app [c] s (valid_one (h c (by simp)))
    rw [List.singleton_append] at this
    rw [this]
    exact valid_ascii s fun d hd => h d (by simp [hd])
def plainC (c : UInt8) : Prop := c.toNat < 128 ∧ c ≠ 0 ∧ c ≠ 12 ∧ c ≠ 13
theorem plain_low {c : UInt8} (h : lowC c = true) : plainC c := by
  have nf := (low_facts h).2.2.2.2.2
  simp only [lowC, Bool.and_eq_true, decide_eq_true_eq] at h
  exact ⟨by omega, not_in nf (by simp), not_in nf (by simp), not_in nf (by simp)⟩
theorem plain_digit {c : UInt8} (h : digit c = true) : plainC c := by
  have nf := (digit_facts h).2.2
  simp only [digit, Bool.and_eq_true, decide_eq_true_eq] at h
  exact ⟨by omega, not_in nf (by simp), not_in nf (by simp), not_in nf (by simp)⟩
theorem plain_words (d : List UInt8) (hd : ∀ c ∈ d, digit c = true) (l : List (List UInt8)) (h : ∀ t ∈ l, okName t) : ∀ c ∈ wordsT d l ++ d, plainC c := by
  intro c hc
  rw [List.mem_append] at hc
  rcases hc with hc | hc
  · simp only [wordsT, List.mem_flatMap, List.mem_append] at hc
    obtain ⟨t, ht, hc⟩ := hc
    have hl := (h t ht).2
    rcases hc with hc | hc | hc | hc | hc
    · exact plain_low (hl c hc)
    · simp only [cC, List.mem_cons, List.not_mem_nil, or_false] at hc
      rcases hc with rfl | rfl | rfl | rfl | rfl | rfl <;> exact ⟨by decide, by decide, by decide, by decide⟩
    · exact plain_digit (hd c hc)
    · exact plain_low (hl c hc)
    · simp only [cD, List.mem_cons, List.not_mem_nil, or_false] at hc
      rcases hc with rfl | rfl | rfl | rfl <;> exact ⟨by decide, by decide, by decide, by decide⟩
  · exact plain_digit (hd c hc)
theorem read_words (d : List UInt8) (h0 : d ≠ []) (hd : ∀ c ∈ d, digit c = true) (l : List (List UInt8)) (h : ∀ t ∈ l, okName t) : (read' (wordsT d l ++ d)).l = wantT d l ++ [⟨11, d, [], true⟩] := by
  have hp := plain_words d hd l h
  unfold read'
  rw [decode_valid _ (valid_ascii _ fun c hc => (hp c hc).1), show clean (wordsT d l ++ d) = wordsT d l ++ d from cleanC_plain _ fun c hc => (hp c hc).2, all_l]
  exact toks_words d h0 hd l h
theorem wordsT_snoc (d : List UInt8) (l : List (List UInt8)) (t : List UInt8) : wordsT d (l ++ [t]) = wordsT d l ++ t ++ cC ++ d ++ t ++ cD := by simp [wordsT]
theorem wantT_snoc (d : List UInt8) (l : List (List UInt8)) (t : List UInt8) : wantT d (l ++ [t]) = wantT d l ++ [⟨2, t, [], false⟩, ⟨1, [], [], false⟩, ⟨13, d, t, true⟩] := by simp [wantT]
theorem wantT_len (d : List UInt8) (l : List (List UInt8)) : (wantT d l).length = 3 * l.length := by
  induction l with
  | nil => rfl
  | cons t l ih =>
    have : wantT d (t :: l) = [⟨2, t, [], false⟩, ⟨1, [], [], false⟩, ⟨13, d, t, true⟩] ++ wantT d l := rfl
    rw [this, List.length_append, ih]
    simp only [List.length_cons, List.length_nil]; omega
theorem wordsT_len (d : List UInt8) (hd : d.length ≤ 10) : ∀ l : List (List UInt8), (∀ t ∈ l, t.length ≤ 100) → (wordsT d l).length ≤ 220 * l.length
  | [], _ => Nat.le_refl _
  | t :: l, h => by
    have ih := wordsT_len d hd l fun u hu => h u (by simp [hu])
    have ht := h t (by simp)
    have : wordsT d (t :: l) = (t ++ (cC ++ (d ++ (t ++ cD)))) ++ wordsT d l := rfl
    rw [this]
    simp only [List.length_append, List.length_cons, cC, cD, List.length_nil]; omega
end Cssp
end Go.Proofs.YtojgcangnkjmjaaGreatDoor
