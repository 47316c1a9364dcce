/- Plain laws: a name that ends with a semicolon, and a number, are decoded wherever they stand. No program in sight. -/
import Derived.Test.YtlajahhiijlhaaaDoorEnt
namespace Go.Proofs.YtlajahhiijlhaaaDoor
namespace Entp
open Go

theorem getLast_take (p : List UInt8) (hp : 0 < p.length) : p = p.take (p.length - 1) ++ [p[p.length - 1]'(by omega)] := by
  conv => lhs; rw [← List.take_append_drop (p.length - 1) p]
  congr 1
  rw [List.drop_eq_getElem_cons (by omega), List.drop_eq_nil_of_le (by omega)]
/-- a whole name with its semicolon is the longest name of what begins with it -/
theorem named_whole (t b : List UInt8) (ht : t ∈ toks) (h59 : (nm t)[(nm t).length - 1]? = some 59) :
    named (nm t ++ b) = ((nm t).length, text (t.drop ((nm t).length + 1))) := by
  have h1 := List.all_eq_true.1 toks_names t ht
  simp only [Bool.and_eq_true, Bool.or_eq_true, decide_eq_true_eq] at h1
  obtain ⟨⟨hp, h32⟩, h3⟩ := h1
  have hnot : ¬ (lets (nm t) = (nm t).length) := fun h => by
    have : ∀ (s : List UInt8), lets s = s.length → ∀ (i : Nat) (c : UInt8), s[i]? = some c → alnum c = true := fun s => by
      induction s with
      | nil => intro _ i c hc; simp at hc
      | cons x s ih =>
        intro hl i c hc
        rw [lets] at hl
        split at hl
        · rename_i hx
          cases i with
          | zero => simp at hc; subst hc; exact hx
          | succ i => exact ih (by rw [List.length_cons] at hl; omega) i c (by simpa using hc)
        · simp at hl
    have := this _ h _ _ h59
    exact absurd this (by decide)
  obtain ⟨h4, _⟩ : lets (nm t) + 1 = (nm t).length ∧ (nm t)[lets (nm t)]? = some 59 := by
    rcases h3 with h3 | h3
    · exact absurd h3 hnot
    · exact h3
  have hl : lets (nm t ++ b) = lets (nm t) := lets_app _ _ (by omega)
  have htop : top (nm t ++ b) = (nm t).length := by
    rw [top_eq, hl, show min 32 (lets (nm t)) = (nm t).length - 1 by omega, if_pos (by rw [List.getElem?_append_left (by omega)]; exact h59)]
    omega
  rw [named, htop]
  obtain ⟨k, hk⟩ : ∃ k, (nm t).length = k + 1 := ⟨(nm t).length - 1, by omega⟩
  rw [hk, downFrom, ← hk, List.take_left, name_points t ht]
theorem ref_name (t b : List UInt8) (attr : Bool) (ht : t ∈ toks) (h59 : (nm t)[(nm t).length - 1]? = some 59) :
    ref (nm t ++ b) attr = ((nm t).length + 1, text (t.drop ((nm t).length + 1))) := by
  have h1 := List.all_eq_true.1 toks_names t ht
  simp only [Bool.and_eq_true, Bool.or_eq_true, decide_eq_true_eq] at h1
  obtain ⟨⟨hp, _⟩, h3⟩ := h1
  have hh : ¬ ((nm t ++ b).head? = some 35) := by
    cases hn : nm t with
    | nil => rw [hn] at hp; simp at hp
    | cons x r =>
      rw [List.cons_append, List.head?_cons, Option.some.injEq]
      rintro rfl
      rw [hn] at h3 h59
      have hz : lets (35 :: r) = 0 := by rw [lets]; rfl
      rw [hz] at h3
      rcases h3 with h3 | ⟨h3, h4⟩
      · simp at h3
      · simp at h4
  unfold ref
  rw [if_neg hh]
  unfold nameRef
  simp only [named_whole t b ht h59]
  rw [if_neg]
  rintro (h | ⟨_, h, _⟩)
  · omega
  · rw [List.getElem?_append_left (by omega)] at h
    exact h h59
theorem decode_name (a t b : List UInt8) (attr : Bool) (ha : ∀ c ∈ a, c ≠ 38) (ht : t ∈ toks) (h59 : (nm t)[(nm t).length - 1]? = some 59) :
    decode (a ++ 38 :: (nm t ++ b)) attr = a ++ (text (t.drop ((nm t).length + 1)) ++ decode b attr) := by
  have hs : step (nm t ++ b) attr = ((nm t).length + 1, text (t.drop ((nm t).length + 1))) := by
    rw [step, ref_name t b attr ht h59, if_neg (by simp)]
  rw [decode_at attr a _ ha, hs]
  simp only [List.drop_succ_cons, List.drop_left]
  rw [List.append_assoc]

/-! ### the decimal digits of a number -/
def digs (fuel : Nat) (n : Nat) : List UInt8 := match fuel with
  | 0 => []
  | f + 1 => if n = 0 then [] else digs f (n / 10) ++ [UInt8.ofNat (48 + n % 10)]
theorem digs_zero (f : Nat) : digs f 0 = [] := by cases f <;> rfl
theorem digs_len : ∀ (f n : Nat), (digs f n).length ≤ f
  | 0, _ => by simp [digs]
  | f + 1, n => by
    rw [digs]
    split
    · simp
    · have := digs_len f (n / 10); simp only [List.length_append, List.length_cons, List.length_nil]; omega
theorem digs_pos (f n : Nat) (hn : 0 < n) : 0 < (digs (f + 1) n).length := by
  rw [digs, if_neg (by omega)]; simp
theorem digit_hex (d : Nat) (hd : d < 10) : hex (UInt8.ofNat (48 + d)) = d := by
  have : (UInt8.ofNat (48 + d)).toNat = 48 + d := UInt8.toNat_ofNat_of_lt' (by show 48 + d < 256; omega)
  unfold hex
  rw [this, if_pos (by omega)]
  omega
theorem digit_is (d : Nat) (hd : d < 10) : isDig 10 (UInt8.ofNat (48 + d)) = true := by
  rw [isDig, digit_hex d hd]; simp; omega
theorem digs_all : ∀ (f n : Nat), ∀ c ∈ digs f n, isDig 10 c = true
  | 0, _, c, h => by simp [digs] at h
  | f + 1, n, c, h => by
    rw [digs] at h
    split at h
    · simp at h
    · rcases List.mem_append.1 h with h | h
      · exact digs_all f _ c h
      · rw [List.mem_singleton] at h
        rw [h]
        exact digit_is (n % 10) (Nat.mod_lt n (by decide))
theorem many_all (b : Int) : ∀ (l r : List UInt8), (∀ c ∈ l, isDig b c = true) → many b (l ++ r) = l.length + many b r
  | [], r, _ => by simp
  | c :: l, r, h => by
    rw [List.cons_append, many, if_pos (h c (by simp)), many_all b l r (fun x hx => h x (by simp [hx])), List.length_cons]; omega
theorem clip_snoc' (f b : Int) (x : UInt8) : ∀ (m : List UInt8) (n : Int), clip f b n (m ++ [x]) = min (clip f b n m * b + hex x) f
  | [], _ => rfl
  | c :: m, n => by rw [List.cons_append, clip, clip_snoc' f b x m, clip]
theorem clip_digs (far : Int) (hf : 0 ≤ far) : ∀ (f n : Nat), n < 10 ^ f → clip far 10 0 (digs f n) = min (n : Int) far
  | 0, n, h => by
    have : n = 0 := by simp at h; exact h
    subst this
    rw [digs, clip]; omega
  | f + 1, n, h => by
    rw [digs]
    split
    · rename_i h0; subst h0; rw [clip]; omega
    · have hlt : n / 10 < 10 ^ f := by
        rw [Nat.pow_succ] at h
        exact (Nat.div_lt_iff_lt_mul (by decide)).2 h
      rw [clip_snoc', clip_digs far hf f (n / 10) hlt, digit_hex (n % 10) (Nat.mod_lt n (by decide))]
      have e : (n : Int) = ((n / 10 : Nat) : Int) * 10 + ((n % 10 : Nat) : Int) := by omega
      omega
theorem number_min (n : Nat) : number (min (n : Int) 2097152) = number n := by
  by_cases h : (n : Int) ≤ 2097152
  · rw [show min (n : Int) 2097152 = n by omega]
  · rw [show min (n : Int) 2097152 = 2097152 by omega, number_far 2097152 (by decide), number_far n (by omega)]
theorem ref_num (f n : Nat) (b : List UInt8) (attr : Bool) (hn : 0 < n) (h : n < 10 ^ (f + 1)) :
    ref (35 :: (digs (f + 1) n ++ 59 :: b)) attr = (2 + (digs (f + 1) n).length + 1, Lib.encodeRune (number n)) := by
  have hp := digs_pos f n hn
  have hall := digs_all (f + 1) n
  have hclip := clip_digs 2097152 (by decide) (f + 1) n h
  obtain ⟨ds, hds⟩ : ∃ ds, digs (f + 1) n = ds := ⟨_, rfl⟩
  rw [hds] at hp hall hclip ⊢
  have hb : based (ds ++ 59 :: b) = (10, 0) := by
    cases ds with
    | nil => simp at hp
    | cons c l =>
      have hc := hall c (by simp)
      rw [List.cons_append, based, if_neg]
      rintro (rfl | rfl)
      · exact absurd hc (by decide)
      · exact absurd hc (by decide)
  have hm : many 10 (ds ++ 59 :: b) = ds.length := by
    rw [many_all 10 ds _ hall, many, if_neg (by decide), Nat.add_zero]
  unfold ref
  rw [if_pos (by rfl), List.drop_succ_cons, List.drop_zero]
  unfold numRef
  simp only [hb, List.drop_zero, hm, List.drop_left, List.take_left, List.head?_cons, if_true]
  rw [if_neg (by omega), hclip, number_min]
theorem decode_num (a b : List UInt8) (f n : Nat) (attr : Bool) (ha : ∀ c ∈ a, c ≠ 38) (hn : 0 < n) (h : n < 10 ^ (f + 1)) :
    decode (a ++ 38 :: 35 :: (digs (f + 1) n ++ 59 :: b)) attr = a ++ (Lib.encodeRune (number n) ++ decode b attr) := by
  have hs : step (35 :: (digs (f + 1) n ++ 59 :: b)) attr = (2 + (digs (f + 1) n).length + 1, Lib.encodeRune (number n)) := by
    rw [step, ref_num f n b attr hn h, if_neg (by simp)]
  rw [decode_at attr a _ ha, hs]
  have e : (38 :: 35 :: (digs (f + 1) n ++ 59 :: b)).drop (2 + (digs (f + 1) n).length + 1) = b := by
    rw [show 2 + (digs (f + 1) n).length + 1 = (digs (f + 1) n).length + 1 + 1 + 1 by omega, List.drop_succ_cons, List.drop_succ_cons, ← List.drop_drop, List.drop_left]
    rfl
  simp only [e]
  rw [List.append_assoc]
end Entp
end Go.Proofs.YtlajahhiijlhaaaDoor
