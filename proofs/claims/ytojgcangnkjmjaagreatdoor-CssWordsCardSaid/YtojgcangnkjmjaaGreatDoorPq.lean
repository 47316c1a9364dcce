/- Plain: texts between quotes; texts behind texts, as they are read. No program in sight. -/
import Derived.Test.YtojgcangnkjmjaaGreatDoorSte
import Derived.Test.YtojgcangnkjmjaaGreatDoorDec
namespace Go.Proofs.YtojgcangnkjmjaaGreatDoor
namespace Cssp
open Go

/-- what is made of a text -/
def read' (s : List UInt8) : Al := all (clean (decode s))
theorem cleanC_plain : ∀ s : List UInt8, (∀ c ∈ s, c ≠ 0 ∧ c ≠ 12 ∧ c ≠ 13) → cleanC false s = s
  | [], _ => rfl
  | c :: r, h => by
    obtain ⟨h0, h1, h2⟩ := h c (by simp)
    rw [cleanC, if_neg (by simp), if_neg h0, if_neg h1, if_neg h2, cleanC_plain r fun d hd => h d (by simp [hd])]
theorem cleanC_true' (r : List UInt8) (h : r.head? ≠ some 10) : cleanC true r = cleanC false r := by
  cases r with
  | nil => rfl
  | cons d q =>
    have hd : ¬ d = 10 := fun e => h (by rw [e]; rfl)
    rw [cleanC, cleanC]
    simp [hd]
/-- cleaning goes piece by piece, where no CR stands at the end -/
theorem cleanC_app : ∀ (b : Bool) (s m : List UInt8), (∀ c, s.getLast? = some c → c ≠ 13) → (s = [] → b = false) → cleanC b (s ++ m) = cleanC b s ++ cleanC false m
  | b, [], m, _, hb => by rw [hb rfl]; simp [cleanC]
  | b, c :: r, m, h, _ => by
    have hl : ∀ d, r.getLast? = some d → d ≠ 13 := fun d hd => h d (by
      cases r with
      | nil => cases hd
      | cons x y => rw [List.getLast?_cons_cons]; exact hd)
    rw [List.cons_append, cleanC, cleanC]
    by_cases h1 : b = true ∧ c = 10
    · rw [if_pos h1, if_pos h1, cleanC_app false r m hl (fun _ => rfl)]
    rw [if_neg h1, if_neg h1]
    by_cases h2 : c = 0
    · rw [if_pos h2, if_pos h2, cleanC_app false r m hl (fun _ => rfl), List.append_assoc]
    rw [if_neg h2, if_neg h2]
    by_cases h3 : c = 12
    · rw [if_pos h3, if_pos h3, cleanC_app false r m hl (fun _ => rfl)]; rfl
    rw [if_neg h3, if_neg h3]
    by_cases h4 : c = 13
    · have hr : r ≠ [] := fun e => by subst e; exact h c rfl h4
      rw [if_pos h4, if_pos h4, cleanC_app true r m hl (fun e => absurd e hr)]; rfl
    · rw [if_neg h4, if_neg h4, cleanC_app false r m hl (fun _ => rfl)]; rfl
theorem clean_app (s m : List UInt8) (h : ∀ c, s.getLast? = some c → c ≠ 13) : clean (s ++ m) = clean s ++ clean m := cleanC_app false s m h (fun _ => rfl)
/-- the last byte behind cleaning -/
theorem cleanC_snoc (x : UInt8) (h10 : x ≠ 10) (h12 : x ≠ 12) (h13 : x ≠ 13) : ∀ (b : Bool) (s : List UInt8), cleanC b (s ++ [x]) = cleanC b s ++ (if x = 0 then fffd else [x])
  | b, [] => by
    have hs : cleanC b [x] = if b = true ∧ x = 10 then [] else if x = 0 then fffd ++ [] else if x = 12 then [10] else if x = 13 then [10] else [x] := by
      rw [cleanC]; simp only [cleanC]
    rw [List.nil_append, hs, if_neg (fun h => h10 h.2)]
    by_cases h0 : x = 0
    · rw [if_pos h0, if_pos h0]; simp [cleanC]
    · rw [if_neg h0, if_neg h12, if_neg h13, if_neg h0]; simp [cleanC]
  | b, c :: r => by
    have i0 := cleanC_snoc x h10 h12 h13 false r
    have i1 := cleanC_snoc x h10 h12 h13 true r
    rw [List.cons_append, cleanC, cleanC, i0, i1]
    (repeat' split) <;> simp
theorem clean_last (a : List UInt8) (hl : ∀ c, a.getLast? = some c → c ≠ 32 ∧ ¬ (9 ≤ c.toNat ∧ c.toNat ≤ 13)) : ∀ c, (clean a).getLast? = some c → blank c = false := by
  intro c hc
  have hca : a = [] ∨ ∃ s x, a = s ++ [x] := by
    rcases List.eq_nil_or_concat a with h | ⟨s, x, h⟩
    · exact .inl h
    · exact .inr ⟨s, x, by rw [h, List.concat_eq_append]⟩
  rcases hca with rfl | ⟨s, x, rfl⟩
  · cases hc
  · obtain ⟨h1, h2⟩ := hl x (by simp)
    have n10 : x ≠ 10 := fun e => h2 (by subst e; decide)
    have n12 : x ≠ 12 := fun e => h2 (by subst e; decide)
    have n13 : x ≠ 13 := fun e => h2 (by subst e; decide)
    have n9 : x ≠ 9 := fun e => h2 (by subst e; decide)
    unfold clean at hc
    rw [cleanC_snoc x n10 n12 n13] at hc
    by_cases h0 : x = 0
    · rw [if_pos h0] at hc
      have : c = 189 := by simpa [fffd] using hc.symm
      subst this; decide
    · rw [if_neg h0] at hc
      have : c = x := by simpa using hc.symm
      subst this
      simp only [blank, Bool.or_eq_false_iff, beq_eq_false_iff_ne]
      exact ⟨⟨h1, n9⟩, n10⟩

/-! ### quoted -/
def okQ (c : UInt8) : Bool := c != 34 && c != 92 && c != 0 && c != 10 && c != 12 && c != 13
theorem run_good (p : UInt8 → Bool) : ∀ (s m : List UInt8), (∀ c ∈ s, p c = true) → run p (s ++ m) = s.length + run p m
  | [], m, _ => by simp
  | c :: r, m, h => by
    rw [List.cons_append, run, if_pos (h c (by simp)), run_good p r m fun d hd => h d (by simp [hd])]
    simp only [List.length_cons]; omega
theorem strU_ok {c : UInt8} (h : okQ c = true) : strU 34 c = true := by
  simp only [okQ, Bool.and_eq_true, bne_iff_ne, ne_eq] at h
  simp only [strU, Bool.and_eq_true, bne_iff_ne, ne_eq]
  exact ⟨⟨h.1.1.1.1.1, h.1.1.2⟩, h.1.1.1.1.2⟩
theorem textX_closed (s : List UInt8) (h : ∀ c ∈ s, okQ c = true) : textX 34 (s ++ [34]) = ⟨false, s, s.length + 1, false, false, s.length⟩ := by
  have hr : run (strU 34) (s ++ [34]) = s.length := by rw [run_good _ s [34] fun c hc => strU_ok (h c hc)]; rfl
  rw [textX_run, hr, List.drop_left, List.take_left, textX_cons, if_pos rfl]
  simp only [Tx.on, List.append_nil, Nat.zero_add, Nat.add_comm 1]
theorem textX_within (s : List UInt8) (h : ∀ c ∈ s, okQ c = true) : textX 34 s = ⟨false, s, s.length, false, true, s.length⟩ := by
  have hr : run (strU 34) s = s.length := by
    have := run_good (strU 34) s [] fun c hc => strU_ok (h c hc)
    rw [List.append_nil] at this
    rw [this, run, Nat.add_zero]
  rw [textX_run, hr, List.drop_length, List.take_length, textX_nil]
  simp only [Tx.on, List.append_nil, Nat.zero_add]
theorem one_quote (s : List UInt8) : one (34 :: s) = thOf (textX 34 s) := by
  rw [one_eq, show at_ (34 :: s) 0 = 34 from rfl, if_neg (by decide), if_pos (.inl rfl)]
  exact text_cons 34 s
theorem quoted_all (s : List UInt8) (h : ∀ c ∈ s, okQ c = true) : (all (34 :: (s ++ [34]))).l = [⟨6, s, [], false⟩] ∧ (all (34 :: (s ++ [34]))).w = ⟨1, 0⟩ := by
  have h1 : one (34 :: (s ++ [34])) = ⟨tk 6 s, s.length + 2, false, false, s.length + 1⟩ := by rw [one_quote, textX_closed s h]; rfl
  have hc : ¬ [47, 42].isPrefixOf (34 :: (s ++ [34])) = true := by
    simp only [List.isPrefixOf_iff_prefix, List.cons_prefix_cons]
    exact fun h => absurd h.1 (by decide)
  have hd : (34 :: (s ++ [34])).drop (s.length + 2) = [] := List.drop_eq_nil_of_le (by simp)
  rw [all_l, all_w, lp_step _ _ _ (by simp), if_neg hc, h1]
  simp only [hd, lp_nil]
  exact ⟨rfl, rfl⟩
theorem within_all (s : List UInt8) (h : ∀ c ∈ s, okQ c = true) : (all (34 :: s)).w = ⟨3, 34⟩ := by
  have h1 : one (34 :: s) = ⟨tk 6 s, s.length + 1, false, true, s.length + 1⟩ := by rw [one_quote, textX_within s h]; rfl
  have hc : ¬ [47, 42].isPrefixOf (34 :: s) = true := by
    simp only [List.isPrefixOf_iff_prefix, List.cons_prefix_cons]
    exact fun h => absurd h.1 (by decide)
  have hd : (34 :: s).drop (s.length + 1) = [] := List.drop_eq_nil_of_le (by simp)
  rw [all_w, lp_step _ _ _ (by simp), if_neg hc, h1]
  simp only [hd, lp_nil]
  rfl
theorem ok_clean {s : List UInt8} (h : ∀ c ∈ s, okQ c = true) : ∀ c ∈ s, c ≠ 0 ∧ c ≠ 12 ∧ c ≠ 13 := fun c hc => by
  have := h c hc
  simp only [okQ, Bool.and_eq_true, bne_iff_ne, ne_eq] at this
  exact ⟨this.1.1.1.2, this.1.2, this.2⟩
theorem valid_one {c : UInt8} (h : c.toNat < 128) : valid [c] = true := by
  rw [valid_step [c] (by simp)]
  have hf : first c = ((0, 128, 191), true) := by unfold first; rw [if_pos h]
  have hp : piece [c] = (1, true) := by rw [piece, hf]; rfl
  rw [hp]; rfl
theorem read_quoted (s : List UInt8) (hv : valid s = true) (h : ∀ c ∈ s, okQ c = true) :
    (read' (34 :: (s ++ [34]))).l = [⟨6, s, [], false⟩] ∧ (read' (34 :: (s ++ [34]))).w = ⟨1, 0⟩ ∧ (read' (34 :: s)).w = ⟨3, 34⟩ := by
  have v34 : valid [34] = true := valid_one (by decide)
  have v1 : valid (34 :: (s ++ [34])) = true := by
    have := valid_app [34] (s ++ [34]) v34
    rw [List.singleton_append] at this
    rw [this, valid_app s [34] hv, v34]
  have v2 : valid (34 :: s) = true := by
    have := valid_app [34] s v34
    rw [List.singleton_append] at this
    rw [this, hv]
  have c1 : clean (34 :: (s ++ [34])) = 34 :: (s ++ [34]) := cleanC_plain _ fun c hc => by
    simp only [List.mem_cons, List.mem_append, List.not_mem_nil, or_false] at hc
    rcases hc with rfl | hc | rfl
    · decide
    · exact ok_clean h c hc
    · decide
  have c2 : clean (34 :: s) = 34 :: s := cleanC_plain _ fun c hc => by
    simp only [List.mem_cons] at hc
    rcases hc with rfl | hc
    · decide
    · exact ok_clean h c hc
  unfold read'
  rw [decode_valid _ v1, decode_valid _ v2, c1, c2]
  exact ⟨(quoted_all s h).1, (quoted_all s h).2, within_all s h⟩

/-! ### joins, states -/
theorem read_join (a b : List UInt8) (ha : valid a = true) (hb : valid b = true) (hw : (read' a).w = ⟨1, 0⟩) (hl : ∀ c, a.getLast? = some c → c ≠ 32 ∧ ¬ (9 ≤ c.toNat ∧ c.toNat ≤ 13)) :
    (read' (a ++ b)).l = (read' a).l ++ (read' b).l ∧ (read' (a ++ b)).w = (read' b).w := by
  have hab : valid (a ++ b) = true := by rw [valid_app a b ha, hb]
  unfold read' at hw ⊢
  rw [decode_valid _ ha] at hw
  rw [decode_valid _ hab, decode_valid _ ha, decode_valid _ hb, clean_app a b fun c hc => by
    have := hl c hc
    rintro rfl
    exact this.2 (by decide)]
  exact all_join _ _ (clean_last a hl) hw
theorem read_states (a b m : List UInt8) (ha : valid a = true) (hb : valid b = true) (hm : valid m = true) (la : ∀ c, a.getLast? = some c → c ≠ 13) (lb : ∀ c, b.getLast? = some c → c ≠ 13)
    (hw : (read' a).w = (read' b).w) (hr : (read' a).rest = (read' b).rest) : (read' (a ++ m)).w = (read' (b ++ m)).w ∧ (read' (a ++ m)).rest = (read' (b ++ m)).rest := by
  have ham : valid (a ++ m) = true := by rw [valid_app a m ha, hm]
  have hbm : valid (b ++ m) = true := by rw [valid_app b m hb, hm]
  unfold read' at hw hr ⊢
  rw [decode_valid _ ha, decode_valid _ hb] at hw hr
  rw [decode_valid _ ham, decode_valid _ hbm, clean_app a m la, clean_app b m lb]
  exact all_states _ _ _ hw hr
end Cssp
end Go.Proofs.YtojgcangnkjmjaaGreatDoor
