/- Plain: what JsAgain wants besides: errors are none of them 0; the tokens' texts are no longer than the script; the joined text, piece by piece. No program in sight. -/
import Derived.Test.YtngccmlcopcghaaGreatDoorPs
import Derived.Test.YtngccmlcopcghaaGreatDoorQl
namespace Go.Proofs.YtngccmlcopcghaaGreatDoor
namespace Jsp
open Go

theorem next_err {st : St} {s : List UInt8} {e o : Nat} (h : next st s = .no e o) : e ≠ 0 := by
  have htm : ∀ {e o}, tmpl st s = .no e o → e ≠ 0 := by
    intro e o h
    unfold tmpl at h
    dsimp only at h
    split at h
    · split at h
      · injection h with h; omega
      · split at h
        · cases h
        · split at h
          · injection h with h; omega
          · cases h
    · injection h with h; omega
  unfold next at h
  split at h
  · cases h
  split at h
  · split at h
    · injection h with h; omega
    · cases h
  split at h
  · dsimp only at h
    split at h
    · injection h with h; omega
    · cases h
  split at h
  · cases hq : quote s with
    | inl r =>
      rw [hq] at h
      dsimp only at h
      unfold quote at hq
      split at hq
      · split at hq
        · cases hq
        · injection hq with hq; subst hq; injection h with h; omega
      · injection hq with hq; subst hq; injection h with h; omega
    | inr y => rw [hq] at h; cases h
  split at h
  · exact htm h
  split at h
  · split at h
    · injection h with h; omega
    · cases h
  · split at h
    · injection h with h; omega
    · split at h
      · injection h with h; omega
      · cases h
theorem lexF_err : ∀ (f : Nat) (st : St) (s : List UInt8) (p : Nat) (l : List Tk) (e q : Nat), lexF f st s p l = .no e q → e ≠ 0
  | 0, _, _, _, _, _, _, h => by cases h
  | f + 1, st, s, p, l, e, q, h => by
    rw [lexF] at h
    split at h
    · injection h with h; omega
    · split at h
      · cases h
      · split at h
        · rename_i hn
          injection h with h _
          rw [← h]
          exact next_err hn
        · exact lexF_err f _ _ _ _ e q h
theorem tokens_zero {s : List UInt8} (h : (tokens s).2.1 = 0) : ∃ l st ln wd, lex (Cssp.decode s) = .ok l st ln wd ∧ st.stk = [] ∧ tokens s = (l, 0, 0) := by
  unfold tokens at h ⊢
  cases hl : lex (Cssp.decode s) with
  | no e p =>
    rw [hl] at h
    exact absurd h (lexF_err _ _ _ _ _ _ _ hl)
  | ok l st ln wd =>
    rw [hl] at h
    dsimp only at h
    by_cases h0 : st.stk = []
    · exact ⟨l, st, ln, wd, rfl, h0, if_pos h0⟩
    · rw [if_neg h0] at h
      exact absurd h (show ¬ (177 : Nat) = 0 by decide)
theorem tokens_some {s : List UInt8} (h : (tokens s).2.1 ≠ 0) : (tokens s).1 = [] := by
  unfold tokens at h ⊢
  cases hl : lex (Cssp.decode s) with
  | no e p => rfl
  | ok l st ln wd =>
    rw [hl] at h
    dsimp only at h ⊢
    by_cases h0 : st.stk = []
    · rw [if_pos h0] at h; exact absurd rfl h
    · rw [if_neg h0]
/-- how long the texts of tokens are, together -/
def tlen (l : List Tk) : Nat := (l.map fun x => x.t.length).sum
theorem tlen_append (l m : List Tk) : tlen (l ++ m) = tlen l + tlen m := by simp [tlen]
theorem lex_sum : ∀ (f : Nat) (s : List UInt8) (st : St) (p : Nat) (l0 L : List Tk) (st' : St) (ln w : Bool), s.length ≤ f → Cssp.valid s = true → lexX st s p l0 = .ok L st' ln w → tlen L ≤ tlen l0 + s.length
  | f, [], st, p, l0, L, st', ln, w, _, hv, h => by
    obtain ⟨w', hw'⟩ := nil_word st p l0
    rw [hw'] at h
    injection h with h1 h2 h3 h4
    rw [← h1]; exact Nat.le_add_right _ _
  | 0, c :: r, _, _, _, _, _, _, _, hf, _, _ => by simp at hf
  | f + 1, c :: r, st, p, l0, L, st', ln, w, hf, hv, h => by
    obtain ⟨s, hs⟩ : ∃ s, c :: r = s := ⟨_, rfl⟩
    rw [hs] at hf hv h ⊢
    clear hs
    rw [lexX_step _ _ _ _ hv] at h
    cases hgp : gap s with
    | inr o => rw [hgp] at h; cases h
    | inl y =>
      obtain ⟨j, ln2⟩ := y
      rw [hgp] at h
      simp only at h
      obtain ⟨i1, i2, _, _⟩ := gap_sp (c0 := 32) (.inl rfl) [] s.length s j ln2 (Nat.le_refl _) hv hgp
      by_cases h1 : s.drop j = []
      · rw [if_pos h1] at h
        injection h with a b c d
        rw [← a]; exact Nat.le_add_right _ _
      · rw [if_neg h1] at h
        cases hn : next st (s.drop j) with
        | no e o => rw [hn] at h; cases h
        | ok x k st2 =>
          rw [hn] at h
          simp only at h
          obtain ⟨_, n1, n2, n3⟩ := next_sp (c0 := 32) (.inl rfl) [] (s.drop j) st i2 h1 hn
          obtain ⟨m1, m2⟩ := next_self (s.drop j) st i2 h1 hn
          have hxl : x.t.length = k := by rw [m2, List.length_take]; omega
          rw [List.drop_drop] at n3
          rw [List.length_drop] at n2
          have ih := lex_sum f (s.drop (j + k)) st2 _ _ L st' ln w (by rw [List.length_drop]; omega) n3 h
          rw [tlen_append, List.length_drop, show tlen [x] = k by simp [tlen, hxl]] at ih
          omega
theorem tokens_sum {s : List UInt8} {l : List Tk} {st : St} {ln wd : Bool} (h : lex (Cssp.decode s) = .ok l st ln wd) : tlen l ≤ (Cssp.decode s).length := by
  have hv := valid_decode s.length s (Nat.le_refl _)
  have := lex_sum _ _ st0 0 [] l st ln wd (Nat.le_refl _) hv h
  simpa [tlen] using this
/-- what stands behind the i-th token -/
def gapAt (gs : List (List UInt8)) (i : Nat) : List UInt8 := match gs[i]? with
  | some g => g
  | none => [32]
theorem joinW_nil (gs : List (List UInt8)) : joinW [] gs = [] := by cases gs <;> rfl
theorem joinW_snoc : ∀ (l : List Tk) (x : Tk) (gs : List (List UInt8)), joinW (l ++ [x]) gs = joinW l gs ++ (x.t ++ gapAt gs l.length)
  | [], x, [] => rfl
  | [], x, g :: gs => by
    show x.t ++ g ++ joinW [] gs = [] ++ (x.t ++ g)
    rw [joinW_nil, List.append_nil, List.nil_append]
  | y :: l, x, [] => by
    have ih := joinW_snoc l x []
    show y.t ++ 32 :: joinW (l ++ [x]) [] = (y.t ++ 32 :: joinW l []) ++ _
    rw [ih]
    simp [gapAt]
  | y :: l, x, g :: gs => by
    have ih := joinW_snoc l x gs
    show y.t ++ g ++ joinW (l ++ [x]) gs = (y.t ++ g ++ joinW l gs) ++ _
    rw [ih]
    simp [gapAt]
theorem gapAt_len {gs : List (List UInt8)} (h : ∀ g ∈ gs, g ∈ gaps) (i : Nat) : (gapAt gs i).length ≤ 9 := by
  unfold gapAt
  cases hg : gs[i]? with
  | none => decide
  | some g =>
    have := h g (List.mem_of_getElem? hg)
    have all : ∀ g ∈ gaps, g.length ≤ 9 := by decide
    exact all g this
theorem tlen_take_le : ∀ (l : List Tk) (i : Nat), tlen (l.take i) ≤ tlen l
  | l, i => by
    have := tlen_append (l.take i) (l.drop i)
    rw [List.take_append_drop] at this
    omega
theorem tlen_get {l : List Tk} {i : Nat} {x : Tk} (h : l[i]? = some x) : tlen (l.take (i + 1)) = tlen (l.take i) + x.t.length := by
  rw [List.take_add_one, h, tlen_append]
  simp [tlen]
end Jsp
end Go.Proofs.YtngccmlcopcghaaGreatDoor
