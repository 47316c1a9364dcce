/- Plain: scripts joined by a blank. No program in sight. -/
import Derived.Test.YtngccmlcopcghaaGreatDoorPi
namespace Go.Proofs.YtngccmlcopcghaaGreatDoor
namespace Jsp
open Go

theorem lexF_fuel : ∀ (f g : Nat) (st : St) (s : List UInt8) (p : Nat) (l : List Tk), Cssp.valid s = true → s.length < f → s.length < g → lexF f st s p l = lexF g st s p l
  | 0, _, _, _, _, _, _, h, _ => by omega
  | _, 0, _, _, _, _, _, _, h => by omega
  | f + 1, g + 1, st, s, p, l, hv, hf, hg => by
    rw [lexF, lexF]
    cases hgp : gap s with
    | inr o => rfl
    | inl y =>
      obtain ⟨j, ln⟩ := y
      simp only
      by_cases h1 : s.drop j = []
      · rw [if_pos h1, if_pos h1]
      · rw [if_neg h1, if_neg h1]
        obtain ⟨i1, i2, _, _⟩ := gap_sp (c0 := 32) (.inl rfl) [] s.length s j ln (Nat.le_refl _) hv hgp
        cases hn : next st (s.drop j) with
        | no e o => rfl
        | ok x k st2 =>
          simp only
          obtain ⟨_, n1, n2, n3⟩ := next_sp (c0 := 32) (.inl rfl) [] (s.drop j) st i2 h1 hn
          rw [List.drop_drop] at n3
          rw [List.length_drop] at n2
          exact lexF_fuel f g st2 _ _ _ n3 (by rw [List.length_drop]; omega) (by rw [List.length_drop]; omega)
def lexX (st : St) (s : List UInt8) (p : Nat) (l : List Tk) : Al := lexF (s.length + 1) st s p l
theorem lexX_step (st : St) (s : List UInt8) (p : Nat) (l : List Tk) (hv : Cssp.valid s = true) : lexX st s p l = match gap s with
    | .inr o => .no 175 (p + o)
    | .inl (g, ln) =>
      if s.drop g = [] then .ok l st ln (g == 0 && match l.getLast? with
        | none => false
        | some x => wordy x)
      else match next st (s.drop g) with
        | .no e o => .no e (p + g + o)
        | .ok x k st2 => lexX st2 (s.drop (g + k)) (p + g + k) (l ++ [x]) := by
  conv => lhs; unfold lexX
  rw [lexF]
  cases hgp : gap s with
  | inr o => rfl
  | inl y =>
    obtain ⟨j, ln⟩ := y
    simp only
    by_cases h1 : s.drop j = []
    · rw [if_pos h1, if_pos h1]
      rfl
    · rw [if_neg h1, if_neg h1]
      obtain ⟨i1, i2, _, _⟩ := gap_sp (c0 := 32) (.inl rfl) [] s.length s j ln (Nat.le_refl _) hv hgp
      cases hn : next st (s.drop j) with
      | no e o => rfl
      | ok x k st2 =>
        simp only
        obtain ⟨_, n1, n2, n3⟩ := next_sp (c0 := 32) (.inl rfl) [] (s.drop j) st i2 h1 hn
        rw [List.drop_drop] at n3
        rw [List.length_drop] at n2
        exact lexF_fuel _ _ st2 _ _ _ n3 (by rw [List.length_drop]; omega) (Nat.lt_succ_self _)
theorem gap_one {c0 : UInt8} (hc : Sp c0) (D : List UInt8) : gap (c0 :: D) = gapOn 1 (gap D) := by
  rw [gap_step _ (by simp), pt_ascii hc.lt, pn_ascii hc.lt, if_pos (by rcases hc with rfl | rfl; exact .inl (by decide); exact .inr (by decide))]
  rfl
/-- behind a script that ends otherwise than in a comment of a line: a blank, and what comes behind it -/
theorem lex_join {c0 : UInt8} (hc : Sp c0) (D : List UInt8) (hD : Cssp.valid D = true) : ∀ (f : Nat) (s : List UInt8) (st : St) (p : Nat) (l l' : List Tk) (st' : St) (w : Bool), s.length ≤ f → Cssp.valid s = true →
    lexX st s p l = .ok l' st' false w → lexX st (s ++ c0 :: D) p l = lexX st' (c0 :: D) (p + s.length) l'
  | f, [], st, p, l, l', st', w, _, hv, h => by
    rw [lexX_step _ _ _ _ hv] at h
    have e : gap [] = .inl (0, false) := rfl
    rw [e] at h
    simp only [List.drop_zero, if_true] at h
    injection h with h1 h2 h3 h4
    rw [h1, h2]
    rfl
  | 0, c :: r, _, _, _, _, _, _, hf, _, _ => by simp at hf
  | f + 1, c :: r, st, p, l, l', st', w, hf, hv, h => by
    obtain ⟨s, hs⟩ : ∃ s, c :: r = s := ⟨_, rfl⟩
    rw [hs] at hf hv h ⊢
    have h0 : s ≠ [] := by rw [← hs]; simp
    have hpos := List.length_pos_iff.2 h0
    clear hs
    have hcD : Cssp.valid (c0 :: D) = true := by
      rw [Cssp.valid_step _ (by simp), piece_ascii hc.lt]
      exact hD
    have hvD : Cssp.valid (s ++ c0 :: D) = true := by rw [Cssp.valid_app s _ hv]; exact hcD
    rw [lexX_step _ _ _ _ hv] at h
    rw [lexX_step _ _ _ _ hvD]
    cases hgp : gap s with
    | inr o => rw [hgp] at h; cases h
    | inl y =>
      obtain ⟨j, ln⟩ := y
      rw [hgp] at h
      simp only at h
      obtain ⟨i1, i2, i3, i4⟩ := gap_sp hc D s.length s j ln (Nat.le_refl _) hv hgp
      by_cases h1 : s.drop j = []
      · rw [if_pos h1] at h
        injection h with a b c d
        subst a; subst b
        rw [i4 h1 c, lexX_step _ _ _ _ hcD]
        have hg1 := gap_one hc D
        cases hgD : gap (c0 :: D) with
        | inr o => simp only [gapOn, Nat.add_assoc, Nat.add_comm o]
        | inl z =>
          obtain ⟨k, ln2⟩ := z
          rw [hgD] at hg1
          obtain ⟨k', _, hk'⟩ := gapOn_inl hg1.symm
          simp only [gapOn]
          have hd : (s ++ c0 :: D).drop (k + s.length) = (c0 :: D).drop k := by rw [Nat.add_comm, ← List.drop_drop, List.drop_left]
          rw [hd]
          have z1 : (k + s.length == 0) = false := by rw [beq_eq_false_iff_ne]; omega
          have z2 : (k == 0) = false := by rw [beq_eq_false_iff_ne]; omega
          rw [z1, z2]
          by_cases h2 : (c0 :: D).drop k = []
          · rw [if_pos h2, if_pos h2]
          · rw [if_neg h2, if_neg h2]
            cases next st ((c0 :: D).drop k) with
            | no e o => simp only; congr 1; omega
            | ok x n st2 =>
              simp only
              rw [show k + s.length + n = s.length + (k + n) by omega, ← List.drop_drop, List.drop_left, show p + (k + s.length) + n = p + s.length + k + n by omega]
      · rw [if_neg h1] at h
        rw [i3 h1]
        simp only
        rw [drop_sp i1, if_neg (by simp)]
        cases hn : next st (s.drop j) with
        | no e o => rw [hn] at h; cases h
        | ok x k st2 =>
          rw [hn] at h
          simp only at h
          obtain ⟨n0, n1, n2, n3⟩ := next_sp hc D (s.drop j) st i2 h1 hn
          rw [n0]
          simp only
          rw [List.drop_drop] at n3
          rw [List.length_drop] at n2
          rw [drop_sp (show j + k ≤ s.length by omega), lex_join hc D hD f (s.drop (j + k)) st2 _ _ l' st' w (by rw [List.length_drop]; omega) n3 h]
          congr 1
          rw [List.length_drop]
          omega
theorem lex_X (s : List UInt8) : lex s = lexX st0 s 0 [] := rfl

/-! ### texts read -/
theorem goOn_self : ∀ (k lo hi n : Nat) (r : List UInt8), (Cssp.goOn k lo hi n r).2 = true → Cssp.goOn k lo hi n (r.take k) = Cssp.goOn k lo hi n r
  | 0, _, _, _, _, _ => by simp [Cssp.goOn]
  | k + 1, _, _, _, [], h => by simp [Cssp.goOn] at h
  | k + 1, lo, hi, n, c :: r, h => by
    rw [Cssp.goOn] at h
    rw [List.take_succ_cons, Cssp.goOn, Cssp.goOn]
    split
    · rfl
    · rename_i hc
      rw [if_neg hc] at h
      exact goOn_self k 128 191 (n + 1) r h
theorem valid_code (s : List UInt8) (h : s ≠ []) : Cssp.valid (Cssp.code s) = true := by
  unfold Cssp.code
  split
  · rename_i hp
    obtain ⟨c, r, rfl⟩ := List.exists_cons_of_ne_nil h
    have hle := Cssp.piece_le (c :: r) h
    rw [Cssp.piece] at hp hle ⊢
    by_cases hf : (Cssp.first c).2 = true
    · rw [if_pos hf] at hp hle ⊢
      have hfu := Cssp.goOn_full (Cssp.first c).1.1 (Cssp.first c).1.2.1 (Cssp.first c).1.2.2 1 r
      rw [hp] at hfu
      have hfu := of_decide_eq_true hfu.symm
      obtain ⟨K, hK⟩ : ∃ K, (Cssp.first c).1.1 = K := ⟨_, rfl⟩
      have hs := goOn_self _ _ _ 1 r hp
      rw [hfu, Nat.add_comm, List.take_succ_cons]
      have hpc : Cssp.piece (c :: r.take (Cssp.first c).1.1) = (1 + (Cssp.first c).1.1, true) := by
        rw [Cssp.piece, if_pos hf, hs, ← hfu, ← hp]
      rw [Cssp.valid_step _ (by simp), hpc]
      have hd : (c :: r.take (Cssp.first c).1.1).drop (1 + (Cssp.first c).1.1) = [] := List.drop_eq_nil_of_le (by rw [List.length_cons, List.length_take]; omega)
      rw [hd]; rfl
    · rw [if_neg hf] at hp; cases hp
  · decide
theorem valid_decode : ∀ (f : Nat) (s : List UInt8), s.length ≤ f → Cssp.valid (Cssp.decode s) = true
  | 0, s, h => by
    have : s = [] := List.eq_nil_of_length_eq_zero (by omega)
    subst this; rfl
  | f + 1, s, h => by
    by_cases h0 : s = []
    · subst h0; rfl
    · have := Cssp.piece_le s h0
      rw [Cssp.decode_step s h0, Cssp.valid_app _ _ (valid_code s h0)]
      exact valid_decode f _ (by rw [List.length_drop]; omega)
theorem goOn_ascii {c : UInt8} (hc : c.toNat < 128) (m : List UInt8) : ∀ (k lo hi n : Nat) (r : List UInt8), 128 ≤ lo → Cssp.goOn k lo hi n (r ++ c :: m) = Cssp.goOn k lo hi n r
  | 0, _, _, _, r, _ => by simp [Cssp.goOn]
  | k + 1, lo, hi, n, [], h => by
    show (if c.toNat < lo ∨ hi < c.toNat then (n, false) else _) = (n, false)
    rw [if_pos (.inl (by omega))]
  | k + 1, lo, hi, n, d :: r, h => by
    rw [List.cons_append, Cssp.goOn, Cssp.goOn, goOn_ascii hc m k 128 191 (n + 1) r (Nat.le_refl _)]
theorem piece_ascii_app {c : UInt8} (hc : c.toNat < 128) (m s : List UInt8) (h : s ≠ []) : Cssp.piece (s ++ c :: m) = Cssp.piece s := by
  obtain ⟨d, r, rfl⟩ := List.exists_cons_of_ne_nil h
  rw [List.cons_append, Cssp.piece, Cssp.piece, goOn_ascii hc m _ _ _ _ _ (first_lo d)]
theorem decode_ascii {c : UInt8} (hc : c.toNat < 128) (m : List UInt8) : ∀ (f : Nat) (s : List UInt8), s.length ≤ f → Cssp.decode (s ++ c :: m) = Cssp.decode s ++ Cssp.decode (c :: m)
  | 0, s, h => by
    have : s = [] := List.eq_nil_of_length_eq_zero (by omega)
    subst this; rfl
  | f + 1, s, h => by
    by_cases h0 : s = []
    · subst h0; rfl
    · have hle := Cssp.piece_le s h0
      rw [Cssp.decode_step s h0, Cssp.decode_step (s ++ c :: m) (by simp), Cssp.code, Cssp.code, piece_ascii_app hc m s h0, List.take_append_of_le_length hle.2.1, List.drop_append_of_le_length hle.2.1,
        decode_ascii hc m f _ (by rw [List.length_drop]; omega), List.append_assoc]
/-- a script and where it ends -/
def read (s : List UInt8) : Al := lex (Cssp.decode s)
/-- what the law JsJoins lays behind: a blank, a comment, the end of a line -/
def behind : List UInt8 := [47, 42, 32, 39, 32, 42, 47, 10]
theorem behind_ok (st : St) (p : Nat) (l : List Tk) : lexX st (32 :: behind) p l = .ok l st false false := by
  have hv : Cssp.valid (32 :: behind) = true := by decide
  have hg : gap (32 :: behind) = .inl (9, false) := by decide
  rw [lexX_step _ _ _ _ hv, hg]
  rfl
theorem read_joins (s : List UInt8) {l : List Tk} {st : St} {w : Bool} (h : read s = .ok l st false w) : read (s ++ 32 :: behind) = .ok l st false false := by
  have hv := valid_decode s.length s (Nat.le_refl _)
  unfold read at h ⊢
  rw [decode_ascii (by decide) behind s.length s (Nat.le_refl _), Cssp.decode_valid (32 :: behind) (by decide)]
  rw [lex_X] at h ⊢
  rw [lex_join (.inl rfl) behind (by decide) _ _ st0 0 [] l st w (Nat.le_refl _) hv h]
  exact behind_ok st _ l
end Jsp
end Go.Proofs.YtngccmlcopcghaaGreatDoor
namespace Go.Proofs.YtngccmlcopcghaaGreatDoor
namespace Jsp
open Go

theorem valid_asc : ∀ d : List UInt8, (∀ c ∈ d, c.toNat < 128) → Cssp.valid d = true
  | [], _ => rfl
  | c :: r, h => by
    rw [Cssp.valid_step _ (by simp), piece_ascii (h c (by simp))]
    exact valid_asc r fun x hx => h x (List.mem_cons_of_mem _ hx)
def isDig (c : UInt8) : Bool := decide (48 ≤ c.toNat) && decide (c.toNat ≤ 57)
theorem digitsF_all : ∀ (d : List UInt8) (last : UInt8) (any : Bool), (∀ c ∈ d, isDig c = true) → (d ≠ [] ∨ (any = true ∧ last ≠ 95)) → digitsF 10 last any d = (d.length, true)
  | [], last, any, _, h => by
    rcases h with h | ⟨h1, h2⟩
    · exact absurd rfl h
    · rw [digitsF, h1]
      simp [h2]
  | c :: r, last, any, hd, _ => by
    have hc := hd c (by simp)
    simp only [isDig, Bool.and_eq_true, decide_eq_true_eq] at hc
    have h95 : c ≠ 95 := by
      rintro rfl
      have : (95 : UInt8).toNat = 95 := rfl
      omega
    have hx : hexV c = (c.toNat : Int) - 48 := by unfold hexV; rw [if_pos hc]
    rw [digitsF, if_neg h95, if_neg (by rw [hx]; omega), digitsF_all r c true (fun x hx => hd x (List.mem_cons_of_mem _ hx)) (.inr ⟨rfl, h95⟩), List.length_cons]
/-- a whole number -/
theorem next_num (st : St) (d : List UInt8) (hd : ∀ c ∈ d, isDig c = true) (h0 : d ≠ []) (hz : d.head? = some 48 → d.length = 1) : next st d = .ok ⟨4, d, []⟩ d.length (plainS st) := by
  obtain ⟨c, r, rfl⟩ := List.exists_cons_of_ne_nil h0
  have hc := hd c (by simp)
  simp only [isDig, Bool.and_eq_true, decide_eq_true_eq] at hc
  have hpt := pt_ascii (c := c) (by omega) r
  have hn : numeral (c :: r) = ((c :: r).length, true) := by
    have h46 : isB (· == 46) (c :: r) = false := by
      show (c == 46) = false
      rw [beq_eq_false_iff_ne]
      rintro rfl
      have : (46 : UInt8).toNat = 46 := rfl
      omega
    have hb : ¬ (isB (· == 48) (c :: r) = true ∧ baseOf (Cssp.at_ (c :: r) 1) ≠ 0) := by
      rintro ⟨h1, h2⟩
      have h48 : c = 48 := beq_iff_eq.1 h1
      have hl := hz (by rw [h48]; rfl)
      have hr : r = [] := List.eq_nil_of_length_eq_zero (by simpa using hl)
      subst hr
      exact h2 rfl
    have hdg : digits 10 (c :: r) = ((c :: r).length, true) := digitsF_all _ _ _ hd (.inl h0)
    unfold numeral
    rw [if_neg hb]
    simp only [h46, Bool.false_eq_true, if_false, hdg, List.drop_length, true_and]
    have hb2 : ¬ (isB (· == 48) (c :: r) = true ∧ 1 < (c :: r).length) := by
      rintro ⟨h1, h2⟩
      have h48 : c = 48 := beq_iff_eq.1 h1
      have := hz (by rw [h48]; rfl)
      omega
    rw [if_neg (by rintro (h | h); cases h; exact hb2 h)]
    have e1 : frac [] = (0, true) := rfl
    have e2 : expo [] = (0, true) := rfl
    have e3 : isB (· == 110) [] = false := rfl
    simp [e1, e2, e3]
  have hbg : begins (pt (c :: r)) = false := by
    rw [hpt]
    unfold begins alpha
    simp only [Bool.or_eq_false_iff, Bool.and_eq_false_iff, decide_eq_false_iff_not, beq_eq_false_iff_ne, ne_eq]
    omega
  unfold next
  rw [hbg, if_neg (by decide), if_neg (by rw [hpt]; omega), if_pos (.inl (by rw [hpt, digit, decide_eq_true hc.1, decide_eq_true hc.2]; rfl))]
  simp only [hn, List.drop_length, List.take_length]
  rw [if_neg (by rintro (h | h); cases h; exact h rfl)]
theorem lex_word (st : St) (d : List UInt8) (x : Tk) (st2 : St) (p : Nat) (l : List Tk) (hv : Cssp.valid d = true) (h0 : d ≠ []) (hg : gap d = .inl (0, false)) (h : next st d = .ok x d.length st2) :
    lexX st (32 :: (d ++ [32])) p l = .ok (l ++ [x]) st2 false false := by
  have hv2 : Cssp.valid (32 :: (d ++ [32])) = true := by
    rw [Cssp.valid_step _ (by simp), piece_ascii (by decide)]
    show Cssp.valid (d ++ [32]) = true
    rw [Cssp.valid_app d _ hv]; decide
  have g1 : gap (d ++ [32]) = .inl (0, false) := (gap_sp (.inl rfl) [] d.length d 0 false (Nat.le_refl _) hv hg).2.2.1 (by simpa using h0)
  have n1 := (next_sp (.inl rfl) [] d st hv h0 h).1
  rw [lexX_step _ _ _ _ hv2, gap_one (.inl rfl), g1]
  simp only [gapOn, List.drop_succ_cons, List.drop_zero, Nat.zero_add]
  rw [if_neg (by simp), n1]
  simp only
  have hd : (32 :: (d ++ [32])).drop (1 + d.length) = [32] := by rw [Nat.add_comm, List.drop_succ_cons, List.drop_left]
  rw [hd, lexX_step _ _ _ _ (by decide), show gap [32] = .inl (1, false) by decide]
  rfl
/-- a script that ends plainly, a blank, a value, a blank -/
theorem read_value (s d : List UInt8) {l : List Tk} {st : St} {w : Bool} (h : read s = .ok l st false w) (x : Tk) (st2 : St) (hd : ∀ c ∈ d, c.toNat < 128) (h0 : d ≠ []) (hg : gap d = .inl (0, false)) (hn : next st d = .ok x d.length st2) :
    read (s ++ 32 :: (d ++ [32])) = .ok (l ++ [x]) st2 false false := by
  have hv := valid_decode s.length s (Nat.le_refl _)
  have hva : ∀ c ∈ 32 :: (d ++ [32]), c.toNat < 128 := fun c hc => by
    simp only [List.mem_cons, List.mem_append, List.not_mem_nil, or_false] at hc
    rcases hc with rfl | hc | rfl
    · decide
    · exact hd c hc
    · decide
  have hv2 := valid_asc _ hva
  unfold read at h ⊢
  rw [decode_ascii (by decide) _ s.length s (Nat.le_refl _), Cssp.decode_valid _ hv2]
  rw [lex_X] at h ⊢
  rw [lex_join (.inl rfl) (d ++ [32]) (valid_asc _ fun c hc => hva c (List.mem_cons_of_mem _ hc)) _ _ st0 0 [] l st w (Nat.le_refl _) hv h]
  exact lex_word st d x st2 _ l (valid_asc d hd) h0 hg hn
theorem gap_num (d : List UInt8) (hd : ∀ c ∈ d, isDig c = true) (h0 : d ≠ []) : gap d = .inl (0, false) := by
  obtain ⟨c, r, rfl⟩ := List.exists_cons_of_ne_nil h0
  have hc := hd c (by simp)
  simp only [isDig, Bool.and_eq_true, decide_eq_true_eq] at hc
  have hpt := pt_ascii (c := c) (by omega) r
  have h47 : c ≠ 47 := by
    rintro rfl
    have : (47 : UInt8).toNat = 47 := rfl
    omega
  rw [gap_step _ h0, hpt, if_neg, if_neg, if_neg]
  · simp [List.isPrefixOf, Ne.symm h47]
  · simp [List.isPrefixOf, Ne.symm h47]
  · simp only [blank, lineEnd, Bool.or_eq_true, Bool.and_eq_true, beq_iff_eq, decide_eq_true_eq]
    omega
end Jsp
end Go.Proofs.YtngccmlcopcghaaGreatDoor
namespace Go.Proofs.YtngccmlcopcghaaGreatDoor
namespace Jsp
open Go

theorem goOn_hi : ∀ (k lo hi n : Nat) (r : List UInt8), hi ≤ 191 → (Cssp.goOn k lo hi n r).2 = true → ∀ i c, i < k → r[i]? = some c → c.toNat ≤ 191
  | 0, _, _, _, _, _, _, i, _, hi, _ => by omega
  | k + 1, lo, hi, n, [], _, h, i, c, _, hc => by simp at hc
  | k + 1, lo, hi, n, d :: r, hlo, h, 0, c, _, hc => by
    simp at hc; subst hc
    rw [Cssp.goOn] at h
    split at h
    · cases h
    · omega
  | k + 1, lo, hi, n, d :: r, hlo, h, i + 1, c, hik, hc => by
    rw [Cssp.goOn] at h
    split at h
    · cases h
    · exact goOn_hi k 128 191 (n + 1) r (Nat.le_refl _) h i c (by omega) (by simpa using hc)
theorem first_hi (c : UInt8) : (Cssp.first c).1.2.2 ≤ 191 := by
  unfold Cssp.first
  (repeat' split) <;> decide
theorem piece_tail_hi {s : List UInt8} (h : s ≠ []) (hp : (Cssp.piece s).2 = true) {i : Nat} {c : UInt8} (h1 : 1 ≤ i) (hi : i < (Cssp.piece s).1) (hc : s[i]? = some c) : c.toNat ≤ 191 := by
  cases s with
  | nil => exact absurd rfl h
  | cons d r =>
    rw [Cssp.piece] at hp hi
    by_cases hf : (Cssp.first d).2 = true
    · rw [if_pos hf] at hp hi
      have hg := Cssp.goOn_le (Cssp.first d).1.1 (Cssp.first d).1.2.1 (Cssp.first d).1.2.2 1 r
      obtain ⟨j, rfl⟩ : ∃ j, i = j + 1 := ⟨i - 1, by omega⟩
      exact goOn_hi _ _ _ _ r (first_hi d) hp j c (by omega) (by simpa using hc)
    · rw [if_neg hf] at hp; cases hp
theorem valid_take : ∀ (f : Nat) (s : List UInt8) (k : Nat), s.length ≤ f → Cssp.valid s = true → Cssp.valid (s.drop k) = true → Cssp.valid (s.take k) = true
  | f, s, 0, _, _, _ => by rw [List.take_zero]; rfl
  | 0, s, k + 1, hf, _, _ => by
    have : s = [] := List.eq_nil_of_length_eq_zero (by omega)
    subst this; rw [List.take_nil]; rfl
  | f + 1, s, k + 1, hf, hv, hd => by
    by_cases h0 : s = []
    · subst h0; rw [List.take_nil]; rfl
    obtain ⟨hp, hvd⟩ := valid_split hv h0
    have hle := Cssp.piece_le s h0
    by_cases hk : (Cssp.piece s).1 ≤ k + 1
    · obtain ⟨n, hn⟩ : ∃ n, (Cssp.piece s).1 = n := ⟨_, rfl⟩
      have hc := valid_code s h0
      rw [Cssp.code, if_pos hp] at hc
      rw [hn] at hk hvd hle hc
      rw [show k + 1 = n + (k + 1 - n) by omega, List.take_add, Cssp.valid_app _ _ hc]
      exact valid_take f (s.drop n) (k + 1 - n) (by rw [List.length_drop]; omega) hvd (by rw [List.drop_drop, show n + (k + 1 - n) = k + 1 by omega]; exact hd)
    · exfalso
      have hlt : k + 1 < s.length := by omega
      obtain ⟨d, hdc⟩ : ∃ d, s[k + 1] = d := ⟨_, rfl⟩
      have hg : s[k + 1]? = some d := by rw [List.getElem?_eq_getElem hlt, hdc]
      have b1 := piece_tail h0 hp (i := k + 1) (by omega) (by omega) hg
      have b2 := piece_tail_hi h0 hp (i := k + 1) (by omega) (by omega) hg
      have hdd : s.drop (k + 1) = d :: s.drop (k + 1 + 1) := by rw [← hdc]; exact List.drop_eq_getElem_cons hlt
      rw [hdd] at hd
      have hq := (valid_split hd (by simp)).1
      rw [Cssp.piece] at hq
      have hf : (Cssp.first d).2 = false := by
        unfold Cssp.first
        rw [if_neg (by omega), if_neg (by omega), if_pos (by omega)]
      rw [hf] at hq
      cases hq
theorem pt_take {s : List UInt8} {k : Nat} (h0 : s ≠ []) (hk : 1 ≤ k) (hvt : Cssp.valid (s.take k) = true) : pt (s.take k) = pt s ∧ pn (s.take k) = pn s ∧ s.take k ≠ [] := by
  have hne : s.take k ≠ [] := by
    obtain ⟨c, r, rfl⟩ := List.exists_cons_of_ne_nil h0
    obtain ⟨j, rfl⟩ : ∃ j, k = j + 1 := ⟨k - 1, by omega⟩
    simp
  have h := pt_app (s.drop k) hvt hne
  rw [List.take_append_drop] at h
  exact ⟨h.1.symm, h.2.symm, hne⟩
theorem run_self (p : Nat → Bool) : ∀ (f : Nat) (s : List UInt8), s.length ≤ f → Cssp.valid s = true → run p (s.take (run p s)) = run p s
  | 0, s, hf, _ => by
    have : s = [] := List.eq_nil_of_length_eq_zero (by omega)
    subst this; rfl
  | f + 1, s, hf, hv => by
    by_cases h0 : s = []
    · subst h0; rfl
    have hp := pn_le h0
    by_cases hq : p (pt s) = true
    · have e : run p s = pn s + run p (s.drop (pn s)) := by rw [run_step p s h0, if_pos hq]
      have hvt := valid_take s.length s (run p s) (Nat.le_refl _) hv (valid_run p s.length s (Nat.le_refl _) hv)
      obtain ⟨e1, e2, e3⟩ := pt_take h0 (show 1 ≤ run p s by omega) hvt
      rw [run_step p _ e3, e1, if_pos hq, e2, e, List.take_add, List.drop_left' (by rw [List.length_take]; omega), run_self p f _ (by rw [List.length_drop]; omega) (valid_pn hv)]
    · have e : run p s = 0 := by rw [run_step p s h0, if_neg hq]
      rw [e]; rfl

/-! ### numbers -/
theorem digitsF_take (base : Int) : ∀ (s : List UInt8) (last : UInt8) (any : Bool) (n : Nat), (digitsF base last any s).1 ≤ n → digitsF base last any (s.take n) = digitsF base last any s
  | [], _, _, n, _ => by rw [List.take_nil]
  | c :: r, last, any, 0, h => by
    rw [List.take_zero]
    rw [digitsF] at h ⊢
    rw [digitsF]
    split at h
    · rename_i h95
      rw [if_pos h95]
      split at h
      · rename_i hl
        rw [if_pos hl, hl]
        simp
      · simp at h
    · rename_i h95
      rw [if_neg h95]
      split at h
      · rename_i hx
        rw [if_pos hx]
      · simp at h
  | c :: r, last, any, n + 1, h => by
    rw [List.take_succ_cons]
    rw [digitsF] at h ⊢
    rw [digitsF]
    split at h
    · rename_i h95
      rw [if_pos h95, if_pos h95]
      split at h
      · rename_i hl
        rw [if_pos hl, if_pos hl]
      · rename_i hl
        rw [if_neg hl, if_neg hl, digitsF_take base r c true n (by simpa using h)]
    · rename_i h95
      rw [if_neg h95, if_neg h95]
      split at h
      · rename_i hx
        rw [if_pos hx, if_pos hx]
      · rename_i hx
        rw [if_neg hx, if_neg hx, digitsF_take base r c true n (by simpa using h)]
theorem digits_take (base : Int) (s : List UInt8) (n : Nat) (h : (digits base s).1 ≤ n) : digits base (s.take n) = digits base s := digitsF_take base s 95 false n h
theorem isB_take {p : UInt8 → Bool} (s : List UInt8) {n : Nat} (h : 1 ≤ n) : isB p (s.take n) = isB p s := by
  obtain ⟨j, rfl⟩ : ∃ j, n = j + 1 := ⟨n - 1, by omega⟩
  cases s with
  | nil => rfl
  | cons c r => rfl
theorem isB_take_no {p : UInt8 → Bool} {s : List UInt8} (h : isB p s = false) (n : Nat) : isB p (s.take n) = false := by
  cases n with
  | zero => rw [List.take_zero]; rfl
  | succ n => rw [isB_take s (by omega), h]
theorem drop_take' (s : List UInt8) (a n : Nat) : (s.take n).drop a = (s.drop a).take (n - a) := List.drop_take ..
theorem frac_take (s : List UInt8) (n : Nat) (h : (frac s).1 ≤ n) (hok : (frac s).2 = true) : frac (s.take n) = frac s := by
  unfold frac at h hok ⊢
  by_cases h1 : isB (· == 46) s = true
  · rw [if_pos h1] at h hok ⊢
    by_cases h2 : isB (fun c => digit c.toNat || c == 95) (s.drop 1) = true
    · rw [if_pos h2] at h hok ⊢
      have hok : (digits 10 (s.drop 1)).2 = true := hok
      have h : (digits 10 (s.drop 1)).1 + 1 ≤ n := h
      have hpos : 1 ≤ (digits 10 (s.drop 1)).1 ∨ (digits 10 (s.drop 1)).1 = 0 := by omega
      by_cases hn : 2 ≤ n
      · rw [isB_take s (by omega), if_pos h1, drop_take', isB_take _ (by omega), if_pos h2, digits_take 10 _ _ (by omega)]
      · have hn1 : n = 1 := by omega
        subst hn1
        rw [isB_take s (by omega), if_pos h1, drop_take', if_neg (by simp [isB])]
        -- a digit or a _ behind the point that is not taken: a _ alone, which is wrong
        have hz : (digits 10 (s.drop 1)).1 = 0 := by omega
        exfalso
        cases hs : s.drop 1 with
        | nil => rw [hs] at h2; cases h2
        | cons c r =>
          rw [hs] at h2 hz
          have h2 : (digit c.toNat || c == 95) = true := h2
          unfold digits at hz
          rw [digitsF] at hz
          by_cases h95 : c = 95
          · rw [hs] at hok
            unfold digits at hok
            rw [digitsF, if_pos h95] at hok
            simp at hok
          · have hdg : digit c.toNat = true := by
              rw [Bool.or_eq_true, beq_iff_eq] at h2
              rcases h2 with h2 | h2
              · exact h2
              · exact absurd h2 h95
            simp only [digit, Bool.and_eq_true, decide_eq_true_eq] at hdg
            rw [if_neg h95, if_neg (by unfold hexV; rw [if_pos hdg]; omega)] at hz
            simp at hz
    · rw [if_neg h2] at h ⊢
      have h : 1 ≤ n := h
      rw [isB_take s h, if_pos h1, drop_take', if_neg (by rw [isB_take_no (Bool.eq_false_iff.2 h2)]; decide)]
  · rw [if_neg h1, if_neg (by rw [isB_take_no (Bool.eq_false_iff.2 h1)]; decide)]
end Jsp
end Go.Proofs.YtngccmlcopcghaaGreatDoor
namespace Go.Proofs.YtngccmlcopcghaaGreatDoor
namespace Jsp
open Go

theorem expo_take (s : List UInt8) (n : Nat) (h : (expo s).1 ≤ n) : expo (s.take n) = expo s := by
  unfold expo at h ⊢
  by_cases h1 : isB (fun c => c == 101 || c == 69) s = true
  · rw [if_pos h1] at h ⊢
    by_cases h2 : isB (fun c => c == 43 || c == 45) (s.drop 1) = true
    · rw [if_pos h2] at h ⊢
      have h : (digits 10 (s.drop 2)).1 + 2 ≤ n := h
      rw [isB_take s (by omega), if_pos h1, drop_take', isB_take _ (by omega), if_pos h2, drop_take', digits_take 10 _ _ (by omega)]
    · rw [if_neg h2] at h ⊢
      have h : (digits 10 (s.drop 1)).1 + 1 ≤ n := h
      rw [isB_take s (by omega), if_pos h1, drop_take', if_neg (by rw [isB_take_no (Bool.eq_false_iff.2 h2)]; decide), digits_take 10 _ _ (by omega)]
  · rw [if_neg h1, if_neg (by rw [isB_take_no (Bool.eq_false_iff.2 h1)]; decide)]
theorem at_take (s : List UInt8) {n i : Nat} (h : i < n) : Cssp.at_ (s.take n) i = Cssp.at_ s i := by
  simp only [Cssp.at_, List.getD_eq_getElem?_getD, List.getElem?_take_of_lt h]
/-- a number by itself is that number -/
theorem numeral_self (s : List UInt8) (k : Nat) (hk : 1 ≤ k) (h : numeral s = (k, true)) : numeral (s.take k) = (k, true) := by
  have e48 : isB (· == 48) (s.take k) = isB (· == 48) s := isB_take s hk
  have e46 : isB (· == 46) (s.take k) = isB (· == 46) s := isB_take s hk
  unfold numeral at h ⊢
  rw [e48, e46]
  by_cases h1 : isB (· == 48) s = true ∧ baseOf (Cssp.at_ s 1) ≠ 0
  · rw [if_pos h1] at h
    simp only at h
    have hk2 : (digits (baseOf (Cssp.at_ s 1)) (s.drop 2)).1 + 2 ≤ k := by
      split at h
      · injection h with a b; omega
      · injection h with a b; omega
    have ea : Cssp.at_ (s.take k) 1 = Cssp.at_ s 1 := at_take s (by omega)
    rw [ea, if_pos h1]
    simp only [drop_take']
    rw [digits_take _ _ _ (show (digits (baseOf (Cssp.at_ s 1)) (s.drop 2)).1 ≤ k - 2 by omega)]
    by_cases h2 : (digits (baseOf (Cssp.at_ s 1)) (s.drop 2)).2 = true ∧ isB (· == 110) (s.drop ((digits (baseOf (Cssp.at_ s 1)) (s.drop 2)).1 + 2)) = true
    · rw [if_pos h2] at h
      have hk3 : (digits (baseOf (Cssp.at_ s 1)) (s.drop 2)).1 + 3 = k := by injection h
      rw [if_pos ⟨h2.1, by rw [isB_take _ (by omega)]; exact h2.2⟩]
      exact h
    · rw [if_neg h2] at h
      have hk3 : (digits (baseOf (Cssp.at_ s 1)) (s.drop 2)).1 + 2 = k := by injection h
      rw [if_neg]
      · exact h
      · rintro ⟨_, e⟩
        rw [hk3, Nat.sub_self, List.take_zero] at e
        cases e
  · rw [if_neg h1] at h
    have h1' : ¬ (isB (· == 48) s = true ∧ baseOf (Cssp.at_ (s.take k) 1) ≠ 0) := by
      rintro ⟨a, b⟩
      apply h1
      refine ⟨a, ?_⟩
      by_cases hk2 : 2 ≤ k
      · rwa [at_take s (by omega)] at b
      · have hk1 : k = 1 := by omega
        subst hk1
        exfalso
        apply b
        have e : Cssp.at_ (s.take 1) 1 = 10 := by
          rw [Cssp.at_, List.getD_eq_getElem?_getD, List.getElem?_eq_none (by rw [List.length_take]; omega)]; rfl
        rw [e]; decide
    rw [if_neg h1']
    simp only at h ⊢
    obtain ⟨w, hw⟩ : ∃ w, (if isB (· == 46) s = true then (0, true) else digits 10 s) = w := ⟨_, rfl⟩
    rw [hw] at h
    by_cases a1 : isB (· == 46) s = false ∧ (w.2 = false ∨ (isB (· == 48) s = true ∧ 1 < w.1))
    · rw [if_pos a1] at h; cases h
    rw [if_neg a1] at h
    have hwk : w.1 ≤ k := by
      split at h
      · injection h with a b; omega
      · split at h
        · cases h
        · injection h with a b; omega
    have hw' : (if isB (· == 46) s = true then (0, true) else digits 10 (s.take k)) = w := by
      rw [← hw]
      by_cases h46 : isB (· == 46) s = true
      · rw [if_pos h46, if_pos h46]
      · rw [if_neg h46, if_neg h46]
        rw [if_neg h46] at hw
        exact digits_take 10 s k (by rw [hw]; exact hwk)
    rw [hw', if_neg a1]
    simp only [drop_take']
    by_cases a2 : isB (· == 46) s = false ∧ isB (· == 110) (s.drop w.1) = true
    · rw [if_pos a2] at h
      have hk3 : w.1 + 1 = k := by injection h
      rw [if_pos ⟨a2.1, by rw [isB_take _ (by omega)]; exact a2.2⟩]
      exact h
    rw [if_neg a2] at h
    have a2' : ¬ (isB (· == 46) s = false ∧ isB (· == 110) ((s.drop w.1).take (k - w.1)) = true) := by
      rintro ⟨a, b⟩
      apply a2
      refine ⟨a, ?_⟩
      cases hb : isB (· == 110) (s.drop w.1) with
      | true => rfl
      | false => rw [isB_take_no hb] at b; cases b
    rw [if_neg a2']
    by_cases a3 : (frac (s.drop w.1)).2 = false
    · rw [if_pos a3] at h; cases h
    rw [if_neg a3] at h
    have hke : w.1 + (frac (s.drop w.1)).1 + (expo (s.drop (w.1 + (frac (s.drop w.1)).1))).1 = k := by injection h
    rw [frac_take _ _ (by omega) (by cases e : (frac (s.drop w.1)).2 with
      | true => rfl
      | false => exact absurd e a3), if_neg a3, expo_take _ _ (by omega)]
    exact h
/-- a point with a digit behind it is no number of one byte -/
theorem point_alone (c : UInt8) (r : List UInt8) (h46 : c = 46) (hd : digit (pt r) = true) (hv : Cssp.valid r = true) (hr : r ≠ []) (h : numeral (c :: r) = (1, true)) : False := by
  have hlt : pt r < 128 := by
    simp only [digit, Bool.and_eq_true, decide_eq_true_eq] at hd; omega
  obtain ⟨e, t, rfl, hee, _⟩ := pt_small hv hr hlt
  have hdd : digit e.toNat = true := by rw [hee]; exact hd
  simp only [digit, Bool.and_eq_true, decide_eq_true_eq] at hdd
  subst h46
  have hn48 : isB (· == 48) ((46 : UInt8) :: e :: t) = false := rfl
  have h46 : isB (· == 46) ((46 : UInt8) :: e :: t) = true := rfl
  have hdg : 1 ≤ (digits 10 (e :: t)).1 := by
    refine digitsF_pos 10 ?_ ?_ ?_ _ _
    · unfold hexV; rw [if_pos hdd]; omega
    · unfold hexV; rw [if_pos hdd]; omega
    · rintro rfl
      have : (95 : UInt8).toNat = 95 := rfl
      omega
  have hf : frac ((46 : UInt8) :: e :: t) = ((digits 10 (e :: t)).1 + 1, (digits 10 (e :: t)).2) := by
    unfold frac
    rw [if_pos h46]
    have : isB (fun c => digit c.toNat || c == 95) (((46 : UInt8) :: e :: t).drop 1) = true := by
      show (digit e.toNat || e == 95) = true
      rw [hee, hd]; rfl
    rw [if_pos this]; rfl
  unfold numeral at h
  rw [if_neg (by rw [hn48]; rintro ⟨e, _⟩; cases e)] at h
  simp only [h46, if_true, Bool.true_eq_false, false_and, if_false, List.drop_zero, hf, Nat.zero_add] at h
  split at h
  · have h2 : false = true := congrArg Prod.snd h
    cases h2
  · have : (digits 10 (e :: t)).1 + 1 + (expo (List.drop ((digits 10 (e :: t)).1 + 1) ((46 : UInt8) :: e :: t))).1 = 1 := by injection h
    omega
end Jsp
end Go.Proofs.YtngccmlcopcghaaGreatDoor
namespace Go.Proofs.YtngccmlcopcghaaGreatDoor
namespace Jsp
open Go

theorem goOn_upto : ∀ (k lo hi n : Nat) (r : List UInt8) (m : Nat), k ≤ m → (Cssp.goOn k lo hi n r).2 = true → Cssp.goOn k lo hi n (r.take m) = Cssp.goOn k lo hi n r
  | 0, _, _, _, _, _, _, _ => by simp [Cssp.goOn]
  | k + 1, _, _, _, [], _, _, h => by simp [Cssp.goOn] at h
  | k + 1, _, _, _, c :: r, 0, hm, _ => by omega
  | k + 1, lo, hi, n, c :: r, m + 1, hm, h => by
    rw [Cssp.goOn] at h
    rw [List.take_succ_cons, Cssp.goOn, Cssp.goOn]
    split
    · rfl
    · rename_i hc
      rw [if_neg hc] at h
      exact goOn_upto k 128 191 (n + 1) r m (by omega) h
theorem piece_take {s : List UInt8} (h0 : s ≠ []) (hp : (Cssp.piece s).2 = true) {m : Nat} (hm : (Cssp.piece s).1 ≤ m) : Cssp.piece (s.take m) = Cssp.piece s := by
  obtain ⟨c, r, rfl⟩ := List.exists_cons_of_ne_nil h0
  have hle := Cssp.piece_le (c :: r) h0
  obtain ⟨j, rfl⟩ : ∃ j, m = j + 1 := ⟨m - 1, by omega⟩
  rw [List.take_succ_cons]
  rw [Cssp.piece] at hp hm ⊢
  rw [Cssp.piece]
  by_cases hf : (Cssp.first c).2 = true
  · rw [if_pos hf] at hp hm ⊢
    rw [if_pos hf]
    have hfu := Cssp.goOn_full (Cssp.first c).1.1 (Cssp.first c).1.2.1 (Cssp.first c).1.2.2 1 r
    rw [hp] at hfu
    have hfu := of_decide_eq_true hfu.symm
    exact goOn_upto _ _ _ _ r j (by omega) hp
  · rw [if_neg hf] at hp; cases hp
theorem pn_take {s : List UInt8} (h0 : s ≠ []) (hv : Cssp.valid s = true) {m : Nat} (hm : pn s ≤ m) : pn (s.take m) = pn s ∧ pt (s.take m) = pt s ∧ s.take m ≠ [] := by
  have hp := (valid_split hv h0).1
  have h1 := pn_le h0
  rw [pn, if_neg h0] at hm h1
  have hne : s.take m ≠ [] := by
    obtain ⟨c, r, rfl⟩ := List.exists_cons_of_ne_nil h0
    obtain ⟨j, rfl⟩ : ∃ j, m = j + 1 := ⟨m - 1, by omega⟩
    simp
  have e := piece_take h0 hp hm
  refine ⟨by rw [pn, pn, if_neg h0, if_neg hne, e], ?_, hne⟩
  rw [pt, pt, if_neg h0, if_neg hne, Cssp.cpt, Cssp.cpt, e, List.take_take, Nat.min_eq_left hm, at_take s (show 0 < m by omega)]
theorem pre_take_of {p s : List UInt8} {n : Nat} (h : p.isPrefixOf (s.take n) = true) : p.isPrefixOf s = true :=
  List.isPrefixOf_iff_prefix.2 ((List.isPrefixOf_iff_prefix.1 h).trans (List.take_prefix n s))
theorem pre_take_to {p s : List UInt8} {n : Nat} (h : p.isPrefixOf s = true) (hn : p.length ≤ n) : p.isPrefixOf (s.take n) = true := by
  obtain ⟨t, ht⟩ := List.isPrefixOf_iff_prefix.1 h
  refine List.isPrefixOf_iff_prefix.2 ⟨t.take (n - p.length), ?_⟩
  rw [← ht, List.take_append, List.take_of_length_le hn]
theorem raw_take (q : UInt8) : ∀ (f : Nat) (s : List UInt8) (k n : Nat), s.length ≤ f → Suf s → raw q s = .ends k → (k + 2 ≤ n ∨ (k + 1 ≤ n ∧ s[k]? = some q)) → raw q (s.take n) = .ends k
  | _, [], k, _, _, _, h, _ => by rw [raw_nil] at h; cases h
  | 0, c :: r, k, _, hf, _, _, _ => by simp at hf
  | f + 1, c :: r, k, n, hf, hs, h, hn => by
    have hf : r.length ≤ f := by simpa using hf
    obtain ⟨m, rfl⟩ : ∃ m, n = m + 1 := ⟨n - 1, by omega⟩
    rw [raw_cons] at h
    rw [List.take_succ_cons, raw_cons]
    by_cases h1 : c = q ∨ (q = 96 ∧ ([36, 123] : List UInt8).isPrefixOf (c :: r) = true)
    · rw [if_pos h1] at h
      injection h with h
      subst h
      have h1' : c = q ∨ (q = 96 ∧ ([36, 123] : List UInt8).isPrefixOf (c :: r.take m) = true) := by
        rcases hn with hn | ⟨_, hn⟩
        · rcases h1 with h1 | ⟨h1, h2⟩
          · exact .inl h1
          · exact .inr ⟨h1, by rw [← List.take_succ_cons]; exact pre_take_to h2 (by show 2 ≤ m + 1; omega)⟩
        · exact .inl (by simpa using hn)
      rw [if_pos h1']
    rw [if_neg h1] at h
    have h1' : ¬ (c = q ∨ (q = 96 ∧ ([36, 123] : List UInt8).isPrefixOf (c :: r.take m) = true)) := by
      rintro (e | ⟨e1, e2⟩)
      · exact h1 (.inl e)
      · rw [← List.take_succ_cons] at e2
        exact h1 (.inr ⟨e1, pre_take_of e2⟩)
    rw [if_neg h1']
    by_cases h2 : q ≠ 96 ∧ (c = 10 ∨ c = 13)
    · rw [if_pos h2] at h; cases h
    rw [if_neg h2] at h ⊢
    by_cases h3 : c = 92
    · rw [if_pos h3] at h ⊢
      obtain ⟨j, hj, hk⟩ := on_ends h
      have hv := hs.valid (by rw [h3]; decide)
      have hr : r ≠ [] := fun e => by rw [e] at hj; cases hj
      have hp := pn_le hr
      have hsv : skip r ≤ m ∧ Cssp.valid (r.drop (skip r)) = true ∧ skip (r.take m) = skip r := by
        unfold skip at hk ⊢
        by_cases h13 : ([13, 10] : List UInt8).isPrefixOf r = true
        · rw [if_pos h13] at hk ⊢
          obtain ⟨t, ht⟩ := List.isPrefixOf_iff_prefix.1 h13
          refine ⟨by omega, ?_, by rw [if_pos (pre_take_to h13 (by show 2 ≤ m; omega))]⟩
          have s1 : Suf (13 :: (10 :: t)) := by have := hs.tail; rw [← ht] at this; exact this
          have := s1.tail.valid (by decide)
          rw [← ht]; exact this
        · rw [if_neg h13] at hk ⊢
          refine ⟨by omega, valid_pn hv, ?_⟩
          rw [if_neg fun e => h13 (pre_take_of e)]
          exact (pn_take hr hv (by omega)).1
      obtain ⟨s1, s2, s3⟩ := hsv
      rw [s3, drop_take']
      have ih := raw_take q f (r.drop (skip r)) j (m - skip r) (by rw [List.length_drop]; omega) (.of s2) hj (by
        rcases hn with hn | ⟨hn, he⟩
        · left; omega
        · right
          refine ⟨by omega, ?_⟩
          rw [hk, show j + (1 + skip r) = (skip r + j) + 1 by omega, List.getElem?_cons_succ] at he
          rw [List.getElem?_drop]; exact he)
      rw [ih, hk]; rfl
    · rw [if_neg h3] at h ⊢
      obtain ⟨j, hj, hk⟩ := on_ends h
      have ih := raw_take q f r j m hf hs.tail hj (by
        rcases hn with hn | ⟨hn, he⟩
        · left; omega
        · right
          refine ⟨by omega, ?_⟩
          rw [hk, List.getElem?_cons_succ] at he; exact he)
      rw [ih, hk]; rfl
theorem regX_take : ∀ (f : Nat) (s : List UInt8) (b : Bool) (k n : Nat), s.length ≤ f → Cssp.valid s = true → regX b s = some k → k + 1 ≤ n → regX b (s.take n) = some k
  | 0, s, b, k, n, hf, _, h, _ => by
    have : s = [] := List.eq_nil_of_length_eq_zero (by omega)
    subst this; cases h
  | f + 1, s, b, k, n, hf, hv, h, hn => by
    by_cases hs0 : s = []
    · subst hs0; cases h
    have hp := pn_le hs0
    rw [regX_step b s hs0] at h
    by_cases h1 : lineEnd (pt s) = true
    · rw [if_pos h1] at h; cases h
    rw [if_neg h1] at h
    by_cases h2 : pt s = 92
    · rw [if_pos h2] at h
      obtain ⟨c, r, rfl, hcc, hpn⟩ := pt_small hv hs0 (by omega)
      have hvr := (Suf.of hv).valid (by rw [hcc, h2]; decide)
      simp only [List.drop_succ_cons, List.drop_zero] at h
      by_cases h3 : r = []
      · rw [if_pos h3] at h; cases h
      rw [if_neg h3] at h
      by_cases h4 : lineEnd (pt r) = true
      · rw [if_pos h4] at h; cases h
      rw [if_neg h4] at h
      have hpr := pn_le h3
      rw [show 1 + pn r = pn r + 1 by omega] at h
      simp only [List.drop_succ_cons] at h
      obtain ⟨j, hj, hk⟩ := Option.map_eq_some_iff.1 h
      simp only [List.length_cons] at hf
      obtain ⟨m, rfl⟩ : ∃ m, n = m + 1 := ⟨n - 1, by omega⟩
      obtain ⟨t1, t2, t3⟩ := pn_take h3 hvr (show pn r ≤ m by omega)
      have ih := regX_take f (r.drop (pn r)) b j (m - pn r) (by rw [List.length_drop]; omega) (valid_pn hvr) hj (by omega)
      rw [List.take_succ_cons, regX_step b _ (by simp), pt_ascii (show c.toNat < 128 by rw [hcc, h2]; decide), hcc, if_neg h1, if_pos h2]
      simp only [List.drop_succ_cons, List.drop_zero]
      rw [if_neg t3, t2, if_neg h4, t1, show 1 + pn r = pn r + 1 by omega]
      simp only [List.drop_succ_cons]
      rw [drop_take', ih, ← hk]
      rfl
    rw [if_neg h2] at h
    by_cases h3 : pt s = 47 ∧ b = false
    · rw [if_pos h3] at h
      injection h with h
      subst h
      obtain ⟨c, r, rfl, hcc, hpn⟩ := pt_small hv hs0 (by omega)
      obtain ⟨m, rfl⟩ : ∃ m, n = m + 1 := ⟨n - 1, by omega⟩
      rw [List.take_succ_cons, regX_step b _ (by simp), pt_ascii (show c.toNat < 128 by rw [hcc, h3.1]; decide), hcc, if_neg h1, if_neg h2, if_pos h3]
    rw [if_neg h3] at h
    obtain ⟨j, hj, hk⟩ := Option.map_eq_some_iff.1 h
    obtain ⟨t1, t2, t3⟩ := pn_take hs0 hv (show pn s ≤ n by omega)
    have ih := regX_take f (s.drop (pn s)) _ j (n - pn s) (by rw [List.length_drop]; omega) (valid_pn hv) hj (by omega)
    rw [regX_step b _ t3, t2, if_neg h1, if_neg h2, if_neg h3, t1, drop_take', ih, ← hk]
    rfl
end Jsp
end Go.Proofs.YtngccmlcopcghaaGreatDoor
namespace Go.Proofs.YtngccmlcopcghaaGreatDoor
namespace Jsp
open Go

theorem marks_self : ∀ m ∈ marks, markOf m = some m := by decide
theorem tmpl_self (s : List UInt8) (_h0 : s ≠ []) (hs : Suf s) (st : St) {x : Tk} {k : Nat} {st2 : St} (h : tmpl st s = .ok x k st2) (hl : k ≤ s.length) :
    tmpl st (s.take k) = .ok x k st2 ∧ x.t = s.take k := by
  unfold tmpl at h ⊢
  simp only at h ⊢
  cases hr : raw 96 (s.drop 1) with
  | script => rw [hr] at h; cases h
  | line => rw [hr] at h; cases h
  | ends j =>
    rw [hr] at h
    have e3 := raw_end 96 (s.drop 1).length (s.drop 1) j (Nat.le_refl _) hr
    rw [List.getElem?_drop, List.getElem?_drop, Nat.add_comm 1 j, show 1 + (j + 1) = j + 2 by omega] at e3
    simp only at h
    cases hk : cook true ((s.drop 1).take j) with
    | inr o => rw [hk] at h; cases h
    | inl v =>
      rw [hk] at h
      simp only at h
      by_cases h96 : Cssp.at_ s (j + 1) = 96
      · rw [if_pos h96] at h
        have hk2 : j + 2 = k := by injection h with a b c
        have hj1 : j + 1 < s.length := by omega
        have hat : (s.drop 1)[j]? = some 96 := by
          rw [List.getElem?_drop, Nat.add_comm, List.getElem?_eq_getElem hj1]
          rw [Cssp.at_, List.getD_eq_getElem?_getD, List.getElem?_eq_getElem hj1] at h96
          exact congrArg some h96
        have hr2 := raw_take 96 (s.drop 1).length (s.drop 1) j (k - 1) (Nat.le_refl _) (hs.drop 1) hr (.inr ⟨by omega, hat⟩)
        rw [isB_take s (by omega), drop_take', hr2]
        simp only
        rw [List.take_take, Nat.min_eq_left (by omega), hk]
        simp only
        rw [at_take s (by omega), if_pos h96, List.take_take, Nat.min_eq_left (by omega)]
        refine ⟨h, ?_⟩
        injection h with a b c
        rw [← a, hk2]
      · rw [if_neg h96] at h
        cases hp : push (if isB (· == 125) s = true then pop st else st) 36 with
        | none => rw [hp] at h; cases h
        | some st3 =>
          rw [hp] at h
          have hk2 : j + 3 = k := by injection h with a b c
          have hr2 := raw_take 96 (s.drop 1).length (s.drop 1) j (k - 1) (Nat.le_refl _) (hs.drop 1) hr (.inl (by omega))
          rw [isB_take s (by omega), drop_take', hr2]
          simp only
          rw [List.take_take, Nat.min_eq_left (by omega), hk]
          simp only
          rw [at_take s (by omega), if_neg h96, hp, List.take_take, Nat.min_eq_left (by omega)]
          refine ⟨h, ?_⟩
          injection h with a b c
          rw [← a, hk2]
theorem next_self (s : List UInt8) (st : St) (hv : Cssp.valid s = true) (h0 : s ≠ []) {x : Tk} {k : Nat} {st2 : St} (h : next st s = .ok x k st2) : next st (s.take k) = .ok x k st2 ∧ x.t = s.take k := by
  obtain ⟨_, hk1, hkl, hvd⟩ := next_sp (c0 := 32) (.inl rfl) [] s st hv h0 h
  have hvt := valid_take s.length s k (Nat.le_refl _) hv hvd
  obtain ⟨ept, epn, hne⟩ := pt_take h0 hk1 hvt
  have hsf := Suf.of hv
  unfold next at h ⊢
  rw [ept]
  by_cases c1 : begins (pt s) = true
  · rw [if_pos c1] at h ⊢
    have hk : name s = k := by injection h with a b c
    have hn : name (s.take k) = k := by
      rw [← hk]; exact run_self goesOn s.length s (Nat.le_refl _) hv
    rw [hn, List.take_take, Nat.min_self]
    rw [hk] at h
    refine ⟨h, ?_⟩
    injection h with a b c
    rw [← a]
  rw [if_neg c1] at h ⊢
  by_cases c2 : pt s = 35
  · rw [if_pos c2] at h ⊢
    obtain ⟨c, r, rfl, hcc, _⟩ := pt_small hv h0 (by omega)
    have hvr := hsf.valid (by rw [hcc, c2]; decide)
    simp only [List.drop_succ_cons, List.drop_zero] at h
    by_cases c3 : r = [] ∨ begins (pt r) = false
    · rw [if_pos c3] at h; cases h
    rw [if_neg c3] at h
    have hr : r ≠ [] := fun e => c3 (.inl e)
    have hk : 1 + name r = k := by injection h with a b c
    have hnm : 1 ≤ name r := by
      unfold name
      rw [run_step _ r hr, if_pos (by
        unfold goesOn
        cases e : begins (pt r) with
        | true => rfl
        | false => exact absurd (.inr e) c3)]
      have := (pn_le hr).1
      omega
    have hkm : k = name r + 1 := by omega
    have hself := run_self goesOn r.length r (Nat.le_refl _) hvr
    have hvtr := valid_take r.length r (name r) (Nat.le_refl _) hvr (valid_name hvr)
    obtain ⟨t1, t2, t3⟩ := pt_take hr hnm hvtr
    have hd : ((c :: r).take k).drop 1 = r.take (name r) := by rw [hkm, List.take_succ_cons]; rfl
    have hnn : name (r.take (name r)) = name r := hself
    rw [hd, if_neg (by rintro (e | e); exact t3 e; rw [t1] at e; exact c3 (.inr e)), hnn, hk, List.take_take, Nat.min_self]
    rw [hk] at h
    refine ⟨h, ?_⟩
    injection h with a b c
    rw [← a]
  rw [if_neg c2] at h ⊢
  by_cases c3 : digit (pt s) = true ∨ (pt s = 46 ∧ digit (pt (s.drop 1)) = true)
  · rw [if_pos c3] at h
    simp only at h
    by_cases c4 : (numeral s).2 = false ∨ name (s.drop (numeral s).1) ≠ 0
    · rw [if_pos c4] at h; cases h
    rw [if_neg c4] at h
    have hk : (numeral s).1 = k := by injection h with a b c
    have hns : numeral s = (k, true) := by
      rw [← hk]
      cases e : (numeral s).2 with
      | true => rw [← e]
      | false => exact absurd (.inl e) c4
    have hnt := numeral_self s k hk1 hns
    have c3' : digit (pt s) = true ∨ (pt s = 46 ∧ digit (pt ((s.take k).drop 1)) = true) := by
      rcases c3 with c3 | ⟨c3, c5⟩
      · exact .inl c3
      · right
        refine ⟨c3, ?_⟩
        obtain ⟨c, r, rfl, hcc, _⟩ := pt_small hv h0 (by omega)
        have hvr := hsf.valid (by rw [hcc, c3]; decide)
        simp only [List.drop_succ_cons, List.drop_zero] at c5
        have hr : r ≠ [] := fun e => by rw [e] at c5; cases c5
        -- a number that begins with a point has a digit behind it
        have hk2 : 2 ≤ k := by
          rcases Nat.lt_or_ge k 2 with hlt | hge
          · exfalso
            have hk1' : k = 1 := by omega
            rw [hk1'] at hnt
            have e46 : c = 46 := UInt8.toNat_inj.1 (by rw [hcc, c3]; rfl)
            exact point_alone c r e46 c5 hvr hr (by rw [hns, hk1'])
          · exact hge
        obtain ⟨m, rfl⟩ : ∃ m, k = m + 1 := ⟨k - 1, by omega⟩
        have hvtr : Cssp.valid (r.take m) = true := by
          rw [List.take_succ_cons] at hvt
          exact (Suf.of hvt).valid (by rw [hcc, c3]; decide)
        rw [List.take_succ_cons, List.drop_succ_cons, List.drop_zero, (pt_take hr (by omega) hvtr).1]
        exact c5
    rw [if_pos c3']
    simp only [hnt]
    have hd : (s.take k).drop k = [] := List.drop_eq_nil_of_le (by rw [List.length_take]; omega)
    rw [hd, if_neg (by rintro (e | e); cases e; exact e rfl), List.take_take, Nat.min_self]
    rw [hk] at h
    refine ⟨h, ?_⟩
    injection h with a b c
    rw [← a]
  rw [if_neg c3] at h
  have c3' : ¬ (digit (pt s) = true ∨ (pt s = 46 ∧ digit (pt ((s.take k).drop 1)) = true)) := by
    rintro (e | ⟨e1, e2⟩)
    · exact c3 (.inl e)
    · apply c3
      refine .inr ⟨e1, ?_⟩
      obtain ⟨c, r, rfl, hcc, _⟩ := pt_small hv h0 (by omega)
      have hvr := hsf.valid (by rw [hcc, e1]; decide)
      obtain ⟨m, rfl⟩ : ∃ m, k = m + 1 := ⟨k - 1, by omega⟩
      rw [List.take_succ_cons, List.drop_succ_cons, List.drop_zero] at e2
      have hvtr : Cssp.valid (r.take m) = true := by
        rw [List.take_succ_cons] at hvt
        exact (Suf.of hvt).valid (by rw [hcc, e1]; decide)
      by_cases hr : r.take m = []
      · rw [hr] at e2; cases e2
      · have hr0 : r ≠ [] := fun e => hr (by rw [e, List.take_nil])
        have hm : 1 ≤ m := by
          rcases Nat.eq_zero_or_pos m with h | h
          · rw [h, List.take_zero] at hr; exact absurd rfl hr
          · exact h
        rw [(pt_take hr0 hm hvtr).1] at e2
        exact e2
  rw [if_neg c3']
  by_cases c4 : pt s = 34 ∨ pt s = 39
  · rw [if_pos c4] at h ⊢
    have hq : Cssp.at_ s 0 ≠ 96 := by
      obtain ⟨c, r, rfl, hcc, _⟩ := pt_small hv h0 (by omega)
      show c ≠ 96
      rintro rfl
      have : (96 : UInt8).toNat = 96 := rfl
      omega
    have ea : Cssp.at_ (s.take k) 0 = Cssp.at_ s 0 := at_take s (by omega)
    unfold quote at h ⊢
    rw [ea]
    cases hr : raw (Cssp.at_ s 0) (s.drop 1) with
    | script => rw [hr] at h; cases h
    | line => rw [hr] at h; cases h
    | ends j =>
      rw [hr] at h
      have e3 := raw_end (Cssp.at_ s 0) (s.drop 1).length (s.drop 1) j (Nat.le_refl _) hr
      have hat : (s.drop 1)[j]? = some (Cssp.at_ s 0) := by
        rcases e3 with e3 | ⟨e3, _⟩
        · exact e3
        · exact absurd e3 hq
      simp only at h
      cases hk : cook false ((s.drop 1).take j) with
      | inr o => rw [hk] at h; cases h
      | inl v =>
        rw [hk] at h
        simp only at h
        have hk2 : j + 2 = k := by injection h with a b c
        have hr2 := raw_take (Cssp.at_ s 0) (s.drop 1).length (s.drop 1) j (k - 1) (Nat.le_refl _) (hsf.drop 1) hr (.inr ⟨by omega, hat⟩)
        rw [drop_take', hr2]
        simp only
        rw [List.take_take, Nat.min_eq_left (by omega), hk]
        simp only
        rw [List.take_take, Nat.min_eq_left (by omega)]
        refine ⟨h, ?_⟩
        injection h with a b c
        rw [← a, hk2]
  rw [if_neg c4] at h ⊢
  by_cases c5 : pt s = 96 ∨ (pt s = 125 ∧ top st = 36)
  · rw [if_pos c5] at h ⊢
    exact tmpl_self s h0 hsf st h hkl
  rw [if_neg c5] at h ⊢
  by_cases c6 : pt s = 47 ∧ st.goal = true
  · rw [if_pos c6] at h ⊢
    obtain ⟨c, r, rfl, hcc, _⟩ := pt_small hv h0 (by omega)
    have hvr := hsf.valid (by rw [hcc, c6.1]; decide)
    have er : ∀ t, reg t = regX false t := fun _ => rfl
    rw [er] at h ⊢
    simp only [List.drop_succ_cons, List.drop_zero] at h
    cases hr : regX false r with
    | none => rw [hr] at h; cases h
    | some j =>
      rw [hr] at h
      have hvj : Cssp.valid (r.drop (j + 1)) = true := (Suf.of hvr).valid_at (reg_end r.length r false j (Nat.le_refl _) hvr hr) (by decide)
      have h' : (Rs.ok ⟨10, (c :: r).take (j + 2 + name (r.drop (j + 1))), []⟩ (j + 2 + name (r.drop (j + 1))) (plainS st)) = .ok x k st2 := h
      have hk : j + 2 + name (r.drop (j + 1)) = k := by injection h' with a b c
      obtain ⟨m, rfl⟩ : ∃ m, k = m + 1 := ⟨k - 1, by omega⟩
      have hrt := regX_take r.length r false j m (Nat.le_refl _) hvr hr (by omega)
      have hnm : name (r.drop (j + 1)) = m - (j + 1) := by omega
      have hself := run_self goesOn (r.drop (j + 1)).length (r.drop (j + 1)) (Nat.le_refl _) hvj
      have hn2 : name ((r.take m).drop (j + 1)) = name (r.drop (j + 1)) := by
        rw [drop_take', ← hnm]; exact hself
      rw [List.take_succ_cons]
      simp only [List.drop_succ_cons, List.drop_zero]
      rw [hrt]
      simp only
      rw [hn2, hk, ← List.take_succ_cons, List.take_take, Nat.min_self]
      rw [hk] at h'
      refine ⟨h', ?_⟩
      injection h' with a b c
      rw [← a]
  rw [if_neg c6] at h ⊢
  cases hm : markOf s with
  | none => rw [hm] at h; cases h
  | some m =>
    rw [hm] at h
    obtain ⟨m1, m2⟩ := markOf_some hm
    have hmt := List.prefix_iff_eq_take.1 (List.isPrefixOf_iff_prefix.1 m2)
    simp only at h
    cases hb : bracket st m with
    | none => rw [hb] at h; cases h
    | some st3 =>
      rw [hb] at h
      have hk : m.length = k := by injection h with a b c
      rw [hk] at hmt
      rw [← hmt, marks_self m m1]
      simp only
      rw [hb]
      refine ⟨h, ?_⟩
      injection h with a b c
      rw [← a]
end Jsp
end Go.Proofs.YtngccmlcopcghaaGreatDoor
