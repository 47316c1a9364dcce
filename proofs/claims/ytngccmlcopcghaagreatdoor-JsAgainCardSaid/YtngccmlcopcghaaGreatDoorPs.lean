/- Plain: the tokens of a script, with gaps between, are its tokens again. No program in sight. -/
import Derived.Test.YtngccmlcopcghaaGreatDoorPo
namespace Go.Proofs.YtngccmlcopcghaaGreatDoor
namespace Jsp
open Go

/-- the four gaps -/
def gaps : List (List UInt8) := [[32], [10], [32, 47, 42, 32, 39, 32, 42, 47, 32], [32, 47, 47, 32, 96, 10]]
def joinW : List Tk → List (List UInt8) → List UInt8
  | [], _ => []
  | x :: l, [] => x.t ++ 32 :: joinW l []
  | x :: l, g :: gs => x.t ++ g ++ joinW l gs
theorem run_cons (p : Nat → Bool) {c : UInt8} (hc : c.toNat < 128) (hp : p c.toNat = true) (r : List UInt8) : run p (c :: r) = 1 + run p r := by
  rw [run_step p _ (by simp), pt_ascii hc, if_pos hp, pn_ascii hc]; rfl
theorem gap_gap (g J : List UInt8) (hg : g ∈ gaps) : gap (g ++ J) = gapOn g.length (gap J) := by
  simp only [gaps, List.mem_cons, List.not_mem_nil, or_false] at hg
  rcases hg with rfl | rfl | rfl | rfl
  · exact gap_one (.inl rfl) J
  · exact gap_one (.inr rfl) J
  · show gap (32 :: (47 :: 42 :: 32 :: 39 :: 32 :: 42 :: 47 :: 32 :: J)) = _
    rw [gap_one (.inl rfl), gap_step _ (by simp), pt_ascii (by decide), if_neg (by decide), if_neg (by simp [List.isPrefixOf]), if_pos (by simp [List.isPrefixOf])]
    have hs : shut ((47 :: 42 :: 32 :: 39 :: 32 :: 42 :: 47 :: 32 :: J : List UInt8).drop 2) = some 3 := by
      simp [shut]
    rw [hs]
    show gapOn 1 (gapOn 7 (gap (32 :: J))) = _
    rw [gap_one (.inl rfl), gapOn_on, gapOn_on]
    rfl
  · show gap (32 :: (47 :: 47 :: 32 :: 96 :: 10 :: J)) = _
    have hr : run (fun r => !lineEnd r) (47 :: 47 :: 32 :: 96 :: 10 :: J) = 4 := by
      rw [run_cons _ (by decide) (by decide), run_cons _ (by decide) (by decide), run_cons _ (by decide) (by decide), run_cons _ (by decide) (by decide), run_step _ _ (by simp), pt_ascii (by decide), if_neg (by decide)]
    rw [gap_one (.inl rfl), gap_step _ (by simp), pt_ascii (by decide), if_neg (by decide), if_pos (by simp [List.isPrefixOf]), hr]
    show gapOn 1 (if 10 :: J = [] then _ else gapOn 4 (gap (10 :: J))) = _
    rw [if_neg (by simp), gap_one (.inr rfl), gapOn_on, gapOn_on]
    rfl
theorem gaps_ok : ∀ g ∈ gaps, (∀ c ∈ g, c.toNat < 128) ∧ 1 ≤ g.length ∧ (∃ c r, g = c :: r ∧ Sp c) := by
  intro g hg
  simp only [gaps, List.mem_cons, List.not_mem_nil, or_false] at hg
  rcases hg with rfl | rfl | rfl | rfl
  · exact ⟨by decide, by decide, _, _, rfl, .inl rfl⟩
  · exact ⟨by decide, by decide, _, _, rfl, .inr rfl⟩
  · exact ⟨by decide, by decide, _, _, rfl, .inl rfl⟩
  · exact ⟨by decide, by decide, _, _, rfl, .inl rfl⟩
/-- what stands ahead of a token is no gap: so it is of its own text -/
theorem gap_zero : ∀ (f : Nat) (s : List UInt8) (g : Nat) (ln : Bool), s.length ≤ f → Cssp.valid s = true → gap s = .inl (g, ln) → s.drop g ≠ [] → gap (s.drop g) = .inl (0, false)
  | f, [], g, ln, _, _, _, h => by rw [List.drop_nil] at h; exact absurd rfl h
  | 0, c :: r, _, _, hf, _, _, _ => by simp at hf
  | f + 1, c :: r, g, ln, hf, hv, h, hd => by
    obtain ⟨s, hs⟩ : ∃ s, c :: r = s := ⟨_, rfl⟩
    rw [hs] at hf hv h hd ⊢
    have h0 : s ≠ [] := by rw [← hs]; simp
    clear hs
    have hp := pn_le h0
    have hsp := gap_sp (c0 := 32) (.inl rfl) [] s.length s g ln (Nat.le_refl _) hv h
    rw [gap_step s h0] at h
    have step : ∀ (k j : Nat), 1 ≤ k → k ≤ s.length → Cssp.valid (s.drop k) = true → gap (s.drop k) = .inl (j, ln) → g = j + k → gap (s.drop g) = .inl (0, false) := fun k j h1 h2 h3 h4 h5 => by
      have e : s.drop g = (s.drop k).drop j := by rw [List.drop_drop]; congr 1; omega
      rw [e] at hd ⊢
      exact gap_zero f (s.drop k) j ln (by rw [List.length_drop]; omega) h3 h4 hd
    by_cases h1 : blank (pt s) = true ∨ lineEnd (pt s) = true
    · rw [if_pos h1] at h
      obtain ⟨j, hj, hg⟩ := gapOn_inl h
      exact step (pn s) j hp.1 hp.2 (valid_pn hv) hj hg
    rw [if_neg h1] at h
    have h1' : lineEnd (pt s) = false := by
      cases h : lineEnd (pt s) with
      | false => rfl
      | true => exact absurd (.inr h) h1
    by_cases h2 : ([47, 47] : List UInt8).isPrefixOf s = true
    · rw [if_pos h2] at h
      have hrl := run_le (fun r => !lineEnd r) s.length s (Nat.le_refl _)
      by_cases h3 : s.drop (run (fun r => !lineEnd r) s) = []
      · rw [if_pos h3] at h
        injection h with h
        injection h with ha hb
        subst ha
        exact absurd h3 hd
      · rw [if_neg h3] at h
        obtain ⟨j, hj, hg⟩ := gapOn_inl h
        have hr : 1 ≤ run (fun r => !lineEnd r) s := by
          rw [run_step _ s h0, h1']
          show 1 ≤ pn s + _
          omega
        exact step _ j hr hrl (valid_run _ s.length s (Nat.le_refl _) hv) hj hg
    rw [if_neg h2] at h
    by_cases h3 : ([47, 42] : List UInt8).isPrefixOf s = true
    · rw [if_pos h3] at h
      cases hsh : shut (s.drop 2) with
      | none => rw [hsh] at h; cases h
      | some n =>
        rw [hsh] at h
        obtain ⟨a1, x, hx⟩ := shut_app [] (s.drop 2) n hsh
        rw [List.drop_drop] at hx
        have hln : 2 + (n + 1) < s.length := by
          rcases Nat.lt_or_ge (2 + (n + 1)) s.length with h4 | h4
          · exact h4
          · rw [List.drop_eq_nil_of_le h4] at hx; cases hx
        have hvx : Cssp.valid (s.drop (2 + n + 2)) = true := by
          have hsf := (Suf.of hv).drop (2 + (n + 1))
          rw [hx] at hsf
          have := hsf.valid (by decide)
          rw [show s.drop (2 + n + 2) = x by rw [show 2 + n + 2 = 2 + (n + 1) + 1 by omega, ← List.drop_drop, hx]; rfl]
          exact this
        obtain ⟨j, hj, hg⟩ := gapOn_inl h
        exact step (2 + n + 2) j (by omega) (by omega) hvx hj hg
    · rw [if_neg h3] at h
      injection h with h
      injection h with ha hb
      subst ha
      rw [List.drop_zero, gap_step s h0, if_neg h1, if_neg h2, if_neg h3]
theorem gap_take {s : List UInt8} (h0 : s ≠ []) (hg : gap s = .inl (0, false)) {k : Nat} (hk : 1 ≤ k) (hvt : Cssp.valid (s.take k) = true) : gap (s.take k) = .inl (0, false) := by
  obtain ⟨t1, t2, t3⟩ := pt_take h0 hk hvt
  have hp := pn_le h0
  rw [gap_step s h0] at hg
  rw [gap_step _ t3, t1]
  by_cases h1 : blank (pt s) = true ∨ lineEnd (pt s) = true
  · rw [if_pos h1] at hg
    obtain ⟨j, _, hj⟩ := gapOn_inl hg
    omega
  rw [if_neg h1] at hg ⊢
  have h1' : lineEnd (pt s) = false := by
    cases h : lineEnd (pt s) with
    | false => rfl
    | true => exact absurd (.inr h) h1
  have hr : 1 ≤ run (fun r => !lineEnd r) s := by
    rw [run_step _ s h0, h1']
    show 1 ≤ pn s + _
    omega
  by_cases h2 : ([47, 47] : List UInt8).isPrefixOf s = true
  · rw [if_pos h2] at hg
    exfalso
    split at hg
    · injection hg with hg; injection hg with a b; omega
    · obtain ⟨j, _, hj⟩ := gapOn_inl hg
      omega
  rw [if_neg h2] at hg
  rw [if_neg fun e => h2 (pre_take_of e)]
  by_cases h3 : ([47, 42] : List UInt8).isPrefixOf s = true
  · rw [if_pos h3] at hg
    exfalso
    cases hsh : shut (s.drop 2) with
    | none => rw [hsh] at hg; cases hg
    | some n =>
      rw [hsh] at hg
      obtain ⟨j, _, hj⟩ := gapOn_inl hg
      omega
  rw [if_neg fun e => h3 (pre_take_of e)]
end Jsp
end Go.Proofs.YtngccmlcopcghaaGreatDoor
namespace Go.Proofs.YtngccmlcopcghaaGreatDoor
namespace Jsp
open Go

theorem nil_word (st : St) (p : Nat) (l : List Tk) : ∃ w, lexX st [] p l = .ok l st false w := ⟨_, rfl⟩
/-- a gap, and a text that begins with none -/
theorem lex_gap (g J : List UInt8) (hg : g ∈ gaps) (st : St) (p : Nat) (l : List Tk) (hvJ : Cssp.valid J = true) (hJ : gap J = .inl (0, false)) :
    (J = [] → lexX st (g ++ J) p l = .ok l st false false) ∧ (J ≠ [] → lexX st (g ++ J) p l = lexX st J (p + g.length) l) := by
  obtain ⟨ga, gl, _⟩ := gaps_ok g hg
  have hv : Cssp.valid (g ++ J) = true := by rw [Cssp.valid_app _ _ (valid_asc g ga)]; exact hvJ
  have hgp := gap_gap g J hg
  rw [hJ] at hgp
  simp only [gapOn, Nat.zero_add] at hgp
  constructor
  · intro hn
    subst hn
    rw [lexX_step _ _ _ _ hv, hgp]
    simp only
    rw [if_pos (by rw [List.append_nil, List.drop_length])]
    have : (g.length == 0) = false := by rw [beq_eq_false_iff_ne]; omega
    rw [this]; rfl
  · intro hn
    rw [lexX_step _ _ _ _ hv, hgp, lexX_step _ _ _ _ hvJ, hJ]
    simp only
    rw [List.drop_left, List.drop_zero, if_neg hn, if_neg hn]
    cases next st J with
    | no e o => simp only [Nat.add_zero]
    | ok x k st2 =>
      simp only [Nat.add_zero, Nat.zero_add]
      rw [← List.drop_drop, List.drop_left]
/-- what the law says of a list of tokens from a state on -/
def Again (st : St) (l : List Tk) (st' : St) : Prop := ∀ (gs : List (List UInt8)), (∀ g ∈ gs, g ∈ gaps) →
  Cssp.valid (joinW l gs) = true ∧ gap (joinW l gs) = .inl (0, false) ∧ ∀ (q : Nat) (m : List Tk), ∃ w, lexX st (joinW l gs) q m = .ok (m ++ l) st' false w
theorem Again.nil (st : St) : Again st [] st := fun gs _ => by
  refine ⟨rfl, rfl, fun q m => ?_⟩
  obtain ⟨w, hw⟩ := nil_word st q m
  exact ⟨w, by rw [List.append_nil]; exact hw⟩
theorem Again.cons {st st2 st' : St} {x : Tk} {l : List Tk} (hv : Cssp.valid x.t = true) (h0 : x.t ≠ []) (hg : gap x.t = .inl (0, false)) (hn : next st x.t = .ok x x.t.length st2) (ih : Again st2 l st') : Again st (x :: l) st' := by
  have main : ∀ (g : List UInt8) (gs : List (List UInt8)), g ∈ gaps → (∀ g ∈ gs, g ∈ gaps) →
      Cssp.valid (x.t ++ g ++ joinW l gs) = true ∧ gap (x.t ++ g ++ joinW l gs) = .inl (0, false) ∧ ∀ (q : Nat) (m : List Tk), ∃ w, lexX st (x.t ++ g ++ joinW l gs) q m = .ok (m ++ x :: l) st' false w := fun g gs hgg hgs => by
    obtain ⟨ga, gl, c0, r, hc, hsp⟩ := gaps_ok g hgg
    obtain ⟨iv, ig, il⟩ := ih gs hgs
    have hvg : Cssp.valid (g ++ joinW l gs) = true := by rw [Cssp.valid_app _ _ (valid_asc g ga)]; exact iv
    have hva : Cssp.valid (x.t ++ g ++ joinW l gs) = true := by rw [List.append_assoc, Cssp.valid_app _ _ hv]; exact hvg
    have e : x.t ++ g ++ joinW l gs = x.t ++ c0 :: (r ++ joinW l gs) := by rw [hc, List.append_assoc]; rfl
    have hgap : gap (x.t ++ g ++ joinW l gs) = .inl (0, false) := by
      rw [e]
      exact (gap_sp hsp _ x.t.length x.t 0 false (Nat.le_refl _) hv hg).2.2.1 (by simpa using h0)
    have hnx : next st (x.t ++ g ++ joinW l gs) = .ok x x.t.length st2 := by
      rw [e]; exact (next_sp hsp _ x.t st hv h0 hn).1
    refine ⟨hva, hgap, fun q m => ?_⟩
    rw [lexX_step _ _ _ _ hva, hgap]
    simp only
    rw [List.drop_zero, if_neg (by simp [h0]), hnx]
    simp only [Nat.zero_add, Nat.add_zero]
    rw [List.append_assoc, List.drop_left]
    obtain ⟨a1, a2⟩ := lex_gap g (joinW l gs) hgg st2 (q + x.t.length) (m ++ [x]) iv ig
    by_cases hJ : joinW l gs = []
    · rw [a1 hJ]
      obtain ⟨w, hw⟩ := il 0 (m ++ [x])
      rw [hJ] at hw
      obtain ⟨w', hw'⟩ := nil_word st2 0 (m ++ [x])
      rw [hw'] at hw
      injection hw with h1 h2 h3 h4
      exact ⟨false, by rw [h1, h2, List.append_assoc]; rfl⟩
    · rw [a2 hJ]
      obtain ⟨w, hw⟩ := il (q + x.t.length + g.length) (m ++ [x])
      exact ⟨w, by rw [hw, List.append_assoc]; rfl⟩
  intro gs hgs
  cases gs with
  | nil =>
    have := main [32] [] (by simp [gaps]) (fun g h => by cases h)
    rwa [List.append_assoc] at this
  | cons g gs => exact main g gs (hgs g (by simp)) fun g' h => hgs g' (List.mem_cons_of_mem _ h)
theorem lex_again : ∀ (f : Nat) (s : List UInt8) (st : St) (p : Nat) (l0 L : List Tk) (st' : St) (ln w : Bool), s.length ≤ f → Cssp.valid s = true → lexX st s p l0 = .ok L st' ln w → ∃ l, L = l0 ++ l ∧ Again st l st'
  | f, [], st, p, l0, L, st', ln, w, _, hv, h => by
    obtain ⟨w', hw'⟩ := nil_word st p l0
    rw [hw'] at h
    injection h with h1 h2 h3 h4
    exact ⟨[], by rw [h1, List.append_nil], by rw [← h2]; exact Again.nil st⟩
  | 0, c :: r, _, _, _, _, _, _, _, hf, _, _ => by simp at hf
  | f + 1, c :: r, st, p, l0, L, st', ln, w, hf, hv, h => by
    obtain ⟨s, hs⟩ : ∃ s, c :: r = s := ⟨_, rfl⟩
    rw [hs] at hf hv h
    clear hs
    rw [lexX_step _ _ _ _ hv] at h
    cases hgp : gap s with
    | inr o => rw [hgp] at h; cases h
    | inl y =>
      obtain ⟨j, ln2⟩ := y
      rw [hgp] at h
      simp only at h
      obtain ⟨i1, i2, _, _⟩ := gap_sp (c0 := 32) (.inl rfl) [] s.length s j ln2 (Nat.le_refl _) hv hgp
      by_cases h1 : s.drop j = []
      · rw [if_pos h1] at h
        injection h with a b c d
        exact ⟨[], by rw [a, List.append_nil], by rw [← b]; exact Again.nil st⟩
      · rw [if_neg h1] at h
        have hg0 := gap_zero s.length s j ln2 (Nat.le_refl _) hv hgp h1
        cases hn : next st (s.drop j) with
        | no e o => rw [hn] at h; cases h
        | ok x k st2 =>
          rw [hn] at h
          simp only at h
          obtain ⟨_, n1, n2, n3⟩ := next_sp (c0 := 32) (.inl rfl) [] (s.drop j) st i2 h1 hn
          obtain ⟨m1, m2⟩ := next_self (s.drop j) st i2 h1 hn
          have hvt := valid_take (s.drop j).length (s.drop j) k (Nat.le_refl _) i2 n3
          have hxl : x.t.length = k := by rw [m2, List.length_take]; omega
          rw [List.drop_drop] at n3
          obtain ⟨l, hl, ha⟩ := lex_again f (s.drop (j + k)) st2 _ _ L st' ln w (by rw [List.length_drop]; rw [List.length_drop] at n2; omega) n3 h
          refine ⟨x :: l, by rw [hl, List.append_assoc]; rfl, Again.cons (by rw [m2]; exact hvt) (by rw [m2]; exact (pt_take h1 n1 hvt).2.2) (by rw [m2]; exact gap_take h1 hg0 n1 hvt) (by rw [hxl, m2]; exact m1) ha⟩
/-- the law JsAgain, plainly -/
theorem read_again (s : List UInt8) {l : List Tk} {st : St} {ln w : Bool} (h : read s = .ok l st ln w) (gs : List (List UInt8)) (hg : ∀ g ∈ gs, g ∈ gaps) : ∃ w', read (joinW l gs) = .ok l st false w' := by
  have hv := valid_decode s.length s (Nat.le_refl _)
  unfold read at h ⊢
  rw [lex_X] at h ⊢
  obtain ⟨l', hl, ha⟩ := lex_again _ _ st0 0 [] l st ln w (Nat.le_refl _) hv h
  rw [List.nil_append] at hl
  subst hl
  obtain ⟨av, _, al⟩ := ha gs hg
  rw [Cssp.decode_valid _ av]
  obtain ⟨w', hw'⟩ := al 0 []
  exact ⟨w', hw'⟩
end Jsp
end Go.Proofs.YtngccmlcopcghaaGreatDoor
namespace Go.Proofs.YtngccmlcopcghaaGreatDoor
namespace Jsp
open Go

def consts : List (List UInt8) := [[116, 114, 117, 101], [102, 97, 108, 115, 101], [110, 117, 108, 108]]
theorem consts_ok : ∀ d ∈ consts, begins (pt d) = true ∧ name d = d.length ∧ wordsOf aheadV d = false ∧ gap d = .inl (0, false) ∧ (∀ c ∈ d, c.toNat < 128) ∧ d ≠ [] := by decide
theorem next_const (st : St) (d : List UInt8) (h : d ∈ consts) : next st d = .ok ⟨1, d, []⟩ d.length { st with goal := false, last := d, some := true } := by
  obtain ⟨h1, h2, h3, _, _, _⟩ := consts_ok d h
  unfold next
  rw [if_pos h1]
  simp only [h2, List.take_length, h3]
end Jsp
end Go.Proofs.YtngccmlcopcghaaGreatDoor
