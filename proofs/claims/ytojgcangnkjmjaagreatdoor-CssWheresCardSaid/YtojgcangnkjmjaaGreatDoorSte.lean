/- Plain: what stands behind a text does not change what has been read of it. No program in sight. -/
import Derived.Test.YtojgcangnkjmjaaGreatDoorRun2
namespace Go.Proofs.YtojgcangnkjmjaaGreatDoor
namespace Cssp
open Go

/-! ### places -/
theorem at_app {A : List UInt8} (M : List UInt8) {i : Nat} (h : i < A.length) : at_ (A ++ M) i = at_ A i := by
  simp [at_, List.getD_eq_getElem?_getD, List.getElem?_append_left h]
theorem isAt_app (p : UInt8 → Bool) {A : List UInt8} (M : List UInt8) {i : Nat} (h : i < A.length) : isAt p (A ++ M) i = isAt p A i := by
  simp [isAt, List.getElem?_append_left h]
theorem isAt_end (p : UInt8 → Bool) {A : List UInt8} {i : Nat} (h : A.length ≤ i) : isAt p A i = false := by
  simp [isAt, List.getElem?_eq_none h]
theorem isAt_lt {p : UInt8 → Bool} {A : List UInt8} {i : Nat} (h : isAt p A i = true) : i < A.length := by
  by_cases hi : i < A.length
  · exact hi
  · rw [isAt_end p (by omega)] at h; cases h
theorem isAt_at {p : UInt8 → Bool} {A : List UInt8} {i : Nat} (h : i < A.length) : isAt p A i = p (at_ A i) := by
  simp [isAt, at_, List.getD_eq_getElem?_getD, List.getElem?_eq_getElem h]
theorem escAt_app {A : List UInt8} (M : List UInt8) {i : Nat} (h : i + 1 < A.length) : escAt (A ++ M) i = escAt A i := by
  rw [escAt, escAt, isAt_app _ M (by omega), isAt_app _ M h]
theorem escAt_ne {A : List UInt8} {i : Nat} (h : at_ A i ≠ 92) : escAt A i = false := by
  rw [escAt]
  by_cases hi : i < A.length
  · rw [isAt_at hi, beq_eq_false_iff_ne.2 h]; rfl
  · rw [isAt_end _ (by omega)]; rfl
theorem escAt_last {A : List UInt8} {i : Nat} (h : at_ A i = 92) (hl : i + 1 = A.length) : escAt A i = true := by
  rw [escAt, isAt_at (by omega), h, isAt_end _ (by omega)]; rfl
theorem escAt_lt {A : List UInt8} {i : Nat} (h : escAt A i = true) : i < A.length ∧ at_ A i = 92 := by
  rw [escAt, Bool.and_eq_true] at h
  have := isAt_lt h.1
  rw [isAt_at this, beq_iff_eq] at h
  exact ⟨this, h.1⟩
theorem drop_app {A : List UInt8} (M : List UInt8) {k : Nat} (h : k ≤ A.length) : (A ++ M).drop k = A.drop k ++ M := List.drop_append_of_le_length h
theorem take_app {A : List UInt8} (M : List UInt8) {k : Nat} (h : k ≤ A.length) : (A ++ M).take k = A.take k := List.take_append_of_le_length h
theorem run_app (p : UInt8 → Bool) : ∀ (A M : List UInt8), run p A < A.length → run p (A ++ M) = run p A
  | [], _, h => by simp at h
  | c :: r, M, h => by
    rw [List.cons_append, run, run]
    rw [run] at h
    by_cases hc : p c = true
    · rw [if_pos hc] at h ⊢
      rw [if_pos hc, run_app p r M (by simp only [List.length_cons] at h; omega)]
    · rw [if_neg hc, if_neg hc]
theorem run_all (p : UInt8 → Bool) : ∀ (A M : List UInt8), run p A = A.length → run p (A ++ M) = A.length + run p M
  | [], _, _ => by simp
  | c :: r, M, h => by
    have hle := run_le p r
    rw [List.cons_append, run]
    rw [run] at h
    by_cases hc : p c = true
    · rw [if_pos hc] at h ⊢
      rw [run_all p r M (by simp only [List.length_cons] at h; omega)]
      simp only [List.length_cons]; omega
    · rw [if_neg hc] at h
      simp at h
theorem run_isAt (p : UInt8 → Bool) : ∀ (A : List UInt8) (i : Nat), i < run p A → isAt p A i = true
  | [], i, h => by simp [run] at h
  | c :: r, i, h => by
    rw [run] at h
    by_cases hc : p c = true
    · rw [if_pos hc] at h
      cases i with
      | zero => exact hc
      | succ i =>
        have := run_isAt p r i (by omega)
        unfold isAt at this ⊢
        rw [List.getElem?_cons_succ]; exact this
    · rw [if_neg hc] at h; omega

/-! ### escapes, names -/
theorem esc_app {A : List UInt8} (M : List UInt8) (_h0 : A ≠ []) (h : (esc A).o = false) : esc (A ++ M) = esc A := by
  have h1 : ¬ A.length ≤ 1 := by
    intro h1
    rw [esc, if_pos h1] at h
    cases h
  have h2 : ¬ (A ++ M).length ≤ 1 := by rw [List.length_append]; omega
  have hd : (A ++ M).drop 1 = A.drop 1 ++ M := drop_app M (by omega)
  have hl1 : (A.drop 1).length = A.length - 1 := List.length_drop
  have hr : run isHex (((A ++ M).drop 1).take 6) = run isHex ((A.drop 1).take 6) ∧ (run isHex ((A.drop 1).take 6) ≠ 0 → 1 + run isHex ((A.drop 1).take 6) < A.length) := by
    by_cases hz : run isHex ((A.drop 1).take 6) = 0
    · rw [hd]
      refine ⟨?_, fun hn => absurd hz hn⟩
      by_cases h6 : 6 ≤ (A.drop 1).length
      · rw [take_app M h6]
      · have hlt : run isHex (A.drop 1) < (A.drop 1).length := by
          rw [List.take_of_length_le (by omega)] at hz
          omega
        rw [List.take_append, List.take_of_length_le (l := A.drop 1) (by omega)] at *
        exact run_app isHex _ _ hlt
    · rw [esc, if_neg h1, if_neg hz] at h
      have hne := of_decide_eq_false h
      have hle := run_le isHex ((A.drop 1).take 6)
      rw [List.length_take] at hle
      have hlt : 1 + run isHex ((A.drop 1).take 6) < A.length := by omega
      refine ⟨?_, fun _ => hlt⟩
      rw [hd]
      by_cases h6 : 6 ≤ (A.drop 1).length
      · rw [take_app M h6]
      · rw [List.take_append, List.take_of_length_le (l := A.drop 1) (by omega)]
        rw [List.take_of_length_le (l := A.drop 1) (by omega)] at hlt
        exact run_app isHex _ _ (by omega)
  obtain ⟨hr1, hr2⟩ := hr
  unfold esc
  rw [if_neg h1, if_neg h2, hr1]
  by_cases hz : run isHex ((A.drop 1).take 6) = 0
  · rw [if_pos hz, if_pos hz, hd, take_app M (by omega)]
  · have hlt := hr2 hz
    rw [if_neg hz, if_neg hz]
    have ht : ((A ++ M).drop 1).take (run isHex ((A.drop 1).take 6)) = (A.drop 1).take (run isHex ((A.drop 1).take 6)) := by rw [hd, take_app M (by omega)]
    have hb : isAt blank (A ++ M) (1 + run isHex ((A.drop 1).take 6)) = isAt blank A (1 + run isHex ((A.drop 1).take 6)) := isAt_app _ M hlt
    have he : (decide (1 + run isHex ((A.drop 1).take 6) = (A ++ M).length)) = decide (1 + run isHex ((A.drop 1).take 6) = A.length) := by
      rw [List.length_append, decide_eq_false (by omega), decide_eq_false (by omega)]
    rw [ht, hb, he]
theorem esc_le {A : List UInt8} (h0 : A ≠ []) : (esc A).k ≤ A.length := (esc_len A).2 (List.length_pos_iff.2 h0)
theorem esc_open_k {A : List UInt8} (h0 : A ≠ []) (h : (esc A).o = true) : (esc A).k = A.length := by
  have h1 := esc_open A h
  have h2 := esc_le h0
  have h3 := congrArg List.length h1
  rw [List.length_drop, List.length_nil] at h3
  omega
theorem escAt0_app {A : List UInt8} (M : List UInt8) (h0 : A ≠ []) (h : at_ A 0 ≠ 92 ∨ 1 < A.length) : escAt (A ++ M) 0 = escAt A 0 := by
  rcases h with h | h
  · rw [escAt_ne h, escAt_ne (by rw [at_app M (List.length_pos_iff.2 h0)]; exact h)]
  · exact escAt_app M h
theorem name_app : ∀ (f : Nat) (A M : List UInt8), A.length ≤ f → (name A).k < A.length → name (A ++ M) = name A
  | 0, A, M, hf, hk => by omega
  | f + 1, A, M, hf, hk => by
    have h0 : A ≠ [] := fun e => by subst e; simp at hk
    by_cases he : escAt A 0 = true
    · have hpos := esc_pos A
      have hle := esc_le h0
      have hne := name_esc he
      have hno : (esc A).o = false := by
        cases ho : (esc A).o with
        | false => rfl
        | true =>
          have := esc_open_k h0 ho
          rw [hne] at hk
          simp only at hk
          omega
      have hea : escAt (A ++ M) 0 = true := by
        rw [escAt0_app M h0 ?_]; exact he
        by_cases h1 : 1 < A.length
        · exact .inr h1
        · have : (esc A).o = true := by rw [esc, if_pos (by omega)]
          rw [this] at hno; cases hno
      have hx := esc_app M h0 hno
      rw [hne] at hk
      simp only at hk
      have ih := name_app f (A.drop (esc A).k) M (by rw [List.length_drop]; omega) (by rw [List.length_drop]; omega)
      rw [name_esc hea, hx, drop_app M hle, ih, ← hne]
    · have he' := eq_false_of_ne_true he
      cases A with
      | nil => exact absurd rfl h0
      | cons c r =>
        by_cases hg : goesOn c = true
        · have hn := name_cons he' hg
          rw [hn] at hk
          simp only [List.length_cons] at hk hf
          have ih := name_app f r M (by omega) (by omega)
          rw [List.cons_append, name_cons (not_esc (goesOn_ne hg)) hg, ih, ← hn]
        · have hea : escAt ((c :: r) ++ M) 0 = false := by
            rw [escAt0_app M h0 ?_]; exact he'
            by_cases h92 : c = 92
            · right
              subst h92
              cases r with
              | nil => exact absurd (escAt_last (A := [92]) (i := 0) rfl rfl) he
              | cons _ _ => simp
            · exact .inl h92
          rw [name_stop he' (eq_false_of_ne_true hg), name_stop hea (eq_false_of_ne_true hg)]
theorem name_le (A : List UInt8) : (name A).k ≤ A.length := (name_len A.length A (Nat.le_refl _)).2
/-- an open escape stands at the end -/
theorem name_open : ∀ (f : Nat) (A : List UInt8), A.length ≤ f → (name A).o = true → (name A).k = A.length
  | 0, A, hf, h => by
    have : A = [] := List.eq_nil_of_length_eq_zero (by omega)
    subst this
    rw [name_stop rfl rfl] at h; cases h
  | f + 1, A, hf, h => by
    by_cases he : escAt A 0 = true
    · obtain ⟨hl, _⟩ := escAt_lt he
      have h0 : A ≠ [] := fun e => by subst e; simp at hl
      have hpos := esc_pos A
      have hle := esc_le h0
      rw [name_esc he] at h ⊢
      simp only [Bool.or_eq_true] at h ⊢
      rcases h with h | h
      · have hk := esc_open_k h0 h
        rw [hk, List.drop_length, name_stop rfl rfl]; rfl
      · have := name_open f (A.drop (esc A).k) (by rw [List.length_drop]; omega) h
        rw [this, List.length_drop]; omega
    · have he' := eq_false_of_ne_true he
      cases A with
      | nil => rw [name_stop rfl rfl] at h; cases h
      | cons c r =>
        by_cases hg : goesOn c = true
        · rw [name_cons he' hg] at h ⊢
          simp only [List.length_cons] at hf h ⊢
          rw [name_open f r (by omega) h]
        · rw [name_stop he' (eq_false_of_ne_true hg)] at h; cases h

/-! ### strings -/
theorem textX_app (q : UInt8) : ∀ (f : Nat) (A M : List UInt8), A.length ≤ f → (textX q A).i = false → textX q (A ++ M) = textX q A
  | _, [], M, _, h => by rw [textX_nil] at h; cases h
  | 0, c :: r, M, hf, h => by simp at hf
  | f + 1, c :: r, M, hf, h => by
    simp only [List.length_cons] at hf
    have hpos := esc_pos (c :: r)
    have hle := esc_le (A := c :: r) (by simp)
    rw [textX_cons] at h
    rw [List.cons_append, textX_cons, textX_cons]
    by_cases h1 : c = q
    · rw [if_pos h1, if_pos h1]
    rw [if_neg h1] at h ⊢
    rw [if_neg h1]
    by_cases h2 : c = 10
    · rw [if_pos h2, if_pos h2]
    rw [if_neg h2] at h ⊢
    rw [if_neg h2]
    by_cases h3 : c = 92
    · rw [if_pos h3] at h ⊢
      rw [if_pos h3]
      by_cases h4 : r = []
      · rw [if_pos h4] at h; cases h
      rw [if_neg h4] at h ⊢
      rw [if_neg (by simp [h4])]
      have hh : (r ++ M).head? = r.head? := by cases r with
        | nil => exact absurd rfl h4
        | cons _ _ => rfl
      rw [hh]
      have hr1 : 1 ≤ r.length := List.length_pos_iff.2 h4
      by_cases h5 : r.head? = some 10
      · rw [if_pos h5] at h ⊢
        rw [if_pos h5, drop_app M hr1, textX_app q f (r.drop 1) M (by rw [List.length_drop]; omega) h]
      rw [if_neg h5] at h ⊢
      rw [if_neg h5]
      by_cases h6 : (esc (c :: r)).o = true
      · rw [if_pos h6] at h; cases h
      rw [if_neg h6] at h ⊢
      have hx := esc_app M (A := c :: r) (by simp) (eq_false_of_ne_true h6)
      rw [List.cons_append] at hx
      have hd := drop_app (A := c :: r) M hle
      rw [List.cons_append] at hd
      rw [hx, if_neg h6, hd, textX_app q f ((c :: r).drop (esc (c :: r)).k) M (by rw [List.length_drop, List.length_cons]; omega) h]
    rw [if_neg h3] at h ⊢
    rw [if_neg h3, textX_app q f r M (by omega) h]
/-- a string that has not ended goes on -/
theorem textX_more (q : UInt8) : ∀ (f : Nat) (A M : List UInt8), A.length ≤ f → (textX q A).i = true →
    (textX q A).bad = false ∧ (textX q A).k = A.length ∧ (textX q A).e ≤ A.length ∧
    ((textX q A).o = false → ∃ t, textX q (A ++ M) = (textX q M).on t A.length) ∧
    ((textX q A).o = true → ∃ t, textX q (A ++ M) = (textX q (A.drop (textX q A).e ++ M)).on t (textX q A).e)
  | _, [], M, _, h => by
    rw [textX_nil]
    refine ⟨rfl, rfl, Nat.le_refl _, fun _ => ⟨[], ?_⟩, fun h => by cases h⟩
    rw [List.nil_append]; exact (on_nil _).symm
  | 0, c :: r, M, hf, h => by simp at hf
  | f + 1, c :: r, M, hf, h => by
    simp only [List.length_cons] at hf
    have hpos := esc_pos (c :: r)
    have hle := esc_le (A := c :: r) (by simp)
    have hstep := textX_cons q c r
    have hstepM := textX_cons q c (r ++ M)
    by_cases h1 : c = q
    · rw [hstep, if_pos h1] at h; cases h
    rw [if_neg h1] at hstep hstepM
    by_cases h2 : c = 10
    · rw [hstep, if_pos h2] at h; cases h
    rw [if_neg h2] at hstep hstepM
    by_cases h3 : c = 92
    · rw [if_pos h3] at hstep hstepM
      by_cases h4 : r = []
      · rw [if_pos h4] at hstep
        rw [hstep]
        subst h4
        refine ⟨rfl, rfl, Nat.zero_le _, fun h => (by cases h), fun _ => ⟨[], ?_⟩⟩
        rw [List.drop_zero]; exact (on_nil _).symm
      rw [if_neg h4] at hstep
      rw [if_neg (by simp [h4])] at hstepM
      have hh : (r ++ M).head? = r.head? := by cases r with
        | nil => exact absurd rfl h4
        | cons _ _ => rfl
      rw [hh] at hstepM
      have hr1 : 1 ≤ r.length := List.length_pos_iff.2 h4
      by_cases h5 : r.head? = some 10
      · rw [if_pos h5] at hstep hstepM
        rw [hstep] at h
        obtain ⟨i1, i2, i3, i4, i5⟩ := textX_more q f (r.drop 1) M (by rw [List.length_drop]; omega) h
        rw [List.length_drop] at i2 i3 i4
        rw [drop_app M hr1] at hstepM
        rw [hstep, List.cons_append, hstepM]
        refine ⟨i1, by show (textX q (r.drop 1)).k + 2 = _; rw [List.length_cons]; omega, by show (textX q (r.drop 1)).e + 2 ≤ _; rw [List.length_cons]; omega, fun ho => ?_, fun ho => ?_⟩
        · obtain ⟨t, ht⟩ := i4 ho
          refine ⟨t, ?_⟩
          rw [ht, on_on, List.nil_append, List.length_cons]
          congr 1
          omega
        · obtain ⟨t, ht⟩ := i5 ho
          refine ⟨t, ?_⟩
          show _ = (textX q ((c :: r).drop ((textX q (r.drop 1)).e + 2) ++ M)).on t ((textX q (r.drop 1)).e + 2)
          rw [ht, on_on, List.nil_append, List.drop_drop, List.drop_succ_cons, Nat.add_comm 1, Nat.add_comm 2]
      rw [if_neg h5] at hstep hstepM
      by_cases h6 : (esc (c :: r)).o = true
      · rw [if_pos h6] at hstep
        rw [hstep]
        have hk := esc_open_k (A := c :: r) (by simp) h6
        refine ⟨rfl, hk, Nat.zero_le _, fun h => (by cases h), fun _ => ⟨[], ?_⟩⟩
        rw [List.drop_zero]; exact (on_nil _).symm
      rw [if_neg h6] at hstep
      have hx := esc_app M (A := c :: r) (by simp) (eq_false_of_ne_true h6)
      rw [List.cons_append] at hx
      have hd := drop_app (A := c :: r) M hle
      rw [List.cons_append] at hd
      rw [hx, if_neg h6, hd] at hstepM
      rw [hstep] at h
      obtain ⟨i1, i2, i3, i4, i5⟩ := textX_more q f ((c :: r).drop (esc (c :: r)).k) M (by rw [List.length_drop, List.length_cons]; omega) h
      rw [List.length_drop] at i2 i3 i4
      rw [hstep, List.cons_append, hstepM]
      generalize esc (c :: r) = E at hpos hle i1 i2 i3 i4 i5
      refine ⟨i1, by show (textX q _).k + E.k = _; omega, by show (textX q _).e + E.k ≤ _; omega, fun ho => ?_, fun ho => ?_⟩
      · obtain ⟨t, ht⟩ := i4 ho
        refine ⟨E.t ++ t, ?_⟩
        rw [ht, on_on]
        congr 1
        omega
      · obtain ⟨t, ht⟩ := i5 ho
        refine ⟨E.t ++ t, ?_⟩
        show _ = (textX q ((c :: r).drop ((textX q ((c :: r).drop E.k)).e + E.k) ++ M)).on (E.t ++ t) ((textX q ((c :: r).drop E.k)).e + E.k)
        rw [ht, on_on, List.drop_drop, Nat.add_comm E.k]
    rw [if_neg h3] at hstep hstepM
    rw [hstep] at h
    obtain ⟨i1, i2, i3, i4, i5⟩ := textX_more q f r M (by omega) h
    rw [hstep, List.cons_append, hstepM]
    refine ⟨i1, by show (textX q r).k + 1 = _; rw [List.length_cons]; omega, by show (textX q r).e + 1 ≤ _; rw [List.length_cons]; omega, fun ho => ?_, fun ho => ?_⟩
    · obtain ⟨t, ht⟩ := i4 ho
      refine ⟨[c] ++ t, ?_⟩
      rw [ht, on_on, List.length_cons, Nat.add_comm 1]
    · obtain ⟨t, ht⟩ := i5 ho
      refine ⟨[c] ++ t, ?_⟩
      show _ = (textX q ((c :: r).drop ((textX q r).e + 1) ++ M)).on ([c] ++ t) ((textX q r).e + 1)
      rw [ht, on_on, List.drop_succ_cons, Nat.add_comm 1]

/-! ### URLs -/
theorem bad_nil : bad [] = (0, false, true) := rfl
theorem bad_app : ∀ (f : Nat) (A M : List UInt8), A.length ≤ f → (bad A).2.2 = false → bad (A ++ M) = bad A
  | _, [], M, _, h => by rw [bad_nil] at h; cases h
  | 0, c :: r, M, hf, h => by simp at hf
  | f + 1, c :: r, M, hf, h => by
    simp only [List.length_cons] at hf
    have hpos := esc_pos (c :: r)
    have hle := esc_le (A := c :: r) (by simp)
    have hs := bad_cons c r
    have hsM := bad_cons c (r ++ M)
    rw [List.cons_append]
    by_cases h1 : c = 41
    · rw [if_pos h1] at hs hsM; rw [hs, hsM]
    rw [if_neg h1] at hs hsM
    by_cases he : escAt (c :: r) 0 = true
    · rw [if_pos he] at hs
      by_cases h6 : (esc (c :: r)).o = true
      · rw [if_pos h6] at hs; rw [hs] at h; cases h
      rw [if_neg h6] at hs
      have hx := esc_app M (A := c :: r) (by simp) (eq_false_of_ne_true h6)
      have hea : escAt ((c :: r) ++ M) 0 = true := by
        rw [escAt0_app M (by simp) ?_]; exact he
        right
        cases r with
        | nil => exact absurd (by rw [esc, if_pos (by simp)]) h6
        | cons _ _ => simp
      have hd := drop_app (A := c :: r) M hle
      rw [List.cons_append] at hx hea hd
      rw [if_pos hea, hx, if_neg h6, hd] at hsM
      rw [hs] at h
      rw [hs, hsM, bad_app f ((c :: r).drop (esc (c :: r)).k) M (by rw [List.length_drop, List.length_cons]; omega) h]
    · have hea : escAt (c :: (r ++ M)) 0 = false := by
        rw [← List.cons_append, escAt0_app M (by simp) ?_]; exact eq_false_of_ne_true he
        by_cases h92 : c = 92
        · right
          subst h92
          cases r with
          | nil => exact absurd (escAt_last (A := [92]) (i := 0) rfl rfl) he
          | cons _ _ => simp
        · exact .inl h92
      rw [if_neg he] at hs
      rw [if_neg (by rw [hea]; decide)] at hsM
      rw [hs] at h
      rw [hs, hsM, bad_app f r M (by omega) h]
theorem bad_in : ∀ (f : Nat) (A : List UInt8), A.length ≤ f → (bad A).1 ≤ A.length ∧ ((bad A).2.2 = true → (bad A).1 = A.length) ∧ ((bad A).2.1 = true → (bad A).2.2 = true)
  | _, [], _ => ⟨Nat.le_refl _, fun _ => rfl, fun h => by rw [bad_nil] at h; cases h⟩
  | 0, c :: r, hf => by simp at hf
  | f + 1, c :: r, hf => by
    simp only [List.length_cons] at hf
    have hpos := esc_pos (c :: r)
    have hle := esc_le (A := c :: r) (by simp)
    rw [bad_cons]
    by_cases h1 : c = 41
    · rw [if_pos h1]
      exact ⟨by simp, fun h => (by cases h), fun h => (by cases h)⟩
    rw [if_neg h1]
    by_cases he : escAt (c :: r) 0 = true
    · rw [if_pos he]
      by_cases h6 : (esc (c :: r)).o = true
      · rw [if_pos h6]
        exact ⟨hle, fun _ => esc_open_k (by simp) h6, fun _ => rfl⟩
      · rw [if_neg h6]
        obtain ⟨i1, i2, i3⟩ := bad_in f ((c :: r).drop (esc (c :: r)).k) (by rw [List.length_drop, List.length_cons]; omega)
        rw [List.length_drop] at i1 i2
        exact ⟨by show _ + _ ≤ _; omega, fun h => by show _ + _ = _; rw [i2 h]; omega, i3⟩
    · rw [if_neg he]
      obtain ⟨i1, i2, i3⟩ := bad_in f r (by omega)
      exact ⟨by show _ + 1 ≤ _; rw [List.length_cons]; omega, fun h => by show _ + 1 = _; rw [i2 h, List.length_cons], i3⟩
theorem urlX_app : ∀ (f : Nat) (A M : List UInt8), A.length ≤ f → (urlX A).i = false → urlX (A ++ M) = urlX A
  | _, [], M, _, h => by rw [urlX_nil] at h; cases h
  | 0, c :: r, M, hf, h => by simp at hf
  | f + 1, c :: r, M, hf, h => by
    simp only [List.length_cons] at hf
    have hpos := esc_pos (c :: r)
    have hle := esc_le (A := c :: r) (by simp)
    have hs := urlX_cons c r
    have hsM := urlX_cons c (r ++ M)
    rw [List.cons_append]
    by_cases h1 : c = 41
    · rw [if_pos h1] at hs hsM; rw [hs, hsM]
    rw [if_neg h1] at hs hsM
    by_cases hb : blank c = true
    · rw [if_pos hb] at hs hsM
      have hrl := run_le blank (c :: r)
      by_cases hlt : run blank (c :: r) < (c :: r).length
      · have hra := run_app blank (c :: r) M hlt
        have hia := isAt_app (· == 41) (A := c :: r) M hlt
        have hd := drop_app (A := c :: r) M hrl
        have hlt2 : run blank (c :: r) < ((c :: r) ++ M).length := by rw [List.length_append]; omega
        rw [List.cons_append] at hra hia hd hlt2
        rw [hra, hia, hd] at hsM
        by_cases h41 : isAt (· == 41) (c :: r) (run blank (c :: r)) = false
        · rw [if_pos ⟨hlt, h41⟩] at hs
          rw [if_pos ⟨hlt2, h41⟩] at hsM
          rw [hs] at h
          have h' : (bad ((c :: r).drop (run blank (c :: r)))).2.2 = false := h
          rw [hs, hsM, badU, badU, bad_app _ _ M (Nat.le_refl _) h']
        · rw [if_neg (fun h => h41 h.2), if_pos hlt] at hs
          rw [if_neg (fun h => h41 h.2), if_pos hlt2] at hsM
          rw [hs, hsM]
      · rw [if_neg (fun h => hlt h.1), if_neg hlt] at hs
        rw [hs] at h; cases h
    rw [if_neg hb] at hs hsM
    have h92 : escAt (c :: r) 0 = true ∨ c ≠ 92 ∨ r ≠ [] := by
      by_cases h : c = 92
      · by_cases h2 : r = []
        · left; subst h h2; rfl
        · exact .inr (.inr h2)
      · exact .inr (.inl h)
    by_cases he : escAt (c :: r) 0 = true
    · rw [if_pos he] at hs
      by_cases h6 : (esc (c :: r)).o = true
      · rw [if_pos h6] at hs; rw [hs] at h; cases h
      rw [if_neg h6] at hs
      have hx := esc_app M (A := c :: r) (by simp) (eq_false_of_ne_true h6)
      have hea : escAt ((c :: r) ++ M) 0 = true := by
        rw [escAt0_app M (by simp) ?_]; exact he
        right
        cases r with
        | nil => exact absurd (by rw [esc, if_pos (by simp)]) h6
        | cons _ _ => simp
      have hd := drop_app (A := c :: r) M hle
      rw [List.cons_append] at hx hea hd
      rw [if_pos hea, hx, if_neg h6, hd] at hsM
      rw [hs] at h
      rw [hs, hsM, urlX_app f ((c :: r).drop (esc (c :: r)).k) M (by rw [List.length_drop, List.length_cons]; omega) h]
    · have hea : escAt (c :: (r ++ M)) 0 = false := by
        rw [← List.cons_append, escAt0_app M (by simp) ?_]; exact eq_false_of_ne_true he
        rcases h92 with h | h | h
        · exact absurd h he
        · exact .inl h
        · right
          have := List.length_pos_iff.2 h
          rw [List.length_cons]; omega
      rw [if_neg he] at hs
      rw [if_neg (by rw [hea]; decide)] at hsM
      by_cases hp : plainU c = true
      · rw [if_pos hp] at hs hsM
        rw [hs] at h
        rw [hs, hsM, urlX_app f r M (by omega) h]
      · rw [if_neg hp] at hs hsM
        rw [hs] at h
        have h' : (bad (c :: r)).2.2 = false := h
        have := bad_app _ _ M (Nat.le_refl _) h'
        rw [List.cons_append] at this
        rw [hs, hsM, badU, badU, this]
theorem urlX_in : ∀ (f : Nat) (A : List UInt8), A.length ≤ f → (urlX A).k ≤ A.length ∧ ((urlX A).i = true → (urlX A).k = A.length) ∧ ((urlX A).o = true → (urlX A).i = true)
  | _, [], _ => ⟨Nat.le_refl _, fun _ => rfl, fun h => by rw [urlX_nil] at h; cases h⟩
  | 0, c :: r, hf => by simp at hf
  | f + 1, c :: r, hf => by
    simp only [List.length_cons] at hf
    have hpos := esc_pos (c :: r)
    have hle := esc_le (A := c :: r) (by simp)
    rw [urlX_cons]
    by_cases h1 : c = 41
    · rw [if_pos h1]
      exact ⟨by simp, fun h => (by cases h), fun h => (by cases h)⟩
    rw [if_neg h1]
    by_cases hb : blank c = true
    · rw [if_pos hb]
      have hrl := run_le blank (c :: r)
      obtain ⟨b1, b2, b3⟩ := bad_in _ ((c :: r).drop (run blank (c :: r))) (Nat.le_refl _)
      rw [List.length_drop] at b1 b2
      split
      · exact ⟨by show (bad _).1 + _ ≤ _; omega, fun h => by show (bad _).1 + _ = _; rw [b2 h]; omega, b3⟩
      · split
        · rename_i h2
          exact ⟨by show _ + 1 ≤ _; omega, fun h => (by cases h), fun h => (by cases h)⟩
        · rename_i h2
          exact ⟨hrl, fun _ => by show run _ _ = _; omega, fun h => (by cases h)⟩
    rw [if_neg hb]
    by_cases he : escAt (c :: r) 0 = true
    · rw [if_pos he]
      by_cases h6 : (esc (c :: r)).o = true
      · rw [if_pos h6]
        exact ⟨hle, fun _ => esc_open_k (by simp) h6, fun _ => rfl⟩
      · rw [if_neg h6]
        obtain ⟨i1, i2, i3⟩ := urlX_in f ((c :: r).drop (esc (c :: r)).k) (by rw [List.length_drop, List.length_cons]; omega)
        rw [List.length_drop] at i1 i2
        exact ⟨by show _ + _ ≤ _; omega, fun h => by show _ + _ = _; rw [i2 h]; omega, i3⟩
    · rw [if_neg he]
      obtain ⟨i1, i2, i3⟩ := urlX_in f r (by omega)
      obtain ⟨b1, b2, b3⟩ := bad_in _ (c :: r) (Nat.le_refl _)
      split
      · exact ⟨by show _ + 1 ≤ _; rw [List.length_cons]; omega, fun h => by show _ + 1 = _; rw [i2 h, List.length_cons], i3⟩
      · exact ⟨b1, b2, b3⟩
theorem url_eq (s : List UInt8) : url s = ⟨if (urlX (s.drop (run blank s))).bad = true then tk 9 [] else tk 8 (urlX (s.drop (run blank s))).t, (urlX (s.drop (run blank s))).k + run blank s, (urlX (s.drop (run blank s))).o, (urlX (s.drop (run blank s))).i, 0⟩ := rfl
theorem url_in (A : List UInt8) : (url A).k ≤ A.length ∧ ((url A).i = true → (url A).k = A.length) ∧ ((url A).o = true → (url A).i = true) := by
  have hr := run_le blank A
  obtain ⟨h1, h2, h3⟩ := urlX_in _ (A.drop (run blank A)) (Nat.le_refl _)
  rw [List.length_drop] at h1 h2
  rw [url_eq]
  exact ⟨by show _ + _ ≤ _; omega, fun h => by show _ + _ = _; rw [h2 h]; omega, h3⟩
theorem url_app (A M : List UInt8) (h : (url A).i = false) : url (A ++ M) = url A := by
  have hr := run_le blank A
  rw [url_eq] at h
  have h' : (urlX (A.drop (run blank A))).i = false := h
  have hlt : run blank A < A.length := by
    rcases Nat.lt_or_ge (run blank A) A.length with h2 | h2
    · exact h2
    · rw [List.drop_eq_nil_of_le h2, urlX_nil] at h'; cases h'
  rw [url_eq, url_eq, run_app blank A M hlt, drop_app M hr, urlX_app _ _ M (Nat.le_refl _) h']
end Cssp
end Go.Proofs.YtojgcangnkjmjaaGreatDoor
namespace Go.Proofs.YtojgcangnkjmjaaGreatDoor
namespace Cssp
open Go

/-- what is left and is never more than marks that could go on -/
def Odd (R : List UInt8) : Prop := R = [46] ∨ R = [43] ∨ R = [45] ∨ R = [33] ∨ R = [33, 45]
theorem identAt0_app : ∀ (A M : List UInt8), A ≠ [] → identAt (A ++ M) 0 = identAt A 0 ∨ A = [45] ∨ (identAt A 0 = true ∧ (name A).k = A.length)
  | [], _, h => absurd rfl h
  | c :: r, M, _ => by
    by_cases hc : c = 45
    · subst hc
      cases r with
      | nil => exact .inr (.inl rfl)
      | cons d r =>
        by_cases hd : d = 92
        · subst hd
          cases r with
          | nil => exact .inr (.inr ⟨rfl, rfl⟩)
          | cons e r => exact .inl rfl
        · left
          have h1 : escAt (45 :: d :: r) 1 = false := escAt_ne hd
          have h2 : escAt (45 :: d :: r ++ M) 1 = false := escAt_ne hd
          unfold identAt
          rw [h1, h2]
          rfl
    · by_cases hd : c = 92
      · subst hd
        cases r with
        | nil => exact .inr (.inr ⟨rfl, rfl⟩)
        | cons e r => exact .inl rfl
      · left
        have h1 : escAt (c :: r) 0 = false := escAt_ne hd
        have h2 : escAt (c :: r ++ M) 0 = false := escAt_ne hd
        have h3 : isAt (· == 45) (c :: r) 0 = false := beq_eq_false_iff_ne.2 hc
        have h4 : isAt (· == 45) (c :: r ++ M) 0 = false := beq_eq_false_iff_ne.2 hc
        unfold identAt
        rw [h1, h2, h3, h4]
        rfl
theorem identAt_app {A : List UInt8} (M : List UInt8) {i : Nat} (h : i < A.length) : identAt (A ++ M) i = identAt A i ∨ A.drop i = [45] ∨ (identAt A i = true ∧ (name (A.drop i)).k = A.length - i) := by
  have h0 : A.drop i ≠ [] := fun e => by
    have := congrArg List.length e
    rw [List.length_drop, List.length_nil] at this
    omega
  have := identAt0_app (A.drop i) M h0
  rw [← drop_app M (by omega), identAt_drop, identAt_drop, Nat.add_zero, List.length_drop] at this
  exact this
theorem signed_app {A : List UInt8} (M : List UInt8) {i : Nat} (h : i < A.length) : signed (A ++ M) i = signed A i := by
  unfold signed
  rw [isAt_app _ M h]
theorem signed_le (A : List UInt8) (i : Nat) (h : i ≤ A.length) : i + signed A i ≤ A.length := by
  unfold signed
  split
  · rename_i h1
    have := isAt_lt h1
    omega
  · omega
theorem run_drop_app (p : UInt8 → Bool) {A : List UInt8} (M : List UInt8) {i : Nat} (hi : i ≤ A.length) (h : i + run p (A.drop i) < A.length) : run p ((A ++ M).drop i) = run p (A.drop i) := by
  rw [drop_app M hi]
  exact run_app p _ M (by rw [List.length_drop]; omega)
theorem drop_two {A : List UInt8} {p : Nat} (h : p + 2 = A.length) : A.drop p = [at_ A p, at_ A (p + 1)] := by
  rw [List.drop_eq_getElem_cons (by omega), List.drop_eq_getElem_cons (by omega), List.drop_eq_nil_of_le (by omega)]
  simp only [at_, List.getD_eq_getElem?_getD]
  rw [List.getElem?_eq_getElem (by omega), List.getElem?_eq_getElem (by omega)]
  rfl
theorem drop_one {A : List UInt8} {p : Nat} (h : p + 1 = A.length) : A.drop p = [at_ A p] := by
  rw [List.drop_eq_getElem_cons (by omega), List.drop_eq_nil_of_le (by omega)]
  simp only [at_, List.getD_eq_getElem?_getD]
  rw [List.getElem?_eq_getElem (by omega)]
  rfl
theorem at_end {A : List UInt8} {i : Nat} (h : A.length ≤ i) : at_ A i = 10 := by
  simp [at_, List.getD_eq_getElem?_getD, List.getElem?_eq_none h]
theorem point_le (s : List UInt8) (i : Nat) : i ≤ (point s i).1 := by
  unfold point
  split
  · show i ≤ i + 1 + _; omega
  · exact Nat.le_refl _
theorem power_le (s : List UInt8) (i : Nat) : i ≤ (power s i).1 := by
  unfold power
  split
  · show i ≤ i + 1 + _ + _; omega
  · exact Nat.le_refl _
theorem numLen_eq (s : List UInt8) : numLen s = ((power s (point s (signed s 0 + run digit (s.drop (signed s 0)))).1).1, (point s (signed s 0 + run digit (s.drop (signed s 0)))).2 && (power s (point s (signed s 0 + run digit (s.drop (signed s 0)))).1).2) := rfl
theorem numeric_eq (s : List UInt8) : numeric s = if identAt s (numLen s).1 = true then ⟨⟨13, s.take (numLen s).1, (name (s.drop (numLen s).1)).t, (numLen s).2⟩, (numLen s).1 + (name (s.drop (numLen s).1)).k, (name (s.drop (numLen s).1)).o, false, 0⟩
  else if at_ s (numLen s).1 = 37 then ⟨⟨12, s.take (numLen s).1, [], false⟩, (numLen s).1 + 1, false, false, 0⟩
  else ⟨⟨11, s.take (numLen s).1, [], (numLen s).2⟩, (numLen s).1, false, false, 0⟩ := rfl
theorem numLen_le_k (s : List UInt8) : (numLen s).1 ≤ (numeric s).k := by
  rw [numeric_eq]
  split
  · exact Nat.le_add_right _ _
  · split
    · exact Nat.le_succ _
    · exact Nat.le_refl _
theorem numeric_app (A M : List UInt8) (h0 : A ≠ []) (hk : (numeric A).k < A.length ∨ ((numLen A).1 < A.length ∧ (numeric A).x.kind = 12)) :
    numeric (A ++ M) = numeric A ∨ (Odd (A.drop (numeric A).k) ∧ ((numeric A).x.kind = 11 ∨ (numeric A).x.kind = 13)) := by
  have hpos : 0 < A.length := List.length_pos_iff.2 h0
  have hnk := numLen_le_k A
  have hs0 := signed_app M hpos
  have hsl := signed_le A 0 (Nat.zero_le _)
  obtain ⟨g, hg⟩ : ∃ g, signed A 0 = g := ⟨_, rfl⟩
  rw [hg] at hs0 hsl
  obtain ⟨i, hi⟩ : ∃ i, g + run digit (A.drop g) = i := ⟨_, rfl⟩
  have hnl := numLen_eq A
  have hnlM := numLen_eq (A ++ M)
  rw [hg, hi] at hnl
  rw [hs0] at hnlM
  have h1 := point_le A i
  have h2 := power_le A (point A i).1
  have hn1 : (numLen A).1 = (power A (point A i).1).1 := by rw [hnl]
  have hkn : (numLen A).1 < A.length := by rcases hk with hk | hk <;> omega
  have hil : i < A.length := by omega
  have hi' : run digit ((A ++ M).drop g) = run digit (A.drop g) := run_drop_app digit M (by omega) (by omega)
  rw [hi', hi] at hnlM
  -- the point
  have hpt : point (A ++ M) i = point A i ∨ (Odd (A.drop (numeric A).k) ∧ ((numeric A).x.kind = 11 ∨ (numeric A).x.kind = 13)) := by
    unfold point
    rw [at_app M hil]
    by_cases h46 : at_ A i = 46
    · rcases Nat.lt_or_ge (i + 1) A.length with h3 | h3
      · left
        rw [at_app M h3]
        by_cases hd : digit (at_ A (i + 1)) = true
        · rw [if_pos ⟨h46, hd⟩, if_pos ⟨h46, hd⟩]
          have : (point A i).1 = i + 1 + run digit (A.drop (i + 1)) := by unfold point; rw [if_pos ⟨h46, hd⟩]
          rw [run_drop_app digit M (by omega) (by omega)]
        · rw [if_neg fun h => hd h.2, if_neg fun h => hd h.2]
      · right
        have hp : point A i = (i, true) := by
          unfold point
          rw [if_neg]
          rintro ⟨_, h⟩
          rw [at_end h3] at h; exact absurd h (by decide)
        have hq : power A i = (i, true) := by
          unfold power
          rw [if_neg]
          rintro ⟨h, _⟩
          rw [h46] at h; exact absurd h (by decide)
        have hn : numLen A = (i, true) := by rw [hnl, hp, hq]; rfl
        have hd : A.drop i = [46] := by rw [drop_one (by omega), h46]
        have hid : identAt A i = false := by
          have := identAt_drop A i 0
          rw [hd, Nat.add_zero] at this
          rw [← this]; rfl
        have hnu : numeric A = ⟨⟨11, A.take i, [], true⟩, i, false, false, 0⟩ := by
          rw [numeric_eq, hn, if_neg (by rw [hid]; decide), if_neg (by rw [h46]; decide)]
        rw [hnu]
        exact ⟨.inl hd, .inl rfl⟩
    · left
      rw [if_neg fun h => h46 h.1, if_neg fun h => h46 h.1]
  rcases hpt with hpt | hpt
  case inr => exact .inr hpt
  rw [hpt] at hnlM
  obtain ⟨p, hp⟩ : ∃ p, (point A i).1 = p := ⟨_, rfl⟩
  rw [hp] at hnl hnlM h1 h2 hn1
  have hpl : p < A.length := by omega
  have hpw : power (A ++ M) p = power A p ∨ (Odd (A.drop (numeric A).k) ∧ ((numeric A).x.kind = 11 ∨ (numeric A).x.kind = 13)) := by
    unfold power
    rw [at_app M hpl]
    by_cases he : at_ A p = 101 ∨ at_ A p = 69
    · rcases Nat.lt_or_ge (p + 1) A.length with h3 | h3
      · rw [signed_app M h3]
        have hsl2 := signed_le A (p + 1) (by omega)
        obtain ⟨g2, hg2⟩ : ∃ g, signed A (p + 1) = g := ⟨_, rfl⟩
        rw [hg2] at hsl2 ⊢
        rcases Nat.lt_or_ge (p + 1 + g2) A.length with h4 | h4
        · left
          rw [at_app M h4]
          by_cases hd : digit (at_ A (p + 1 + g2)) = true
          · rw [if_pos ⟨he, hd⟩, if_pos ⟨he, hd⟩]
            have : (power A p).1 = p + 1 + g2 + run digit (A.drop (p + 1 + g2)) := by unfold power; rw [hg2, if_pos ⟨he, hd⟩]
            rw [run_drop_app digit M (by omega) (by omega)]
          · rw [if_neg fun h => hd h.2, if_neg fun h => hd h.2]
        · right
          have hq : power A p = (p, true) := by
            unfold power
            rw [if_neg]
            rintro ⟨_, h⟩
            rw [hg2, at_end h4] at h; exact absurd h (by decide)
          have hg21 : g2 = 1 := by
            have : g2 ≤ 1 := by rw [← hg2]; unfold signed; split <;> omega
            omega
          have hd := drop_two (A := A) (p := p) (by omega)
          have hsg : at_ A (p + 1) = 43 ∨ at_ A (p + 1) = 45 := by
            unfold signed at hg2
            split at hg2
            · rename_i h5
              rw [isAt_at h3, Bool.or_eq_true, beq_iff_eq, beq_iff_eq] at h5
              exact h5
            · omega
          have hn : numLen A = (p, (point A i).2) := by rw [hnl, hq, Bool.and_true]
          have hidt : ∀ x y, A.drop p = [x, y] → identAt A p = identAt [x, y] 0 := fun x y h => by
            have := identAt_drop A p 0
            rw [h, Nat.add_zero] at this
            exact this.symm
          rcases hsg with hsg | hsg
          · rw [hsg] at hd
            have hid : identAt A p = true := by
              rw [hidt _ _ hd]
              rcases he with he | he <;> rw [he] <;> rfl
            have hnm : (name (A.drop p)).k = 1 := by
              rw [hd]
              rcases he with he | he <;> rw [he] <;> rfl
            have hnk : (numeric A).k = p + 1 ∧ (numeric A).x.kind = 13 := by
              rw [numeric_eq, hn, if_pos hid]
              exact ⟨by show p + _ = _; rw [hnm], rfl⟩
            rw [hnk.1]
            refine ⟨.inr (.inl ?_), .inr hnk.2⟩
            rw [drop_one (by omega), hsg]
          · rw [hsg] at hd
            have hid : identAt A p = true := by
              rw [hidt _ _ hd]
              rcases he with he | he <;> rw [he] <;> rfl
            have hnm : (name (A.drop p)).k = 2 := by
              rw [hd]
              rcases he with he | he <;> rw [he] <;> rfl
            have hnk : (numeric A).k = p + 2 ∧ (numeric A).x.kind = 13 := by
              rw [numeric_eq, hn, if_pos hid]
              exact ⟨by show p + _ = _; rw [hnm], rfl⟩
            rcases hk with hk | hk
            · omega
            · rw [hnk.2] at hk; exact absurd hk.2 (by decide)
      · exfalso
        have hq : power A p = (p, true) := by
          unfold power
          rw [if_neg]
          rintro ⟨_, h⟩
          rw [at_end (by omega)] at h; exact absurd h (by decide)
        have hn : numLen A = (p, (point A i).2) := by rw [hnl, hq, Bool.and_true]
        have hd := drop_one (A := A) (p := p) (by omega)
        have hid : identAt A p = true := by
          have := identAt_drop A p 0
          rw [hd, Nat.add_zero] at this
          rw [← this]
          rcases he with he | he <;> rw [he] <;> rfl
        have hnm : (name (A.drop p)).k = 1 := by
          rw [hd]
          rcases he with he | he <;> rw [he] <;> rfl
        have hnk : (numeric A).k = p + 1 ∧ (numeric A).x.kind = 13 := by
          rw [numeric_eq, hn, if_pos hid]
          exact ⟨by show p + _ = _; rw [hnm], rfl⟩
        rcases hk with hk | hk
        · omega
        · rw [hnk.2] at hk; exact absurd hk.2 (by decide)
    · left
      rw [if_neg fun h => he h.1, if_neg fun h => he h.1]
  rcases hpw with hpw | hpw
  case inr => exact .inr hpw
  have hnn : numLen (A ++ M) = numLen A := by rw [hnlM, hnl, hpw]
  obtain ⟨n, hn⟩ : ∃ n, numLen A = n := ⟨_, rfl⟩
  rw [hn] at hnn hn1 hnk
  have hnl : n.1 < A.length := by rw [← hn]; exact hkn
  have hnA := numeric_eq A
  have hnM := numeric_eq (A ++ M)
  rw [hn] at hnA
  rw [hnn, at_app M hnl, take_app M (by omega), drop_app M (by omega)] at hnM
  rcases identAt_app M hnl with h | h | ⟨h, h5⟩
  · rw [h] at hnM
    by_cases hid : identAt A n.1 = true
    · rw [if_pos hid] at hnA hnM
      rw [hnA] at hk
      have hk' : n.1 + (name (A.drop n.1)).k < A.length := hk.elim id fun h => absurd h.2 (show (13 : Nat) ≠ 12 by decide)
      rw [name_app _ (A.drop n.1) M (Nat.le_refl _) (by rw [List.length_drop]; omega)] at hnM
      left; rw [hnM, hnA]
    · rw [if_neg hid] at hnA hnM
      left; rw [hnM, hnA]
  · right
    have hid : identAt A n.1 = false := by
      have := identAt_drop A n.1 0
      rw [h, Nat.add_zero] at this
      rw [← this]; rfl
    have h45 : at_ A n.1 = 45 := by
      have := at_drop A n.1 0
      rw [h, Nat.add_zero] at this
      rw [← this]; rfl
    rw [if_neg (by rw [hid]; decide), if_neg (by rw [h45]; decide)] at hnA
    rw [hnA]
    exact ⟨.inr (.inr (.inl h)), .inl rfl⟩
  · exfalso
    rw [if_pos h] at hnA
    rw [hnA] at hk
    have hk' : n.1 + (name (A.drop n.1)).k < A.length := hk.elim id fun h => absurd h.2 (show (13 : Nat) ≠ 12 by decide)
    omega
theorem numLen_le (A : List UInt8) (h : A ≠ []) : (numLen A).1 ≤ A.length := by
  have hpos : 0 < A.length := List.length_pos_iff.2 h
  have hsl := signed_le A 0 (Nat.zero_le _)
  have hr : ∀ i, i ≤ A.length → i + run digit (A.drop i) ≤ A.length := fun i hi => by
    have := run_le digit (A.drop i)
    rw [List.length_drop] at this
    omega
  rw [numLen_eq]
  generalize hi : signed A 0 + run digit (A.drop (signed A 0)) = i
  have hil : i ≤ A.length := by rw [← hi]; exact hr _ (by omega)
  have hp : (point A i).1 ≤ A.length := by
    unfold point
    split
    · rename_i h1
      have := digit_lt h1.2
      exact hr (i + 1) (by omega)
    · exact hil
  show (power A (point A i).1).1 ≤ _
  generalize (point A i).1 = p at hp
  unfold power
  split
  · rename_i h1
    have := digit_lt h1.2
    exact hr _ (by omega)
  · exact hp
theorem numeric_le (A : List UInt8) (h : A ≠ []) : (numeric A).k ≤ A.length ∧ ((numeric A).o = true → (numeric A).k = A.length ∧ (numeric A).x.kind = 13) ∧ (numeric A).i = false ∧ ((numeric A).x.kind = 11 ∨ (numeric A).x.kind = 12 ∨ (numeric A).x.kind = 13) := by
  have hn := numLen_le A h
  rw [numeric_eq]
  split
  · have h1 := name_le (A.drop (numLen A).1)
    rw [List.length_drop] at h1
    refine ⟨by show _ + _ ≤ _; omega, fun ho => ⟨?_, rfl⟩, rfl, .inr (.inr rfl)⟩
    have := name_open _ (A.drop (numLen A).1) (Nat.le_refl _) ho
    rw [List.length_drop] at this
    show _ + _ = _
    omega
  · split
    · rename_i h37
      have := at_lt (s := A) (i := (numLen A).1) (by rw [h37]; decide)
      exact ⟨this, fun ho => (by cases ho), rfl, .inr (.inl rfl)⟩
    · exact ⟨hn, fun ho => (by cases ho), rfl, .inl rfl⟩
end Cssp
end Go.Proofs.YtojgcangnkjmjaaGreatDoor
namespace Go.Proofs.YtojgcangnkjmjaaGreatDoor
namespace Cssp
open Go

theorem twos_app : ∀ (r M : List UInt8), run blank r < r.length → twos (r ++ M) = twos r
  | [], _, h => by simp at h
  | c :: r, M, h => by
    rw [List.cons_append, twos, twos]
    rw [run] at h
    by_cases hc : blank c = true
    · rw [if_pos hc, List.length_cons] at h
      have hr : 0 < r.length := by omega
      rw [isAt_app blank M hr]
      by_cases hd : isAt blank r 0 = true
      · rw [if_pos ⟨hc, hd⟩, if_pos ⟨hc, hd⟩, twos_app r M (by omega)]
      · rw [if_neg fun h => hd h.2, if_neg fun h => hd h.2]
    · rw [if_neg fun h => hc h.1, if_neg fun h => hc h.1]
theorem run_tail (p : UInt8 → Bool) : ∀ (r : List UInt8) (m : Nat), m ≤ run p r → run p (r.drop m) = run p r - m
  | [], m, h => by simp [run]
  | c :: r, 0, h => by simp
  | c :: r, m + 1, h => by
    rw [run] at h ⊢
    by_cases hc : p c = true
    · rw [if_pos hc] at h ⊢
      rw [List.drop_succ_cons, run_tail p r m (by omega)]; omega
    · rw [if_neg hc] at h; omega
theorem twos_run : ∀ r : List UInt8, twos r ≤ run blank r
  | [] => Nat.le_refl _
  | c :: r => by
    have := twos_run r
    rw [twos, run]
    by_cases hc : blank c = true
    · rw [if_pos hc]; split <;> omega
    · rw [if_neg hc, if_neg fun h => hc h.1]; exact Nat.le_refl _
theorem quoted_lt {l : List UInt8} (h : quoted l = true) : run blank l < l.length := by
  unfold quoted at h
  have hl := isAt_lt h
  rcases Nat.lt_or_ge (run blank l) l.length with h2 | h2
  · exact h2
  · exfalso
    have hb := run_isAt blank l _ (Nat.lt_of_lt_of_le hl h2)
    rw [isAt_at hl] at h hb
    revert h hb
    generalize at_ l _ = x
    intro h hb
    simp only [Bool.or_eq_true, beq_iff_eq] at h
    rcases h with rfl | rfl <;> exact absurd hb (by decide)
theorem quoted_app {l : List UInt8} (M : List UInt8) (h : run blank l < l.length) : quoted (l ++ M) = quoted l := by
  have h0 : 0 < l.length := by omega
  unfold quoted
  rw [isAt_app blank M h0]
  by_cases hb : isAt blank l 0 = true
  · rw [if_pos hb]
    have h1 : 1 < l.length := by
      cases l with
      | nil => simp at h0
      | cons c r =>
        have hc : blank c = true := hb
        rw [run, if_pos hc, List.length_cons] at h
        rw [List.length_cons]; omega
    exact isAt_app _ M h1
  · rw [if_neg hb]
    exact isAt_app _ M h0
theorem url_blank {l : List UInt8} (h : run blank l = l.length) : (url l).i = true := by
  rw [url_eq, h, List.drop_length, urlX_nil]
theorem word_eq (s : List UInt8) : word s = if at_ s (name s).k ≠ 40 then ⟨tk 2 (name s).t, (name s).k, (name s).o, false, 0⟩
    else if lower (name s).t ≠ [117, 114, 108] then ⟨tk 3 (name s).t, (name s).k + 1, false, false, 0⟩
    else if quoted ((s.drop ((name s).k + 1)).drop (twos (s.drop ((name s).k + 1)))) = true then ⟨tk 3 (name s).t, (name s).k + 1 + twos (s.drop ((name s).k + 1)), false, false, 0⟩
    else ⟨(url ((s.drop ((name s).k + 1)).drop (twos (s.drop ((name s).k + 1))))).x, (name s).k + 1 + twos (s.drop ((name s).k + 1)) + (url ((s.drop ((name s).k + 1)).drop (twos (s.drop ((name s).k + 1))))).k,
      (url ((s.drop ((name s).k + 1)).drop (twos (s.drop ((name s).k + 1))))).o, (url ((s.drop ((name s).k + 1)).drop (twos (s.drop ((name s).k + 1))))).i, 0⟩ := rfl
theorem word_app (A M : List UInt8) : word (A ++ M) = word A ∨ ((word A).k = A.length ∧ ((word A).o = true ∨ (word A).i = true ∨ (word A).x.kind = 2)) := by
  have hle := name_le A
  rcases Nat.lt_or_ge (name A).k A.length with hk | hk
  · have hn := name_app _ A M (Nat.le_refl _) hk
    have hA := word_eq A
    have hM := word_eq (A ++ M)
    rw [hn, at_app M hk, drop_app M hk] at hM
    obtain ⟨n, hnn⟩ : ∃ n, name A = n := ⟨_, rfl⟩
    rw [hnn] at hk hA hM
    by_cases h40 : at_ A n.k ≠ 40
    · rw [if_pos h40] at hA hM; left; rw [hA, hM]
    rw [if_neg h40] at hA hM
    by_cases hu : lower n.t ≠ [117, 114, 108]
    · rw [if_pos hu] at hA hM; left; rw [hA, hM]
    rw [if_neg hu] at hA hM
    obtain ⟨r, hr⟩ : ∃ r, A.drop (n.k + 1) = r := ⟨_, rfl⟩
    have hrl : n.k + 1 + r.length = A.length := by rw [← hr, List.length_drop]; omega
    rw [hr] at hA hM
    have hm := twos_run r
    have hml := run_le blank r
    rcases Nat.lt_or_ge (run blank r) r.length with hb | hb
    · rw [twos_app r M hb, drop_app M (by omega)] at hM
      have hb2 : run blank (r.drop (twos r)) < (r.drop (twos r)).length := by rw [run_tail blank r _ hm, List.length_drop]; omega
      rw [quoted_app M hb2] at hM
      by_cases hq : quoted (r.drop (twos r)) = true
      · rw [if_pos hq] at hA hM; left; rw [hA, hM]
      rw [if_neg hq] at hA hM
      cases hi : (url (r.drop (twos r))).i with
      | false =>
        rw [url_app _ M hi] at hM
        left; rw [hA, hM]
      | true =>
        right
        have h2 := (url_in (r.drop (twos r))).2.1 hi
        rw [List.length_drop] at h2
        rw [hA]
        exact ⟨by show _ + _ + _ + _ = _; rw [h2]; omega, .inr (.inl hi)⟩
    · right
      have hb2 : run blank (r.drop (twos r)) = (r.drop (twos r)).length := by rw [run_tail blank r _ hm, List.length_drop]; omega
      have hq : ¬ quoted (r.drop (twos r)) = true := fun h => by have := quoted_lt h; omega
      have hi := url_blank hb2
      have h2 := (url_in (r.drop (twos r))).2.1 hi
      rw [List.length_drop] at h2
      rw [if_neg hq] at hA
      rw [hA]
      exact ⟨by show _ + _ + _ + _ = _; rw [h2]; omega, .inr (.inl hi)⟩
  · right
    have h40 : at_ A (name A).k ≠ 40 := by rw [at_end hk]; decide
    rw [word_eq, if_pos h40]
    exact ⟨by show (name A).k = _; omega, .inr (.inr rfl)⟩
theorem word_le (A : List UInt8) : (word A).k ≤ A.length ∧ ((word A).o = true ∨ (word A).i = true → (word A).k = A.length) ∧ (word A).x.kind ≠ 6 := by
  have hle := name_le A
  rw [word_eq]
  by_cases h40 : at_ A (name A).k ≠ 40
  · rw [if_pos h40]
    exact ⟨hle, fun h => h.elim (fun h => name_open _ A (Nat.le_refl _) h) (fun h => (by cases h)), (show (2 : Nat) ≠ 6 by decide)⟩
  rw [if_neg h40]
  have hk := at_lt (s := A) (i := (name A).k) (by rw [Classical.not_not.1 h40]; decide)
  by_cases hu : lower (name A).t ≠ [117, 114, 108]
  · rw [if_pos hu]
    exact ⟨hk, fun h => h.elim (fun h => (by cases h)) (fun h => (by cases h)), (show (3 : Nat) ≠ 6 by decide)⟩
  rw [if_neg hu]
  obtain ⟨r, hr⟩ : ∃ r, A.drop ((name A).k + 1) = r := ⟨_, rfl⟩
  have hrl : (name A).k + 1 + r.length = A.length := by rw [← hr, List.length_drop]; omega
  rw [hr]
  have hm := twos_len r
  split
  · exact ⟨by show _ + 1 + _ ≤ _; omega, fun h => h.elim (fun h => (by cases h)) (fun h => (by cases h)), (show (3 : Nat) ≠ 6 by decide)⟩
  · obtain ⟨u1, u2, u3⟩ := url_in (r.drop (twos r))
    rw [List.length_drop] at u1 u2
    refine ⟨by show _ + 1 + _ + _ ≤ _; omega, fun h => ?_, ?_⟩
    · have : (url (r.drop (twos r))).k = r.length - twos r := h.elim (fun h => u2 (u3 h)) u2
      show _ + 1 + _ + _ = _
      omega
    · show (url (r.drop (twos r))).x.kind ≠ 6
      rw [url_eq]
      show (ite _ _ _ : Tk).kind ≠ 6
      split
      · exact (show (9 : Nat) ≠ 6 by decide)
      · exact (show (8 : Nat) ≠ 6 by decide)
theorem text_eq (s : List UInt8) : text s = ⟨if (textF (at_ s 0) (s.length + 1) (s.drop 1)).bad = true then tk 7 [] else tk 6 (textF (at_ s 0) (s.length + 1) (s.drop 1)).t, (textF (at_ s 0) (s.length + 1) (s.drop 1)).k + 1,
    (textF (at_ s 0) (s.length + 1) (s.drop 1)).o, (textF (at_ s 0) (s.length + 1) (s.drop 1)).i, (textF (at_ s 0) (s.length + 1) (s.drop 1)).e + 1⟩ := rfl
theorem text_cons (q : UInt8) (s : List UInt8) : text (q :: s) = ⟨if (textX q s).bad = true then tk 7 [] else tk 6 (textX q s).t, (textX q s).k + 1, (textX q s).o, (textX q s).i, (textX q s).e + 1⟩ := by
  have e : textF (at_ (q :: s) 0) ((q :: s).length + 1) ((q :: s).drop 1) = textX q s := textF_fuel q _ _ s (by simp; omega) (by omega)
  rw [text_eq, e]
/-- the ends of a token -/
theorem ends_on {x : Th} {c : UInt8} (h : x.o = true ∨ x.i = true ∨ x.x.kind = 2 ∨ x.x.kind = 4 ∨ x.x.kind = 5 ∨ x.x.kind = 11 ∨ x.x.kind = 13 ∨ x.x.kind = 7 ∨ (x.x.kind = 10 ∧ names.contains c = true)) : (ends x c).state ≠ 1 := by
  unfold ends
  by_cases h1 : x.i = true ∧ x.x.kind = 6
  · rw [if_pos h1]
    show (if x.o = true then 6 else 3) ≠ 1
    split <;> decide
  rw [if_neg h1]
  by_cases h2 : x.o = true
  · rw [if_pos h2]; decide
  rw [if_neg h2]
  by_cases h3 : x.i = true
  · rw [if_pos h3]; decide
  rw [if_neg h3, if_pos]
  · decide
  · rcases h with h | h | h
    · exact absurd h h2
    · exact absurd h h3
    · exact h
theorem one_eq (s : List UInt8) : one s =
    if blank (at_ s 0) = true then ⟨tk 1 [], run blank s, false, false, 0⟩
    else if at_ s 0 = 34 ∨ at_ s 0 = 39 then text s
    else if at_ s 0 = 35 then
      if isAt goesOn s 1 || escAt s 1 then ⟨⟨5, (name (s.drop 1)).t, [], identAt s 1⟩, (name (s.drop 1)).k + 1, (name (s.drop 1)).o, false, 0⟩ else ⟨tk 10 (s.take 1), 1, false, false, 0⟩
    else if at_ s 0 = 64 then
      if identAt s 1 = true then ⟨tk 4 (name (s.drop 1)).t, (name (s.drop 1)).k + 1, (name (s.drop 1)).o, false, 0⟩ else ⟨tk 10 (s.take 1), 1, false, false, 0⟩
    else if marks.contains (at_ s 0) = true then ⟨tk 16 (s.take 1), 1, false, false, 0⟩
    else if numberAt s 0 = true then numeric s
    else if wClose.isPrefixOf s = true then ⟨tk 15 [], 3, false, false, 0⟩
    else if wOpen.isPrefixOf s = true then ⟨tk 14 [], 4, false, false, 0⟩
    else if identAt s 0 = true then word s
    else ⟨tk 10 (s.take 1), 1, false, false, 0⟩ := rfl
theorem text_at (s : List UInt8) (h : s ≠ []) : text s = ⟨if (textX (at_ s 0) (s.drop 1)).bad = true then tk 7 [] else tk 6 (textX (at_ s 0) (s.drop 1)).t, (textX (at_ s 0) (s.drop 1)).k + 1, (textX (at_ s 0) (s.drop 1)).o, (textX (at_ s 0) (s.drop 1)).i, (textX (at_ s 0) (s.drop 1)).e + 1⟩ := by
  obtain ⟨q, r, rfl⟩ := List.exists_cons_of_ne_nil h
  exact text_cons q r
theorem textX_in (q : UInt8) (A : List UInt8) (h : (textX q A).i = true) : (textX q A).k = A.length := (textX_more q _ A [] (Nat.le_refl _) h).2.1
theorem textX_oi (q : UInt8) : ∀ (f : Nat) (A : List UInt8), A.length ≤ f → (textX q A).o = true → (textX q A).i = true
  | _, [], _, h => by rw [textX_nil] at h; cases h
  | 0, c :: r, hf, h => by simp at hf
  | f + 1, c :: r, hf, h => by
    simp only [List.length_cons] at hf
    have hpos := esc_pos (c :: r)
    rw [textX_cons] at h ⊢
    by_cases h1 : c = q
    · rw [if_pos h1] at h; cases h
    rw [if_neg h1] at h ⊢
    by_cases h2 : c = 10
    · rw [if_pos h2] at h; cases h
    rw [if_neg h2] at h ⊢
    by_cases h3 : c = 92
    · rw [if_pos h3] at h ⊢
      by_cases h4 : r = []
      · rw [if_pos h4]
      rw [if_neg h4] at h ⊢
      by_cases h5 : r.head? = some 10
      · rw [if_pos h5] at h ⊢
        exact textX_oi q f (r.drop 1) (by rw [List.length_drop]; omega) h
      rw [if_neg h5] at h ⊢
      by_cases h6 : (esc (c :: r)).o = true
      · rw [if_pos h6]
      rw [if_neg h6] at h ⊢
      exact textX_oi q f _ (by rw [List.length_drop, List.length_cons]; omega) h
    rw [if_neg h3] at h ⊢
    exact textX_oi q f r (by omega) h
theorem text_app (A M : List UInt8) (h0 : A ≠ []) (h : (text A).i = false) : text (A ++ M) = text A := by
  have hl := List.length_pos_iff.2 h0
  rw [text_at A h0] at h ⊢
  have h' : (textX (at_ A 0) (A.drop 1)).i = false := h
  rw [text_at (A ++ M) (by simp [h0]), at_app M hl, drop_app M hl, textX_app _ _ _ M (Nat.le_refl _) h']
theorem text_le (A : List UInt8) (h0 : A ≠ []) : (text A).k ≤ A.length ∧ 1 ≤ (text A).k ∧ ((text A).i = true → (text A).k = A.length) ∧ ((text A).o = true → (text A).i = true) ∧ ((text A).i = true → (text A).x.kind = 6) := by
  have hl := List.length_pos_iff.2 h0
  have h1 := (textX_len (at_ A 0) _ (A.drop 1) (Nat.le_refl _)).2
  rw [List.length_drop] at h1
  rw [text_at A h0]
  refine ⟨by show _ + 1 ≤ _; omega, by show 1 ≤ _ + 1; omega, fun h => ?_, fun h => textX_oi _ _ _ (Nat.le_refl _) h, fun h => ?_⟩
  · have := textX_in _ _ h
    rw [List.length_drop] at this
    show _ + 1 = _
    omega
  · have := (textX_more _ _ _ [] (Nat.le_refl _) h).1
    show (ite _ _ _ : Tk).kind = 6
    rw [this]; rfl
theorem run_pos {p : UInt8 → Bool} {s : List UInt8} (h0 : s ≠ []) (h : p (at_ s 0) = true) : 1 ≤ run p s := by
  cases s with
  | nil => exact absurd rfl h0
  | cons c r =>
    rw [run, if_pos (show p c = true from h)]; omega
/-- the word that closes, or opens: what of it stands at the end -/
theorem pre_close {A M : List UInt8} (h0 : A ≠ []) (h : wClose.isPrefixOf (A ++ M) = true) : wClose.isPrefixOf A = true ∨ A = [45] ∨ A = [45, 45] := by
  match A, h0 with
  | [a], _ =>
    simp only [wClose, List.isPrefixOf_iff_prefix, List.cons_append, List.nil_append, List.cons_prefix_cons] at h
    exact .inr (.inl (by rw [← h.1]))
  | [a, b], _ =>
    simp only [wClose, List.isPrefixOf_iff_prefix, List.cons_append, List.nil_append, List.cons_prefix_cons] at h
    exact .inr (.inr (by rw [← h.1, ← h.2.1]))
  | a :: b :: c :: r, _ =>
    simp only [wClose, List.isPrefixOf_iff_prefix, List.cons_append, List.cons_prefix_cons] at h
    left
    simp only [wClose, List.isPrefixOf_iff_prefix, List.cons_prefix_cons]
    exact ⟨h.1, h.2.1, h.2.2.1, List.nil_prefix⟩
theorem pre_open {A M : List UInt8} (h0 : A ≠ []) (h : wOpen.isPrefixOf (A ++ M) = true) : wOpen.isPrefixOf A = true ∨ A = [60] ∨ A = [60, 33] ∨ A = [60, 33, 45] := by
  match A, h0 with
  | [a], _ =>
    simp only [wOpen, List.isPrefixOf_iff_prefix, List.cons_append, List.nil_append, List.cons_prefix_cons] at h
    exact .inr (.inl (by rw [← h.1]))
  | [a, b], _ =>
    simp only [wOpen, List.isPrefixOf_iff_prefix, List.cons_append, List.nil_append, List.cons_prefix_cons] at h
    exact .inr (.inr (.inl (by rw [← h.1, ← h.2.1])))
  | [a, b, c], _ =>
    simp only [wOpen, List.isPrefixOf_iff_prefix, List.cons_append, List.nil_append, List.cons_prefix_cons] at h
    exact .inr (.inr (.inr (by rw [← h.1, ← h.2.1, ← h.2.2.1])))
  | a :: b :: c :: d :: r, _ =>
    simp only [wOpen, List.isPrefixOf_iff_prefix, List.cons_append, List.cons_prefix_cons] at h
    left
    simp only [wOpen, List.isPrefixOf_iff_prefix, List.cons_prefix_cons]
    exact ⟨h.1, h.2.1, h.2.2.1, h.2.2.2.1, List.nil_prefix⟩
theorem prefix_app {p A : List UInt8} (M : List UInt8) (h : p.isPrefixOf A = true) : p.isPrefixOf (A ++ M) = true := by
  rw [List.isPrefixOf_iff_prefix] at h ⊢
  exact h.trans (List.prefix_append _ _)
theorem numberAt_app (A M : List UInt8) (h0 : A ≠ []) : numberAt (A ++ M) 0 = numberAt A 0 ∨ A = [43] ∨ A = [45] ∨ A = [46] ∨ A = [43, 46] ∨ A = [45, 46] := by
  have hpos := List.length_pos_iff.2 h0
  unfold numberAt
  rw [signed_app M hpos, Nat.zero_add]
  have hsl := signed_le A 0 (Nat.zero_le _)
  rw [Nat.zero_add] at hsl
  have hsg : signed A 0 = 0 ∨ (signed A 0 = 1 ∧ (at_ A 0 = 43 ∨ at_ A 0 = 45)) := by
    unfold signed
    split
    · rename_i h
      rw [isAt_at hpos, Bool.or_eq_true, beq_iff_eq, beq_iff_eq] at h
      exact .inr ⟨rfl, h⟩
    · exact .inl rfl
  have h1 : ∀ x, A.length = 1 → at_ A 0 = x → A = [x] := fun x hl hx => by
    have := drop_one (A := A) (p := 0) (by omega)
    rw [List.drop_zero, hx] at this; exact this
  have h2 : ∀ x y, A.length = 2 → at_ A 0 = x → at_ A 1 = y → A = [x, y] := fun x y hl hx hy => by
    have := drop_two (A := A) (p := 0) (by omega)
    rw [List.drop_zero, hx, Nat.zero_add, hy] at this; exact this
  rcases hsg with hsg | ⟨hsg, hc⟩
  · rw [hsg, at_app M hpos]
    rcases Nat.lt_or_ge 1 A.length with h3 | h3
    · left; rw [at_app M h3]
    · by_cases h46 : at_ A 0 = 46
      · exact .inr (.inr (.inr (.inl (h1 _ (by omega) h46))))
      · left; rw [beq_eq_false_iff_ne.2 h46, Bool.false_and, Bool.false_and]
  · rw [hsg]
    rcases Nat.lt_or_ge 1 A.length with h3 | h3
    · rw [at_app M h3]
      rcases Nat.lt_or_ge 2 A.length with h4 | h4
      · left; rw [at_app M h4]
      · by_cases h46 : at_ A 1 = 46
        · rcases hc with hc | hc
          · exact .inr (.inr (.inr (.inr (.inl (h2 _ _ (by omega) hc h46)))))
          · exact .inr (.inr (.inr (.inr (.inr (h2 _ _ (by omega) hc h46)))))
        · left; rw [beq_eq_false_iff_ne.2 h46, Bool.false_and, Bool.false_and]
    · rcases hc with hc | hc
      · exact .inr (.inl (h1 _ (by omega) hc))
      · exact .inr (.inr (.inl (h1 _ (by omega) hc)))
end Cssp
end Go.Proofs.YtojgcangnkjmjaaGreatDoor
namespace Go.Proofs.YtojgcangnkjmjaaGreatDoor
namespace Cssp
open Go

abbrev delimT (s : List UInt8) : Th := ⟨tk 10 (s.take 1), 1, false, false, 0⟩
theorem delim_on {s : List UInt8} {c : UInt8} (h : names.contains c = true) : (ends (delimT s) c).state ≠ 1 := ends_on (.inr (.inr (.inr (.inr (.inr (.inr (.inr (.inr ⟨rfl, h⟩))))))))
theorem one_app (A M : List UInt8) (h0 : A ≠ []) :
    one (A ++ M) = one A ∨ ((ends (one A) (at_ A 0)).state ≠ 1 ∧ ((one A).k = A.length ∨ Odd (A.drop (one A).k))) ∨ (one A = ⟨tk 1 [], A.length, false, false, 0⟩ ∧ run blank A = A.length ∧ blank (at_ A 0) = true) := by
  have hpos := List.length_pos_iff.2 h0
  have hA := one_eq A
  have hM := one_eq (A ++ M)
  obtain ⟨c, hc⟩ : ∃ c, at_ A 0 = c := ⟨_, rfl⟩
  rw [at_app M hpos] at hM
  rw [hc] at hA hM ⊢
  by_cases c1 : blank c = true
  · rw [if_pos c1] at hA hM
    have hle := run_le blank A
    rcases Nat.lt_or_ge (run blank A) A.length with h | h
    · rw [run_app blank A M h] at hM
      left; rw [hA, hM]
    · have : run blank A = A.length := by omega
      right; right
      rw [this] at hA
      exact ⟨hA, this, c1⟩
  rw [if_neg c1] at hA hM
  by_cases c2 : c = 34 ∨ c = 39
  · rw [if_pos c2] at hA hM
    cases hi : (text A).i with
    | false => left; rw [hA, hM, text_app A M h0 hi]
    | true =>
      right; left
      rw [hA]
      exact ⟨ends_on (.inr (.inl hi)), .inl ((text_le A h0).2.2.1 hi)⟩
  rw [if_neg c2] at hA hM
  by_cases c3 : c = 35
  · rw [if_pos c3] at hA hM
    rcases Nat.lt_or_ge 1 A.length with h1 | h1
    · have hg := isAt_app goesOn M h1
      have hd : A.drop 1 ≠ [] := fun e => by
        have := congrArg List.length e
        rw [List.length_drop, List.length_nil] at this
        omega
      have hes : escAt (A ++ M) 1 = escAt A 1 ∨ A.drop 1 = [92] := by
        rcases Nat.lt_or_ge 2 A.length with h2 | h2
        · exact .inl (escAt_app M h2)
        · by_cases h92 : at_ A 1 = 92
          · right; rw [drop_one (by omega), h92]
          · left; rw [escAt_ne h92, escAt_ne (by rw [at_app M h1]; exact h92)]
      have hend : ∀ x : Bool, (name (A.drop 1)).k = (A.drop 1).length → (ends ⟨⟨5, (name (A.drop 1)).t, [], x⟩, (name (A.drop 1)).k + 1, (name (A.drop 1)).o, false, 0⟩ c).state ≠ 1 ∧ (name (A.drop 1)).k + 1 = A.length := fun x hk => by
        rw [List.length_drop] at hk
        exact ⟨ends_on (.inr (.inr (.inr (.inr (.inl rfl))))), by omega⟩
      rcases hes with hes | hes
      · rw [hg, hes, drop_app M (by omega)] at hM
        by_cases hx : (isAt goesOn A 1 || escAt A 1) = true
        · rw [if_pos hx] at hA hM
          rcases Nat.lt_or_ge (name (A.drop 1)).k (A.drop 1).length with hk | hk
          · rw [name_app _ _ M (Nat.le_refl _) hk] at hM
            rcases identAt_app M h1 with hi | hi | ⟨hi, hi2⟩
            · left; rw [hA, hM, hi]
            · exfalso
              rw [hi] at hk
              exact absurd hk (by decide)
            · exfalso
              rw [List.length_drop] at hk
              omega
          · right; left
            rw [hA]
            obtain ⟨e1, e2⟩ := hend (identAt A 1) (by have := name_le (A.drop 1); omega)
            exact ⟨e1, .inl e2⟩
        · rw [if_neg hx] at hA hM
          left; rw [hA, hM, take_app M (by omega)]
      · right; left
        have hx : (isAt goesOn A 1 || escAt A 1) = true := by
          have : escAt A 1 = true := by
            have := escAt_drop A 1 0
            rw [hes] at this
            rw [← this]; rfl
          rw [this, Bool.or_true]
        rw [if_pos hx] at hA
        rw [hA]
        obtain ⟨e1, e2⟩ := hend (identAt A 1) (by rw [hes]; rfl)
        exact ⟨e1, .inl e2⟩
    · right; left
      have hx : (isAt goesOn A 1 || escAt A 1) = false := by rw [isAt_end _ h1, escAt_ne (by rw [at_end h1]; decide)]; rfl
      rw [if_neg (by rw [hx]; decide)] at hA
      rw [hA]
      exact ⟨delim_on (by rw [c3]; decide), .inl (show 1 = A.length by omega)⟩
  rw [if_neg c3] at hA hM
  by_cases c4 : c = 64
  · rw [if_pos c4] at hA hM
    rcases Nat.lt_or_ge 1 A.length with h1 | h1
    · rw [drop_app M (by omega), take_app M (by omega)] at hM
      rcases identAt_app M h1 with hi | hi | ⟨hi, hi2⟩
      · rw [hi] at hM
        by_cases hx : identAt A 1 = true
        · rw [if_pos hx] at hA hM
          rcases Nat.lt_or_ge (name (A.drop 1)).k (A.drop 1).length with hk | hk
          · rw [name_app _ _ M (Nat.le_refl _) hk] at hM
            left; rw [hA, hM]
          · right; left
            have := name_le (A.drop 1)
            rw [List.length_drop] at this hk
            rw [hA]
            exact ⟨ends_on (.inr (.inr (.inr (.inl rfl)))), .inl (show _ + 1 = _ by omega)⟩
        · rw [if_neg hx] at hA hM
          left; rw [hA, hM]
      · right; left
        have hx : identAt A 1 = false := by
          have := identAt_drop A 1 0
          rw [hi] at this
          rw [← this]; rfl
        rw [if_neg (by rw [hx]; decide)] at hA
        rw [hA]
        exact ⟨delim_on (by rw [c4]; decide), .inr (.inr (.inr (.inl hi)))⟩
      · right; left
        rw [if_pos hi] at hA
        rw [hA]
        exact ⟨ends_on (.inr (.inr (.inr (.inl rfl)))), .inl (show _ + 1 = _ by omega)⟩
    · right; left
      have hx : identAt A 1 = false := by
        have he : escAt A 1 = false := escAt_ne (by rw [at_end h1]; decide)
        unfold identAt
        rw [isAt_end _ h1, isAt_end _ h1, he]; rfl
      rw [if_neg (by rw [hx]; decide)] at hA
      rw [hA]
      exact ⟨delim_on (by rw [c4]; decide), .inl (show 1 = A.length by omega)⟩
  rw [if_neg c4] at hA hM
  rw [take_app M (by omega)] at hM
  by_cases c5 : marks.contains c = true
  · rw [if_pos c5] at hA hM
    left; rw [hA, hM]
  rw [if_neg c5] at hA hM
  rcases numberAt_app A M h0 with hn | hn | hn | hn | hn | hn
  case inr.inl => subst hn; exact .inr (.inl ⟨by rw [← hc]; decide, .inl rfl⟩)
  case inr.inr.inl => subst hn; exact .inr (.inl ⟨by rw [← hc]; decide, .inl rfl⟩)
  case inr.inr.inr.inl => subst hn; exact .inr (.inl ⟨by rw [← hc]; decide, .inl rfl⟩)
  case inr.inr.inr.inr.inl => subst hn; exact .inr (.inl ⟨by rw [← hc]; decide, .inr (.inl rfl)⟩)
  case inr.inr.inr.inr.inr => subst hn; exact .inr (.inl ⟨by rw [← hc]; decide, .inr (.inl rfl)⟩)
  rw [hn] at hM
  by_cases c6 : numberAt A 0 = true
  · rw [if_pos c6] at hA hM
    obtain ⟨n1, n2, n3, n4⟩ := numeric_le A h0
    rcases Nat.lt_or_ge (numeric A).k A.length with hk | hk
    · rcases numeric_app A M h0 (.inl hk) with h | ⟨h1, h2⟩
      · left; rw [hA, hM, h]
      · right; left
        rw [hA]
        exact ⟨ends_on (.inr (.inr (.inr (.inr (.inr (h2.elim .inl fun h => .inr (.inl h))))))), .inr h1⟩
    · rcases n4 with n4 | n4 | n4
      · right; left
        rw [hA]
        exact ⟨ends_on (.inr (.inr (.inr (.inr (.inr (.inl n4)))))), .inl (by omega)⟩
      · -- a percentage: what stands behind cannot change it
        left
        have hnl := numLen_le_k A
        have hlt : (numLen A).1 < A.length := by
          rw [numeric_eq] at n4
          split at n4
          · exact absurd n4 (show (13 : Nat) ≠ 12 by decide)
          · split at n4
            · rename_i h37
              exact at_lt (by rw [h37]; decide)
            · exact absurd n4 (show (11 : Nat) ≠ 12 by decide)
        rw [hA, hM]
        rcases numeric_app A M h0 (.inr ⟨hlt, n4⟩) with h | ⟨h1, h2⟩
        · exact h
        · rw [n4] at h2; exact absurd h2 (by decide)
      · right; left
        rw [hA]
        exact ⟨ends_on (.inr (.inr (.inr (.inr (.inr (.inr (.inl n4))))))), .inl (by omega)⟩
  rw [if_neg c6] at hA hM
  by_cases c7 : wClose.isPrefixOf A = true
  · rw [if_pos c7] at hA
    rw [if_pos (prefix_app M c7)] at hM
    left; rw [hA, hM]
  by_cases c7M : wClose.isPrefixOf (A ++ M) = true
  · rcases pre_close h0 c7M with h | h | h
    · exact absurd h c7
    · subst h; exact .inr (.inl ⟨by rw [← hc]; decide, .inl rfl⟩)
    · subst h; exact .inr (.inl ⟨by rw [← hc]; decide, .inl rfl⟩)
  rw [if_neg c7] at hA
  rw [if_neg c7M] at hM
  by_cases c8 : wOpen.isPrefixOf A = true
  · rw [if_pos c8] at hA
    rw [if_pos (prefix_app M c8)] at hM
    left; rw [hA, hM]
  by_cases c8M : wOpen.isPrefixOf (A ++ M) = true
  · rcases pre_open h0 c8M with h | h | h | h
    · exact absurd h c8
    · subst h; exact .inr (.inl ⟨by rw [← hc]; decide, .inl rfl⟩)
    · subst h; exact .inr (.inl ⟨by rw [← hc]; decide, .inr (.inr (.inr (.inr (.inl rfl))))⟩)
    · subst h; exact .inr (.inl ⟨by rw [← hc]; decide, .inr (.inr (.inr (.inr (.inr rfl))))⟩)
  rw [if_neg c8] at hA
  rw [if_neg c8M] at hM
  have hwd : word (A ++ M) = word A ∨ ((ends (word A) c).state ≠ 1 ∧ (word A).k = A.length) := by
    rcases word_app A M with h | ⟨h1, h2⟩
    · exact .inl h
    · refine .inr ⟨ends_on ?_, h1⟩
      rcases h2 with h2 | h2 | h2
      · exact .inl h2
      · exact .inr (.inl h2)
      · exact .inr (.inr (.inl h2))
  rcases identAt0_app A M h0 with hi | hi | ⟨hi, hi2⟩
  · rw [hi] at hM
    by_cases c9 : identAt A 0 = true
    · rw [if_pos c9] at hA hM
      rcases hwd with h | ⟨h1, h2⟩
      · left; rw [hA, hM, h]
      · right; left; rw [hA]; exact ⟨h1, .inl h2⟩
    · rw [if_neg c9] at hA hM
      left; rw [hA, hM]
  · subst hi; exact .inr (.inl ⟨by rw [← hc]; decide, .inl rfl⟩)
  · right; left
    rw [if_pos hi] at hA
    have h40 : at_ A (name A).k ≠ 40 := by rw [hi2, at_end (Nat.le_refl _)]; decide
    have hw : word A = ⟨tk 2 (name A).t, (name A).k, (name A).o, false, 0⟩ := by rw [word_eq, if_pos h40]
    rw [hA, hw]
    exact ⟨ends_on (.inr (.inr (.inl rfl))), .inl hi2⟩
theorem one_le (A : List UInt8) (h0 : A ≠ []) : (one A).k ≤ A.length ∧ 1 ≤ (one A).k ∧ (((one A).o = true ∨ (one A).i = true) → (one A).k = A.length) ∧ ((one A).i = true → (one A).x.kind = 6 → text A = one A ∧ (at_ A 0 = 34 ∨ at_ A 0 = 39)) := by
  have hpos := List.length_pos_iff.2 h0
  have nope : ∀ {P : Prop} {b : Bool}, b = false → b = true → P := fun h h2 => by rw [h] at h2; cases h2
  rw [one_eq]
  by_cases c1 : blank (at_ A 0) = true
  · rw [if_pos c1]
    exact ⟨run_le blank A, run_pos h0 c1, fun h => h.elim (nope rfl) (nope rfl), nope rfl⟩
  rw [if_neg c1]
  by_cases c2 : at_ A 0 = 34 ∨ at_ A 0 = 39
  · rw [if_pos c2]
    obtain ⟨t1, t2, t3, t4, t5⟩ := text_le A h0
    exact ⟨t1, t2, fun h => t3 (h.elim t4 id), fun _ _ => ⟨rfl, c2⟩⟩
  rw [if_neg c2]
  have hnm : ∀ (x : Tk), x.kind ≠ 6 → (name (A.drop 1)).k + 1 ≤ A.length ∧ 1 ≤ (name (A.drop 1)).k + 1 ∧ ((name (A.drop 1)).o = true ∨ false = true → (name (A.drop 1)).k + 1 = A.length) := fun x _ => by
    have := name_le (A.drop 1)
    rw [List.length_drop] at this
    refine ⟨by omega, by omega, fun h => ?_⟩
    rcases h with h | h
    · have := name_open _ (A.drop 1) (Nat.le_refl _) h
      rw [List.length_drop] at this
      omega
    · cases h
  have hdl : (delimT A).k ≤ A.length ∧ 1 ≤ (delimT A).k ∧ (((delimT A).o = true ∨ (delimT A).i = true) → (delimT A).k = A.length) ∧ ((delimT A).i = true → (delimT A).x.kind = 6 → text A = delimT A ∧ (at_ A 0 = 34 ∨ at_ A 0 = 39)) :=
    ⟨hpos, Nat.le_refl _, fun h => h.elim (nope rfl) (nope rfl), nope rfl⟩
  by_cases c3 : at_ A 0 = 35
  · rw [if_pos c3]
    split
    · obtain ⟨n1, n2, n3⟩ := hnm (tk 5 []) (show (5 : Nat) ≠ 6 by decide)
      exact ⟨n1, n2, n3, nope rfl⟩
    · exact hdl
  rw [if_neg c3]
  by_cases c4 : at_ A 0 = 64
  · rw [if_pos c4]
    split
    · obtain ⟨n1, n2, n3⟩ := hnm (tk 5 []) (show (5 : Nat) ≠ 6 by decide)
      exact ⟨n1, n2, n3, nope rfl⟩
    · exact hdl
  rw [if_neg c4]
  split
  · exact ⟨hpos, Nat.le_refl _, fun h => h.elim (nope rfl) (nope rfl), nope rfl⟩
  split
  · rename_i hn
    obtain ⟨n1, n2, n3, n4⟩ := numeric_le A h0
    refine ⟨n1, ?_, fun h => h.elim (fun h => (n2 h).1) (nope n3), nope n3⟩
    have h1 := numLen_le_k A
    -- a number has a byte at least
    have : 1 ≤ (numLen A).1 := by
      have e := numLen_eq A
      have p1 := point_le A (signed A 0 + run digit (A.drop (signed A 0)))
      have p2 := power_le A (point A (signed A 0 + run digit (A.drop (signed A 0)))).1
      rw [show (numLen A).1 = _ from congrArg Prod.fst e]
      show 1 ≤ (power A _).1
      have hsg : signed A 0 = 0 ∨ 1 ≤ signed A 0 := by omega
      rcases hsg with hsg | hsg
      · rw [hsg] at p1 p2 ⊢
        rw [List.drop_zero, Nat.zero_add] at p1 p2 ⊢
        by_cases hd : digit (at_ A 0) = true
        · have := run_pos h0 hd
          omega
        · have hn' : numberAt A 0 = (digit (at_ A (0 + signed A 0)) || at_ A (0 + signed A 0) == 46 && digit (at_ A (0 + signed A 0 + 1))) := rfl
          rw [hsg] at hn'
          have hn2 : (digit (at_ A 0) || at_ A 0 == 46 && digit (at_ A 1)) = true := hn'.symm.trans hn
          rw [eq_false_of_ne_true hd, Bool.false_or, Bool.and_eq_true, beq_iff_eq] at hn2
          have hr0 : run digit A = 0 := by
            obtain ⟨c, r, rfl⟩ := List.exists_cons_of_ne_nil h0
            rw [run, if_neg (show ¬ digit c = true from hd)]
          rw [hr0] at p1 p2 ⊢
          have : (point A 0).1 = 0 + 1 + run digit (A.drop (0 + 1)) := by unfold point; rw [if_pos ⟨hn2.1, hn2.2⟩]
          omega
      · omega
    omega
  split
  · rename_i hp
    have := List.IsPrefix.length_le (List.isPrefixOf_iff_prefix.1 hp)
    exact ⟨this, show 1 ≤ 3 by decide, fun h => h.elim (nope rfl) (nope rfl), nope rfl⟩
  split
  · rename_i hp
    have := List.IsPrefix.length_le (List.isPrefixOf_iff_prefix.1 hp)
    exact ⟨this, show 1 ≤ 4 by decide, fun h => h.elim (nope rfl) (nope rfl), nope rfl⟩
  split
  · rename_i hi
    obtain ⟨w1, w2, w3⟩ := word_le A
    refine ⟨w1, ?_, w2, fun _ h => absurd h w3⟩
    have hnp : 1 ≤ (name A).k := by
      obtain ⟨c, r, rfl⟩ := List.exists_cons_of_ne_nil h0
      by_cases he : escAt (c :: r) 0 = true
      · rw [name_esc he]
        have := esc_pos (c :: r)
        show 1 ≤ _ + _; omega
      · have hg : goesOn c = true := by
          unfold identAt at hi
          by_cases h45 : isAt (· == 45) (c :: r) 0 = true
          · have : c = 45 := beq_iff_eq.1 h45
            subst this; rfl
          · rw [if_neg h45, eq_false_of_ne_true he, Bool.or_false] at hi
            unfold goesOn
            rw [show begins c = true from hi]; rfl
        rw [name_cons (eq_false_of_ne_true he) hg]
        show 1 ≤ _ + 1; omega
    rw [word_eq]
    split
    · exact hnp
    split
    · show 1 ≤ _ + 1; omega
    split
    · show 1 ≤ _ + 1 + _; omega
    · show 1 ≤ _ + 1 + _ + _; omega
  · exact hdl

/-! ### the loop -/
/-- what a stretch of a text makes: tokens, where it ends, the last escape, what is behind the last plain place (none: there was none) -/
structure Lp where
  l : List Tk
  w : Wh
  tail : List UInt8
  rest : Option (List UInt8)
def lpF : Nat → List UInt8 → Wh → List UInt8 → Lp
  | 0, _, w, t => ⟨[], w, t, none⟩
  | f + 1, s, w, t =>
    if s = [] then ⟨[], w, t, none⟩
    else if [47, 42].isPrefixOf s = true then
      match shut (s.drop 2) with
      | none => ⟨[], ⟨5, 0⟩, t, none⟩
      | some k => ⟨(lpF f (s.drop (2 + k + 2)) ⟨1, 0⟩ t).l, (lpF f (s.drop (2 + k + 2)) ⟨1, 0⟩ t).w, (lpF f (s.drop (2 + k + 2)) ⟨1, 0⟩ t).tail, some ((lpF f (s.drop (2 + k + 2)) ⟨1, 0⟩ t).rest.getD (s.drop (2 + k + 2)))⟩
    else ⟨(one s).x :: (lpF f (s.drop (one s).k) (ends (one s) (at_ s 0)) (s.drop (one s).e)).l, (lpF f (s.drop (one s).k) (ends (one s) (at_ s 0)) (s.drop (one s).e)).w, (lpF f (s.drop (one s).k) (ends (one s) (at_ s 0)) (s.drop (one s).e)).tail,
      if (ends (one s) (at_ s 0)).state = 1 then some ((lpF f (s.drop (one s).k) (ends (one s) (at_ s 0)) (s.drop (one s).e)).rest.getD (s.drop (one s).k)) else (lpF f (s.drop (one s).k) (ends (one s) (at_ s 0)) (s.drop (one s).e)).rest⟩
theorem lpF_fuel : ∀ (f g : Nat) (s : List UInt8) (w : Wh) (t : List UInt8), s.length < f → s.length < g → lpF f s w t = lpF g s w t
  | 0, _, _, _, _, h, _ => by omega
  | _, 0, _, _, _, _, h => by omega
  | f + 1, g + 1, s, w, t, hf, hg => by
    rw [lpF, lpF]
    by_cases h0 : s = []
    · rw [if_pos h0, if_pos h0]
    have hpos := List.length_pos_iff.2 h0
    have h1 := (one_le s h0).2.1
    have e1 : ∀ k w' t', 1 ≤ k → lpF f (s.drop k) w' t' = lpF g (s.drop k) w' t' := fun k w' t' hk => lpF_fuel f g _ _ _ (by rw [List.length_drop]; omega) (by rw [List.length_drop]; omega)
    rw [if_neg h0, if_neg h0, e1 _ _ _ h1]
    cases shut (s.drop 2) with
    | none => rfl
    | some k => simp only [e1 (2 + k + 2) _ _ (by omega)]
def lp (s : List UInt8) (w : Wh) (t : List UInt8) : Lp := lpF (s.length + 1) s w t
theorem lp_nil (w : Wh) (t : List UInt8) : lp [] w t = ⟨[], w, t, none⟩ := rfl
theorem lp_step (s : List UInt8) (w : Wh) (t : List UInt8) (h0 : s ≠ []) : lp s w t =
    if [47, 42].isPrefixOf s = true then
      match shut (s.drop 2) with
      | none => ⟨[], ⟨5, 0⟩, t, none⟩
      | some k => ⟨(lp (s.drop (2 + k + 2)) ⟨1, 0⟩ t).l, (lp (s.drop (2 + k + 2)) ⟨1, 0⟩ t).w, (lp (s.drop (2 + k + 2)) ⟨1, 0⟩ t).tail, some ((lp (s.drop (2 + k + 2)) ⟨1, 0⟩ t).rest.getD (s.drop (2 + k + 2)))⟩
    else ⟨(one s).x :: (lp (s.drop (one s).k) (ends (one s) (at_ s 0)) (s.drop (one s).e)).l, (lp (s.drop (one s).k) (ends (one s) (at_ s 0)) (s.drop (one s).e)).w, (lp (s.drop (one s).k) (ends (one s) (at_ s 0)) (s.drop (one s).e)).tail,
      if (ends (one s) (at_ s 0)).state = 1 then some ((lp (s.drop (one s).k) (ends (one s) (at_ s 0)) (s.drop (one s).e)).rest.getD (s.drop (one s).k)) else (lp (s.drop (one s).k) (ends (one s) (at_ s 0)) (s.drop (one s).e)).rest⟩ := by
  have hpos := List.length_pos_iff.2 h0
  have h1 := (one_le s h0).2.1
  have e1 : ∀ k w' t', 1 ≤ k → lpF s.length (s.drop k) w' t' = lp (s.drop k) w' t' := fun k w' t' hk => lpF_fuel _ _ _ _ _ (by rw [List.length_drop]; omega) (Nat.lt_succ_self _)
  conv => lhs; unfold lp
  rw [lpF, if_neg h0, e1 _ _ _ h1]
  cases shut (s.drop 2) with
  | none => rfl
  | some k => simp only [e1 (2 + k + 2) _ _ (by omega)]
theorem allF_lp : ∀ (f : Nat) (s rest : List UInt8) (w : Wh) (t : List UInt8) (l : List Tk), s.length < f →
    allF f s rest w t l = ⟨l ++ (lp s w t).l, (lp s w t).w, if (lp s w t).w.quote = 0 then (lp s w t).rest.getD rest else if (lp s w t).w.state = 6 then (lp s w t).tail else []⟩
  | 0, _, _, _, _, _, h => by omega
  | f + 1, s, rest, w, t, l, hf => by
    rw [allF]
    by_cases h0 : s = []
    · subst h0
      rw [if_pos rfl, lp_nil]; simp
    have hpos := List.length_pos_iff.2 h0
    have h1 := (one_le s h0).2.1
    rw [if_neg h0, lp_step s w t h0]
    by_cases hc : [47, 42].isPrefixOf s = true
    · rw [if_pos hc, if_pos hc]
      cases shut (s.drop 2) with
      | none => simp
      | some k =>
        simp only
        rw [allF_lp f _ _ _ _ _ (by rw [List.length_drop]; omega)]
        simp
    · rw [if_neg hc, if_neg hc, allF_lp f _ _ _ _ _ (by rw [List.length_drop]; omega)]
      simp only [List.append_assoc, List.singleton_append]
      congr 1
      by_cases hq : (ends (one s) (at_ s 0)).state = 1
      · rw [if_pos hq, if_pos hq]; rfl
      · rw [if_neg hq, if_neg hq]
theorem all_lp (s : List UInt8) : all s = ⟨(lp s ⟨1, 0⟩ []).l, (lp s ⟨1, 0⟩ []).w, if (lp s ⟨1, 0⟩ []).w.quote = 0 then (lp s ⟨1, 0⟩ []).rest.getD s else if (lp s ⟨1, 0⟩ []).w.state = 6 then (lp s ⟨1, 0⟩ []).tail else []⟩ := by
  rw [all, allF_lp _ _ _ _ _ _ (Nat.lt_succ_self _), List.nil_append]
end Cssp
end Go.Proofs.YtojgcangnkjmjaaGreatDoor
namespace Go.Proofs.YtojgcangnkjmjaaGreatDoor
namespace Cssp
open Go

theorem ends_plain {x : Th} {c : UInt8} (h : (ends x c).state = 1) : ends x c = ⟨1, 0⟩ := by
  unfold ends at h ⊢
  by_cases h1 : x.i = true ∧ x.x.kind = 6
  · rw [if_pos h1] at h
    have h : (if x.o = true then 6 else 3) = 1 := h
    split at h <;> exact absurd h (by decide)
  rw [if_neg h1] at h ⊢
  by_cases h2 : x.o = true
  · rw [if_pos h2] at h; exact absurd h (by decide)
  rw [if_neg h2] at h ⊢
  by_cases h3 : x.i = true
  · rw [if_pos h3] at h; exact absurd h (by decide)
  rw [if_neg h3] at h ⊢
  split at h
  · exact absurd h (by decide)
  · rename_i h4; rw [if_neg h4]
theorem ends_quote {x : Th} {c : UInt8} (h : (ends x c).quote ≠ 0) : x.i = true ∧ x.x.kind = 6 := by
  unfold ends at h
  by_cases h1 : x.i = true ∧ x.x.kind = 6
  · exact h1
  rw [if_neg h1] at h
  by_cases h2 : x.o = true
  · rw [if_pos h2] at h; exact absurd rfl h
  rw [if_neg h2] at h
  by_cases h3 : x.i = true
  · rw [if_pos h3] at h; exact absurd rfl h
  rw [if_neg h3] at h
  split at h <;> exact absurd rfl h
theorem lp_same : ∀ (f : Nat) (s : List UInt8) (w : Wh) (t t' : List UInt8), s.length ≤ f →
    (lp s w t).l = (lp s w t').l ∧ (lp s w t).w = (lp s w t').w ∧ (lp s w t).rest = (lp s w t').rest ∧ (w.quote = 0 → (lp s w t).w.quote ≠ 0 → (lp s w t).tail = (lp s w t').tail)
  | f, s, w, t, t', hf => by
    by_cases h0 : s = []
    · subst h0
      exact ⟨rfl, rfl, rfl, fun h1 h2 => absurd h1 h2⟩
    have hpos := List.length_pos_iff.2 h0
    match f, hf with
    | 0, hf => omega
    | f + 1, hf =>
      rw [lp_step s w t h0, lp_step s w t' h0]
      by_cases hc : [47, 42].isPrefixOf s = true
      · rw [if_pos hc, if_pos hc]
        cases shut (s.drop 2) with
        | none => exact ⟨rfl, rfl, rfl, fun _ h => absurd rfl h⟩
        | some k =>
          obtain ⟨i1, i2, i3, i4⟩ := lp_same f (s.drop (2 + k + 2)) ⟨1, 0⟩ t t' (by rw [List.length_drop]; omega)
          exact ⟨i1, i2, by simp only [i3], fun _ h => i4 rfl h⟩
      · rw [if_neg hc, if_neg hc]
        exact ⟨rfl, rfl, rfl, fun _ _ => rfl⟩
theorem odd_lp {R : List UInt8} (h : Odd R) (w : Wh) (t : List UInt8) : (lp R w t).rest = none ∧ (lp R w t).w = ⟨2, 0⟩ := by
  rcases h with rfl | rfl | rfl | rfl | rfl <;> exact ⟨rfl, rfl⟩
theorem shut_app : ∀ (s M : List UInt8) (k : Nat), shut s = some k → shut (s ++ M) = some k ∧ k + 2 ≤ s.length
  | [], _, _, h => by cases h
  | c :: r, M, k, h => by
    rw [List.cons_append, shut]
    rw [shut] at h
    by_cases hc : c = 42 ∧ r.head? = some 47
    · rw [if_pos hc] at h
      injection h with h
      subst h
      cases r with
      | nil => simp at hc
      | cons d r =>
        rw [if_pos ⟨hc.1, by simpa using hc.2⟩]
        exact ⟨rfl, by simp⟩
    · rw [if_neg hc] at h
      cases hs : shut r with
      | none => rw [hs] at h; cases h
      | some j =>
        rw [hs] at h
        injection h with h
        obtain ⟨h1, h2⟩ := shut_app r M j hs
        have hc' : ¬ (c = 42 ∧ (r ++ M).head? = some 47) := by
          cases r with
          | nil => cases hs
          | cons d r => simpa using hc
        rw [if_neg hc', h1]
        subst h
        exact ⟨rfl, by simp only [List.length_cons]; omega⟩
theorem comment_app {A : List UInt8} (M : List UInt8) (h0 : A ≠ []) (h : ¬ [47, 42].isPrefixOf A = true) : (¬ [47, 42].isPrefixOf (A ++ M) = true) ∨ A = [47] := by
  match A, h0 with
  | [a], _ =>
    by_cases ha : a = 47
    · right; rw [ha]
    · left
      simp only [List.isPrefixOf_iff_prefix, List.cons_append, List.nil_append, List.cons_prefix_cons]
      rintro ⟨h, -⟩
      exact ha h.symm
  | a :: b :: r, _ =>
    left
    simp only [List.isPrefixOf_iff_prefix, List.cons_append, List.cons_prefix_cons] at h ⊢
    exact fun h' => h ⟨h'.1, h'.2.1, List.nil_prefix⟩
theorem slash_lp (w : Wh) (t : List UInt8) : (lp [47] w t).rest = none ∧ (lp [47] w t).w = ⟨2, 0⟩ := ⟨rfl, rfl⟩
theorem blank_slash {s : List UInt8} (h : blank (at_ s 0) = true) : ¬ [47, 42].isPrefixOf s = true := by
  cases s with
  | nil => simp
  | cons c r =>
    intro h2
    simp only [List.isPrefixOf_iff_prefix, List.cons_prefix_cons] at h2
    have hc : blank c = true := h
    rw [← h2.1] at hc
    exact absurd hc (by decide)
theorem blank_lp (s : List UInt8) (w : Wh) (t : List UInt8) (h0 : s ≠ []) (h : blank (at_ s 0) = true) :
    lp s w t = ⟨tk 1 [] :: (lp (s.drop (run blank s)) ⟨1, 0⟩ s).l, (lp (s.drop (run blank s)) ⟨1, 0⟩ s).w, (lp (s.drop (run blank s)) ⟨1, 0⟩ s).tail, some ((lp (s.drop (run blank s)) ⟨1, 0⟩ s).rest.getD (s.drop (run blank s)))⟩ := by
  have h1 : one s = ⟨tk 1 [], run blank s, false, false, 0⟩ := by rw [one_eq, if_pos h]
  have h2 : ends ⟨tk 1 [], run blank s, false, false, 0⟩ (at_ s 0) = ⟨1, 0⟩ := rfl
  rw [lp_step s w t h0, if_neg (blank_slash h), h1, h2]
  rfl

/-- two ways to the same: where, the last escape, what is left behind the last plain place -/
def Like (x y : Lp) (q : List UInt8) : Prop := x.w = y.w ∧ (x.w.quote ≠ 0 → x.tail = y.tail) ∧ x.rest = some (y.rest.getD q)
theorem lp_rest : ∀ (f : Nat) (A : List UInt8), A.length ≤ f → ∀ (M : List UInt8) (w : Wh) (t R : List UInt8), (lp A w t).rest = some R → ∃ t1, Like (lp (A ++ M) w t) (lp (R ++ M) ⟨1, 0⟩ t1) (R ++ M)
  | f, A, hf, M, w, t, R, hR => by
    by_cases h0 : A = []
    · subst h0; cases hR
    have hpos := List.length_pos_iff.2 h0
    have h0M : A ++ M ≠ [] := by simp [h0]
    match f, hf with
    | 0, hf => omega
    | f + 1, hf =>
      have hs := lp_step A w t h0
      have hsM := lp_step (A ++ M) w t h0M
      by_cases hc : [47, 42].isPrefixOf A = true
      · rw [if_pos hc] at hs
        rw [if_pos (prefix_app M hc)] at hsM
        have h2 : 2 ≤ A.length := List.IsPrefix.length_le (List.isPrefixOf_iff_prefix.1 hc)
        rw [drop_app M h2] at hsM
        cases hk : shut (A.drop 2) with
        | none => rw [hk] at hs; rw [hs] at hR; cases hR
        | some k =>
          obtain ⟨k1, k2⟩ := shut_app _ M k hk
          rw [List.length_drop] at k2
          rw [hk] at hs
          rw [k1] at hsM
          simp only at hs hsM
          rw [drop_app M (k := 2 + k + 2) (by omega)] at hsM
          obtain ⟨B, hB⟩ : ∃ B, A.drop (2 + k + 2) = B := ⟨_, rfl⟩
          have hBl : B.length ≤ f := by rw [← hB, List.length_drop]; omega
          rw [hB] at hs hsM
          rw [hs] at hR
          injection hR with hR
          cases hr : (lp B ⟨1, 0⟩ t).rest with
          | none =>
            rw [hr] at hR
            have hR : B = R := hR
            subst hR
            rw [hsM]
            exact ⟨t, rfl, fun _ => rfl, rfl⟩
          | some R' =>
            rw [hr] at hR
            have hR : R' = R := hR
            subst hR
            obtain ⟨t1, l1, l2, l3⟩ := lp_rest f B hBl M ⟨1, 0⟩ t R' hr
            rw [hsM]
            exact ⟨t1, l1, l2, by simp only [l3, Option.getD_some]⟩
      rw [if_neg hc] at hs
      rcases comment_app M h0 hc with hcM | hA
      case inr => subst hA; rw [(slash_lp w t).1] at hR; cases hR
      rw [if_neg hcM] at hsM
      obtain ⟨o1, o2, o3, o4⟩ := one_le A h0
      have nil_no : ∀ w' t', (lp [] w' t').rest = none := fun _ _ => rfl
      rcases one_app A M h0 with h | ⟨h1, h2⟩ | ⟨h1, h2, h3⟩
      · rw [h, at_app M hpos, drop_app M o1] at hsM
        obtain ⟨x, hx⟩ : ∃ x, one A = x := ⟨_, rfl⟩
        obtain ⟨W, hW⟩ : ∃ W, ends x (at_ A 0) = W := ⟨_, rfl⟩
        rw [hx] at o1 o2 hs hsM
        rw [hW] at hs hsM
        obtain ⟨B, hB⟩ : ∃ B, A.drop x.k = B := ⟨_, rfl⟩
        have hBl : B.length ≤ f := by rw [← hB, List.length_drop]; omega
        rw [hB] at hs hsM
        obtain ⟨tM, htM⟩ : ∃ tM, (A ++ M).drop x.e = tM := ⟨_, rfl⟩
        rw [htM] at hsM
        have hsame := (lp_same _ B W (A.drop x.e) tM (Nat.le_refl _)).2.2.1
        by_cases hp : W.state = 1
        · have hW1 : W = ⟨1, 0⟩ := by rw [← hW] at hp ⊢; exact ends_plain hp
          subst hW1
          rw [if_pos hp] at hs hsM
          rw [hs] at hR
          injection hR with hR
          rw [hsame] at hR
          cases hr : (lp B ⟨1, 0⟩ tM).rest with
          | none =>
            rw [hr] at hR
            have hR : B = R := hR
            subst hR
            rw [hsM]
            exact ⟨tM, rfl, fun _ => rfl, rfl⟩
          | some R' =>
            rw [hr] at hR
            have hR : R' = R := hR
            subst hR
            obtain ⟨t1, l1, l2, l3⟩ := lp_rest f B hBl M ⟨1, 0⟩ tM R' hr
            rw [hsM]
            exact ⟨t1, l1, l2, by simp only [l3, Option.getD_some]⟩
        · rw [if_neg hp] at hs hsM
          rw [hs] at hR
          have hR : (lp B W (A.drop x.e)).rest = some R := hR
          rw [hsame] at hR
          obtain ⟨t1, l1, l2, l3⟩ := lp_rest f B hBl M W tM R hR
          rw [hsM]
          exact ⟨t1, l1, l2, l3⟩
      · exfalso
        rw [if_neg h1] at hs
        rw [hs] at hR
        have hR : (lp (A.drop (one A).k) _ _).rest = some R := hR
        rcases h2 with h2 | h2
        · rw [h2, List.drop_length] at hR; cases hR
        · rw [(odd_lp h2 _ _).1] at hR; cases hR
      · have hb := blank_lp A w t h0 h3
        rw [h2, List.drop_length] at hb
        rw [hb] at hR
        injection hR with hR
        have hR : [] = R := hR
        subst hR
        have h3M : blank (at_ (A ++ M) 0) = true := by rw [at_app M hpos]; exact h3
        have hbM := blank_lp (A ++ M) w t h0M h3M
        rw [run_all blank A M h2, ← List.drop_drop, List.drop_append_of_le_length (Nat.le_refl _), List.drop_length, List.nil_append] at hbM
        rw [hbM, List.nil_append]
        by_cases hm : 0 < run blank M
        · have hM0 : M ≠ [] := fun e => by subst e; simp [run] at hm
          have hMb : blank (at_ M 0) = true := by
            have := run_isAt blank M 0 hm
            rw [isAt_at (List.length_pos_iff.2 hM0)] at this
            exact this
          have hy := blank_lp M ⟨1, 0⟩ t hM0 hMb
          obtain ⟨s1, s2, s3, s4⟩ := lp_same _ (M.drop (run blank M)) ⟨1, 0⟩ (A ++ M) M (Nat.le_refl _)
          refine ⟨t, ?_⟩
          rw [hy]
          exact ⟨s2, fun h => s4 rfl h, by show some _ = some _; simp only [s3, Option.getD_some]⟩
        · have : run blank M = 0 := by omega
          rw [this, List.drop_zero]
          exact ⟨A ++ M, rfl, fun _ => rfl, rfl⟩
theorem last_drop {A : List UInt8} {k : Nat} (h : A.drop k ≠ []) : (A.drop k).getLast? = A.getLast? := by
  rw [List.getLast?_drop, if_neg]
  intro hk
  exact h (List.drop_eq_nil_of_le hk)
/-- where a text ends plainly, and not with a blank, what stands behind is read as it is by itself -/
theorem lp_join : ∀ (f : Nat) (A : List UInt8), A.length ≤ f → ∀ (M : List UInt8) (w : Wh) (t : List UInt8), (w.state = 1 → w = ⟨1, 0⟩) → (∀ c, A.getLast? = some c → blank c = false) → (lp A w t).w.state = 1 →
    ∃ t1, (lp (A ++ M) w t).l = (lp A w t).l ++ (lp M ⟨1, 0⟩ t1).l ∧ (lp (A ++ M) w t).w = (lp M ⟨1, 0⟩ t1).w
  | f, A, hf, M, w, t, hw, hl, hp => by
    by_cases h0 : A = []
    · subst h0
      have := hw hp
      subst this
      exact ⟨t, rfl, rfl⟩
    have hpos := List.length_pos_iff.2 h0
    have h0M : A ++ M ≠ [] := by simp [h0]
    match f, hf with
    | 0, hf => omega
    | f + 1, hf =>
      have hs := lp_step A w t h0
      have hsM := lp_step (A ++ M) w t h0M
      have hld : ∀ k c, (A.drop k).getLast? = some c → blank c = false := fun k c h => by
        refine hl c ?_
        rw [← h, last_drop]
        intro e
        rw [e] at h; cases h
      by_cases hc : [47, 42].isPrefixOf A = true
      · rw [if_pos hc] at hs
        rw [if_pos (prefix_app M hc)] at hsM
        have h2 : 2 ≤ A.length := List.IsPrefix.length_le (List.isPrefixOf_iff_prefix.1 hc)
        rw [drop_app M h2] at hsM
        cases hk : shut (A.drop 2) with
        | none => rw [hk] at hs; rw [hs] at hp; exact absurd hp (show (5 : Nat) ≠ 1 by decide)
        | some k =>
          obtain ⟨k1, k2⟩ := shut_app _ M k hk
          rw [List.length_drop] at k2
          rw [hk] at hs
          rw [k1] at hsM
          simp only at hs hsM
          rw [drop_app M (k := 2 + k + 2) (by omega)] at hsM
          rw [hs] at hp
          obtain ⟨t1, l1, l2⟩ := lp_join f (A.drop (2 + k + 2)) (by rw [List.length_drop]; omega) M ⟨1, 0⟩ t (fun _ => rfl) (hld _) hp
          rw [hsM, hs]
          exact ⟨t1, l1, l2⟩
      rw [if_neg hc] at hs
      rcases comment_app M h0 hc with hcM | hA
      case inr => subst hA; rw [(slash_lp w t).2] at hp; exact absurd hp (show (2 : Nat) ≠ 1 by decide)
      rw [if_neg hcM] at hsM
      obtain ⟨o1, o2, o3, o4⟩ := one_le A h0
      rcases one_app A M h0 with h | ⟨h1, h2⟩ | ⟨h1, h2, h3⟩
      · rw [h, at_app M hpos, drop_app M o1] at hsM
        rw [hs] at hp
        obtain ⟨s1, s2, s3, s4⟩ := lp_same _ (A.drop (one A).k) (ends (one A) (at_ A 0)) (A.drop (one A).e) ((A ++ M).drop (one A).e) (Nat.le_refl _)
        have hp : (lp (A.drop (one A).k) (ends (one A) (at_ A 0)) (A.drop (one A).e)).w.state = 1 := hp
        rw [s2] at hp
        obtain ⟨t1, l1, l2⟩ := lp_join f (A.drop (one A).k) (by rw [List.length_drop]; omega) M (ends (one A) (at_ A 0)) ((A ++ M).drop (one A).e) (fun h => ends_plain h) (hld _) hp
        rw [hsM, hs]
        refine ⟨t1, ?_, l2⟩
        show _ :: _ = (_ :: _) ++ _
        rw [l1, s1]; rfl
      · exfalso
        rw [hs] at hp
        have hp : (lp (A.drop (one A).k) (ends (one A) (at_ A 0)) (A.drop (one A).e)).w.state = 1 := hp
        rcases h2 with h2 | h2
        · rw [h2, List.drop_length] at hp; exact h1 hp
        · rw [(odd_lp h2 _ _).2] at hp; exact absurd hp (show (2 : Nat) ≠ 1 by decide)
      · exfalso
        have hn : A.length - 1 < run blank A := by omega
        have hb := run_isAt blank A (A.length - 1) hn
        unfold isAt at hb
        rw [← List.getLast?_eq_getElem?] at hb
        cases hx : A.getLast? with
        | none => rw [hx] at hb; cases hb
        | some c =>
          rw [hx] at hb
          have hb : blank c = true := hb
          rw [hl c hx] at hb; cases hb

/-! ### within strings -/
def thOf (x : Tx) : Th := ⟨if x.bad = true then tk 7 [] else tk 6 x.t, x.k + 1, x.o, x.i, x.e + 1⟩
/-- what comes behind a string that goes on with L -/
def goS (q : UInt8) (L : List UInt8) : Lp := lp (L.drop (textX q L).k) (ends (thOf (textX q L)) q) (L.drop (textX q L).e)
def fin (r : Lp) (d : List UInt8) : List UInt8 := if r.w.quote = 0 then r.rest.getD d else if r.w.state = 6 then r.tail else []
def restS (q : UInt8) (L : List UInt8) : List UInt8 :=
  if (goS q L).w.quote = 0 then (if (ends (thOf (textX q L)) q).state = 1 then (goS q L).rest.getD (L.drop (textX q L).k) else (goS q L).rest.getD []) else if (goS q L).w.state = 6 then (goS q L).tail else []
theorem ends_th (x : Tx) (t : List UInt8) (n : Nat) (c : UInt8) : ends (thOf (x.on t n)) c = ends (thOf x) c := by
  unfold ends thOf Tx.on
  simp only
  cases x.bad <;> rfl
theorem textX_bad (q : UInt8) : ∀ (f : Nat) (A : List UInt8), A.length ≤ f → (textX q A).bad = true → isAt (· == 10) A (textX q A).k = true ∧ (textX q A).i = false
  | _, [], _, h => by rw [textX_nil] at h; cases h
  | 0, c :: r, hf, h => by simp at hf
  | f + 1, c :: r, hf, h => by
    simp only [List.length_cons] at hf
    have hpos := esc_pos (c :: r)
    rw [textX_cons] at h ⊢
    by_cases h1 : c = q
    · rw [if_pos h1] at h; cases h
    rw [if_neg h1] at h ⊢
    by_cases h2 : c = 10
    · rw [if_pos h2]
      exact ⟨beq_iff_eq.2 h2, rfl⟩
    rw [if_neg h2] at h ⊢
    by_cases h3 : c = 92
    · rw [if_pos h3] at h ⊢
      by_cases h4 : r = []
      · rw [if_pos h4] at h; cases h
      rw [if_neg h4] at h ⊢
      by_cases h5 : r.head? = some 10
      · rw [if_pos h5] at h ⊢
        obtain ⟨i1, i2⟩ := textX_bad q f (r.drop 1) (by rw [List.length_drop]; omega) h
        rw [isAt_drop] at i1
        refine ⟨?_, i2⟩
        show isAt _ (c :: r) ((textX q (r.drop 1)).k + 2) = true
        have := isAt_drop (· == 10) (c :: r) 1 (1 + (textX q (r.drop 1)).k)
        rw [List.drop_one, List.tail_cons] at this
        rw [show (textX q (r.drop 1)).k + 2 = 1 + (1 + (textX q (r.drop 1)).k) by omega, ← this]
        exact i1
      rw [if_neg h5] at h ⊢
      by_cases h6 : (esc (c :: r)).o = true
      · rw [if_pos h6] at h; cases h
      rw [if_neg h6] at h ⊢
      obtain ⟨i1, i2⟩ := textX_bad q f _ (by rw [List.length_drop, List.length_cons]; omega) h
      rw [isAt_drop] at i1
      refine ⟨?_, i2⟩
      show isAt _ (c :: r) ((textX q ((c :: r).drop (esc (c :: r)).k)).k + (esc (c :: r)).k) = true
      rw [Nat.add_comm]; exact i1
    rw [if_neg h3] at h ⊢
    obtain ⟨i1, i2⟩ := textX_bad q f r (by omega) h
    refine ⟨?_, i2⟩
    show isAt _ (c :: r) ((textX q r).k + 1) = true
    unfold isAt at i1 ⊢
    rw [List.getElem?_cons_succ]; exact i1
theorem goS_rest (q : UInt8) (L : List UInt8) (hq : q ≠ 0) (h0 : (goS q L).w.quote = 0) (hp : (ends (thOf (textX q L)) q).state ≠ 1) : ∃ r, (goS q L).rest = some r := by
  cases hi : (textX q L).i with
  | true =>
    exfalso
    have hk := textX_in q L hi
    have hb := (textX_more q _ L [] (Nat.le_refl _) hi).1
    unfold goS at h0
    rw [hk, List.drop_length, lp_nil] at h0
    have : ends (thOf (textX q L)) q = ⟨if (textX q L).o = true then 6 else 3, q⟩ := by
      unfold ends thOf
      simp only [hi, hb]
      rfl
    rw [this] at h0
    exact hq h0
  | false =>
    cases hb : (textX q L).bad with
    | false =>
      exfalso
      have ho : (textX q L).o = false := by
        cases ho : (textX q L).o with
        | false => rfl
        | true => rw [textX_oi q _ L (Nat.le_refl _) ho] at hi; cases hi
      apply hp
      unfold ends thOf
      simp only [hi, hb, ho]
      rfl
    | true =>
      obtain ⟨i1, -⟩ := textX_bad q _ L (Nat.le_refl _) hb
      have hlt := isAt_lt i1
      rw [isAt_at hlt, beq_iff_eq] at i1
      have hne : L.drop (textX q L).k ≠ [] := fun e => by
        have := congrArg List.length e
        rw [List.length_drop, List.length_nil] at this
        omega
      have hbl : blank (at_ (L.drop (textX q L).k) 0) = true := by rw [at_drop, Nat.add_zero, i1]; rfl
      unfold goS
      rw [blank_lp _ _ _ hne hbl]
      exact ⟨_, rfl⟩
theorem lp_quote : ∀ (f : Nat) (A : List UInt8), A.length ≤ f → ∀ (M : List UInt8) (w : Wh) (t d : List UInt8), w.quote = 0 → (lp A w t).w.quote ≠ 0 →
    (lp (A ++ M) w t).w = (goS (lp A w t).w.quote (if (lp A w t).w.state = 6 then (lp A w t).tail ++ M else M)).w ∧
    fin (lp (A ++ M) w t) d = restS (lp A w t).w.quote (if (lp A w t).w.state = 6 then (lp A w t).tail ++ M else M)
  | f, A, hf, M, w, t, d, hw, hq => by
    by_cases h0 : A = []
    · subst h0; exact absurd hw hq
    have hpos := List.length_pos_iff.2 h0
    have h0M : A ++ M ≠ [] := by simp [h0]
    match f, hf with
    | 0, hf => omega
    | f + 1, hf =>
      have hs := lp_step A w t h0
      have hsM := lp_step (A ++ M) w t h0M
      by_cases hc : [47, 42].isPrefixOf A = true
      · rw [if_pos hc] at hs
        rw [if_pos (prefix_app M hc)] at hsM
        have h2 : 2 ≤ A.length := List.IsPrefix.length_le (List.isPrefixOf_iff_prefix.1 hc)
        rw [drop_app M h2] at hsM
        cases hk : shut (A.drop 2) with
        | none => rw [hk] at hs; rw [hs] at hq; exact absurd rfl hq
        | some k =>
          obtain ⟨k1, k2⟩ := shut_app _ M k hk
          rw [List.length_drop] at k2
          rw [hk] at hs
          rw [k1] at hsM
          simp only at hs hsM
          rw [drop_app M (k := 2 + k + 2) (by omega)] at hsM
          rw [hs] at hq
          obtain ⟨l1, l2⟩ := lp_quote f (A.drop (2 + k + 2)) (by rw [List.length_drop]; omega) M ⟨1, 0⟩ t (A.drop (2 + k + 2) ++ M) rfl hq
          rw [hsM, hs]
          refine ⟨l1, ?_⟩
          rw [← l2]
          unfold fin
          simp only [Option.getD_some]
      rw [if_neg hc] at hs
      rcases comment_app M h0 hc with hcM | hA
      case inr => subst hA; rw [(slash_lp w t).2] at hq; exact absurd rfl hq
      rw [if_neg hcM] at hsM
      obtain ⟨o1, o2, o3, o4⟩ := one_le A h0
      by_cases hq1 : (ends (one A) (at_ A 0)).quote ≠ 0
      · -- the string itself
        obtain ⟨e1, e2⟩ := ends_quote hq1
        obtain ⟨o5, o6⟩ := o4 e1 e2
        obtain ⟨q, A', rfl⟩ := List.exists_cons_of_ne_nil h0
        have hqq : at_ (q :: A') 0 = q := rfl
        rw [hqq] at o6
        have hqM : at_ (q :: A' ++ M) 0 = q := rfl
        have hnb : ¬ blank q = true := by rcases o6 with rfl | rfl <;> decide
        have hM1 : one (q :: A' ++ M) = text (q :: (A' ++ M)) := by
          rw [one_eq, hqM, if_neg hnb, if_pos o6]; rfl
        have hkk := o3 (.inr e1)
        have htc : one (q :: A') = thOf (textX q A') := by rw [← o5]; exact text_cons q A'
        have htcM : one (q :: A' ++ M) = thOf (textX q (A' ++ M)) := by rw [hM1]; exact text_cons q (A' ++ M)
        rw [htc] at hs e1 hkk
        rw [htcM] at hsM
        have e1' : (textX q A').i = true := e1
        obtain ⟨m1, m2, m3, m4, m5⟩ := textX_more q _ A' M (Nat.le_refl _) e1'
        rw [hkk, List.drop_length, lp_nil] at hs
        have hen : ends (thOf (textX q A')) q = ⟨if (textX q A').o = true then 6 else 3, q⟩ := by
          unfold ends thOf
          simp only [e1', m1]
          rfl
        rw [hqq, hen] at hs
        have hq0 : q ≠ 0 := by rcases o6 with rfl | rfl <;> decide
        -- how far what stands behind goes on
        have key : ∀ (L : List UInt8) (n : Nat) (tt : List UInt8), textX q (A' ++ M) = (textX q L).on tt n → (A' ++ M).drop n = L →
            (lp (q :: A' ++ M) w t).w = (goS q L).w ∧ fin (lp (q :: A' ++ M) w t) d = restS q L := by
          intro L n tt hT hL
          have hk2 : (q :: A' ++ M).drop (thOf (textX q (A' ++ M))).k = L.drop (textX q L).k := by
            rw [hT]
            show (q :: (A' ++ M)).drop ((textX q L).k + n + 1) = _
            rw [List.drop_succ_cons, Nat.add_comm, ← List.drop_drop, hL]
          have he2 : (q :: A' ++ M).drop (thOf (textX q (A' ++ M))).e = L.drop (textX q L).e := by
            rw [hT]
            show (q :: (A' ++ M)).drop ((textX q L).e + n + 1) = _
            rw [List.drop_succ_cons, Nat.add_comm, ← List.drop_drop, hL]
          rw [hk2, he2, hqM] at hsM
          have hew : ends (thOf (textX q (A' ++ M))) q = ends (thOf (textX q L)) q := by rw [hT, ends_th]
          rw [hew] at hsM
          have hg : lp (L.drop (textX q L).k) (ends (thOf (textX q L)) q) (L.drop (textX q L).e) = goS q L := rfl
          rw [hg] at hsM
          rw [hsM]
          refine ⟨rfl, ?_⟩
          unfold fin restS
          simp only
          by_cases h5 : (goS q L).w.quote = 0
          · rw [if_pos h5, if_pos h5]
            by_cases h6 : (ends (thOf (textX q L)) q).state = 1
            · rw [if_pos h6, if_pos h6]; rfl
            · rw [if_neg h6, if_neg h6]
              obtain ⟨r, hr⟩ := goS_rest q L hq0 h5 h6
              rw [hr]; rfl
          · rw [if_neg h5, if_neg h5]
        rw [hs]
        simp only
        cases ho : (textX q A').o with
        | false =>
          obtain ⟨tt, hT⟩ := m4 ho
          rw [if_neg (by decide)]
          have hL : (A' ++ M).drop A'.length = M := by rw [List.drop_append_of_le_length (Nat.le_refl _), List.drop_length, List.nil_append]
          exact key M _ tt hT hL
        | true =>
          obtain ⟨tt, hT⟩ := m5 ho
          rw [if_pos (by decide)]
          have htl : (q :: A').drop (thOf (textX q A')).e = A'.drop (textX q A').e := rfl
          rw [htl]
          exact key _ _ tt hT (drop_app M m3)
      have hq1 : (ends (one A) (at_ A 0)).quote = 0 := Classical.not_not.1 hq1
      rcases one_app A M h0 with h | ⟨h1, h2⟩ | ⟨h1, h2, h3⟩
      · rw [h, at_app M hpos, drop_app M o1] at hsM
        obtain ⟨s1, s2, s3, s4⟩ := lp_same _ (A.drop (one A).k) (ends (one A) (at_ A 0)) (A.drop (one A).e) ((A ++ M).drop (one A).e) (Nat.le_refl _)
        rw [hs] at hq
        have hq : (lp (A.drop (one A).k) (ends (one A) (at_ A 0)) (A.drop (one A).e)).w.quote ≠ 0 := hq
        have s4' := s4 hq1 hq
        rw [s2] at hq
        obtain ⟨l1, l2⟩ := lp_quote f (A.drop (one A).k) (by rw [List.length_drop]; omega) M (ends (one A) (at_ A 0)) ((A ++ M).drop (one A).e) (if (ends (one A) (at_ A 0)).state = 1 then A.drop (one A).k ++ M else d) hq1 hq
        rw [hsM, hs]
        simp only
        rw [s2, s4']
        refine ⟨l1, ?_⟩
        rw [← l2]
        unfold fin
        simp only
        by_cases h5 : (ends (one A) (at_ A 0)).state = 1
        · rw [if_pos h5, if_pos h5]; rfl
        · rw [if_neg h5, if_neg h5]
      · exfalso
        rw [hs] at hq
        have hq : (lp (A.drop (one A).k) (ends (one A) (at_ A 0)) (A.drop (one A).e)).w.quote ≠ 0 := hq
        rcases h2 with h2 | h2
        · rw [h2, List.drop_length] at hq; exact hq hq1
        · rw [(odd_lp h2 _ _).2] at hq; exact hq rfl
      · exfalso
        have hb := blank_lp A w t h0 h3
        rw [h2, List.drop_length, lp_nil] at hb
        rw [hb] at hq; exact hq rfl
theorem all_w (s : List UInt8) : (all s).w = (lp s ⟨1, 0⟩ []).w := by rw [all_lp]
theorem all_l (s : List UInt8) : (all s).l = (lp s ⟨1, 0⟩ []).l := by rw [all_lp]
theorem all_rest (s : List UInt8) : (all s).rest = fin (lp s ⟨1, 0⟩ []) s := by rw [all_lp]; rfl
theorem all_join (A M : List UInt8) (hl : ∀ c, A.getLast? = some c → blank c = false) (hp : (all A).w = ⟨1, 0⟩) : (all (A ++ M)).l = (all A).l ++ (all M).l ∧ (all (A ++ M)).w = (all M).w := by
  rw [all_w] at hp
  obtain ⟨t1, l1, l2⟩ := lp_join _ A (Nat.le_refl _) M ⟨1, 0⟩ [] (fun _ => rfl) hl (by rw [hp])
  obtain ⟨s1, s2, -, -⟩ := lp_same _ M ⟨1, 0⟩ t1 [] (Nat.le_refl _)
  rw [all_l, all_l, all_l, all_w, all_w, l1, l2, s1, s2]
  exact ⟨rfl, rfl⟩
theorem all_state0 (A M : List UInt8) (h : (all A).w.quote = 0) : (all (A ++ M)).w = (all ((all A).rest ++ M)).w ∧ (all (A ++ M)).rest = (all ((all A).rest ++ M)).rest := by
  rw [all_w] at h
  have hr : (all A).rest = (lp A ⟨1, 0⟩ []).rest.getD A := by rw [all_rest, fin, if_pos h]
  cases hR : (lp A ⟨1, 0⟩ []).rest with
  | none =>
    rw [hR] at hr
    have hr : (all A).rest = A := hr
    rw [hr]
    exact ⟨rfl, rfl⟩
  | some R =>
    rw [hR] at hr
    have hr : (all A).rest = R := hr
    obtain ⟨t1, l1, l2, l3⟩ := lp_rest _ A (Nat.le_refl _) M ⟨1, 0⟩ [] R hR
    obtain ⟨-, s2, s3, s4⟩ := lp_same _ (R ++ M) ⟨1, 0⟩ t1 [] (Nat.le_refl _)
    rw [hr, all_w, all_w, all_rest, all_rest]
    refine ⟨l1.trans s2, ?_⟩
    unfold fin
    rw [l3, l1, s2]
    by_cases h5 : (lp (R ++ M) ⟨1, 0⟩ []).w.quote = 0
    · rw [if_pos h5, if_pos h5, s3]; rfl
    · rw [if_neg h5, if_neg h5, l2 (by rw [l1, s2]; exact h5), s4 rfl (by rw [s2]; exact h5)]
theorem all_state1 (A M : List UInt8) (h : (all A).w.quote ≠ 0) : (all (A ++ M)).w = (goS (all A).w.quote (if (all A).w.state = 6 then (all A).rest ++ M else M)).w ∧
    (all (A ++ M)).rest = restS (all A).w.quote (if (all A).w.state = 6 then (all A).rest ++ M else M) := by
  have hr := all_rest A
  rw [all_w] at h ⊢
  have := lp_quote _ A (Nat.le_refl _) M ⟨1, 0⟩ [] (A ++ M) rfl h
  rw [all_w, all_rest (A ++ M)]
  by_cases h6 : (lp A ⟨1, 0⟩ []).w.state = 6
  · rw [if_pos h6] at this ⊢
    rw [fin, if_neg h, if_pos h6] at hr
    rw [hr]
    exact this
  · rw [if_neg h6] at this ⊢
    exact this
/-- behind two texts that end alike, with the same rest, each text leads to two that end alike -/
theorem all_states (A B M : List UInt8) (hw : (all A).w = (all B).w) (hr : (all A).rest = (all B).rest) : (all (A ++ M)).w = (all (B ++ M)).w ∧ (all (A ++ M)).rest = (all (B ++ M)).rest := by
  by_cases h : (all A).w.quote = 0
  · have h' : (all B).w.quote = 0 := by rw [← hw]; exact h
    obtain ⟨a1, a2⟩ := all_state0 A M h
    obtain ⟨b1, b2⟩ := all_state0 B M h'
    rw [a1, a2, b1, b2, hr]
    exact ⟨rfl, rfl⟩
  · have h' : (all B).w.quote ≠ 0 := by rw [← hw]; exact h
    obtain ⟨a1, a2⟩ := all_state1 A M h
    obtain ⟨b1, b2⟩ := all_state1 B M h'
    rw [a1, a2, b1, b2, hr, hw]
    exact ⟨rfl, rfl⟩
end Cssp
end Go.Proofs.YtojgcangnkjmjaaGreatDoor
