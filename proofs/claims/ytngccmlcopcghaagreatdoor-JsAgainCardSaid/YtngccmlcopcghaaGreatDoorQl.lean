/- Plain: blanks and comments, at places of a script. No program in sight. -/
import Derived.Test.YtngccmlcopcghaaGreatDoorQb
import Derived.Test.YtngccmlcopcghaaGreatDoorQg
import Derived.Test.YtngccmlcopcghaaGreatDoorPo
import Derived.Test.YtngccmlcopcghaaGreatDoorPs
namespace Go.Proofs.YtngccmlcopcghaaGreatDoor
namespace Jsp
open Go

/-- where the blanks end that stand at a place -/
def gp (F : List UInt8) (a : Nat) (ln : Bool) : (Nat × Bool) ⊕ Nat := if ln = true then .inl (a, true) else gapOn a (gap (F.drop a))
theorem gp_blanks (F : List UInt8) (a : Nat) (ha : a ≤ F.length) (hv : Cssp.valid (F.drop a) = true) : gp F a false = gp F (a + run bl (F.drop a)) false ∧ a + run bl (F.drop a) ≤ F.length ∧ Cssp.valid (F.drop (a + run bl (F.drop a))) = true ∧
    (F.drop (a + run bl (F.drop a)) = [] ∨ bl (pt (F.drop (a + run bl (F.drop a)))) = false) := by
  have h1 := run_le bl _ (F.drop a) (Nat.le_refl _)
  have h2 := valid_run bl _ (F.drop a) (Nat.le_refl _) hv
  have h3 := bl_run_stop _ (F.drop a) (Nat.le_refl _)
  rw [List.length_drop] at h1
  rw [List.drop_drop] at h2 h3
  refine ⟨?_, by omega, h2, ?_⟩
  · unfold gp
    rw [if_neg (by decide), if_neg (by decide), gap_run _ (F.drop a) (Nat.le_refl _), gapOn_on, List.drop_drop, Nat.add_comm]
  · by_cases h0 : F.drop (a + run bl (F.drop a)) = []
    · exact .inl h0
    · exact .inr (h3 h0)
theorem bl_no {r : Nat} (h : bl r = false) : ¬ (blank r = true ∨ lineEnd r = true) := by
  unfold bl at h
  rw [Bool.or_eq_false_iff] at h
  rintro (g | g)
  · rw [h.1] at g; cases g
  · rw [h.2] at g; cases g
theorem pre_ne {m s : List UInt8} {c : UInt8} (h : (c :: m).isPrefixOf s = true) : s ≠ [] := by
  rintro rfl
  simp at h
theorem gp_stop (F : List UInt8) (a : Nat) (h : F.drop a = [] ∨ bl (pt (F.drop a)) = false) (h1 : [47, 47].isPrefixOf (F.drop a) = false) (h2 : [47, 42].isPrefixOf (F.drop a) = false) : gp F a false = .inl (a, false) := by
  unfold gp
  rw [if_neg (by decide)]
  by_cases h0 : F.drop a = []
  · rw [h0]; show Sum.inl (0 + a, false) = _; rw [Nat.zero_add]
  · have hb := bl_no (h.resolve_left h0)
    rw [gap_step _ h0, if_neg hb, h1, if_neg (by decide), h2, if_neg (by decide)]
    show Sum.inl (0 + a, false) = _; rw [Nat.zero_add]
theorem gp_line (F : List UInt8) (a : Nat) (ha : a ≤ F.length) (hv : Cssp.valid (F.drop a) = true) (h : F.drop a = [] ∨ bl (pt (F.drop a)) = false) (h1 : [47, 47].isPrefixOf (F.drop a) = true) :
    gp F a false = gp F (a + run (fun r => !lineEnd r) (F.drop a)) (decide (a + run (fun r => !lineEnd r) (F.drop a) = F.length)) ∧ a + run (fun r => !lineEnd r) (F.drop a) ≤ F.length ∧ a < a + run (fun r => !lineEnd r) (F.drop a) ∧ Cssp.valid (F.drop (a + run (fun r => !lineEnd r) (F.drop a))) = true := by
  have h0 := pre_ne h1
  have hb := bl_no (h.resolve_left h0)
  have hr := run_le (fun r => !lineEnd r) _ (F.drop a) (Nat.le_refl _)
  have h2 := valid_run (fun r => !lineEnd r) _ (F.drop a) (Nat.le_refl _) hv
  have hp := pn_le h0
  have hpos : 1 ≤ run (fun r => !lineEnd r) (F.drop a) := by
    rw [run_step _ _ h0]
    have : lineEnd (pt (F.drop a)) = false := by
      cases hl : lineEnd (pt (F.drop a)) with
      | false => rfl
      | true => exact absurd (.inr hl) hb
    simp only [this, Bool.not_false, if_true]
    omega
  rw [List.length_drop] at hr
  rw [List.drop_drop] at h2
  refine ⟨?_, by omega, by omega, h2⟩
  generalize hn : run (fun r => !lineEnd r) (F.drop a) = n at hr hpos h2 ⊢
  unfold gp
  rw [if_neg (by decide), gap_step _ h0, if_neg hb, h1, if_pos rfl, hn, List.drop_drop]
  by_cases he : a + n = F.length
  · rw [if_pos (List.drop_eq_nil_of_le (by omega)), decide_eq_true he, if_pos rfl]
    show Sum.inl (n + a, true) = _; rw [Nat.add_comm]
  · rw [if_neg (fun e => by have := congrArg List.length e; rw [List.length_drop, List.length_nil] at this; omega), decide_eq_false he, if_neg (by decide), gapOn_on, Nat.add_comm]
theorem no_line {s : List UInt8} (h : [47, 42].isPrefixOf s = true) : [47, 47].isPrefixOf s = false := by
  match s, h with
  | [], h => simp at h
  | [c], h => simp at h
  | c :: d :: r, h =>
    simp [List.isPrefixOf] at h ⊢
    intro _ e
    rw [← h.2] at e
    exact absurd e (by decide)
theorem gp_open (F : List UInt8) (a : Nat) (h : F.drop a = [] ∨ bl (pt (F.drop a)) = false) (h1 : [47, 42].isPrefixOf (F.drop a) = true) (hs : shut (F.drop (a + 2)) = none) : gp F a false = .inr a := by
  have h0 := pre_ne h1
  have hb := bl_no (h.resolve_left h0)
  unfold gp
  rw [if_neg (by decide), gap_step _ h0, if_neg hb, no_line h1, if_neg (by decide), h1, if_pos rfl, List.drop_drop, hs]
  show Sum.inr (0 + a) = _; rw [Nat.zero_add]
theorem gp_shut (F : List UInt8) (a n : Nat) (ha : a ≤ F.length) (hv : Cssp.valid (F.drop a) = true) (h : F.drop a = [] ∨ bl (pt (F.drop a)) = false) (h1 : [47, 42].isPrefixOf (F.drop a) = true) (hs : shut (F.drop (a + 2)) = some n) :
    gp F a false = gp F (a + (2 + n + 2)) false ∧ a + (2 + n + 2) ≤ F.length ∧ Cssp.valid (F.drop (a + (2 + n + 2))) = true := by
  have h0 := pre_ne h1
  have hb := bl_no (h.resolve_left h0)
  have hle := ((shut_index (F.drop (a + 2))).2 n hs).2
  have hpl := (List.isPrefixOf_iff_prefix.1 h1).length_le
  rw [List.length_drop] at hle hpl
  simp only [List.length_cons, List.length_nil] at hpl
  obtain ⟨x, hx⟩ := (shut_app [] (F.drop (a + 2)) n hs).2
  have hvx : Cssp.valid (F.drop (a + (2 + n + 2))) = true := by
    have hsf := (Suf.of hv).drop (2 + (n + 1))
    rw [List.drop_drop] at hsf hx
    rw [show a + (2 + (n + 1)) = a + 2 + (n + 1) by omega, hx] at hsf
    have := hsf.valid (by decide)
    rw [show a + (2 + n + 2) = a + 2 + (n + 1) + 1 by omega, ← List.drop_drop, hx]
    exact this
  refine ⟨?_, by omega, hvx⟩
  unfold gp
  rw [if_neg (by decide), if_neg (by decide), gap_step _ h0, if_neg hb, no_line h1, if_neg (by decide), h1, if_pos rfl, List.drop_drop, hs]
  simp only
  rw [gapOn_on, List.drop_drop, Nat.add_comm]
end Jsp
end Go.Proofs.YtngccmlcopcghaaGreatDoor
namespace Go.Proofs.YtngccmlcopcghaaGreatDoor
namespace Jsp
open Go

theorem pth_all {T : List UInt8} (h : Pth T T.length) (hs : Suf T) : walk T = true := by
  have := h.walk hs
  rwa [List.take_length] at this
theorem suf_take {T : List UInt8} {l : Nat} {c : UInt8} (hs : Suf T) (hc : T[l]? = some c) (h128 : c.toNat < 128) : Suf (T.take l) := by
  have hv := hs.valid_at hc h128
  have hl : l < T.length := (List.getElem?_eq_some_iff.1 hc).1
  have hd : T.drop l = c :: T.drop (l + 1) := by
    rw [List.drop_eq_getElem_cons hl]
    rw [List.getElem?_eq_getElem hl] at hc
    injection hc with hc
    rw [hc]
  have hv2 : Cssp.valid (T.drop l) = true := by
    rw [hd, ← List.singleton_append, Cssp.valid_app [c] _ (valid_asc [c] (by intro d hd; simp at hd; subst hd; exact h128))]
    exact hv
  obtain ⟨pre, hp⟩ := hs
  refine ⟨pre, ?_⟩
  have := valid_take _ (pre ++ T) (pre.length + l) (Nat.le_refl _) hp (by rw [List.drop_append, List.drop_of_length_le (Nat.le_add_right _ _), Nat.add_sub_cancel_left, List.nil_append]; exact hv2)
  rwa [List.take_append, List.take_of_length_le (Nat.le_add_right _ _), Nat.add_sub_cancel_left] at this
theorem LastP.ways {T : List UInt8} {k : Nat} {last : Int} (h : LastP T k last) (hs : Suf T) :
    (last = -1 ∧ (92 : UInt8) ∉ T ∧ Jsp.walk T = true) ∨ ∃ l : Nat, last = ((k + l : Nat) : Int) ∧ l < T.length ∧ Jsp.walk (T.take l) = true ∧ Suf (T.take l) ∧ (l + 1 < T.length → Jsp.walk T = true) ∧ Cssp.valid (T.drop (l + 1)) = true := by
  rcases h with ⟨h1, h2, h3⟩ | ⟨l, h1, h2, h3, h4, h5⟩
  · exact .inl ⟨h1, h2, pth_all h3 hs⟩
  · exact .inr ⟨l, h1, h2, h4.walk hs, suf_take hs h3 (by decide), fun h => pth_all (h5 h) hs, hs.valid_at h3 (by decide)⟩
end Jsp
end Go.Proofs.YtngccmlcopcghaaGreatDoor
namespace Go.Proofs.YtngccmlcopcghaaGreatDoor
namespace Jsp
open Go

theorem pre_hole {c : UInt8} {r : List UInt8} (h : ([36, 123] : List UInt8).isPrefixOf (c :: r) = true) : c = 36 ∧ r[0]? = some 123 := by
  cases r with
  | nil => simp [List.isPrefixOf] at h
  | cons d r =>
    simp only [List.isPrefixOf, Bool.and_eq_true, beq_iff_eq] at h
    exact ⟨h.1.symm, by simp [h.2.1]⟩
theorem rawF_at (q : UInt8) : ∀ (f : Nat) (s : List UInt8) (k : Nat), rawF q f s = .ends k → s[k]? = some q ∨ (q = 96 ∧ s[k]? = some 36 ∧ s[k + 1]? = some 123)
  | 0, s, k, h => by cases h
  | f + 1, [], k, h => by cases h
  | f + 1, c :: r, k, h => by
    rw [rawF] at h
    split at h
    · rename_i h1
      injection h with h
      subst h
      rcases h1 with rfl | ⟨rfl, h2⟩
      · exact .inl rfl
      · obtain ⟨rfl, h3⟩ := pre_hole h2
        exact .inr ⟨rfl, rfl, by simpa using h3⟩
    · split at h
      · cases h
      · split at h
        · cases hr : rawF q f (r.drop (skip r)) with
          | ends n =>
            rw [hr] at h
            injection h with h
            subst h
            have := rawF_at q f _ n hr
            rw [List.getElem?_drop, List.getElem?_drop] at this
            rw [show n + (1 + skip r) = (skip r + n) + 1 by omega, List.getElem?_cons_succ, List.getElem?_cons_succ]
            exact this
          | script => rw [hr] at h; cases h
          | line => rw [hr] at h; cases h
        · cases hr : rawF q f r with
          | ends n =>
            rw [hr] at h
            injection h with h
            subst h
            rw [List.getElem?_cons_succ, List.getElem?_cons_succ]
            exact rawF_at q f _ n hr
          | script => rw [hr] at h; cases h
          | line => rw [hr] at h; cases h
theorem rawF_96 : ∀ (f : Nat) (s : List UInt8), rawF 96 f s ≠ .line
  | 0, s => by intro h; cases h
  | f + 1, [] => by intro h; cases h
  | f + 1, c :: r => by
    intro h
    rw [rawF] at h
    split at h
    · cases h
    · split at h
      · rename_i h2
        exact h2.1 rfl
      · split at h
        · cases hr : rawF 96 f (r.drop (skip r)) with
          | ends n => rw [hr] at h; cases h
          | script => rw [hr] at h; cases h
          | line => exact rawF_96 f _ hr
        · cases hr : rawF 96 f r with
          | ends n => rw [hr] at h; cases h
          | script => rw [hr] at h; cases h
          | line => exact rawF_96 f _ hr
theorem raw96_line (s : List UInt8) : raw 96 s ≠ .line := rawF_96 _ s
theorem raw_get {q : UInt8} {s : List UInt8} {k : Nat} (h : raw q s = .ends k) : s[k]? = some q ∨ (q = 96 ∧ s[k]? = some 36 ∧ s[k + 1]? = some 123) := rawF_at q _ s k h
theorem raw_quote {q : UInt8} {s : List UInt8} {k : Nat} (hq : q ≠ 96) (h : raw q s = .ends k) : s[k]? = some q ∧ k < s.length := by
  rcases raw_get h with h | ⟨h, _⟩
  · exact ⟨h, (List.getElem?_eq_some_iff.1 h).1⟩
  · exact absurd h hq
/-- a string without escapes in which the script ends -/
def OpenStr (s : List UInt8) (q : UInt8) : Prop := ∃ T, s = q :: T ∧ (q = 34 ∨ q = 39) ∧ raw q T = .script ∧ (92 : UInt8) ∉ T
theorem quote_cons (q : UInt8) (T : List UInt8) : quote (q :: T) = match raw q T with
    | .ends k => (match cook false (T.take k) with
      | .inl v => .inr (k, v)
      | .inr o => .inl (.no 172 (o + 1)))
    | _ => .inl (.no 171 0) := rfl
end Jsp
end Go.Proofs.YtngccmlcopcghaaGreatDoor
namespace Go.Proofs.YtngccmlcopcghaaGreatDoor
namespace Jsp
open Go

/-- from a place on, behind a backslash or not -/
def regZ (cls skip : Bool) (s : List UInt8) : Option Nat :=
  if skip = true then (if s = [] then none else if lineEnd (pt s) = true then none else (regX cls (s.drop (pn s))).map (· + pn s)) else regX cls s
theorem regZ_start (s : List UInt8) : reg s = (regZ false false s).map (· + 0) := by
  show regX false s = (regX false s).map (· + 0)
  cases regX false s <;> rfl
theorem regZ_nil (cls skip : Bool) : regZ cls skip [] = none := by cases skip <;> rfl
theorem regZ_line {cls skip : Bool} {s : List UInt8} (h0 : s ≠ []) (h : lineEnd (pt s) = true) : regZ cls skip s = none := by
  unfold regZ
  cases skip
  · rw [if_neg (by simp), regX_step _ _ h0, if_pos h]
  · rw [if_pos rfl, if_neg h0, if_pos h]
theorem regZ_skip {cls : Bool} {s : List UInt8} (h0 : s ≠ []) (h : lineEnd (pt s) = false) : regZ cls true s = (regZ cls false (s.drop (pn s))).map (· + pn s) := by
  unfold regZ
  rw [if_pos rfl, if_neg h0, if_neg (by rw [h]; simp), if_neg (by simp)]
theorem regZ_back {cls : Bool} {s : List UInt8} (h0 : s ≠ []) (h : lineEnd (pt s) = false) (h92 : pt s = 92) (hn : pn s = 1) : regZ cls false s = (regZ cls true (s.drop (pn s))).map (· + pn s) := by
  unfold regZ
  rw [if_neg (by simp), if_pos rfl, regX_step _ _ h0, if_neg (by rw [h]; simp), if_pos h92, hn]
  by_cases h1 : s.drop 1 = []
  · rw [if_pos h1, if_pos h1]; rfl
  rw [if_neg h1, if_neg h1]
  by_cases h2 : lineEnd (pt (s.drop 1)) = true
  · rw [if_pos h2, if_pos h2]; rfl
  rw [if_neg h2, if_neg h2, List.drop_drop, Option.map_map]
  congr 1
  funext n
  show n + 1 + _ = n + _ + 1
  omega
theorem regZ_end {s : List UInt8} (h0 : s ≠ []) (h : lineEnd (pt s) = false) (h47 : pt s = 47) : regZ false false s = some 0 := by
  unfold regZ
  rw [if_neg (by simp), regX_step _ _ h0, if_neg (by rw [h]; simp), if_neg (by omega), if_pos ⟨h47, rfl⟩]
theorem regZ_on {cls : Bool} {s : List UInt8} (h0 : s ≠ []) (h : lineEnd (pt s) = false) (h92 : ¬ pt s = 92) (h47 : ¬ (pt s = 47 ∧ cls = false)) : regZ cls false s = (regZ (if pt s = 91 then true else if pt s = 93 then false else cls) false (s.drop (pn s))).map (· + pn s) := by
  unfold regZ
  rw [if_neg (by simp), if_neg (by simp), regX_step _ _ h0, if_neg (by rw [h]; simp), if_neg h92, if_neg h47]
/-- where a walk stands: T's answer from place j on -/
def RgI (T : List UInt8) (j : Nat) (cls skip : Bool) : Prop := j ≤ T.length ∧ Cssp.valid (T.drop j) = true ∧ reg T = (regZ cls skip (T.drop j)).map (· + j)
theorem RgI.start {T : List UInt8} (hv : Cssp.valid T = true) : RgI T 0 false false := ⟨Nat.zero_le _, hv, regZ_start T⟩
theorem RgI.end {T : List UInt8} {cls skip : Bool} (h : RgI T T.length cls skip) : reg T = none := by
  have := h.2.2
  rw [List.drop_length, regZ_nil] at this
  exact this
theorem RgI.line {T : List UInt8} {j : Nat} {cls skip : Bool} (h : RgI T j cls skip) (h0 : T.drop j ≠ []) (hl : lineEnd (pt (T.drop j)) = true) : reg T = none := by
  rw [h.2.2, regZ_line h0 hl]; rfl
theorem RgI.move {T : List UInt8} {j : Nat} {c1 s1 c2 s2 : Bool} (h : RgI T j c1 s1) (h0 : T.drop j ≠ []) (he : regZ c1 s1 (T.drop j) = (regZ c2 s2 ((T.drop j).drop (pn (T.drop j)))).map (· + pn (T.drop j))) : RgI T (j + pn (T.drop j)) c2 s2 := by
  have hp := pn_le h0
  rw [List.length_drop] at hp
  refine ⟨by omega, ?_, ?_⟩
  · have := valid_pn h.2.1
    rwa [List.drop_drop] at this
  · rw [h.2.2, he, Option.map_map, List.drop_drop]
    congr 1
    funext n
    show n + _ + j = n + (j + _)
    omega
theorem RgI.skip {T : List UInt8} {j : Nat} {cls : Bool} (h : RgI T j cls true) (h0 : T.drop j ≠ []) (hl : lineEnd (pt (T.drop j)) = false) : RgI T (j + pn (T.drop j)) cls false := h.move h0 (regZ_skip h0 hl)
theorem get_of_pt {s : List UInt8} {j n : Nat} (h0 : s.drop j ≠ []) (hv : Cssp.valid (s.drop j) = true) (h : pt (s.drop j) = n) (hn : n < 128) : s[j]? = some (UInt8.ofNat n) ∧ pn (s.drop j) = 1 := by
  obtain ⟨c, r, hs, hc, hp⟩ := pt_small hv h0 (by rw [h]; exact hn)
  have hg : s[j]? = some c := by
    have := congrArg List.head? hs
    rw [List.head?_drop] at this
    exact this
  refine ⟨?_, hp⟩
  rw [hg, ← h, ← hc, UInt8.ofNat_toNat]
theorem RgI.back {T : List UInt8} {j : Nat} {cls : Bool} (h : RgI T j cls false) (h0 : T.drop j ≠ []) (hl : lineEnd (pt (T.drop j)) = false) (h92 : pt (T.drop j) = 92) : RgI T (j + pn (T.drop j)) cls true ∧ T[j]? = some 92 := by
  obtain ⟨h1, h2⟩ := get_of_pt h0 h.2.1 h92 (by decide)
  exact ⟨h.move h0 (regZ_back h0 hl h92 h2), h1⟩
theorem RgI.stop {T : List UInt8} {j : Nat} (h : RgI T j false false) (h0 : T.drop j ≠ []) (hl : lineEnd (pt (T.drop j)) = false) (h47 : pt (T.drop j) = 47) : reg T = some j ∧ T[j]? = some 47 := by
  refine ⟨?_, (get_of_pt h0 h.2.1 h47 (by decide)).1⟩
  rw [h.2.2, regZ_end h0 hl h47]
  show some (0 + j) = some j
  rw [Nat.zero_add]
theorem RgI.on {T : List UInt8} {j : Nat} {cls : Bool} (h : RgI T j cls false) (h0 : T.drop j ≠ []) (hl : lineEnd (pt (T.drop j)) = false) (h92 : ¬ pt (T.drop j) = 92) (h47 : ¬ (pt (T.drop j) = 47 ∧ cls = false)) : RgI T (j + pn (T.drop j)) (if pt (T.drop j) = 91 then true else if pt (T.drop j) = 93 then false else cls) false := h.move h0 (regZ_on h0 hl h92 h47)
end Jsp
end Go.Proofs.YtngccmlcopcghaaGreatDoor
namespace Go.Proofs.YtngccmlcopcghaaGreatDoor
namespace Jsp
open Go

theorem gapF_line : ∀ (f : Nat) (s : List UInt8) (g : Nat), gapF f s = .inl (g, true) → s.drop g = []
  | 0, s, g, h => by
    rw [gapF] at h
    injection h with h
    injection h with _ h
    cases h
  | f + 1, s, g, h => by
    have on : ∀ (n : Nat), (match gapF f (s.drop n) with
        | .inl (k, l) => (Sum.inl (k + n, l) : (Nat × Bool) ⊕ Nat)
        | .inr o => .inr (o + n)) = .inl (g, true) → s.drop g = [] := fun n hn => by
      cases hg : gapF f (s.drop n) with
      | inr o => rw [hg] at hn; cases hn
      | inl y =>
        obtain ⟨k, l⟩ := y
        rw [hg] at hn
        injection hn with hn
        injection hn with h1 h2
        subst h2
        have := gapF_line f (s.drop n) k hg
        rw [List.drop_drop] at this
        rw [← h1, Nat.add_comm k n]; exact this
    rw [gapF] at h
    split at h
    · injection h with h; injection h with _ h; cases h
    split at h
    · exact on _ h
    split at h
    · dsimp only at h
      split at h
      · rename_i hd
        injection h with h
        injection h with h _
        rw [← h]; exact hd
      · exact on _ h
    split at h
    · cases hs : shut (s.drop 2) with
      | none => rw [hs] at h; cases h
      | some n => rw [hs] at h; exact on _ h
    · injection h with h; injection h with _ h; cases h
theorem gap_line {s : List UInt8} {g : Nat} (h : gap s = .inl (g, true)) : s.drop g = [] := gapF_line _ s g h
theorem next_len {st st2 : St} {s : List UInt8} {x : Tk} {k : Nat} (hs : st.stk.length ≤ 200) (h : next st s = .ok x k st2) : st2.stk.length ≤ 200 := by
  have htm : ∀ {r : Rs}, tmpl st s = r → ∀ {x k st2}, r = .ok x k st2 → st2.stk.length ≤ 200 := by
    intro r hr x k st2 h
    subst hr
    have hp := pop_len hs
    have h1 : (if isB (· == 125) s = true then pop st else st).stk.length ≤ 200 := by split <;> assumption
    unfold tmpl at h
    dsimp only at h
    generalize (if isB (· == 125) s = true then pop st else st) = st1 at h h1
    split at h
    · split at h
      · cases h
      · split at h
        · cases h; exact h1
        · split at h
          · cases h
          · rename_i st3 hpu
            cases h
            exact (show st3.stk.length ≤ 200 from push_len h1 hpu)
    · cases h
  unfold next at h
  split at h
  · cases h; exact hs
  split at h
  · split at h
    · cases h
    · cases h; exact hs
  split at h
  · dsimp only at h
    split at h
    · cases h
    · cases h; exact hs
  split at h
  · cases hq : quote s with
    | inl r =>
      rw [hq] at h
      dsimp only at h
      unfold quote at hq
      split at hq
      · split at hq
        · cases hq
        · injection hq with hq; subst hq; cases h
      · injection hq with hq; subst hq; cases h
    | inr y => rw [hq] at h; cases h; exact hs
  split at h
  · exact htm h rfl
  split at h
  · split at h
    · cases h
    · cases h; exact hs
  · split at h
    · cases h
    · split at h
      · cases h
      · rename_i st3 hb
        cases h
        exact (show st3.stk.length ≤ 200 from bracket_len hs hb)
/-- the state, and what is left, where a token is wrong -/
def errF : Nat → St → List UInt8 → Option (St × List UInt8)
  | 0, _, _ => none
  | f + 1, st, s => match gap s with
    | .inr _ => none
    | .inl (g, _) => if s.drop g = [] then none else match next st (s.drop g) with
      | .no _ _ => some (st, s.drop g)
      | .ok _ k st2 => errF f st2 (s.drop (g + k))
theorem errF_fuel : ∀ (f g : Nat) (st : St) (s : List UInt8), Cssp.valid s = true → s.length < f → s.length < g → errF f st s = errF g st s
  | 0, _, _, _, _, h, _ => by omega
  | _, 0, _, _, _, _, h => by omega
  | f + 1, g + 1, st, s, hv, hf, hg => by
    rw [errF, errF]
    cases hgp : gap s with
    | inr o => rfl
    | inl y =>
      obtain ⟨j, ln⟩ := y
      simp only
      by_cases h1 : s.drop j = []
      · rw [if_pos h1, if_pos h1]
      · rw [if_neg h1, if_neg h1]
        obtain ⟨i1, i2, _, _⟩ := gap_sp (c0 := 32) (.inl rfl) [] s.length s j ln (Nat.le_refl _) hv hgp
        cases hn : next st (s.drop j) with
        | no e o => rfl
        | ok x k st2 =>
          simp only
          obtain ⟨_, n1, n2, n3⟩ := next_sp (c0 := 32) (.inl rfl) [] (s.drop j) st i2 h1 hn
          rw [List.drop_drop] at n3
          rw [List.length_drop] at n2
          exact errF_fuel f g st2 _ n3 (by rw [List.length_drop]; omega) (by rw [List.length_drop]; omega)
def errX (st : St) (s : List UInt8) : Option (St × List UInt8) := errF (s.length + 1) st s
def errOf (F : List UInt8) : Option (St × List UInt8) := errX st0 F
theorem errX_step (st : St) (s : List UInt8) (hv : Cssp.valid s = true) : errX st s = match gap s with
    | .inr _ => none
    | .inl (g, _) => if s.drop g = [] then none else match next st (s.drop g) with
      | .no _ _ => some (st, s.drop g)
      | .ok _ k st2 => errX st2 (s.drop (g + k)) := by
  conv => lhs; unfold errX
  rw [errF]
  cases hgp : gap s with
  | inr o => rfl
  | inl y =>
    obtain ⟨j, ln⟩ := y
    simp only
    by_cases h1 : s.drop j = []
    · rw [if_pos h1, if_pos h1]
    · rw [if_neg h1, if_neg h1]
      obtain ⟨i1, i2, _, _⟩ := gap_sp (c0 := 32) (.inl rfl) [] s.length s j ln (Nat.le_refl _) hv hgp
      cases hn : next st (s.drop j) with
      | no e o => rfl
      | ok x k st2 =>
        simp only
        obtain ⟨_, n1, n2, n3⟩ := next_sp (c0 := 32) (.inl rfl) [] (s.drop j) st i2 h1 hn
        rw [List.drop_drop] at n3
        rw [List.length_drop] at n2
        exact errF_fuel _ _ st2 _ n3 (by rw [List.length_drop]; omega) (Nat.lt_succ_self _)
/-- a token begins at a, or the end is there; p is where the last one ended; A the answer, E the state at an error -/
structure Hd (F : List UInt8) (l : List Tk) (st : St) (a : Nat) (ln : Bool) (p : Nat) (A : Al) (E : Option (St × List UInt8)) : Prop where
  le : p ≤ a
  al : a ≤ F.length
  va : Cssp.valid (F.drop a) = true
  vp : Cssp.valid (F.drop p) = true
  gp : gap (F.drop p) = .inl (a - p, ln)
  ans : lexX st (F.drop p) p l = A
  err : errX st (F.drop p) = E
  stk : st.stk.length ≤ 200
  len : l.length ≤ p
/-- what blanks leave, behind a token -/
def HdP (F : List UInt8) (l : List Tk) (st : St) (p : Nat) (A : Al) (E : Option (St × List UInt8)) : (Nat × Bool) ⊕ Nat → Prop
  | .inl (a, ln) => Hd F l st a ln p A E
  | .inr o => A = .no 175 o ∧ E = none
theorem HdP.of {F : List UInt8} {l : List Tk} {st : St} {p : Nat} {A : Al} {E : Option (St × List UInt8)} (hp : p ≤ F.length) (hv : Cssp.valid (F.drop p) = true) (ha : lexX st (F.drop p) p l = A) (he : errX st (F.drop p) = E) (hs : st.stk.length ≤ 200) (hl : l.length ≤ p) :
    HdP F l st p A E (Jsp.gp F p false) := by
  have hg : Jsp.gp F p false = gapOn p (gap (F.drop p)) := rfl
  rw [hg]
  cases h : gap (F.drop p) with
  | inr o =>
    rw [lexX_step _ _ _ _ hv, h] at ha
    rw [errX_step _ _ hv, h] at he
    refine ⟨?_, he.symm⟩
    rw [← ha, Nat.add_comm]
  | inl y =>
    obtain ⟨g, ln⟩ := y
    obtain ⟨i1, i2, _, _⟩ := gap_sp (c0 := 32) (.inl rfl) [] _ _ g ln (Nat.le_refl _) hv h
    rw [List.length_drop] at i1
    rw [List.drop_drop] at i2
    exact ⟨Nat.le_add_left _ _, by omega, by rw [Nat.add_comm]; exact i2, hv, by rw [h, Nat.add_sub_cancel], ha, he, hs, hl⟩
theorem lex_start (F : List UInt8) (hv : Cssp.valid F = true) : HdP F [] st0 0 (lex F) (errOf F) (Jsp.gp F 0 false) :=
  HdP.of (Nat.zero_le _) hv rfl rfl (Nat.zero_le _) (Nat.le_refl _)
section
variable {F : List UInt8} {l : List Tk} {st : St} {a : Nat} {ln : Bool} {p : Nat} {A : Al} {E : Option (St × List UInt8)}
theorem Hd.drop (h : Hd F l st a ln p A E) : (F.drop p).drop (a - p) = F.drop a := by rw [List.drop_drop]; congr 1; have := h.le; omega
theorem Hd.noLine (h : Hd F l st a ln p A E) (ha : a < F.length) : ln = false := by
  cases ln with
  | false => rfl
  | true =>
    have h1 := gap_line h.gp
    rw [h.drop] at h1
    have := congrArg List.length h1
    rw [List.length_drop, List.length_nil] at this
    omega
theorem Hd.end (h : Hd F l st a ln p A E) (ha : a = F.length) : A = .ok l st ln (decide (p = F.length) && match l.getLast? with
    | none => false
    | some x => wordy x) := by
  have := h.ans
  rw [lexX_step _ _ _ _ h.vp, h.gp] at this
  dsimp only at this
  rw [if_pos (by rw [h.drop]; exact List.drop_eq_nil_of_le (by omega))] at this
  have hle := h.le
  have e : (a - p == 0) = decide (p = F.length) := by
    rw [Bool.eq_iff_iff, beq_iff_eq, decide_eq_true_eq]; omega
  rw [e] at this
  exact this.symm
theorem Hd.ne (ha : a < F.length) : F.drop a ≠ [] := fun e => by
  have := congrArg List.length e
  rw [List.length_drop, List.length_nil] at this
  omega
theorem Hd.no (h : Hd F l st a ln p A E) (ha : a < F.length) {e o : Nat} (hn : next st (F.drop a) = .no e o) : A = .no e (a + o) ∧ E = some (st, F.drop a) := by
  have h1 := h.ans
  have h2 := h.err
  rw [lexX_step _ _ _ _ h.vp, h.gp] at h1
  rw [errX_step _ _ h.vp, h.gp] at h2
  dsimp only at h1 h2
  rw [h.drop, if_neg (Hd.ne ha), hn] at h1 h2
  have hle := h.le
  dsimp only at h1 h2
  refine ⟨?_, h2.symm⟩
  rw [← h1, show p + (a - p) + o = a + o by omega]
theorem Hd.ok (h : Hd F l st a ln p A E) (ha : a < F.length) {x : Tk} {k : Nat} {st2 : St} (hn : next st (F.drop a) = .ok x k st2) : 1 ≤ k ∧ a + k ≤ F.length ∧ Cssp.valid (F.drop (a + k)) = true ∧ HdP F (l ++ [x]) st2 (a + k) A E (Jsp.gp F (a + k) false) := by
  have h1 := h.ans
  have h2 := h.err
  rw [lexX_step _ _ _ _ h.vp, h.gp] at h1
  rw [errX_step _ _ h.vp, h.gp] at h2
  dsimp only at h1 h2
  rw [h.drop, if_neg (Hd.ne ha), hn] at h1 h2
  dsimp only at h1 h2
  have hle := h.le
  obtain ⟨_, n1, n2, n3⟩ := next_sp (c0 := 32) (.inl rfl) [] (F.drop a) st h.va (Hd.ne ha) hn
  rw [List.length_drop] at n2
  rw [List.drop_drop] at n3
  rw [List.drop_drop, show p + (a - p + k) = a + k by omega] at h1 h2
  rw [show p + (a - p) + k = a + k by omega] at h1
  have hln := h.len
  exact ⟨n1, by omega, n3, HdP.of (by omega) n3 h1 h2 (next_len h.stk hn) (by rw [List.length_append, List.length_singleton]; omega)⟩
end
end Jsp
end Go.Proofs.YtngccmlcopcghaaGreatDoor
