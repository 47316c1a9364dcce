/- Trees that may be show the same just if they are the same: the whole. -/
import Derived.Test.YtagkdmolgmhmdaaGreatDoorPu
namespace Go.Proofs.YtagkdmolgmhmdaaGreatDoor
open Go.RowKit

def Std (d : Dm.D) : Prop :=
  d = ⟨1, [], [], [], [], [], []⟩ ∨ (∃ nm pb sy, d = ⟨2, [], nm, [], [], pb, sy⟩) ∨ (∃ sp nm ats, d = ⟨3, sp, nm, ats, [], [], []⟩ ∧ sp ∈ Dm.spaces ∧ ∀ a ∈ ats, a.sp = [] ∨ a.sp ∈ Dm.aspaces) ∨
  (∃ tx, d = ⟨4, [], [], [], tx, [], []⟩) ∨ (∃ tx, d = ⟨5, [], [], [], tx, [], []⟩)
theorem attrs_std : ∀ {l : List Dm.A} {seen : List (List UInt8 × List UInt8)}, Dm.attrsOk seen l = true → ∀ a ∈ l, a.sp = [] ∨ a.sp ∈ Dm.aspaces
  | [], _, _, a, h => by cases h
  | x :: l, seen, h, a, ha => by
    rw [Dm.attrsOk] at h
    simp only [Bool.and_eq_true, Bool.or_eq_true, beq_iff_eq, List.contains_iff_mem] at h
    rcases List.mem_cons.1 ha with e | e
    · rw [e]; exact h.1.1.2
    · exact attrs_std h.2 a e
theorem std_of {d : Dm.D} {n : Nat} (h : Dm.headOk d n = true) : Std d := by
  obtain ⟨kd, sp, nm, ats, tx, pb, sy⟩ := d
  unfold Dm.headOk at h
  simp only [Bool.and_eq_true, Bool.not_eq_true'] at h
  obtain ⟨⟨⟨hf, ha⟩, h4⟩, h3⟩ := h
  unfold Dm.fieldsOk at hf
  simp only [Bool.and_eq_true, Bool.or_eq_true, beq_iff_eq] at hf
  obtain ⟨⟨⟨⟨⟨hk, f1⟩, f2⟩, f3⟩, f4⟩, f5⟩ := hf
  rcases hk with (((rfl | rfl) | rfl) | rfl) | rfl
  · simp at f1 f2 f3 f4
    obtain ⟨rfl, rfl⟩ := f1; obtain ⟨rfl, rfl⟩ := f4
    subst f2; subst f3
    exact .inl rfl
  · simp at f1 f3
    obtain ⟨rfl, rfl⟩ := f1
    subst f3
    exact .inr (.inl ⟨nm, pb, sy, rfl⟩)
  · simp at f3 f4
    obtain ⟨rfl, rfl⟩ := f4
    subst f3
    refine .inr (.inr (.inl ⟨sp, nm, ats, rfl, ?_, attrs_std ha⟩))
    simp at h3
    exact h3.2
  · simp at f1 f2 f4
    obtain ⟨rfl, rfl⟩ := f1; obtain ⟨rfl, rfl⟩ := f4
    subst f2
    exact .inr (.inr (.inr (.inl ⟨tx, rfl⟩)))
  · simp at f1 f2 f4
    obtain ⟨rfl, rfl⟩ := f1; obtain ⟨rfl, rfl⟩ := f4
    subst f2
    exact .inr (.inr (.inr (.inr ⟨tx, rfl⟩)))
theorem no58 {s : List UInt8} (h : s ∈ Dm.spaces ∨ s = [] ∨ s ∈ Dm.aspaces) : 58 ∉ bareP s := by
  have key : ∀ x ∈ ([] :: Dm.spaces ++ Dm.aspaces), 58 ∉ bareP x := by decide +kernel
  apply key
  rcases h with h | h | h
  · simp [h]
  · simp [h]
  · simp [h]
theorem quoted_inj {s t : List UInt8} (h : quotedP s = quotedP t) : s = t := by
  unfold quotedP at h
  simp at h
  exact bareP_inj h
theorem quoted_pre {s t x y : List UInt8} (h : quotedP s ++ x = quotedP t ++ y) : s = t ∧ x = y := by
  unfold quotedP at h
  simp only [List.cons_append, List.append_assoc, List.cons.injEq, true_and, List.nil_append] at h
  obtain ⟨h1, h2⟩ := split_at (bareP_34 s) (bareP_34 t) h
  exact ⟨bareP_inj h1, h2⟩
theorem atB_inj {a b : Dm.A} (ha : a.sp = [] ∨ a.sp ∈ Dm.aspaces) (hb : b.sp = [] ∨ b.sp ∈ Dm.aspaces) (h : atB a = atB b) : a = b := by
  unfold atB at h
  simp only [List.cons.injEq, true_and] at h
  obtain ⟨h1, h2⟩ := split_at (no58 (.inr ha)) (no58 (.inr hb)) h
  have h3 : (bareP a.nm ++ [61]) ++ 34 :: (bareP a.vl ++ [34]) = (bareP b.nm ++ [61]) ++ 34 :: (bareP b.vl ++ [34]) := by
    simpa [quotedP] using h2
  obtain ⟨h4, h5⟩ := split_at (by simp [bareP_34]) (by simp [bareP_34]) h3
  cases a; cases b
  simp only at h1 h4 h5
  simp at h4 h5
  rw [bareP_inj h1, bareP_inj h4, bareP_inj h5]
theorem hdB_inj {d e : Dm.D} (hd : Std d) (he : Std e) (h : hdB d = hdB e) : d.kd = e.kd ∧ (d.ats = e.ats → d = e) := by
  rcases hd with rfl | ⟨nm, pb, sy, rfl⟩ | ⟨sp, nm, ats, rfl, hsp, _⟩ | ⟨tx, rfl⟩ | ⟨tx, rfl⟩ <;>
  rcases he with rfl | ⟨nm', pb', sy', rfl⟩ | ⟨sp', nm', ats', rfl, hsp', _⟩ | ⟨tx', rfl⟩ | ⟨tx', rfl⟩ <;>
  simp [hdB, partsD, wDoc, quotedP] at h
  · exact ⟨rfl, fun _ => rfl⟩
  · refine ⟨rfl, fun _ => ?_⟩
    have h1 : quotedP nm ++ (32 :: (quotedP pb ++ (32 :: quotedP sy))) = quotedP nm' ++ (32 :: (quotedP pb' ++ (32 :: quotedP sy'))) := by simpa [quotedP] using h
    obtain ⟨e1, h2⟩ := quoted_pre h1
    simp only [List.cons.injEq, true_and] at h2
    obtain ⟨e2, h3⟩ := quoted_pre h2
    simp only [List.cons.injEq, true_and] at h3
    rw [e1, e2, quoted_inj h3]
  · refine ⟨rfl, fun ha => ?_⟩
    obtain ⟨e1, e2⟩ := split_at (no58 (.inl hsp)) (no58 (.inl hsp')) h
    simp only at ha
    rw [bareP_inj e1, bareP_inj e2, ha]
  · exact ⟨rfl, fun _ => by rw [bareP_inj h]⟩
  · exact ⟨rfl, fun _ => by rw [bareP_inj h]⟩
theorem good_hd {d : Dm.D} (hd : Std d) (k : Nat) : Good (k, hdB d) ∧ ∀ r, hdB d ≠ 64 :: r := by
  rcases hd with rfl | ⟨nm, pb, sy, rfl⟩ | ⟨sp, nm, ats, rfl, _⟩ | ⟨tx, rfl⟩ | ⟨tx, rfl⟩ <;>
  refine ⟨⟨?_, ?_⟩, ?_⟩ <;> simp [hdB, partsD, wDoc, quotedP, bareP_10]
theorem good_at (a : Dm.A) (k : Nat) : Good (k, atB a) := ⟨⟨64, _, rfl, by decide⟩, by simp [atB, quotedP, bareP_10]⟩
/-- what comes next stands no deeper than k -/
def Low (k : Nat) (r : List Ln) : Prop := ∀ p s, r = p :: s → p.1 ≤ k
def NoAt (r : List Ln) : Prop := ∀ p s, r = p :: s → ∀ x, p.2 ≠ 64 :: x
theorem ats_split {k : Nat} : ∀ {A B : List Dm.A} {x y : List Ln}, (∀ a ∈ A, a.sp = [] ∨ a.sp ∈ Dm.aspaces) → (∀ a ∈ B, a.sp = [] ∨ a.sp ∈ Dm.aspaces) → NoAt x → NoAt y → (A.map fun a => (k, atB a)) ++ x = (B.map fun a => (k, atB a)) ++ y → A = B ∧ x = y
  | [], [], x, y, _, _, _, _, h => ⟨rfl, by simpa using h⟩
  | [], b :: B, x, y, _, _, hx, _, h => by
    simp only [List.map_nil, List.nil_append, List.map_cons, List.cons_append] at h
    exact absurd rfl (hx _ _ h _)
  | a :: A, [], x, y, _, _, _, hy, h => by
    simp only [List.map_nil, List.nil_append, List.map_cons, List.cons_append] at h
    exact absurd rfl (hy _ _ h.symm _)
  | a :: A, b :: B, x, y, hA, hB, hx, hy, h => by
    simp only [List.map_cons, List.cons_append, List.cons.injEq, Prod.mk.injEq, true_and] at h
    obtain ⟨h1, h2⟩ := h
    have e := atB_inj (hA a (by simp)) (hB b (by simp)) h1
    obtain ⟨h3, h4⟩ := ats_split (fun z hz => hA z (by simp [hz])) (fun z hz => hB z (by simp [hz])) hx hy h2
    exact ⟨by rw [e, h3], h4⟩
theorem may_parts {d : Dm.D} {ks : List Dm.T} (h : (Dm.T.mk d ks).may = true) : Std d ∧ ∀ t ∈ ks, t.may = true := by
  rw [Dm.T.may] at h
  simp only [Bool.and_eq_true] at h
  refine ⟨std_of h.1.1, fun t ht => ?_⟩
  have key : ∀ l : List Dm.T, Dm.mayK l = true → ∀ t ∈ l, t.may = true := by
    intro l
    induction l with
    | nil => intro _ t ht; cases ht
    | cons a r ih =>
      intro hl t ht
      rw [Dm.mayK] at hl
      simp only [Bool.and_eq_true] at hl
      rcases List.mem_cons.1 ht with e | e
      · rw [e]; exact hl.1
      · exact ih hl.2 t e
  exact key ks h.2 t ht
theorem lines_head (k : Nat) (t : Dm.T) : ∃ r, lines k t = (k, hdB t.d) :: r := by
  cases t with
  | mk d ks => rw [lines]; exact ⟨_, rfl⟩
theorem linesK_head {k : Nat} {ks : List Dm.T} {ra : List Ln} (hm : ∀ t ∈ ks, t.may = true) (hr : Low (k - 1) ra ∧ NoAt ra) : Low k (linesK k ks ++ ra) ∧ NoAt (linesK k ks ++ ra) := by
  cases ks with
  | nil =>
    rw [linesK, List.nil_append]
    exact ⟨fun p s e => by have := hr.1 p s e; omega, hr.2⟩
  | cons t r =>
    rw [linesK]
    obtain ⟨q, hq⟩ := lines_head k t
    rw [hq]
    have hs : Std t.d := by
      have := hm t (by simp)
      rw [← t.eta] at this
      exact (may_parts this).1
    refine ⟨fun p s e => ?_, fun p s e x => ?_⟩
    · simp only [List.cons_append, List.cons.injEq] at e
      rw [← e.1]
      exact Nat.le_refl _
    · simp only [List.cons_append, List.cons.injEq] at e
      rw [← e.1]
      exact (good_hd hs k).2 x
theorem tree_inj (t : Dm.T) : ∀ (u : Dm.T) (k : Nat) (ra rb : List Ln), t.may = true → u.may = true → Low k ra → NoAt ra → Low k rb → NoAt rb → lines k t ++ ra = lines k u ++ rb → t = u ∧ ra = rb := by
  refine Dm.T.induct (C := fun t => ∀ (u : Dm.T) (k : Nat) (ra rb : List Ln), t.may = true → u.may = true → Low k ra → NoAt ra → Low k rb → NoAt rb → lines k t ++ ra = lines k u ++ rb → t = u ∧ ra = rb) (fun d ks ih u k ra rb ht hu h1 h2 h3 h4 h => ?_) t
  obtain ⟨e, ls⟩ := u
  obtain ⟨sd, md⟩ := may_parts ht
  obtain ⟨se, me⟩ := may_parts hu
  have kids : ∀ (ks : List Dm.T), (∀ t ∈ ks, ∀ (u : Dm.T) (k : Nat) (ra rb : List Ln), t.may = true → u.may = true → Low k ra → NoAt ra → Low k rb → NoAt rb → lines k t ++ ra = lines k u ++ rb → t = u ∧ ra = rb) → (∀ t ∈ ks, t.may = true) → ∀ (ls : List Dm.T), (∀ t ∈ ls, t.may = true) →
      linesK (k + 1) ks ++ ra = linesK (k + 1) ls ++ rb → ks = ls ∧ ra = rb := by
    intro ks
    induction ks with
    | nil =>
      intro _ _ ls ml h
      cases ls with
      | nil => exact ⟨rfl, by simpa [linesK] using h⟩
      | cons u s =>
        rw [linesK, linesK] at h
        obtain ⟨q, hq⟩ := lines_head (k + 1) u
        rw [hq] at h
        simp only [List.nil_append, List.cons_append] at h
        have := h1 _ _ h
        simp at this
        omega
    | cons t r ihr =>
      intro iht mk ls ml h
      cases ls with
      | nil =>
        rw [linesK, linesK] at h
        obtain ⟨q, hq⟩ := lines_head (k + 1) t
        rw [hq] at h
        simp only [List.nil_append, List.cons_append] at h
        have := h3 _ _ h.symm
        simp at this
        omega
      | cons u s =>
        rw [linesK, linesK, List.append_assoc, List.append_assoc] at h
        have mr : ∀ x ∈ r, x.may = true := fun x hx => mk x (by simp [hx])
        have ms : ∀ x ∈ s, x.may = true := fun x hx => ml x (by simp [hx])
        have l1 := linesK_head (k := k + 1) mr ⟨h1, h2⟩
        have l2 := linesK_head (k := k + 1) ms ⟨h3, h4⟩
        obtain ⟨e1, e2⟩ := iht t (by simp) u (k + 1) _ _ (mk t (by simp)) (ml u (by simp)) l1.1 l1.2 l2.1 l2.2 h
        obtain ⟨e3, e4⟩ := ihr (fun x hx => iht x (by simp [hx])) mr s ms e2
        exact ⟨by rw [e1, e3], e4⟩
  rw [lines, lines] at h
  simp only [List.cons_append, List.cons.injEq, Prod.mk.injEq, true_and, List.append_assoc] at h
  obtain ⟨hh, hrest⟩ := h
  obtain ⟨hk, hd⟩ := hdB_inj sd se hh
  have n1 := (linesK_head (k := k + 1) md ⟨h1, h2⟩).2
  have n2 := (linesK_head (k := k + 1) me ⟨h3, h4⟩).2
  have hats : d.ats = e.ats ∧ linesK (k + 1) ks ++ ra = linesK (k + 1) ls ++ rb := by
    by_cases k3 : d.kd = 3
    · rw [if_pos k3, if_pos (hk ▸ k3)] at hrest
      have a1 : ∀ a ∈ d.ats, a.sp = [] ∨ a.sp ∈ Dm.aspaces := by
        rcases sd with rfl | ⟨nm, pb, sy, rfl⟩ | ⟨sp, nm, ats, rfl, _, h⟩ | ⟨tx, rfl⟩ | ⟨tx, rfl⟩ <;> first | exact h | (intro a ha; cases ha)
      have a2 : ∀ a ∈ e.ats, a.sp = [] ∨ a.sp ∈ Dm.aspaces := by
        rcases se with rfl | ⟨nm, pb, sy, rfl⟩ | ⟨sp, nm, ats, rfl, _, h⟩ | ⟨tx, rfl⟩ | ⟨tx, rfl⟩ <;> first | exact h | (intro a ha; cases ha)
      exact ats_split a1 a2 n1 n2 hrest
    · rw [if_neg k3, if_neg (hk ▸ k3)] at hrest
      refine ⟨?_, by simpa using hrest⟩
      rcases sd with rfl | ⟨nm, pb, sy, rfl⟩ | ⟨sp, nm, ats, rfl, _, h⟩ | ⟨tx, rfl⟩ | ⟨tx, rfl⟩ <;>
      rcases se with rfl | ⟨nm', pb', sy', rfl⟩ | ⟨sp', nm', ats', rfl, _, h'⟩ | ⟨tx', rfl⟩ | ⟨tx', rfl⟩ <;> first | rfl | (exact absurd rfl k3) | (simp at hk)
  obtain ⟨e1, e2⟩ := kids ks ih md ls me hats.2
  exact ⟨by rw [hd hats.1, e1], e2⟩
theorem lines_good (t : Dm.T) : ∀ k, t.may = true → ∀ p ∈ lines k t, Good p := by
  refine Dm.T.induct (C := fun t => ∀ k, t.may = true → ∀ p ∈ lines k t, Good p) (fun d ks ih k hm p hp => ?_) t
  obtain ⟨sd, md⟩ := may_parts hm
  rw [lines] at hp
  rcases List.mem_cons.1 hp with e | hp
  · rw [e]; exact (good_hd sd k).1
  · rcases List.mem_append.1 hp with hp | hp
    · split at hp
      · obtain ⟨a, _, rfl⟩ := List.mem_map.1 hp
        exact good_at a _
      · cases hp
    · have key : ∀ l : List Dm.T, (∀ t ∈ l, t ∈ ks) → ∀ p ∈ linesK (k + 1) l, Good p := by
        intro l
        induction l with
        | nil => intro _ p hp; rw [linesK] at hp; cases hp
        | cons a r ihr =>
          intro hl p hp
          rw [linesK] at hp
          rcases List.mem_append.1 hp with hp | hp
          · exact ih a (hl a (by simp)) (k + 1) (md a (hl a (by simp))) p hp
          · exact ihr (fun x hx => hl x (by simp [hx])) p hp
      exact key ks (fun _ h => h) p hp
theorem unlike {a b : Dm.T} (ha : a.may = true) (hb : b.may = true) : (showT [] a == showT [] b) = a.same b := by
  rw [Bool.eq_iff_iff, beq_iff_eq, Dm.T.same_iff]
  refine ⟨fun h => ?_, fun h => by rw [h]⟩
  have e : sps 0 = [] := rfl
  rw [← e, show_render, show_render] at h
  have hl := render_inj (lines_good a 0 ha) (lines_good b 0 hb) h
  exact (tree_inj a b 0 [] [] ha hb (fun _ _ e => by cases e) (fun _ _ e => by cases e) (fun _ _ e => by cases e) (fun _ _ e => by cases e) (by rw [hl])).1
end Go.Proofs.YtagkdmolgmhmdaaGreatDoor
