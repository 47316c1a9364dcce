/- Trees that may be show the same just if they are the same. -/
import Derived.Test.YtagkdmolgmhmdaaGreatDoorPs
namespace Go.Proofs.YtagkdmolgmhmdaaGreatDoor
open Go.RowKit

/-! ### what is laid bare, read back -/
theorem bareB_lit {c : UInt8} (h : c ≠ 34 ∧ c ≠ 92 ∧ 32 ≤ c.toNat) : bareB c = [c] := by unfold bareB; rw [if_pos h]
theorem bareB_esc {c : UInt8} (h : ¬ (c ≠ 34 ∧ c ≠ 92 ∧ 32 ≤ c.toNat)) : bareB c = [92, 48 + c / 64, 48 + (c / 8) % 8, 48 + c % 8] := by unfold bareB; rw [if_neg h]
theorem digits_inj : ∀ n, n < 256 → ∀ m, m < 256 → (48 + UInt8.ofNat n / 64 = 48 + UInt8.ofNat m / 64) → (48 + (UInt8.ofNat n / 8) % 8 = 48 + (UInt8.ofNat m / 8) % 8) → (48 + UInt8.ofNat n % 8 = 48 + UInt8.ofNat m % 8) → n = m := by
  intro n hn m hm h1 h2 h3
  have e1 := congrArg UInt8.toNat h1
  have e2 := congrArg UInt8.toNat h2
  have e3 := congrArg UInt8.toNat h3
  simp [UInt8.toNat_add, UInt8.toNat_div, UInt8.toNat_mod] at e1 e2 e3
  omega
theorem bareB_pre {c d : UInt8} {x y : List UInt8} (h : bareB c ++ x = bareB d ++ y) : c = d ∧ x = y := by
  by_cases hc : c ≠ 34 ∧ c ≠ 92 ∧ 32 ≤ c.toNat
  · rw [bareB_lit hc] at h
    by_cases hd : d ≠ 34 ∧ d ≠ 92 ∧ 32 ≤ d.toNat
    · rw [bareB_lit hd] at h
      simpa using h
    · rw [bareB_esc hd] at h
      simp at h
      exact absurd h.1 hc.2.1
  · rw [bareB_esc hc] at h
    by_cases hd : d ≠ 34 ∧ d ≠ 92 ∧ 32 ≤ d.toNat
    · rw [bareB_lit hd] at h
      simp at h
      exact absurd h.1.symm hd.2.1
    · rw [bareB_esc hd] at h
      simp only [List.cons_append, List.nil_append, List.cons.injEq, true_and] at h
      obtain ⟨h1, h2, h3, h4⟩ := h
      have := digits_inj c.toNat c.toNat_lt d.toNat d.toNat_lt (by simpa using h1) (by simpa using h2) (by simpa using h3)
      refine ⟨?_, h4⟩
      rw [← UInt8.ofNat_toNat (x := c), this, UInt8.ofNat_toNat]
theorem bareB_ne (c : UInt8) : bareB c ≠ [] := by
  unfold bareB; split <;> simp
theorem bareP_cons (c : UInt8) (s : List UInt8) : bareP (c :: s) = bareB c ++ bareP s := by simp [bareP]
theorem bareP_inj : ∀ {s t : List UInt8}, bareP s = bareP t → s = t
  | [], [], _ => rfl
  | [], d :: t, h => by
    rw [bareP_cons] at h
    have h2 := (List.append_eq_nil_iff.1 h.symm).1
    exact absurd h2 (bareB_ne d)
  | c :: s, [], h => by
    rw [bareP_cons] at h
    have h2 := (List.append_eq_nil_iff.1 h).1
    exact absurd h2 (bareB_ne c)
  | c :: s, d :: t, h => by
    rw [bareP_cons, bareP_cons] at h
    obtain ⟨e1, h2⟩ := bareB_pre h
    rw [e1, bareP_inj h2]
theorem bareB_mem {c x : UInt8} (h : x ∈ bareB c) : x ≠ 34 ∧ x ≠ 10 := by
  by_cases hc : c ≠ 34 ∧ c ≠ 92 ∧ 32 ≤ c.toNat
  · rw [bareB_lit hc] at h
    simp at h
    subst h
    exact ⟨hc.1, fun e => by rw [e] at hc; exact absurd hc.2.2 (by decide)⟩
  · rw [bareB_esc hc] at h
    have hx : 48 ≤ x.toNat ∨ x = 92 := by
      simp only [List.mem_cons, List.not_mem_nil, or_false] at h
      rcases h with rfl | rfl | rfl | rfl
      · exact .inr rfl
      · left
        have := c.toNat_lt
        simp [UInt8.toNat_add, UInt8.toNat_div]
        omega
      · left
        simp [UInt8.toNat_add, UInt8.toNat_div, UInt8.toNat_mod]
        omega
      · left
        simp [UInt8.toNat_add, UInt8.toNat_mod]
        omega
    rcases hx with hx | rfl
    · exact ⟨fun e => by rw [e] at hx; exact absurd hx (by decide), fun e => by rw [e] at hx; exact absurd hx (by decide)⟩
    · exact ⟨by decide, by decide⟩
theorem bareP_34 (s : List UInt8) : 34 ∉ bareP s := fun h => by
  obtain ⟨c, _, hc⟩ := List.mem_flatMap.1 h
  exact (bareB_mem hc).1 rfl
theorem bareP_10 (s : List UInt8) : 10 ∉ bareP s := fun h => by
  obtain ⟨c, _, hc⟩ := List.mem_flatMap.1 h
  exact (bareB_mem hc).2 rfl
/-- parted at the first c -/
theorem split_at {c : UInt8} : ∀ {a b x y : List UInt8}, c ∉ a → c ∉ b → a ++ c :: x = b ++ c :: y → a = b ∧ x = y
  | [], [], x, y, _, _, h => by simpa using h
  | [], d :: b, x, y, _, hb, h => by
    simp at h
    exact absurd (h.1 ▸ List.mem_cons_self) hb
  | d :: a, [], x, y, ha, _, h => by
    simp at h
    exact absurd (h.1 ▸ List.mem_cons_self) ha
  | d :: a, e :: b, x, y, ha, hb, h => by
    simp only [List.cons_append, List.cons.injEq] at h
    obtain ⟨rfl, h⟩ := h
    obtain ⟨rfl, rfl⟩ := split_at (fun m => ha (List.mem_cons_of_mem _ m)) (fun m => hb (List.mem_cons_of_mem _ m)) h
    exact ⟨rfl, rfl⟩

/-! ### lines -/
abbrev Ln := Nat × List UInt8
def sps (k : Nat) : List UInt8 := List.replicate (2 * k) 32
def render (l : List Ln) : List UInt8 := l.flatMap fun p => sps p.1 ++ (p.2 ++ [10])
def Good (p : Ln) : Prop := (∃ c r, p.2 = c :: r ∧ c ≠ 32) ∧ 10 ∉ p.2
theorem reps_inj : ∀ {i j : Nat} {c d : UInt8} {x y : List UInt8}, c ≠ 32 → d ≠ 32 → List.replicate i 32 ++ c :: x = List.replicate j 32 ++ d :: y → i = j ∧ c = d ∧ x = y
  | 0, 0, c, d, x, y, _, _, h => by simpa using h
  | 0, j + 1, c, d, x, y, hc, _, h => by simp [List.replicate_succ] at h; exact absurd h.1 hc
  | i + 1, 0, c, d, x, y, _, hd, h => by simp [List.replicate_succ] at h; exact absurd h.1.symm hd
  | i + 1, j + 1, c, d, x, y, hc, hd, h => by
    simp only [List.replicate_succ, List.cons_append, List.cons.injEq, true_and] at h
    obtain ⟨e, h2, h3⟩ := reps_inj hc hd h
    exact ⟨by omega, h2, h3⟩
theorem render_inj : ∀ {l m : List Ln}, (∀ p ∈ l, Good p) → (∀ p ∈ m, Good p) → render l = render m → l = m
  | [], [], _, _, _ => rfl
  | [], q :: m, _, _, h => by simp [render] at h
  | p :: l, [], _, _, h => by simp [render] at h
  | p :: l, q :: m, hl, hm, h => by
    obtain ⟨⟨c, r, e1, hc⟩, h10⟩ := hl p (by simp)
    obtain ⟨⟨d, s, e2, hd⟩, h10'⟩ := hm q (by simp)
    have hr : render (p :: l) = sps p.1 ++ (p.2 ++ 10 :: render l) := by simp [render]
    have hr' : render (q :: m) = sps q.1 ++ (q.2 ++ 10 :: render m) := by simp [render]
    rw [hr, hr', e1, e2] at h
    obtain ⟨k1, k2, k3⟩ := reps_inj hc hd (by simpa [sps] using h)
    have hk : p.1 = q.1 := by omega
    subst k2
    have hsp := split_at (c := 10) (a := c :: r) (b := c :: s) (by rw [← e1]; exact h10) (by rw [← e2]; exact h10') (by rw [List.cons_append, List.cons_append, k3])
    have e3 : p = q := Prod.ext hk (by rw [e1, e2, hsp.1])
    rw [e3, render_inj (fun x hx => hl x (by simp [hx])) (fun x hx => hm x (by simp [hx])) hsp.2]
def atB (a : Dm.A) : List UInt8 := 64 :: (bareP a.sp ++ 58 :: (bareP a.nm ++ 61 :: quotedP a.vl))
def hdB (d : Dm.D) : List UInt8 := (partsD d).flatten
mutual
def lines (k : Nat) : Dm.T → List Ln
  | .mk d ks => (k, hdB d) :: ((if d.kd = 3 then d.ats.map fun a => (k + 1, atB a) else []) ++ linesK (k + 1) ks)
def linesK (k : Nat) : List Dm.T → List Ln
  | [] => []
  | t :: r => lines k t ++ linesK k r
end
theorem render_append (l m : List Ln) : render (l ++ m) = render l ++ render m := by simp [render]
theorem sps_two (k : Nat) : sps k ++ [32, 32] = sps (k + 1) := by
  unfold sps
  rw [show 2 * (k + 1) = 2 * k + 2 by omega, ← List.replicate_append_replicate]
  rfl
theorem line_at_ (k : Nat) (a : Dm.A) : lineP (sps k) (partsA a) = render [(k + 1, atB a)] := by
  simp only [render, List.flatMap_cons, List.flatMap_nil, List.append_nil, ← sps_two, lineP, partsA, atB, List.flatten_cons, List.flatten_nil, List.append_assoc, List.cons_append, List.nil_append]
theorem linesA_render (k : Nat) (l : List Dm.A) : linesA (sps k) l = render (l.map fun a => (k + 1, atB a)) := by
  induction l with
  | nil => rfl
  | cons a l ih =>
    have e : linesA (sps k) (a :: l) = lineP (sps k) (partsA a) ++ linesA (sps k) l := by simp [linesA]
    rw [e, ih, line_at_, ← render_append]
    rfl
theorem showK_render_of {ks : List Dm.T} (ih : ∀ t ∈ ks, ∀ k, showT (sps k) t = render (lines k t)) (k : Nat) : showK (sps k) ks = render (linesK k ks) := by
  induction ks with
  | nil => simp [showK, linesK, render]
  | cons t r ih2 =>
    rw [showK, linesK, render_append, ih t (by simp) k, ih2 fun x hx => ih x (by simp [hx])]
theorem show_render (t : Dm.T) : ∀ k, showT (sps k) t = render (lines k t) := by
  refine Dm.T.induct (C := fun t => ∀ k, showT (sps k) t = render (lines k t)) (fun d ks ih k => ?_) t
  rw [showT, lines, sps_two, showK_render_of ih]
  have e1 : lineP (sps k) (partsD d) = render [(k, hdB d)] := by simp [render, lineP, hdB]
  rw [headP, e1]
  have e2 : (if d.kd = 3 then linesA (sps k) d.ats else []) = render (if d.kd = 3 then d.ats.map fun a => (k + 1, atB a) else []) := by
    split
    · exact linesA_render k d.ats
    · rfl
  rw [e2, ← render_append, ← render_append]
  rfl
end Go.Proofs.YtagkdmolgmhmdaaGreatDoor
