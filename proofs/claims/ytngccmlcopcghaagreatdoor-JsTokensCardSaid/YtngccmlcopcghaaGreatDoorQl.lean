/- Plain: blanks and comments, at places of a script. No program in sight. -/
import Derived.Test.YtngccmlcopcghaaGreatDoorQb
import Derived.Lib.CutLaws
import Derived.Lib.ReplaceLaws
import Derived.Lib.CountLaws
import Derived.Test.YtngccmlcopcghaaGreatDoorPs
set_option maxRecDepth 100000
set_option maxHeartbeats 8000000
namespace Go.Proofs.YtngccmlcopcghaaGreatDoor
namespace Jsp
open Go
theorem first_split (c : UInt8) : ∀ s : List UInt8, c ∈ s -> ∃ a r, s = a ++ c :: r /\ c ∉ a
 | [], h => by cases h
 | x :: s, h => by
  by_cases hx : x = c
  ·exact ⟨[], s, by rw [hx]; rfl, by simp⟩
  ·obtain ⟨a, r, h1, h2⟩ := first_split c s (by
    rcases List.mem_cons.1 h with h | h
    ·exact absurd h.symm hx
    ·exact h)
   refine ⟨x :: a, r, by rw [h1]; rfl, fun h => ?_⟩
   rcases List.mem_cons.1 h with h | h
   ·exact hx h.symm
   ·exact h2 h
theorem index_one (c : UInt8) : ∀ s : List UInt8, (c ∉ s -> Lib.index s [c] = -1) /\ ∀ a r, s = a ++ c :: r -> c ∉ a -> Lib.index s [c] = (a.length : Int)
 | [] => ⟨fun _ => rfl, fun a r h => by cases a <;> cases h⟩
 | x :: s => by
  obtain ⟨h1, h2⟩ := index_one c s
  have hpre : [c].isPrefixOf (x :: s) = decide (x = c) := by
   rw [Bool.eq_iff_iff]
   simp [List.isPrefixOf]
   exact ⟨fun h => h.symm, fun h => h.symm⟩
  refine ⟨fun h => ?_, fun a r h ha => ?_⟩
  ·have hx : ¬ x = c := fun e => h (by rw [e]; exact List.mem_cons_self)
   rw [Lib.index, hpre, decide_eq_false hx, h1 (fun e => h (List.mem_cons_of_mem _ e))]
   rfl
  ·cases a with
   | nil =>
    injection h with h3 h4
    rw [Lib.index, hpre, decide_eq_true h3]
    rfl
   | cons y a =>
    injection h with h3 h4
    have hx : ¬ x = c := fun e => ha (by rw [<- h3, e]; exact List.mem_cons_self)
    rw [Lib.index, hpre, decide_eq_false hx, h2 a r h4 (fun e => ha (List.mem_cons_of_mem _ e))]
    have : ((a.length : Int) == -1) = false := by rw [beq_eq_false_iff_ne]; omega
    simp [this]
theorem cut_one (c : UInt8) (s : List UInt8) : (c ∉ s /\ Lib.cut s [c] = (s, [], false)) \/ ∃ a r, s = a ++ c :: r /\ c ∉ a /\ Lib.cut s [c] = (a, r, true) := by
 by_cases h : c ∈ s
 ·obtain ⟨a, r, h1, h2⟩ := first_split c s h
  refine .inr ⟨a, r, h1, h2, ?_⟩
  unfold Lib.cut
  rw [(index_one c s).2 a r h1 h2, if_pos (by omega), Int.toNat_natCast]
  have e1 : s.take a.length = a := by rw [h1, List.take_left]
  have e2 : s.drop (a.length + 1) = r := by rw [h1, <- List.drop_drop, List.drop_left]; rfl
  rw [e1]
  show (a, s.drop (a.length + 1), true) = _
  rw [e2]
 ·refine .inl ⟨h, ?_⟩
  unfold Lib.cut
  rw [(index_one c s).1 h, if_neg (by decide)]
theorem runH_pre : ∀ (a X : List UInt8), (∀ c ∈ a, ¬ hexV c < 0) -> runH (a ++ X) = a.length + runH X
 | [], X, _ => by simp
 | c :: a, X, h => by
  rw [List.cons_append, runH, if_neg (h c List.mem_cons_self), runH_pre a X (fun d hd => h d (List.mem_cons_of_mem _ hd)), List.length_cons]
  omega
theorem runH_stop : ∀ (a X : List UInt8), (∃ c ∈ a, hexV c < 0) -> runH (a ++ X) < a.length /\ ∃ c, (a ++ X)[runH (a ++ X)]? = some c /\ c ∈ a /\ hexV c < 0
 | [], _, h => by obtain ⟨c, hc, _⟩ := h; cases hc
 | c :: a, X, h => by
  by_cases hc : hexV c < 0
  ·rw [List.cons_append, runH, if_pos hc]
   exact ⟨by simp, c, by simp, List.mem_cons_self, hc⟩
  ·obtain ⟨d, hd, hd2⟩ := h
   have : ∃ d ∈ a, hexV d < 0 := by
    rcases List.mem_cons.1 hd with rfl | hd
    ·exact absurd hd2 hc
    ·exact ⟨d, hd, hd2⟩
   obtain ⟨h1, e, h2, h3, h4⟩ := runH_stop a X this
   rw [List.cons_append, runH, if_neg hc]
   exact ⟨by simp only [List.length_cons]; omega, e, by simpa using h2, List.mem_cons_of_mem _ h3, h4⟩
theorem hexStep_bad : ∀ (l : List UInt8) (n : Nat), (∃ c ∈ l, hexV c < 0) -> l.foldl hexStep (some n) = none
 | [], _, h => by obtain ⟨c, hc, _⟩ := h; cases hc
 | c :: l, n, h => by
  rw [List.foldl_cons]
  by_cases hc : hexV c < 0
  ·have : hexStep (some n) c = none := by unfold hexStep; simp only; rw [if_pos hc]
   rw [this, hexStep_none]
  ·have : hexStep (some n) c = some (n * 16 + (hexV c).toNat) := by unfold hexStep; simp only; rw [if_neg hc]
   rw [this]
   obtain ⟨d, hd, hd2⟩ := h
   refine hexStep_bad l _ ?_
   rcases List.mem_cons.1 hd with rfl | hd
   ·exact absurd hd2 hc
   ·exact ⟨d, hd, hd2⟩
theorem hexN_bad (l : List UInt8) (h : ∃ c ∈ l, hexV c < 0) : hexN l = none := by
 rw [hexN_eq]
 split
 ·rfl
 ·exact hexStep_bad l 0 h
theorem isB_getElem (p : UInt8 -> Bool) (s : List UInt8) (k : Nat) : isB p (s.drop k) = match s[k]? with
  | none => false
  | some c => p c := by
 cases h : s[k]? with
 | none =>
  have : s.length <= k := List.getElem?_eq_none_iff.1 h
  rw [List.drop_eq_nil_of_le this]; rfl
 | some c =>
  obtain ⟨hk, hc⟩ := List.getElem?_eq_some_iff.1 h
  rw [List.drop_eq_getElem_cons hk, hc]; rfl
theorem unit_brace (D : List UInt8) : unit (117 :: 123 :: D) = match Lib.cut D [125] with
  | (d, _, is) => if is = true /\ d.length <= 6 then (match hexN d with
   | none => none
   | some n => if 1114111 < n then none else some (n, d.length + 3)) else none := by
 unfold unit
 rw [if_pos (by rfl)]
 have e2 : (117 :: 123 :: D).drop 2 = D := rfl
 have e3 : ∀ k, (117 :: 123 :: D).drop (2 + k) = D.drop k := fun k => by rw [<- List.drop_drop]; rfl
 simp only [e2, e3]
 rcases cut_one 125 D with ⟨h1, h2⟩ | ⟨a, r, h1, h2, h3⟩
 ·rw [h2]
  simp only [Bool.false_eq_true, false_and, if_false]
  rw [if_neg]
  rintro ⟨h, _⟩
  rw [isB_getElem] at h
  cases hg : D[(D.take (runH D)).length]? with
  | none => rw [hg] at h; cases h
  | some c =>
   rw [hg] at h
   have : c = 125 := by simpa using h
   exact h1 (by rw [<- this]; exact List.mem_of_getElem? hg)
 ·rw [h3]
  simp only [true_and]
  have runH125 : ∀ X : List UInt8, runH (125 :: X) = 0 := fun X => by rw [runH, if_pos (by decide)]
  by_cases hall : ∀ c ∈ a, ¬ hexV c < 0
  ·have hr : runH D = a.length := by rw [h1, runH_pre a _ hall, runH125]; rfl
   have ht : D.take (runH D) = a := by rw [hr, h1, List.take_left]
   rw [ht]
   have hb : isB (fun x => x == 125) (D.drop a.length) = true := by rw [h1, List.drop_left]; rfl
   simp only [hb, true_and]
   rfl
  ·have hex : ∃ c ∈ a, hexV c < 0 := by
    apply Classical.byContradiction
    intro hn
    exact hall fun c hc h => hn ⟨c, hc, h⟩
   have hr := runH_stop a (125 :: r) hex
   rw [<- h1] at hr
   obtain ⟨q1, c, q2, q3, q4⟩ := hr
   have hl : (D.take (runH D)).length = runH D := by rw [List.length_take]; have := congrArg List.length h1; rw [List.length_append] at this; omega
   rw [if_neg, hexN_bad a hex]
   ·split <;> rfl
   ·rintro ⟨h, _⟩
    rw [hl, isB_getElem, q2] at h
    have : c = 125 := by simpa using h
    exact h2 (by rw [<- this]; exact q3)
theorem unit_plain (r : List UInt8) (h : ∀ D, r ≠ 123 :: D) : unit (117 :: r) = match hexOf r 4 with
  | none => none
  | some n => some (n, 5) := by
 unfold unit
 rw [if_neg]
 ·rfl
 ·intro e
  obtain ⟨t, ht⟩ := List.isPrefixOf_iff_prefix.1 e
  injection ht with h1 h2
  exact h t h2.symm
open Go
def LastI (T : List UInt8) (k j : Nat) (last : Int) : Prop := (last = -1 /\ (92 : UInt8) ∉ T.take j) \/ ∃ l : Nat, last = ((k + l : Nat) : Int) /\ l < j /\ T[l]? = some 92 /\ Pth T l
def RI (q : UInt8) (T : List UInt8) (k j : Nat) (last : Int) : Prop :=
 (Pth T j /\ raw q T = (raw q (T.drop j)).on j /\ LastI T k j last) \/ (j = T.length /\ raw q T = .script /\ ∃ l : Nat, last = ((k + l : Nat) : Int) /\ l + 1 = T.length /\ T[l]? = some 92 /\ Pth T l)
def LastP (T : List UInt8) (k : Nat) (last : Int) : Prop :=
 (last = -1 /\ (92 : UInt8) ∉ T /\ Pth T T.length) \/ ∃ l : Nat, last = ((k + l : Nat) : Int) /\ l < T.length /\ T[l]? = some 92 /\ Pth T l /\ (l + 1 < T.length -> Pth T T.length)
theorem on_zero (x : Raw) : x.on 0 = x := by cases x <;> rfl
theorem RI.start (q : UInt8) (T : List UInt8) (k : Nat) : RI q T k 0 (-1) := .inl ⟨.nil _, by rw [List.drop_zero, on_zero], .inl ⟨rfl, by simp⟩⟩
theorem RI.end {q : UInt8} {T : List UInt8} {k : Nat} {last : Int} (h : RI q T k T.length last) : raw q T = .script /\ LastP T k last := by
 rcases h with ⟨h1, h2, h3⟩ | ⟨_, h2, l, h3, h4, h5, h6⟩
 ·rw [List.drop_length, raw_nil] at h2
  refine ⟨h2, ?_⟩
  rcases h3 with ⟨h3, h4⟩ | ⟨l, h3, h4, h5, h6⟩
  ·rw [List.take_length] at h4
   exact .inl ⟨h3, h4, h1⟩
  ·exact .inr ⟨l, h3, h4, h5, h6, fun _ => h1⟩
 ·exact ⟨h2, .inr ⟨l, h3, by omega, h5, h6, fun h => by omega⟩⟩
theorem RI.at {q : UInt8} {T : List UInt8} {k j : Nat} {last : Int} (h : RI q T k j last) {c : UInt8} {r : List UInt8} (hT : T.drop j = c :: r) : Pth T j /\ raw q T = (raw q (T.drop j)).on j /\ LastI T k j last := by
 rcases h with h | ⟨h1, _⟩
 ·exact h
 ·rw [h1, List.drop_length] at hT; cases hT
theorem drop_get {T : List UInt8} {j : Nat} {c : UInt8} {r : List UInt8} (hT : T.drop j = c :: r) : T[j]? = some c /\ j < T.length /\ r = T.drop (j + 1) := by
 have hl := congrArg List.length hT
 rw [List.length_drop, List.length_cons] at hl
 have hlt : j < T.length := by omega
 rw [List.drop_eq_getElem_cons hlt] at hT
 injection hT with h1 h2
 exact ⟨by rw [List.getElem?_eq_getElem hlt, h1], hlt, h2.symm⟩
theorem RI.ends {q : UInt8} {T : List UInt8} {k j : Nat} {last : Int} (h : RI q T k j last) {c : UInt8} {r : List UInt8} (hT : T.drop j = c :: r) (hc : c = q \/ (q = 96 /\ ([36, 123] : List UInt8).isPrefixOf (c :: r) = true)) : raw q T = .ends j /\ Pth T j := by
 obtain ⟨h1, h2, _⟩ := h.at hT
 exact ⟨(raw_at q hT h2).1 hc, h1⟩
theorem RI.line {q : UInt8} {T : List UInt8} {k j : Nat} {last : Int} (h : RI q T k j last) {c : UInt8} {r : List UInt8} (hT : T.drop j = c :: r) (hc : ¬ (c = q \/ (q = 96 /\ ([36, 123] : List UInt8).isPrefixOf (c :: r) = true))) (hn : q ≠ 96 /\ (c = 10 \/ c = 13)) : raw q T = .line := by
 obtain ⟨h1, h2, _⟩ := h.at hT
 exact (raw_at q hT h2).2.1 hc hn
theorem RI.esc {q : UInt8} {T : List UInt8} {k j : Nat} {last : Int} (h : RI q T k j last) {r : List UInt8} (hT : T.drop j = 92 :: r) (hc : ¬ ((92 : UInt8) = q \/ (q = 96 /\ ([36, 123] : List UInt8).isPrefixOf (92 :: r) = true))) : RI q T k (j + (1 + skip r)) ((k + j : Nat) : Int) := by
 obtain ⟨h1, h2, _⟩ := h.at hT
 obtain ⟨g1, g2, g3⟩ := drop_get hT
 have hr := (raw_at q hT h2).2.2.1 hc (by rintro ⟨_, h | h⟩ <;> exact absurd h (by decide)) rfl
 by_cases h0 : r = []
 ·have hl : T.length = j + 1 := by
   have := congrArg List.length hT
   rw [List.length_drop, List.length_cons, h0] at this
   simp at this
   omega
  have hsk : skip r = 0 := by rw [h0]; rfl
  rw [hsk]
  refine .inr ⟨by omega, ?_, j, rfl, by omega, g1, h1⟩
  rw [hr, h0]; rfl
 ·refine .inl ⟨h1.esc' hT h0, ?_, .inr ⟨j, rfl, by omega, g1, h1⟩⟩
  rw [hr]
  congr 2
  rw [<- List.drop_drop, <- List.drop_drop, hT]
  rfl
theorem RI.byte {q : UInt8} {T : List UInt8} {k j : Nat} {last : Int} (h : RI q T k j last) {c : UInt8} {r : List UInt8} (hT : T.drop j = c :: r) (hc : ¬ (c = q \/ (q = 96 /\ ([36, 123] : List UInt8).isPrefixOf (c :: r) = true))) (hn : ¬ (q ≠ 96 /\ (c = 10 \/ c = 13))) (h92 : ¬ c = 92) : RI q T k (j + 1) last := by
 obtain ⟨h1, h2, h3⟩ := h.at hT
 obtain ⟨g1, g2, g3⟩ := drop_get hT
 have hr := (raw_at q hT h2).2.2.2 hc hn h92
 refine .inl ⟨h1.byte' h92 hT, by rw [hr, g3], ?_⟩
 rcases h3 with ⟨h3, h4⟩ | ⟨l, h3, h4, h5, h6⟩
 ·refine .inl ⟨h3, fun e => ?_⟩
  rw [List.take_add_one, g1] at e
  rcases List.mem_append.1 e with e | e
  ·exact h4 e
  ·simp at e
   exact h92 e.symm
 ·exact .inr ⟨l, h3, by omega, h5, h6⟩
open Go
theorem ra_eq {s old new : List UInt8} (hne : (old == new) = false) : Lib.replaceAll s old new = Lib.replaceK old new (Lib.count s old) s := by
 unfold Lib.replaceAll Lib.replace Lib.replaceNum
 rw [hne, if_neg (by decide), if_pos (.inl (by decide))]
theorem ra_miss {s old new : List UInt8} (hne : (old == new) = false) (h : Lib.index s old = -1) : Lib.replaceAll s old new = s := by
 rw [ra_eq hne, Lib.count_miss h]; rfl
theorem ra_hit {s old new : List UInt8} {i : Nat} (hne : (old == new) = false) (ho : old ≠ []) (h : Lib.index s old = (i : Int)) : Lib.replaceAll s old new = s.take i ++ new ++ Lib.replaceAll (s.drop (i + old.length)) old new := by
 rw [ra_eq hne, ra_eq hne, Lib.count_hit ho h, Nat.add_comm 1, Lib.replaceK_hit old new _ s i h]
theorem index_pre {s old : List UInt8} (hp : old.isPrefixOf s = true) : Lib.index s old = 0 := by
 cases s with
 | nil =>
  cases old with
  | nil => rfl
  | cons c o => simp [List.isPrefixOf] at hp
 | cons c r => rw [Lib.index, hp]; rfl
theorem index_no {c : UInt8} {r old : List UInt8} (hp : old.isPrefixOf (c :: r) = false) : (Lib.index r old = -1 -> Lib.index (c :: r) old = -1) /\ ∀ i : Nat, Lib.index r old = (i : Int) -> Lib.index (c :: r) old = ((i + 1 : Nat) : Int) := by
 refine ⟨fun h => ?_, fun i h => ?_⟩
 ·rw [Lib.index, hp, h]; rfl
 ·rw [Lib.index, hp, h]
  have : ((i : Int) == -1) = false := by rw [beq_eq_false_iff_ne]; omega
  simp [this]
theorem ra_pre {old new r : List UInt8} (hne : (old == new) = false) (ho : old ≠ []) : Lib.replaceAll (old ++ r) old new = new ++ Lib.replaceAll r old new := by
 have h : Lib.index (old ++ r) old = ((0 : Nat) : Int) := index_pre (List.isPrefixOf_iff_prefix.2 ⟨r, rfl⟩)
 rw [ra_hit hne ho h]
 simp
theorem ra_cons {c : UInt8} {old new r : List UInt8} (hne : (old == new) = false) (ho : old ≠ []) (hp : old.isPrefixOf (c :: r) = false) : Lib.replaceAll (c :: r) old new = c :: Lib.replaceAll r old new := by
 obtain ⟨h1, h2⟩ := index_no hp
 have hge := Lib.index_ge r old
 by_cases hm : Lib.index r old = -1
 ·rw [ra_miss hne hm, ra_miss hne (h1 hm)]
 ·obtain ⟨i, hi⟩ : ∃ i : Nat, Lib.index r old = (i : Int) := ⟨(Lib.index r old).toNat, by omega⟩
  rw [ra_hit hne ho hi, ra_hit hne ho (h2 i hi), show i + 1 + old.length = (i + old.length) + 1 by omega]
  rfl
theorem ra_nil {old new : List UInt8} (hne : (old == new) = false) (ho : old ≠ []) : Lib.replaceAll [] old new = [] := by
 cases old with
 | nil => exact absurd rfl ho
 | cons c o => exact ra_miss hne rfl
theorem norm_eq : ∀ (n : Nat) (s : List UInt8), s.length <= n -> Lib.replaceAll (Lib.replaceAll s [13, 10] [10]) [13] [10] = norm s
 | _, [], _ => by rw [ra_nil (by decide) (by decide), ra_nil (by decide) (by decide)]; rfl
 | 0, c :: r, h => by simp at h
 | n + 1, c :: r, h => by
  simp only [List.length_cons] at h
  by_cases hc : c = 13
  ·subst hc
   by_cases h10 : r.head? = some 10
   ·obtain ⟨q, rfl⟩ : ∃ q, r = 10 :: q := by
     cases r with
     | nil => simp at h10
     | cons x q => simp at h10; subst h10; exact ⟨q, rfl⟩
    rw [show (13 :: 10 :: q : List UInt8) = [13, 10] ++ q from rfl, ra_pre (by decide) (by decide)]
    show Lib.replaceAll (10 :: Lib.replaceAll q [13, 10] [10]) [13] [10] = normC false (13 :: 10 :: q)
    rw [ra_cons (by decide) (by decide) (by rfl), norm_eq n q (by simp only [List.length_cons] at h; omega), normC, if_neg (by simp), if_pos rfl, normC, if_pos ⟨rfl, rfl⟩]
    rfl
   ·have hp : ([13, 10] : List UInt8).isPrefixOf (13 :: r) = false := by
     cases r with
     | nil => rfl
     | cons x q =>
      have hx : ¬ x = 10 := fun e => h10 (by rw [e]; rfl)
      simp [List.isPrefixOf, Ne.symm hx]
    rw [ra_cons (by decide) (by decide) hp, show ∀ X : List UInt8, (13 :: X : List UInt8) = [13] ++ X from fun _ => rfl, ra_pre (by decide) (by decide), norm_eq n r (by omega)]
    show 10 :: normC false r = normC false (13 :: r)
    rw [normC, if_neg (by simp), if_pos rfl, normC_true h10]
  ·have hp : ∀ X : List UInt8, ([13, 10] : List UInt8).isPrefixOf (c :: X) = false := fun X => by
    simp [List.isPrefixOf]
    exact fun e => absurd e.symm hc
   have hp2 : ∀ X : List UInt8, ([13] : List UInt8).isPrefixOf (c :: X) = false := fun X => by
    simp [List.isPrefixOf]
    exact fun e => absurd e.symm hc
   rw [ra_cons (by decide) (by decide) (hp r), ra_cons (by decide) (by decide) (hp2 _), norm_eq n r (by omega)]
   show c :: normC false r = normC false (c :: r)
   rw [normC, if_neg (by simp), if_neg hc]
theorem ra_len : ∀ (n : Nat) (s : List UInt8), s.length <= n -> (Lib.replaceAll s [13, 10] [10]).length <= s.length
 | _, [], _ => by rw [ra_nil (by decide) (by decide)]; exact Nat.le_refl _
 | 0, c :: r, h => by simp at h
 | n + 1, c :: r, h => by
  simp only [List.length_cons] at h
  cases hp : ([13, 10] : List UInt8).isPrefixOf (c :: r) with
  | true =>
   obtain ⟨q, hq⟩ := List.isPrefixOf_iff_prefix.1 hp
   have hl := congrArg List.length hq
   rw [List.length_append, List.length_cons] at hl
   rw [<- hq, ra_pre (by decide) (by decide)]
   have := ra_len n q (by simp at hl; omega)
   simp only [List.length_append, List.length_cons, List.length_nil]
   omega
  | false =>
   rw [ra_cons (by decide) (by decide) hp]
   have := ra_len n r (by omega)
   simp only [List.length_cons]
   omega
theorem norm_len : ∀ (b : Bool) (s : List UInt8), (normC b s).length <= s.length
 | _, [] => Nat.le_refl _
 | b, c :: r => by
  have h1 := norm_len false r
  have h2 := norm_len true r
  rw [normC]
  simp only [List.length_cons]
  split
  ·omega
  ·split <;> (simp only [List.length_cons]; omega)
theorem nrm_len (t : Bool) (s : List UInt8) : (nrm t s).length <= s.length := by
 unfold nrm
 split
 ·exact norm_len false s
 ·exact Nat.le_refl _
open Go
def numA (s : List UInt8) (k : Nat) : Nat × Bool := (k + (numeral (s.drop k)).1, (numeral (s.drop k)).2)
def numC (s : List UInt8) (n : Nat) : Nat × Bool := if (frac (s.drop n)).2 = false then (n + (frac (s.drop n)).1, false) else (n + (frac (s.drop n)).1 + (expo (s.drop (n + (frac (s.drop n)).1))).1, (expo (s.drop (n + (frac (s.drop n)).1))).2)
def numD (s : List UInt8) (n : Nat) : Nat × Bool := (n + (expo (s.drop n)).1, (expo (s.drop n)).2)
def isIn (set s : List UInt8) (n : Nat) : Bool := isB (fun c => set.contains c) (s.drop n)
theorem isIn_get {set s : List UInt8} {n : Nat} : isIn set s n = match s[n]? with | none => false | some c => set.contains c := isB_getElem _ s n
theorem isIn_lt {set s : List UInt8} {n : Nat} (h : isIn set s n = true) : n < s.length := by
 rw [isIn_get] at h
 cases hg : s[n]? with
 | none => rw [hg] at h; cases h
 | some c => exact (List.getElem?_eq_some_iff.1 hg).1
theorem isB_congr {p q : UInt8 -> Bool} (h : ∀ c, p c = q c) (s : List UInt8) : isB p s = isB q s := by
 cases s with
 | nil => rfl
 | cons c r => exact h c
theorem contains_one (a c : UInt8) : ([a] : List UInt8).contains c = (c == a) := by
 simp [List.contains, List.elem]
 cases (c == a) <;> rfl
theorem contains_two (a b c : UInt8) : ([a, b] : List UInt8).contains c = (c == a || c == b) := by
 simp [List.contains, List.elem]
 cases (c == a) <;> cases (c == b) <;> rfl
theorem isIn_dot (s : List UInt8) (n : Nat) : isIn [46] s n = isB (· == 46) (s.drop n) := isB_congr (contains_one 46) _
theorem isIn_n (s : List UInt8) (n : Nat) : isIn [110] s n = isB (· == 110) (s.drop n) := isB_congr (contains_one 110) _
theorem isIn_e (s : List UInt8) (n : Nat) : isIn [101, 69] s n = isB (fun c => c == 101 || c == 69) (s.drop n) := isB_congr (contains_two 101 69) _
theorem isIn_sign (s : List UInt8) (n : Nat) : isIn [43, 45] s n = isB (fun c => c == 43 || c == 45) (s.drop n) := isB_congr (contains_two 43 45) _
theorem digs_all : ∀ n : Fin 256, ([48, 49, 50, 51, 52, 53, 54, 55, 56, 57, 95] : List UInt8).contains (UInt8.ofNat n.val) = (digit (UInt8.ofNat n.val).toNat || UInt8.ofNat n.val == 95) := by decide +kernel
theorem isIn_dig (s : List UInt8) (n : Nat) : isIn [48, 49, 50, 51, 52, 53, 54, 55, 56, 57, 95] s n = isB (fun c => digit c.toNat || c == 95) (s.drop n) := isB_congr (fun c => by
 have := digs_all ⟨c.toNat, c.toNat_lt⟩
 simpa only [UInt8.ofNat_toNat] using this) _
theorem base_all : ∀ n : Fin 256, ([120, 88, 111, 79, 98, 66] : List UInt8).contains (UInt8.ofNat n.val) = (baseOf (UInt8.ofNat n.val) != 0) := by decide +kernel
theorem isIn_base (s : List UInt8) (n : Nat) (c : UInt8) (h : s[n]? = some c) : isIn [120, 88, 111, 79, 98, 66] s n = (baseOf c != 0) := by
 rw [isIn_get, h]
 have := base_all ⟨c.toNat, c.toNat_lt⟩
 simpa only [UInt8.ofNat_toNat] using this
def hexed (s : List UInt8) (k : Nat) : Prop := isB (· == 48) (s.drop k) = true /\ isIn [120, 88, 111, 79, 98, 66] s (k + 1) = true
theorem at1 (s : List UInt8) (k : Nat) : Cssp.at_ (s.drop k) 1 = s.getD (k + 1) 10 := by
 rw [Cssp.at_, List.getD_eq_getElem?_getD, List.getD_eq_getElem?_getD, List.getElem?_drop]
theorem hexed_iff (s : List UInt8) (k : Nat) : hexed s k ↔ (isB (· == 48) (s.drop k) = true /\ baseOf (Cssp.at_ (s.drop k) 1) ≠ 0) := by
 unfold hexed
 refine and_congr_right fun _ => ?_
 rw [at1, List.getD_eq_getElem?_getD]
 cases hg : s[k + 1]? with
 | none =>
  rw [isIn_get, hg]
  exact ⟨fun h => (by cases h), fun h => absurd rfl h⟩
 | some c =>
  rw [isIn_base s _ c hg]
  show _ ↔ baseOf c ≠ 0
  simp
theorem numA_hex {s : List UInt8} {k : Nat} {c : UInt8} (h : hexed s k) (hc : s[k + 1]? = some c) {d1 : Nat} {d2 : Bool} (hd : digits (baseOf c) (s.drop (k + 2)) = (d1, d2)) :
  numA s k = if d2 = true /\ isIn [110] s (k + 2 + d1) = true then (k + 2 + d1 + 1, true) else (k + 2 + d1, d2) := by
 have h2 := (hexed_iff s k).1 h
 have hat : Cssp.at_ (s.drop k) 1 = c := by rw [at1, List.getD_eq_getElem?_getD, hc]; rfl
 unfold numA numeral
 rw [if_pos h2, hat, List.drop_drop, hd, isIn_n]
 simp only [List.drop_drop]
 rw [show k + (d1 + 2) = k + 2 + d1 by omega]
 split
 ·show (k + (d1 + 3), true) = _
  congr 1; omega
 ·show (k + (d1 + 2), d2) = _
  congr 1; omega
theorem numA_bad {s : List UInt8} {k : Nat} (h : ¬ hexed s k) (h46 : isB (· == 46) (s.drop k) = false) {d1 : Nat} {d2 : Bool} (hd : digits 10 (s.drop k) = (d1, d2)) (hb : d2 = false \/ (isB (· == 48) (s.drop k) = true /\ 1 < d1)) : numA s k = (k + d1, false) := by
 have h2 := fun q => h ((hexed_iff s k).2 q)
 unfold numA numeral
 rw [if_neg h2, h46]
 simp only [Bool.false_eq_true, if_false, hd]
 rw [if_pos ⟨trivial, hb⟩]
theorem numA_n {s : List UInt8} {k : Nat} (h : ¬ hexed s k) (h46 : isB (· == 46) (s.drop k) = false) {d1 : Nat} {d2 : Bool} (hd : digits 10 (s.drop k) = (d1, d2)) (hb : ¬ (d2 = false \/ (isB (· == 48) (s.drop k) = true /\ 1 < d1))) (hn : isIn [110] s (k + d1) = true) : numA s k = (k + d1 + 1, true) := by
 have h2 := fun q => h ((hexed_iff s k).2 q)
 rw [isIn_n] at hn
 unfold numA numeral
 rw [if_neg h2, h46]
 simp only [Bool.false_eq_true, if_false, hd, List.drop_drop]
 rw [if_neg (fun q => hb q.2), if_pos ⟨trivial, hn⟩]
 rfl
theorem numA_C {s : List UInt8} {k : Nat} (h : ¬ hexed s k) (h46 : isB (· == 46) (s.drop k) = false) {d1 : Nat} {d2 : Bool} (hd : digits 10 (s.drop k) = (d1, d2)) (hb : ¬ (d2 = false \/ (isB (· == 48) (s.drop k) = true /\ 1 < d1))) (hn : isIn [110] s (k + d1) = false) : numA s k = numC s (k + d1) := by
 have h2 := fun q => h ((hexed_iff s k).2 q)
 rw [isIn_n] at hn
 unfold numA numeral numC
 rw [if_neg h2, h46]
 simp only [Bool.false_eq_true, if_false, hd, List.drop_drop]
 rw [if_neg (fun q => hb q.2), if_neg (fun q => by rw [hn] at q; exact absurd q.2 (by decide))]
 simp only [<- Nat.add_assoc]
 by_cases q : (frac (List.drop (k + d1) s)).2 = false
 ·rw [if_pos q, if_pos q]
  simp only [Nat.add_assoc]
 ·rw [if_neg q, if_neg q]
  simp only [Nat.add_assoc]
theorem numA_dot {s : List UInt8} {k : Nat} (h46 : isB (· == 46) (s.drop k) = true) : numA s k = numC s k := by
 have h2 : ¬ (isB (· == 48) (s.drop k) = true /\ baseOf (Cssp.at_ (s.drop k) 1) ≠ 0) := fun q => by
  have q := q.1
  rw [isB_getElem] at q h46
  cases hg : s[k]? with
  | none => rw [hg] at q; cases q
  | some c =>
   rw [hg] at q h46
   have e1 : c = 48 := by simpa using q
   have e2 : c = 46 := by simpa using h46
   rw [e1] at e2
   exact absurd e2 (by decide)
 unfold numA numeral numC
 rw [if_neg h2, h46]
 simp only [if_true, Bool.true_eq_false, false_and, if_false, Nat.zero_add, Nat.add_zero, List.drop_drop]
 by_cases q : (frac (List.drop k s)).2 = false
 ·rw [if_pos q, if_pos q]
 ·rw [if_neg q, if_neg q]
  simp only [Nat.add_assoc]
theorem numC_no {s : List UInt8} {n : Nat} (h : isIn [46] s n = false) : numC s n = numD s n := by
 rw [isIn_dot] at h
 have hf : frac (s.drop n) = (0, true) := by unfold frac; rw [h]; rfl
 unfold numC numD
 rw [hf]
 rfl
theorem numC_plain {s : List UInt8} {n : Nat} (h : isIn [46] s n = true) (h2 : isIn [48, 49, 50, 51, 52, 53, 54, 55, 56, 57, 95] s (n + 1) = false) : numC s n = numD s (n + 1) := by
 rw [isIn_dot] at h
 rw [isIn_dig, <- List.drop_drop] at h2
 have hf : frac (s.drop n) = (1, true) := by unfold frac; rw [if_pos h, if_neg (by rw [h2]; decide)]
 unfold numC numD
 rw [hf]
 rfl
theorem numC_bad {s : List UInt8} {n : Nat} (h : isIn [46] s n = true) (h2 : isIn [48, 49, 50, 51, 52, 53, 54, 55, 56, 57, 95] s (n + 1) = true) {d1 : Nat} (hd : digits 10 (s.drop (n + 1)) = (d1, false)) : numC s n = (n + 1 + d1, false) := by
 rw [isIn_dot] at h
 rw [isIn_dig, <- List.drop_drop] at h2
 rw [<- List.drop_drop] at hd
 have hf : frac (s.drop n) = (d1 + 1, false) := by unfold frac; rw [if_pos h, if_pos h2, hd]
 unfold numC
 rw [hf, if_pos rfl]
 congr 1; omega
theorem numC_dig {s : List UInt8} {n : Nat} (h : isIn [46] s n = true) (h2 : isIn [48, 49, 50, 51, 52, 53, 54, 55, 56, 57, 95] s (n + 1) = true) {d1 : Nat} (hd : digits 10 (s.drop (n + 1)) = (d1, true)) : numC s n = numD s (n + 1 + d1) := by
 rw [isIn_dot] at h
 rw [isIn_dig, <- List.drop_drop] at h2
 rw [<- List.drop_drop] at hd
 have hf : frac (s.drop n) = (d1 + 1, true) := by unfold frac; rw [if_pos h, if_pos h2, hd]
 unfold numC numD
 rw [hf, if_neg (by simp)]
 simp only
 rw [show n + (d1 + 1) = n + 1 + d1 by omega]
theorem numD_no {s : List UInt8} {n : Nat} (h : isIn [101, 69] s n = false) : numD s n = (n, true) := by
 rw [isIn_e] at h
 unfold numD expo
 rw [if_neg (by rw [h]; decide)]
 rfl
theorem numD_sign {s : List UInt8} {n : Nat} (h : isIn [101, 69] s n = true) (h2 : isIn [43, 45] s (n + 1) = true) {d1 : Nat} {d2 : Bool} (hd : digits 10 (s.drop (n + 2)) = (d1, d2)) : numD s n = (n + 2 + d1, d2) := by
 rw [isIn_e] at h
 rw [isIn_sign, <- List.drop_drop] at h2
 rw [<- List.drop_drop] at hd
 unfold numD expo
 rw [if_pos h, if_pos h2, hd]
 show (n + (d1 + 2), d2) = _
 congr 1; omega
theorem numD_plain {s : List UInt8} {n : Nat} (h : isIn [101, 69] s n = true) (h2 : isIn [43, 45] s (n + 1) = false) {d1 : Nat} {d2 : Bool} (hd : digits 10 (s.drop (n + 1)) = (d1, d2)) : numD s n = (n + 1 + d1, d2) := by
 rw [isIn_e] at h
 rw [isIn_sign, <- List.drop_drop] at h2
 rw [<- List.drop_drop] at hd
 unfold numD expo
 rw [if_pos h, if_neg (by rw [h2]; decide), hd]
 show (n + (d1 + 1), d2) = _
 congr 1; omega
theorem digits_bound (base : Int) (s : List UInt8) (n : Nat) (h : n <= s.length) : n + (digits base (s.drop n)).1 <= s.length := by
 have := digits_le base (s.drop n)
 rw [List.length_drop] at this
 omega
open Go
theorem push_len {st st2 : St} {c : UInt8} (hs : st.stk.length <= 200) (h : push st c = some st2) : st2.stk.length <= 200 := by
 unfold push at h
 split at h
 ·cases h
 ·rename_i q
  injection h with h
  rw [<- h]
  show (st.stk ++ [c]).length <= 200
  rw [List.length_append]
  unfold most at q
  simp only [List.length_cons, List.length_nil]
  omega
theorem pop_len {st : St} (hs : st.stk.length <= 200) : (pop st).stk.length <= 200 := by
 show st.stk.dropLast.length <= 200
 rw [List.length_dropLast]; omega
theorem bracket_len {st st2 : St} {m : List UInt8} (hs : st.stk.length <= 200) (h : bracket st m = some st2) : st2.stk.length <= 200 := by
 unfold bracket at h
 repeat' split at h
 all_goals first
  | exact push_len (st := { st with goal := true }) hs h
  | (cases h; done)
  | (cases h; exact hs)
  | (cases h; exact pop_len hs)
open Go
def gp (F : List UInt8) (a : Nat) (ln : Bool) : (Nat × Bool) ⊕ Nat := if ln = true then .inl (a, true) else gapOn a (gap (F.drop a))
theorem gp_blanks (F : List UInt8) (a : Nat) (ha : a <= F.length) (hv : Cssp.valid (F.drop a) = true) : gp F a false = gp F (a + run bl (F.drop a)) false /\ a + run bl (F.drop a) <= F.length /\ Cssp.valid (F.drop (a + run bl (F.drop a))) = true /\
  (F.drop (a + run bl (F.drop a)) = [] \/ bl (pt (F.drop (a + run bl (F.drop a)))) = false) := by
 have h1 := run_le bl _ (F.drop a) (Nat.le_refl _)
 have h2 := valid_run bl _ (F.drop a) (Nat.le_refl _) hv
 have h3 := bl_run_stop _ (F.drop a) (Nat.le_refl _)
 rw [List.length_drop] at h1
 rw [List.drop_drop] at h2 h3
 refine ⟨?_, by omega, h2, ?_⟩
 ·unfold gp
  rw [if_neg (by decide), if_neg (by decide), gap_run _ (F.drop a) (Nat.le_refl _), gapOn_on, List.drop_drop, Nat.add_comm]
 ·by_cases h0 : F.drop (a + run bl (F.drop a)) = []
  ·exact .inl h0
  ·exact .inr (h3 h0)
theorem bl_no {r : Nat} (h : bl r = false) : ¬ (blank r = true \/ lineEnd r = true) := by
 unfold bl at h
 rw [Bool.or_eq_false_iff] at h
 rintro (g | g)
 ·rw [h.1] at g; cases g
 ·rw [h.2] at g; cases g
theorem pre_ne {m s : List UInt8} {c : UInt8} (h : (c :: m).isPrefixOf s = true) : s ≠ [] := by
 rintro rfl
 simp at h
theorem gp_stop (F : List UInt8) (a : Nat) (h : F.drop a = [] \/ bl (pt (F.drop a)) = false) (h1 : [47, 47].isPrefixOf (F.drop a) = false) (h2 : [47, 42].isPrefixOf (F.drop a) = false) : gp F a false = .inl (a, false) := by
 unfold gp
 rw [if_neg (by decide)]
 by_cases h0 : F.drop a = []
 ·rw [h0]; show Sum.inl (0 + a, false) = _; rw [Nat.zero_add]
 ·have hb := bl_no (h.resolve_left h0)
  rw [gap_step _ h0, if_neg hb, h1, if_neg (by decide), h2, if_neg (by decide)]
  show Sum.inl (0 + a, false) = _; rw [Nat.zero_add]
theorem gp_line (F : List UInt8) (a : Nat) (ha : a <= F.length) (hv : Cssp.valid (F.drop a) = true) (h : F.drop a = [] \/ bl (pt (F.drop a)) = false) (h1 : [47, 47].isPrefixOf (F.drop a) = true) :
  gp F a false = gp F (a + run (fun r => !lineEnd r) (F.drop a)) (decide (a + run (fun r => !lineEnd r) (F.drop a) = F.length)) /\ a + run (fun r => !lineEnd r) (F.drop a) <= F.length /\ a < a + run (fun r => !lineEnd r) (F.drop a) /\ Cssp.valid (F.drop (a + run (fun r => !lineEnd r) (F.drop a))) = true := by
 have h0 := pre_ne h1
 have hb := bl_no (h.resolve_left h0)
 have hr := run_le (fun r => !lineEnd r) _ (F.drop a) (Nat.le_refl _)
 have h2 := valid_run (fun r => !lineEnd r) _ (F.drop a) (Nat.le_refl _) hv
 have hp := pn_le h0
 have hpos : 1 <= run (fun r => !lineEnd r) (F.drop a) := by
  rw [run_step _ _ h0]
  have : lineEnd (pt (F.drop a)) = false := by
   cases hl : lineEnd (pt (F.drop a)) with
   | false => rfl
   | true => exact absurd (.inr hl) hb
  simp only [this, Bool.not_false, if_true]
  omega
 rw [List.length_drop] at hr
 rw [List.drop_drop] at h2
 refine ⟨?_, by omega, by omega, h2⟩
 generalize hn : run (fun r => !lineEnd r) (F.drop a) = n at hr hpos h2 ⊢
 unfold gp
 rw [if_neg (by decide), gap_step _ h0, if_neg hb, h1, if_pos rfl, hn, List.drop_drop]
 by_cases he : a + n = F.length
 ·rw [if_pos (List.drop_eq_nil_of_le (by omega)), decide_eq_true he, if_pos rfl]
  show Sum.inl (n + a, true) = _; rw [Nat.add_comm]
 ·rw [if_neg (fun e => by have := congrArg List.length e; rw [List.length_drop, List.length_nil] at this; omega), decide_eq_false he, if_neg (by decide), gapOn_on, Nat.add_comm]
theorem no_line {s : List UInt8} (h : [47, 42].isPrefixOf s = true) : [47, 47].isPrefixOf s = false := by
 match s, h with
 | [], h => simp at h
 | [c], h => simp at h
 | c :: d :: r, h =>
  simp [List.isPrefixOf] at h ⊢
  intro _ e
  rw [<- h.2] at e
  exact absurd e (by decide)
theorem gp_open (F : List UInt8) (a : Nat) (h : F.drop a = [] \/ bl (pt (F.drop a)) = false) (h1 : [47, 42].isPrefixOf (F.drop a) = true) (hs : shut (F.drop (a + 2)) = none) : gp F a false = .inr a := by
 have h0 := pre_ne h1
 have hb := bl_no (h.resolve_left h0)
 unfold gp
 rw [if_neg (by decide), gap_step _ h0, if_neg hb, no_line h1, if_neg (by decide), h1, if_pos rfl, List.drop_drop, hs]
 show Sum.inr (0 + a) = _; rw [Nat.zero_add]
theorem gp_shut (F : List UInt8) (a n : Nat) (ha : a <= F.length) (hv : Cssp.valid (F.drop a) = true) (h : F.drop a = [] \/ bl (pt (F.drop a)) = false) (h1 : [47, 42].isPrefixOf (F.drop a) = true) (hs : shut (F.drop (a + 2)) = some n) :
  gp F a false = gp F (a + (2 + n + 2)) false /\ a + (2 + n + 2) <= F.length /\ Cssp.valid (F.drop (a + (2 + n + 2))) = true := by
 have h0 := pre_ne h1
 have hb := bl_no (h.resolve_left h0)
 have hle := ((shut_index (F.drop (a + 2))).2 n hs).2
 have hpl := (List.isPrefixOf_iff_prefix.1 h1).length_le
 rw [List.length_drop] at hle hpl
 simp only [List.length_cons, List.length_nil] at hpl
 obtain ⟨x, hx⟩ := (shut_app [] (F.drop (a + 2)) n hs).2
 have hvx : Cssp.valid (F.drop (a + (2 + n + 2))) = true := by
  have hsf := (Suf.of hv).drop (2 + (n + 1))
  rw [List.drop_drop] at hsf hx
  rw [show a + (2 + (n + 1)) = a + 2 + (n + 1) by omega, hx] at hsf
  have := hsf.valid (by decide)
  rw [show a + (2 + n + 2) = a + 2 + (n + 1) + 1 by omega, <- List.drop_drop, hx]
  exact this
 refine ⟨?_, by omega, hvx⟩
 unfold gp
 rw [if_neg (by decide), if_neg (by decide), gap_step _ h0, if_neg hb, no_line h1, if_neg (by decide), h1, if_pos rfl, List.drop_drop, hs]
 simp only
 rw [gapOn_on, List.drop_drop, Nat.add_comm]
open Go
theorem pth_all {T : List UInt8} (h : Pth T T.length) (hs : Suf T) : walk T = true := by
 have := h.walk hs
 rwa [List.take_length] at this
theorem suf_take {T : List UInt8} {l : Nat} {c : UInt8} (hs : Suf T) (hc : T[l]? = some c) (h128 : c.toNat < 128) : Suf (T.take l) := by
 have hv := hs.valid_at hc h128
 have hl : l < T.length := (List.getElem?_eq_some_iff.1 hc).1
 have hd : T.drop l = c :: T.drop (l + 1) := by
  rw [List.drop_eq_getElem_cons hl]
  rw [List.getElem?_eq_getElem hl] at hc
  injection hc with hc
  rw [hc]
 have hv2 : Cssp.valid (T.drop l) = true := by
  rw [hd, <- List.singleton_append, Cssp.valid_app [c] _ (valid_asc [c] (by intro d hd; simp at hd; subst hd; exact h128))]
  exact hv
 obtain ⟨pre, hp⟩ := hs
 refine ⟨pre, ?_⟩
 have := valid_take _ (pre ++ T) (pre.length + l) (Nat.le_refl _) hp (by rw [List.drop_append, List.drop_of_length_le (Nat.le_add_right _ _), Nat.add_sub_cancel_left, List.nil_append]; exact hv2)
 rwa [List.take_append, List.take_of_length_le (Nat.le_add_right _ _), Nat.add_sub_cancel_left] at this
theorem LastP.ways {T : List UInt8} {k : Nat} {last : Int} (h : LastP T k last) (hs : Suf T) :
  (last = -1 /\ (92 : UInt8) ∉ T /\ Jsp.walk T = true) \/ ∃ l : Nat, last = ((k + l : Nat) : Int) /\ l < T.length /\ Jsp.walk (T.take l) = true /\ Suf (T.take l) /\ (l + 1 < T.length -> Jsp.walk T = true) /\ Cssp.valid (T.drop (l + 1)) = true := by
 rcases h with ⟨h1, h2, h3⟩ | ⟨l, h1, h2, h3, h4, h5⟩
 ·exact .inl ⟨h1, h2, pth_all h3 hs⟩
 ·exact .inr ⟨l, h1, h2, h4.walk hs, suf_take hs h3 (by decide), fun h => pth_all (h5 h) hs, hs.valid_at h3 (by decide)⟩
open Go
theorem pre_hole {c : UInt8} {r : List UInt8} (h : ([36, 123] : List UInt8).isPrefixOf (c :: r) = true) : c = 36 /\ r[0]? = some 123 := by
 cases r with
 | nil => simp [List.isPrefixOf] at h
 | cons d r =>
  simp only [List.isPrefixOf, Bool.and_eq_true, beq_iff_eq] at h
  exact ⟨h.1.symm, by simp [h.2.1]⟩
theorem rawF_at (q : UInt8) : ∀ (f : Nat) (s : List UInt8) (k : Nat), rawF q f s = .ends k -> s[k]? = some q \/ (q = 96 /\ s[k]? = some 36 /\ s[k + 1]? = some 123)
 | 0, s, k, h => by cases h
 | f + 1, [], k, h => by cases h
 | f + 1, c :: r, k, h => by
  rw [rawF] at h
  split at h
  ·rename_i h1
   injection h with h
   subst h
   rcases h1 with rfl | ⟨rfl, h2⟩
   ·exact .inl rfl
   ·obtain ⟨rfl, h3⟩ := pre_hole h2
    exact .inr ⟨rfl, rfl, by simpa using h3⟩
  ·split at h
   ·cases h
   ·split at h
    ·cases hr : rawF q f (r.drop (skip r)) with
     | ends n =>
      rw [hr] at h
      injection h with h
      subst h
      have := rawF_at q f _ n hr
      rw [List.getElem?_drop, List.getElem?_drop] at this
      rw [show n + (1 + skip r) = (skip r + n) + 1 by omega, List.getElem?_cons_succ, List.getElem?_cons_succ]
      exact this
     | script => rw [hr] at h; cases h
     | line => rw [hr] at h; cases h
    ·cases hr : rawF q f r with
     | ends n =>
      rw [hr] at h
      injection h with h
      subst h
      rw [List.getElem?_cons_succ, List.getElem?_cons_succ]
      exact rawF_at q f _ n hr
     | script => rw [hr] at h; cases h
     | line => rw [hr] at h; cases h
theorem rawF_96 : ∀ (f : Nat) (s : List UInt8), rawF 96 f s ≠ .line
 | 0, s => by intro h; cases h
 | f + 1, [] => by intro h; cases h
 | f + 1, c :: r => by
  intro h
  rw [rawF] at h
  split at h
  ·cases h
  ·split at h
   ·rename_i h2
    exact h2.1 rfl
   ·split at h
    ·cases hr : rawF 96 f (r.drop (skip r)) with
     | ends n => rw [hr] at h; cases h
     | script => rw [hr] at h; cases h
     | line => exact rawF_96 f _ hr
    ·cases hr : rawF 96 f r with
     | ends n => rw [hr] at h; cases h
     | script => rw [hr] at h; cases h
     | line => exact rawF_96 f _ hr
theorem raw96_line (s : List UInt8) : raw 96 s ≠ .line := rawF_96 _ s
theorem raw_get {q : UInt8} {s : List UInt8} {k : Nat} (h : raw q s = .ends k) : s[k]? = some q \/ (q = 96 /\ s[k]? = some 36 /\ s[k + 1]? = some 123) := rawF_at q _ s k h
theorem raw_quote {q : UInt8} {s : List UInt8} {k : Nat} (hq : q ≠ 96) (h : raw q s = .ends k) : s[k]? = some q /\ k < s.length := by
 rcases raw_get h with h | ⟨h, _⟩
 ·exact ⟨h, (List.getElem?_eq_some_iff.1 h).1⟩
 ·exact absurd h hq
def OpenStr (s : List UInt8) (q : UInt8) : Prop := ∃ T, s = q :: T /\ (q = 34 \/ q = 39) /\ raw q T = .script /\ (92 : UInt8) ∉ T
theorem quote_cons (q : UInt8) (T : List UInt8) : quote (q :: T) = match raw q T with
  | .ends k => (match cook false (T.take k) with
   | .inl v => .inr (k, v)
   | .inr o => .inl (.no 172 (o + 1)))
  | _ => .inl (.no 171 0) := rfl
open Go
def regZ (cls skip : Bool) (s : List UInt8) : Option Nat :=
 if skip = true then (if s = [] then none else if lineEnd (pt s) = true then none else (regX cls (s.drop (pn s))).map (· + pn s)) else regX cls s
theorem regZ_start (s : List UInt8) : reg s = (regZ false false s).map (· + 0) := by
 show regX false s = (regX false s).map (· + 0)
 cases regX false s <;> rfl
theorem regZ_nil (cls skip : Bool) : regZ cls skip [] = none := by cases skip <;> rfl
theorem regZ_line {cls skip : Bool} {s : List UInt8} (h0 : s ≠ []) (h : lineEnd (pt s) = true) : regZ cls skip s = none := by
 unfold regZ
 cases skip
 ·rw [if_neg (by simp), regX_step _ _ h0, if_pos h]
 ·rw [if_pos rfl, if_neg h0, if_pos h]
theorem regZ_skip {cls : Bool} {s : List UInt8} (h0 : s ≠ []) (h : lineEnd (pt s) = false) : regZ cls true s = (regZ cls false (s.drop (pn s))).map (· + pn s) := by
 unfold regZ
 rw [if_pos rfl, if_neg h0, if_neg (by rw [h]; simp), if_neg (by simp)]
theorem regZ_back {cls : Bool} {s : List UInt8} (h0 : s ≠ []) (h : lineEnd (pt s) = false) (h92 : pt s = 92) (hn : pn s = 1) : regZ cls false s = (regZ cls true (s.drop (pn s))).map (· + pn s) := by
 unfold regZ
 rw [if_neg (by simp), if_pos rfl, regX_step _ _ h0, if_neg (by rw [h]; simp), if_pos h92, hn]
 by_cases h1 : s.drop 1 = []
 ·rw [if_pos h1, if_pos h1]; rfl
 rw [if_neg h1, if_neg h1]
 by_cases h2 : lineEnd (pt (s.drop 1)) = true
 ·rw [if_pos h2, if_pos h2]; rfl
 rw [if_neg h2, if_neg h2, List.drop_drop, Option.map_map]
 congr 1
 funext n
 show n + 1 + _ = n + _ + 1
 omega
theorem regZ_end {s : List UInt8} (h0 : s ≠ []) (h : lineEnd (pt s) = false) (h47 : pt s = 47) : regZ false false s = some 0 := by
 unfold regZ
 rw [if_neg (by simp), regX_step _ _ h0, if_neg (by rw [h]; simp), if_neg (by omega), if_pos ⟨h47, rfl⟩]
theorem regZ_on {cls : Bool} {s : List UInt8} (h0 : s ≠ []) (h : lineEnd (pt s) = false) (h92 : ¬ pt s = 92) (h47 : ¬ (pt s = 47 /\ cls = false)) : regZ cls false s = (regZ (if pt s = 91 then true else if pt s = 93 then false else cls) false (s.drop (pn s))).map (· + pn s) := by
 unfold regZ
 rw [if_neg (by simp), if_neg (by simp), regX_step _ _ h0, if_neg (by rw [h]; simp), if_neg h92, if_neg h47]
def RgI (T : List UInt8) (j : Nat) (cls skip : Bool) : Prop := j <= T.length /\ Cssp.valid (T.drop j) = true /\ reg T = (regZ cls skip (T.drop j)).map (· + j)
theorem RgI.start {T : List UInt8} (hv : Cssp.valid T = true) : RgI T 0 false false := ⟨Nat.zero_le _, hv, regZ_start T⟩
theorem RgI.end {T : List UInt8} {cls skip : Bool} (h : RgI T T.length cls skip) : reg T = none := by
 have := h.2.2
 rw [List.drop_length, regZ_nil] at this
 exact this
theorem RgI.line {T : List UInt8} {j : Nat} {cls skip : Bool} (h : RgI T j cls skip) (h0 : T.drop j ≠ []) (hl : lineEnd (pt (T.drop j)) = true) : reg T = none := by
 rw [h.2.2, regZ_line h0 hl]; rfl
theorem RgI.move {T : List UInt8} {j : Nat} {c1 s1 c2 s2 : Bool} (h : RgI T j c1 s1) (h0 : T.drop j ≠ []) (he : regZ c1 s1 (T.drop j) = (regZ c2 s2 ((T.drop j).drop (pn (T.drop j)))).map (· + pn (T.drop j))) : RgI T (j + pn (T.drop j)) c2 s2 := by
 have hp := pn_le h0
 rw [List.length_drop] at hp
 refine ⟨by omega, ?_, ?_⟩
 ·have := valid_pn h.2.1
  rwa [List.drop_drop] at this
 ·rw [h.2.2, he, Option.map_map, List.drop_drop]
  congr 1
  funext n
  show n + _ + j = n + (j + _)
  omega
theorem RgI.skip {T : List UInt8} {j : Nat} {cls : Bool} (h : RgI T j cls true) (h0 : T.drop j ≠ []) (hl : lineEnd (pt (T.drop j)) = false) : RgI T (j + pn (T.drop j)) cls false := h.move h0 (regZ_skip h0 hl)
theorem get_of_pt {s : List UInt8} {j n : Nat} (h0 : s.drop j ≠ []) (hv : Cssp.valid (s.drop j) = true) (h : pt (s.drop j) = n) (hn : n < 128) : s[j]? = some (UInt8.ofNat n) /\ pn (s.drop j) = 1 := by
 obtain ⟨c, r, hs, hc, hp⟩ := pt_small hv h0 (by rw [h]; exact hn)
 have hg : s[j]? = some c := by
  have := congrArg List.head? hs
  rw [List.head?_drop] at this
  exact this
 refine ⟨?_, hp⟩
 rw [hg, <- h, <- hc, UInt8.ofNat_toNat]
theorem RgI.back {T : List UInt8} {j : Nat} {cls : Bool} (h : RgI T j cls false) (h0 : T.drop j ≠ []) (hl : lineEnd (pt (T.drop j)) = false) (h92 : pt (T.drop j) = 92) : RgI T (j + pn (T.drop j)) cls true /\ T[j]? = some 92 := by
 obtain ⟨h1, h2⟩ := get_of_pt h0 h.2.1 h92 (by decide)
 exact ⟨h.move h0 (regZ_back h0 hl h92 h2), h1⟩
theorem RgI.stop {T : List UInt8} {j : Nat} (h : RgI T j false false) (h0 : T.drop j ≠ []) (hl : lineEnd (pt (T.drop j)) = false) (h47 : pt (T.drop j) = 47) : reg T = some j /\ T[j]? = some 47 := by
 refine ⟨?_, (get_of_pt h0 h.2.1 h47 (by decide)).1⟩
 rw [h.2.2, regZ_end h0 hl h47]
 show some (0 + j) = some j
 rw [Nat.zero_add]
theorem RgI.on {T : List UInt8} {j : Nat} {cls : Bool} (h : RgI T j cls false) (h0 : T.drop j ≠ []) (hl : lineEnd (pt (T.drop j)) = false) (h92 : ¬ pt (T.drop j) = 92) (h47 : ¬ (pt (T.drop j) = 47 /\ cls = false)) : RgI T (j + pn (T.drop j)) (if pt (T.drop j) = 91 then true else if pt (T.drop j) = 93 then false else cls) false := h.move h0 (regZ_on h0 hl h92 h47)
open Go
theorem gapF_line : ∀ (f : Nat) (s : List UInt8) (g : Nat), gapF f s = .inl (g, true) -> s.drop g = []
 | 0, s, g, h => by
  rw [gapF] at h
  injection h with h
  injection h with _ h
  cases h
 | f + 1, s, g, h => by
  have on : ∀ (n : Nat), (match gapF f (s.drop n) with
    | .inl (k, l) => (Sum.inl (k + n, l) : (Nat × Bool) ⊕ Nat)
    | .inr o => .inr (o + n)) = .inl (g, true) -> s.drop g = [] := fun n hn => by
   cases hg : gapF f (s.drop n) with
   | inr o => rw [hg] at hn; cases hn
   | inl y =>
    obtain ⟨k, l⟩ := y
    rw [hg] at hn
    injection hn with hn
    injection hn with h1 h2
    subst h2
    have := gapF_line f (s.drop n) k hg
    rw [List.drop_drop] at this
    rw [<- h1, Nat.add_comm k n]; exact this
  rw [gapF] at h
  split at h
  ·injection h with h; injection h with _ h; cases h
  split at h
  ·exact on _ h
  split at h
  ·dsimp only at h
   split at h
   ·rename_i hd
    injection h with h
    injection h with h _
    rw [<- h]; exact hd
   ·exact on _ h
  split at h
  ·cases hs : shut (s.drop 2) with
   | none => rw [hs] at h; cases h
   | some n => rw [hs] at h; exact on _ h
  ·injection h with h; injection h with _ h; cases h
theorem gap_line {s : List UInt8} {g : Nat} (h : gap s = .inl (g, true)) : s.drop g = [] := gapF_line _ s g h
theorem next_len {st st2 : St} {s : List UInt8} {x : Tk} {k : Nat} (hs : st.stk.length <= 200) (h : next st s = .ok x k st2) : st2.stk.length <= 200 := by
 have htm : ∀ {r : Rs}, tmpl st s = r -> ∀ {x k st2}, r = .ok x k st2 -> st2.stk.length <= 200 := by
  intro r hr x k st2 h
  subst hr
  have hp := pop_len hs
  have h1 : (if isB (· == 125) s = true then pop st else st).stk.length <= 200 := by split <;> assumption
  unfold tmpl at h
  dsimp only at h
  generalize (if isB (· == 125) s = true then pop st else st) = st1 at h h1
  split at h
  ·split at h
   ·cases h
   ·split at h
    ·cases h; exact h1
    ·split at h
     ·cases h
     ·rename_i st3 hpu
      cases h
      exact (show st3.stk.length <= 200 from push_len h1 hpu)
  ·cases h
 unfold next at h
 split at h
 ·cases h; exact hs
 split at h
 ·split at h
  ·cases h
  ·cases h; exact hs
 split at h
 ·dsimp only at h
  split at h
  ·cases h
  ·cases h; exact hs
 split at h
 ·cases hq : quote s with
  | inl r =>
   rw [hq] at h
   dsimp only at h
   unfold quote at hq
   split at hq
   ·split at hq
    ·cases hq
    ·injection hq with hq; subst hq; cases h
   ·injection hq with hq; subst hq; cases h
  | inr y => rw [hq] at h; cases h; exact hs
 split at h
 ·exact htm h rfl
 split at h
 ·split at h
  ·cases h
  ·cases h; exact hs
 ·split at h
  ·cases h
  ·split at h
   ·cases h
   ·rename_i st3 hb
    cases h
    exact (show st3.stk.length <= 200 from bracket_len hs hb)
def errF : Nat -> St -> List UInt8 -> Option (St × List UInt8)
 | 0, _, _ => none
 | f + 1, st, s => match gap s with
  | .inr _ => none
  | .inl (g, _) => if s.drop g = [] then none else match next st (s.drop g) with
   | .no _ _ => some (st, s.drop g)
   | .ok _ k st2 => errF f st2 (s.drop (g + k))
theorem errF_fuel : ∀ (f g : Nat) (st : St) (s : List UInt8), Cssp.valid s = true -> s.length < f -> s.length < g -> errF f st s = errF g st s
 | 0, _, _, _, _, h, _ => by omega
 | _, 0, _, _, _, _, h => by omega
 | f + 1, g + 1, st, s, hv, hf, hg => by
  rw [errF, errF]
  cases hgp : gap s with
  | inr o => rfl
  | inl y =>
   obtain ⟨j, ln⟩ := y
   simp only
   by_cases h1 : s.drop j = []
   ·rw [if_pos h1, if_pos h1]
   ·rw [if_neg h1, if_neg h1]
    obtain ⟨i1, i2, _, _⟩ := gap_sp (c0 := 32) (.inl rfl) [] s.length s j ln (Nat.le_refl _) hv hgp
    cases hn : next st (s.drop j) with
    | no e o => rfl
    | ok x k st2 =>
     simp only
     obtain ⟨_, n1, n2, n3⟩ := next_sp (c0 := 32) (.inl rfl) [] (s.drop j) st i2 h1 hn
     rw [List.drop_drop] at n3
     rw [List.length_drop] at n2
     exact errF_fuel f g st2 _ n3 (by rw [List.length_drop]; omega) (by rw [List.length_drop]; omega)
def errX (st : St) (s : List UInt8) : Option (St × List UInt8) := errF (s.length + 1) st s
def errOf (F : List UInt8) : Option (St × List UInt8) := errX st0 F
theorem errX_step (st : St) (s : List UInt8) (hv : Cssp.valid s = true) : errX st s = match gap s with
  | .inr _ => none
  | .inl (g, _) => if s.drop g = [] then none else match next st (s.drop g) with
   | .no _ _ => some (st, s.drop g)
   | .ok _ k st2 => errX st2 (s.drop (g + k)) := by
 conv => lhs; unfold errX
 rw [errF]
 cases hgp : gap s with
 | inr o => rfl
 | inl y =>
  obtain ⟨j, ln⟩ := y
  simp only
  by_cases h1 : s.drop j = []
  ·rw [if_pos h1, if_pos h1]
  ·rw [if_neg h1, if_neg h1]
   obtain ⟨i1, i2, _, _⟩ := gap_sp (c0 := 32) (.inl rfl) [] s.length s j ln (Nat.le_refl _) hv hgp
   cases hn : next st (s.drop j) with
   | no e o => rfl
   | ok x k st2 =>
    simp only
    obtain ⟨_, n1, n2, n3⟩ := next_sp (c0 := 32) (.inl rfl) [] (s.drop j) st i2 h1 hn
    rw [List.drop_drop] at n3
    rw [List.length_drop] at n2
    exact errF_fuel _ _ st2 _ n3 (by rw [List.length_drop]; omega) (Nat.lt_succ_self _)
structure Hd (F : List UInt8) (l : List Tk) (st : St) (a : Nat) (ln : Bool) (p : Nat) (A : Al) (E : Option (St × List UInt8)) : Prop where
 le : p <= a
 al : a <= F.length
 va : Cssp.valid (F.drop a) = true
 vp : Cssp.valid (F.drop p) = true
 gp : gap (F.drop p) = .inl (a - p, ln)
 ans : lexX st (F.drop p) p l = A
 err : errX st (F.drop p) = E
 stk : st.stk.length <= 200
 len : l.length <= p
def HdP (F : List UInt8) (l : List Tk) (st : St) (p : Nat) (A : Al) (E : Option (St × List UInt8)) : (Nat × Bool) ⊕ Nat -> Prop
 | .inl (a, ln) => Hd F l st a ln p A E
 | .inr o => A = .no 175 o /\ E = none
theorem HdP.of {F : List UInt8} {l : List Tk} {st : St} {p : Nat} {A : Al} {E : Option (St × List UInt8)} (hp : p <= F.length) (hv : Cssp.valid (F.drop p) = true) (ha : lexX st (F.drop p) p l = A) (he : errX st (F.drop p) = E) (hs : st.stk.length <= 200) (hl : l.length <= p) :
  HdP F l st p A E (Jsp.gp F p false) := by
 have hg : Jsp.gp F p false = gapOn p (gap (F.drop p)) := rfl
 rw [hg]
 cases h : gap (F.drop p) with
 | inr o =>
  rw [lexX_step _ _ _ _ hv, h] at ha
  rw [errX_step _ _ hv, h] at he
  refine ⟨?_, he.symm⟩
  rw [<- ha, Nat.add_comm]
 | inl y =>
  obtain ⟨g, ln⟩ := y
  obtain ⟨i1, i2, _, _⟩ := gap_sp (c0 := 32) (.inl rfl) [] _ _ g ln (Nat.le_refl _) hv h
  rw [List.length_drop] at i1
  rw [List.drop_drop] at i2
  exact ⟨Nat.le_add_left _ _, by omega, by rw [Nat.add_comm]; exact i2, hv, by rw [h, Nat.add_sub_cancel], ha, he, hs, hl⟩
theorem lex_start (F : List UInt8) (hv : Cssp.valid F = true) : HdP F [] st0 0 (lex F) (errOf F) (Jsp.gp F 0 false) :=
 HdP.of (Nat.zero_le _) hv rfl rfl (Nat.zero_le _) (Nat.le_refl _)
section
variable {F : List UInt8} {l : List Tk} {st : St} {a : Nat} {ln : Bool} {p : Nat} {A : Al} {E : Option (St × List UInt8)}
theorem Hd.drop (h : Hd F l st a ln p A E) : (F.drop p).drop (a - p) = F.drop a := by rw [List.drop_drop]; congr 1; have := h.le; omega
theorem Hd.noLine (h : Hd F l st a ln p A E) (ha : a < F.length) : ln = false := by
 cases ln with
 | false => rfl
 | true =>
  have h1 := gap_line h.gp
  rw [h.drop] at h1
  have := congrArg List.length h1
  rw [List.length_drop, List.length_nil] at this
  omega
theorem Hd.end (h : Hd F l st a ln p A E) (ha : a = F.length) : A = .ok l st ln (decide (p = F.length) && match l.getLast? with
  | none => false
  | some x => wordy x) := by
 have := h.ans
 rw [lexX_step _ _ _ _ h.vp, h.gp] at this
 dsimp only at this
 rw [if_pos (by rw [h.drop]; exact List.drop_eq_nil_of_le (by omega))] at this
 have hle := h.le
 have e : (a - p == 0) = decide (p = F.length) := by
  rw [Bool.eq_iff_iff, beq_iff_eq, decide_eq_true_eq]; omega
 rw [e] at this
 exact this.symm
theorem Hd.ne (ha : a < F.length) : F.drop a ≠ [] := fun e => by
 have := congrArg List.length e
 rw [List.length_drop, List.length_nil] at this
 omega
theorem Hd.no (h : Hd F l st a ln p A E) (ha : a < F.length) {e o : Nat} (hn : next st (F.drop a) = .no e o) : A = .no e (a + o) /\ E = some (st, F.drop a) := by
 have h1 := h.ans
 have h2 := h.err
 rw [lexX_step _ _ _ _ h.vp, h.gp] at h1
 rw [errX_step _ _ h.vp, h.gp] at h2
 dsimp only at h1 h2
 rw [h.drop, if_neg (Hd.ne ha), hn] at h1 h2
 have hle := h.le
 dsimp only at h1 h2
 refine ⟨?_, h2.symm⟩
 rw [<- h1, show p + (a - p) + o = a + o by omega]
theorem Hd.ok (h : Hd F l st a ln p A E) (ha : a < F.length) {x : Tk} {k : Nat} {st2 : St} (hn : next st (F.drop a) = .ok x k st2) : 1 <= k /\ a + k <= F.length /\ Cssp.valid (F.drop (a + k)) = true /\ HdP F (l ++ [x]) st2 (a + k) A E (Jsp.gp F (a + k) false) := by
 have h1 := h.ans
 have h2 := h.err
 rw [lexX_step _ _ _ _ h.vp, h.gp] at h1
 rw [errX_step _ _ h.vp, h.gp] at h2
 dsimp only at h1 h2
 rw [h.drop, if_neg (Hd.ne ha), hn] at h1 h2
 dsimp only at h1 h2
 have hle := h.le
 obtain ⟨_, n1, n2, n3⟩ := next_sp (c0 := 32) (.inl rfl) [] (F.drop a) st h.va (Hd.ne ha) hn
 rw [List.length_drop] at n2
 rw [List.drop_drop] at n3
 rw [List.drop_drop, show p + (a - p + k) = a + k by omega] at h1 h2
 rw [show p + (a - p) + k = a + k by omega] at h1
 have hln := h.len
 exact ⟨n1, by omega, n3, HdP.of (by omega) n3 h1 h2 (next_len h.stk hn) (by rw [List.length_append, List.length_singleton]; omega)⟩
end
end Jsp
end Go.Proofs.YtngccmlcopcghaaGreatDoor
