/- Plain laws: the names read out of the constant, one by one; the longest of them; numbers clipped at two bounds. No program in sight. -/
import Derived.Test.YtagkdmolgmhmdaaGreatDoorEnLaws
namespace Go.Proofs.YtagkdmolgmhmdaaGreatDoor.En
namespace Entp
open Go

abbrev Entry := List UInt8 × List UInt8
/-- what stands while the constant is read: the entries so far, the name, the number, the characters, behind the equals sign? -/
structure St where
  l : List Entry
  name : List UInt8
  n : Int
  out : List UInt8
  inn : Bool
def stepE (t : St) (c : UInt8) : St :=
  if c = 32 then ⟨t.l ++ [(t.name, t.out ++ Lib.encodeRune t.n)], [], 0, [], false⟩
  else if c = 61 then { t with inn := true }
  else if c = 44 then { t with out := t.out ++ Lib.encodeRune t.n, n := 0 }
  else if t.inn = true then { t with n := t.n * 10 + ((c.toNat : Int) - 48) }
  else { t with name := t.name ++ [c] }
def start : St := ⟨[], [], 0, [], false⟩
def foldE (t : St) : List UInt8 → List Entry
  | [] => t.l
  | c :: r => foldE (stepE t c) r
/-- the numbers stay small, and are code points; digits are digits -/
def okE (t : St) : List UInt8 → Bool
  | [] => true
  | c :: r => decide (0 ≤ t.n) && decide (t.n ≤ 50000) && (decide (c = 32) || decide (c = 61) || decide (c = 44) || !t.inn || (decide (48 ≤ c.toNat) && decide (c.toNat ≤ 57))) && okE (stepE t c) r
def nm (t : List UInt8) : List UInt8 := t.takeWhile fun c => c != 61
def entry (t : List UInt8) : Entry := (nm t, text (t.drop ((nm t).length + 1)))
def entries : List Entry := toks.map entry
set_option maxRecDepth 1000000 in
theorem ents_ok : okE start (ents.drop 1) = true := by decide +kernel
set_option maxRecDepth 1000000 in
theorem ents_fold : foldE start (ents.drop 1) = entries := by decide +kernel
set_option maxRecDepth 1000000 in
theorem toks_len : toks.length = 236 := by decide +kernel

/-! ### the longest name -/
set_option maxRecDepth 1000000 in
theorem toks_find : (toks.all fun t => find (nm t) == some t) = true := by decide +kernel
set_option maxRecDepth 1000000 in
theorem toks_one : (toks.all fun t => (t.drop ((nm t).length + 1)).all (fun c => c != 61) && decide ((nm t).length < t.length)) = true := by decide +kernel
set_option maxRecDepth 1000000 in
theorem toks_names : (toks.all fun t => decide (0 < (nm t).length) && decide ((nm t).length ≤ 32) && (decide (lets (nm t) = (nm t).length) || decide (lets (nm t) + 1 = (nm t).length) && decide ((nm t)[lets (nm t)]? = some 59))) = true := by decide +kernel

def stepN (s : List UInt8) (m : Nat × List UInt8) (x : Entry) : Nat × List UInt8 :=
  if m.1 < x.1.length ∧ x.1.length ≤ s.length ∧ s.take x.1.length = x.1 then (x.1.length, x.2) else m
def foldN (s : List UInt8) : Nat × List UInt8 → List Entry → Nat × List UInt8
  | m, [] => m
  | m, x :: r => foldN s (stepN s m x) r

theorem lets_prefix : ∀ (p s : List UInt8), p <+: s → lets p = p.length → p.length ≤ lets s
  | [], _, _, _ => Nat.zero_le _
  | c :: p, s, h, hl => by
    obtain ⟨r, rfl⟩ := h
    rw [lets] at hl
    split at hl
    · rename_i hc
      rw [List.cons_append, lets, if_pos hc, List.length_cons]
      have := lets_prefix p (p ++ r) ⟨r, rfl⟩ (by rw [List.length_cons] at hl; omega)
      omega
    · simp at hl
theorem lets_stop : ∀ (p s : List UInt8), p <+: s → lets p < p.length → lets s = lets p
  | [], _, _, h => by simp at h
  | c :: p, s, h, hl => by
    obtain ⟨r, rfl⟩ := h
    rw [List.cons_append, lets, lets]
    split
    · rename_i hc
      rw [lets, if_pos hc, List.length_cons] at hl
      rw [lets_stop p (p ++ r) ⟨r, rfl⟩ (by omega)]
    · rfl
/-- a name that a text begins with ends where the longest may -/
theorem name_top (t s : List UInt8) (ht : t ∈ toks) (h : nm t <+: s) : (nm t).length ≤ top s := by
  have h1 := List.all_eq_true.1 toks_names t ht
  simp only [Bool.and_eq_true, Bool.or_eq_true, decide_eq_true_eq] at h1
  obtain ⟨⟨_, h2⟩, h3⟩ := h1
  rw [top_eq]
  rcases h3 with h3 | ⟨h3, h4⟩
  · have := lets_prefix _ _ h h3
    split <;> omega
  · have h5 := lets_stop _ _ h (by omega)
    obtain ⟨r, rfl⟩ := h
    rw [h5, show min 32 (lets (nm t)) = lets (nm t) by omega, if_pos]
    · omega
    · rw [List.getElem?_append_left (by omega)]; exact h4
/-- what is found is an entry's name -/
theorem points_name (q u : List UInt8) (h : points q = some u) : ∃ t ∈ toks, q = nm t ∧ u = text (t.drop ((nm t).length + 1)) := by
  unfold points at h
  cases hf : find q with
  | none => rw [hf] at h; cases h
  | some t =>
    rw [hf] at h
    have hu := Option.some.inj h
    have hmem := List.mem_of_find?_eq_some hf
    have hpre : (q ++ [61]).isPrefixOf t = true := List.find?_some hf
    obtain ⟨r, hr⟩ := List.isPrefixOf_iff_prefix.1 hpre
    have h1 := List.all_eq_true.1 toks_one t hmem
    rw [Bool.and_eq_true, decide_eq_true_eq] at h1
    have hq : q = nm t := by
      by_cases hin : (61 : UInt8) ∈ q
      · exfalso
        obtain ⟨a, b, hab, hna⟩ : ∃ a b, q = a ++ 61 :: b ∧ ∀ c ∈ a, c ≠ 61 := by
          have : ∀ l : List UInt8, 61 ∈ l → ∃ a b, l = a ++ 61 :: b ∧ ∀ c ∈ a, c ≠ 61 := fun l => by
            induction l with
            | nil => intro h; cases h
            | cons x l ih =>
              intro h
              by_cases hx : x = 61
              · exact ⟨[], l, by rw [hx]; rfl, by simp⟩
              · rcases List.mem_cons.1 h with e | h
                · exact absurd e.symm hx
                · obtain ⟨a, b, e, hh⟩ := ih h
                  exact ⟨x :: a, b, by rw [e]; rfl, fun c hc => by rcases List.mem_cons.1 hc with rfl | hc; exact hx; exact hh c hc⟩
          exact this q hin
        have hnm : nm t = a := by
          rw [← hr, hab]
          unfold nm
          rw [List.append_assoc, List.append_assoc, List.takeWhile_append_of_pos (by intro x hx; simpa using hna x hx)]
          simp
        have h2 := h1.1
        rw [hnm, ← hr, hab] at h2
        have e : (a ++ 61 :: b ++ [61] ++ r).drop (a.length + 1) = b ++ [61] ++ r := by
          rw [show a ++ 61 :: b ++ [61] ++ r = (a ++ [61]) ++ (b ++ [61] ++ r) by simp, List.drop_left' (by simp)]
        rw [e] at h2
        have := List.all_eq_true.1 h2 61 (by simp)
        simp at this
      · unfold nm
        rw [← hr, List.append_assoc, List.takeWhile_append_of_pos (by intro x hx; simp; rintro rfl; exact hin hx)]
        simp
    exact ⟨t, hmem, hq, by rw [← hu, ← hq]⟩
theorem name_points (t : List UInt8) (ht : t ∈ toks) : points (nm t) = some (text (t.drop ((nm t).length + 1))) := by
  have h1 := List.all_eq_true.1 toks_find t ht
  rw [beq_iff_eq] at h1
  unfold points
  rw [h1]; rfl

/-- what the scan of all entries comes to -/
theorem foldN_inv (s : List UInt8) : ∀ (ts : List (List UInt8)) (m : Nat × List UInt8), (∀ t ∈ ts, t ∈ toks) → (m = (0, []) ∨ (0 < m.1 ∧ m.1 ≤ s.length ∧ points (s.take m.1) = some m.2)) →
    (foldN s m (ts.map entry) = (0, []) ∨ (0 < (foldN s m (ts.map entry)).1 ∧ (foldN s m (ts.map entry)).1 ≤ s.length ∧ points (s.take (foldN s m (ts.map entry)).1) = some (foldN s m (ts.map entry)).2)) ∧
    m.1 ≤ (foldN s m (ts.map entry)).1 ∧ ∀ t ∈ ts, nm t <+: s → (nm t).length ≤ (foldN s m (ts.map entry)).1
  | [], m, _, hm => ⟨hm, Nat.le_refl _, fun _ h => by cases h⟩
  | t :: ts, m, hts, hm => by
    have ht := hts t (by simp)
    have hpos : 0 < (nm t).length := by
      have h1 := List.all_eq_true.1 toks_names t ht
      simp only [Bool.and_eq_true, Bool.or_eq_true, decide_eq_true_eq] at h1
      exact h1.1.1
    rw [List.map_cons, foldN]
    have hstep : stepN s m (entry t) = m ∨ (stepN s m (entry t) = ((nm t).length, text (t.drop ((nm t).length + 1))) ∧ m.1 < (nm t).length ∧ (nm t).length ≤ s.length ∧ s.take (nm t).length = nm t) := by
      unfold stepN entry
      simp only
      split
      · rename_i h; exact .inr ⟨rfl, h⟩
      · exact .inl rfl
    have hm' : stepN s m (entry t) = (0, []) ∨ (0 < (stepN s m (entry t)).1 ∧ (stepN s m (entry t)).1 ≤ s.length ∧ points (s.take (stepN s m (entry t)).1) = some (stepN s m (entry t)).2) := by
      rcases hstep with h | ⟨h, _, h2, h3⟩
      · rw [h]; exact hm
      · rw [h]; exact .inr ⟨hpos, h2, by rw [h3]; exact name_points t ht⟩
    have hge : m.1 ≤ (stepN s m (entry t)).1 := by
      rcases hstep with h | ⟨h, h1, _⟩
      · rw [h]; exact Nat.le_refl _
      · rw [h]; exact Nat.le_of_lt h1
    obtain ⟨i1, i2, i3⟩ := foldN_inv s ts _ (fun x hx => hts x (by simp [hx])) hm'
    refine ⟨i1, Nat.le_trans hge i2, fun x hx hp => ?_⟩
    rcases List.mem_cons.1 hx with rfl | hx
    · refine Nat.le_trans ?_ i2
      obtain ⟨r, rfl⟩ := hp
      unfold stepN entry
      simp only
      split
      · exact Nat.le_refl _
      · rename_i h
        simp at h
        omega
    · exact i3 x hx hp

theorem downFrom_best (s : List UInt8) (k : Nat) (u : List UInt8) : ∀ T, k ≤ T → 0 < k → points (s.take k) = some u → (∀ j, k < j → j ≤ T → points (s.take j) = none) → downFrom s T = (k, u)
  | 0, h, h0, _, _ => by omega
  | T + 1, h, h0, hp, hn => by
    rw [downFrom]
    by_cases hk : k = T + 1
    · subst hk; rw [hp]
    · rw [hn (T + 1) (by omega) (Nat.le_refl _)]
      exact downFrom_best s k u T (by omega) h0 hp (fun j h1 h2 => hn j h1 (by omega))
theorem downFrom_none (s : List UInt8) : ∀ T, (∀ j, 0 < j → j ≤ T → points (s.take j) = none) → downFrom s T = (0, [])
  | 0, _ => rfl
  | T + 1, hn => by
    rw [downFrom, hn (T + 1) (by omega) (Nat.le_refl _)]
    exact downFrom_none s T (fun j h1 h2 => hn j h1 (by omega))
/-- THE LONGEST NAME IS THE SAME BY BOTH ROADS. -/
theorem named_eq (s : List UInt8) : foldN s (0, []) entries = named s := by
  obtain ⟨h1, _, h3⟩ := foldN_inv s toks (0, []) (fun t h => h) (.inl rfl)
  rw [show toks.map entry = entries from rfl] at h1 h3
  have hT : top s ≤ s.length := by
    have := lets_le s
    rw [top_eq]
    split
    · rename_i h
      rcases Nat.lt_or_ge (min 32 (lets s)) s.length with h' | h'
      · omega
      · rw [List.getElem?_eq_none h'] at h; cases h
    · omega
  have hno : ∀ j, (foldN s (0, []) entries).1 < j → j ≤ top s → points (s.take j) = none := fun j hj hjt => by
    cases hp : points (s.take j) with
    | none => rfl
    | some u =>
      obtain ⟨t, ht, hq, _⟩ := points_name _ _ hp
      have := h3 t ht (by rw [← hq]; exact List.take_prefix _ _)
      rw [← hq, List.length_take] at this
      omega
  rcases h1 with h1 | ⟨h0, hl, hp⟩
  · rw [h1] at hno ⊢
    exact (downFrom_none s _ hno).symm
  · obtain ⟨t, ht, hq, _⟩ := points_name _ _ hp
    have hle := name_top t s ht (by rw [← hq]; exact List.take_prefix _ _)
    rw [← hq, List.length_take] at hle
    rw [named, downFrom_best s _ _ _ (by omega) h0 hp hno]

/-! ### numbers clipped -/
theorem clip_far (f g b : Int) (hb : 1 ≤ b) (hf : 1114111 < f) (hg : 1114111 < g) : ∀ (l : List UInt8) (n m : Int), (∀ c ∈ l, 0 ≤ hex c) → 0 ≤ n → 0 ≤ m → (n = m ∨ 1114111 < n ∧ 1114111 < m) →
    (clip f b n l = clip g b m l ∨ 1114111 < clip f b n l ∧ 1114111 < clip g b m l)
  | [], n, m, _, _, _, h => h
  | c :: l, n, m, hc, h0, h1, h => by
    have hx := hc c (by simp)
    have hnb : n ≤ n * b := by have := Int.mul_le_mul_of_nonneg_left hb h0; omega
    have hmb : m ≤ m * b := by have := Int.mul_le_mul_of_nonneg_left hb h1; omega
    rw [clip, clip]
    refine clip_far f g b hb hf hg l _ _ (fun x hx => hc x (by simp [hx])) (by omega) (by omega) ?_
    rcases h with h | ⟨ha, hb'⟩
    · subst h
      by_cases he : n * b + hex c ≤ 1114111
      · exact .inl (by omega)
      · exact .inr (by omega)
    · exact .inr (by omega)
theorem number_far (n : Int) (h : 1114111 < n) : number n = 65533 := by rw [number, if_pos (.inr (.inl h))]
theorem number_clip (f g b : Int) (hb : 1 ≤ b) (hf : 1114111 < f) (hg : 1114111 < g) (l : List UInt8) (hc : ∀ c ∈ l, 0 ≤ hex c) : number (clip f b 0 l) = number (clip g b 0 l) := by
  rcases clip_far f g b hb hf hg l 0 0 hc (Int.le_refl _) (Int.le_refl _) (.inl rfl) with h | ⟨h1, h2⟩
  · rw [h]
  · rw [number_far _ h1, number_far _ h2]
end Entp
end Go.Proofs.YtagkdmolgmhmdaaGreatDoor.En
namespace Go.Proofs.YtagkdmolgmhmdaaGreatDoor.En
namespace Entp
open Go

theorem getLast_take (p : List UInt8) (hp : 0 < p.length) : p = p.take (p.length - 1) ++ [p[p.length - 1]'(by omega)] := by
  conv => lhs; rw [← List.take_append_drop (p.length - 1) p]
  congr 1
  rw [List.drop_eq_getElem_cons (by omega), List.drop_eq_nil_of_le (by omega)]
/-- a whole name with its semicolon is the longest name of what begins with it -/
theorem named_whole (t b : List UInt8) (ht : t ∈ toks) (h59 : (nm t)[(nm t).length - 1]? = some 59) :
    named (nm t ++ b) = ((nm t).length, text (t.drop ((nm t).length + 1))) := by
  have h1 := List.all_eq_true.1 toks_names t ht
  simp only [Bool.and_eq_true, Bool.or_eq_true, decide_eq_true_eq] at h1
  obtain ⟨⟨hp, h32⟩, h3⟩ := h1
  have hnot : ¬ (lets (nm t) = (nm t).length) := fun h => by
    have : ∀ (s : List UInt8), lets s = s.length → ∀ (i : Nat) (c : UInt8), s[i]? = some c → alnum c = true := fun s => by
      induction s with
      | nil => intro _ i c hc; simp at hc
      | cons x s ih =>
        intro hl i c hc
        rw [lets] at hl
        split at hl
        · rename_i hx
          cases i with
          | zero => simp at hc; subst hc; exact hx
          | succ i => exact ih (by rw [List.length_cons] at hl; omega) i c (by simpa using hc)
        · simp at hl
    have := this _ h _ _ h59
    exact absurd this (by decide)
  obtain ⟨h4, _⟩ : lets (nm t) + 1 = (nm t).length ∧ (nm t)[lets (nm t)]? = some 59 := by
    rcases h3 with h3 | h3
    · exact absurd h3 hnot
    · exact h3
  have hl : lets (nm t ++ b) = lets (nm t) := lets_app _ _ (by omega)
  have htop : top (nm t ++ b) = (nm t).length := by
    rw [top_eq, hl, show min 32 (lets (nm t)) = (nm t).length - 1 by omega, if_pos (by rw [List.getElem?_append_left (by omega)]; exact h59)]
    omega
  rw [named, htop]
  obtain ⟨k, hk⟩ : ∃ k, (nm t).length = k + 1 := ⟨(nm t).length - 1, by omega⟩
  rw [hk, downFrom, ← hk, List.take_left, name_points t ht]
theorem ref_name (t b : List UInt8) (attr : Bool) (ht : t ∈ toks) (h59 : (nm t)[(nm t).length - 1]? = some 59) :
    ref (nm t ++ b) attr = ((nm t).length + 1, text (t.drop ((nm t).length + 1))) := by
  have h1 := List.all_eq_true.1 toks_names t ht
  simp only [Bool.and_eq_true, Bool.or_eq_true, decide_eq_true_eq] at h1
  obtain ⟨⟨hp, _⟩, h3⟩ := h1
  have hh : ¬ ((nm t ++ b).head? = some 35) := by
    cases hn : nm t with
    | nil => rw [hn] at hp; simp at hp
    | cons x r =>
      rw [List.cons_append, List.head?_cons, Option.some.injEq]
      rintro rfl
      rw [hn] at h3 h59
      have hz : lets (35 :: r) = 0 := by rw [lets]; rfl
      rw [hz] at h3
      rcases h3 with h3 | ⟨h3, h4⟩
      · simp at h3
      · simp at h4
  unfold ref
  rw [if_neg hh]
  unfold nameRef
  simp only [named_whole t b ht h59]
  rw [if_neg]
  rintro (h | ⟨_, h, _⟩)
  · omega
  · rw [List.getElem?_append_left (by omega)] at h
    exact h h59
theorem decode_name (a t b : List UInt8) (attr : Bool) (ha : ∀ c ∈ a, c ≠ 38) (ht : t ∈ toks) (h59 : (nm t)[(nm t).length - 1]? = some 59) :
    decode (a ++ 38 :: (nm t ++ b)) attr = a ++ (text (t.drop ((nm t).length + 1)) ++ decode b attr) := by
  have hs : step (nm t ++ b) attr = ((nm t).length + 1, text (t.drop ((nm t).length + 1))) := by
    rw [step, ref_name t b attr ht h59, if_neg (by simp)]
  rw [decode_at attr a _ ha, hs]
  simp only [List.drop_succ_cons, List.drop_left]
  rw [List.append_assoc]

/-! ### the decimal digits of a number -/
def digs (fuel : Nat) (n : Nat) : List UInt8 := match fuel with
  | 0 => []
  | f + 1 => if n = 0 then [] else digs f (n / 10) ++ [UInt8.ofNat (48 + n % 10)]
theorem digs_zero (f : Nat) : digs f 0 = [] := by cases f <;> rfl
theorem digs_len : ∀ (f n : Nat), (digs f n).length ≤ f
  | 0, _ => by simp [digs]
  | f + 1, n => by
    rw [digs]
    split
    · simp
    · have := digs_len f (n / 10); simp only [List.length_append, List.length_cons, List.length_nil]; omega
theorem digs_pos (f n : Nat) (hn : 0 < n) : 0 < (digs (f + 1) n).length := by
  rw [digs, if_neg (by omega)]; simp
theorem digit_hex (d : Nat) (hd : d < 10) : hex (UInt8.ofNat (48 + d)) = d := by
  have : (UInt8.ofNat (48 + d)).toNat = 48 + d := UInt8.toNat_ofNat_of_lt' (by show 48 + d < 256; omega)
  unfold hex
  rw [this, if_pos (by omega)]
  omega
theorem digit_is (d : Nat) (hd : d < 10) : isDig 10 (UInt8.ofNat (48 + d)) = true := by
  rw [isDig, digit_hex d hd]; simp; omega
theorem digs_all : ∀ (f n : Nat), ∀ c ∈ digs f n, isDig 10 c = true
  | 0, _, c, h => by simp [digs] at h
  | f + 1, n, c, h => by
    rw [digs] at h
    split at h
    · simp at h
    · rcases List.mem_append.1 h with h | h
      · exact digs_all f _ c h
      · rw [List.mem_singleton] at h
        rw [h]
        exact digit_is (n % 10) (Nat.mod_lt n (by decide))
theorem many_all (b : Int) : ∀ (l r : List UInt8), (∀ c ∈ l, isDig b c = true) → many b (l ++ r) = l.length + many b r
  | [], r, _ => by simp
  | c :: l, r, h => by
    rw [List.cons_append, many, if_pos (h c (by simp)), many_all b l r (fun x hx => h x (by simp [hx])), List.length_cons]; omega
theorem clip_snoc' (f b : Int) (x : UInt8) : ∀ (m : List UInt8) (n : Int), clip f b n (m ++ [x]) = min (clip f b n m * b + hex x) f
  | [], _ => rfl
  | c :: m, n => by rw [List.cons_append, clip, clip_snoc' f b x m, clip]
theorem clip_digs (far : Int) (hf : 0 ≤ far) : ∀ (f n : Nat), n < 10 ^ f → clip far 10 0 (digs f n) = min (n : Int) far
  | 0, n, h => by
    have : n = 0 := by simp at h; exact h
    subst this
    rw [digs, clip]; omega
  | f + 1, n, h => by
    rw [digs]
    split
    · rename_i h0; subst h0; rw [clip]; omega
    · have hlt : n / 10 < 10 ^ f := by
        rw [Nat.pow_succ] at h
        exact (Nat.div_lt_iff_lt_mul (by decide)).2 h
      rw [clip_snoc', clip_digs far hf f (n / 10) hlt, digit_hex (n % 10) (Nat.mod_lt n (by decide))]
      have e : (n : Int) = ((n / 10 : Nat) : Int) * 10 + ((n % 10 : Nat) : Int) := by omega
      omega
theorem number_min (n : Nat) : number (min (n : Int) 2097152) = number n := by
  by_cases h : (n : Int) ≤ 2097152
  · rw [show min (n : Int) 2097152 = n by omega]
  · rw [show min (n : Int) 2097152 = 2097152 by omega, number_far 2097152 (by decide), number_far n (by omega)]
theorem ref_num (f n : Nat) (b : List UInt8) (attr : Bool) (hn : 0 < n) (h : n < 10 ^ (f + 1)) :
    ref (35 :: (digs (f + 1) n ++ 59 :: b)) attr = (2 + (digs (f + 1) n).length + 1, Lib.encodeRune (number n)) := by
  have hp := digs_pos f n hn
  have hall := digs_all (f + 1) n
  have hclip := clip_digs 2097152 (by decide) (f + 1) n h
  obtain ⟨ds, hds⟩ : ∃ ds, digs (f + 1) n = ds := ⟨_, rfl⟩
  rw [hds] at hp hall hclip ⊢
  have hb : based (ds ++ 59 :: b) = (10, 0) := by
    cases ds with
    | nil => simp at hp
    | cons c l =>
      have hc := hall c (by simp)
      rw [List.cons_append, based, if_neg]
      rintro (rfl | rfl)
      · exact absurd hc (by decide)
      · exact absurd hc (by decide)
  have hm : many 10 (ds ++ 59 :: b) = ds.length := by
    rw [many_all 10 ds _ hall, many, if_neg (by decide), Nat.add_zero]
  unfold ref
  rw [if_pos (by rfl), List.drop_succ_cons, List.drop_zero]
  unfold numRef
  simp only [hb, List.drop_zero, hm, List.drop_left, List.take_left, List.head?_cons, if_true]
  rw [if_neg (by omega), hclip, number_min]
theorem decode_num (a b : List UInt8) (f n : Nat) (attr : Bool) (ha : ∀ c ∈ a, c ≠ 38) (hn : 0 < n) (h : n < 10 ^ (f + 1)) :
    decode (a ++ 38 :: 35 :: (digs (f + 1) n ++ 59 :: b)) attr = a ++ (Lib.encodeRune (number n) ++ decode b attr) := by
  have hs : step (35 :: (digs (f + 1) n ++ 59 :: b)) attr = (2 + (digs (f + 1) n).length + 1, Lib.encodeRune (number n)) := by
    rw [step, ref_num f n b attr hn h, if_neg (by simp)]
  rw [decode_at attr a _ ha, hs]
  have e : (38 :: 35 :: (digs (f + 1) n ++ 59 :: b)).drop (2 + (digs (f + 1) n).length + 1) = b := by
    rw [show 2 + (digs (f + 1) n).length + 1 = (digs (f + 1) n).length + 1 + 1 + 1 by omega, List.drop_succ_cons, List.drop_succ_cons, ← List.drop_drop, List.drop_left]
    rfl
  simp only [e]
  rw [List.append_assoc]
end Entp
end Go.Proofs.YtagkdmolgmhmdaaGreatDoor.En
