/- Plain: the document's code points against the library's decoding; what IndexFunc finds. No program in sight. -/
import Derived.Test.YtngccmlcopcghaaGreatDoorPs
import Derived.Lib.QuoteLoop
import Derived.Lib.TrimUEq
import Derived.Shelf.GgClosure.StringsIndexFunc
set_option maxRecDepth 100000
set_option maxHeartbeats 8000000
namespace Go.Proofs.YtngccmlcopcghaaGreatDoor
namespace Jsp
open Go
theorem u8_of {a b : Nat} (ha : a < 256) (hb : b < 256) (h : UInt8.ofNat a = UInt8.ofNat b) : a = b := by
 have := congrArg UInt8.toNat h
 rwa [UInt8.toNat_ofNat_of_lt' ha, UInt8.toNat_ofNat_of_lt' hb] at this
def Cp (x : Nat) : Prop := x <= 1114111 /\ (x < 55296 \/ 57343 < x)
theorem enc_cases {z : Nat} (h : Cp z) : (z < 128 /\ Lib.encodeRune z = [UInt8.ofNat z]) \/ (128 <= z /\ z < 2048 /\ Lib.encodeRune z = [UInt8.ofNat (192 + z / 64), UInt8.ofNat (128 + z % 64)]) \/
  (2048 <= z /\ z < 65536 /\ Lib.encodeRune z = [UInt8.ofNat (224 + z / 4096), UInt8.ofNat (128 + z / 64 % 64), UInt8.ofNat (128 + z % 64)]) \/
  (65536 <= z /\ z <= 1114111 /\ Lib.encodeRune z = [UInt8.ofNat (240 + z / 262144), UInt8.ofNat (128 + z / 4096 % 64), UInt8.ofNat (128 + z / 64 % 64), UInt8.ofNat (128 + z % 64)]) := by
 obtain ⟨h1, h2⟩ := h
 by_cases c1 : z < 128
 ·exact .inl ⟨c1, Cssp.encp1 z c1⟩
 by_cases c2 : z < 2048
 ·exact .inr (.inl ⟨by omega, c2, Cssp.encp2 z c1 c2⟩)
 by_cases c3 : z < 65536
 ·exact .inr (.inr (.inl ⟨by omega, c3, Cssp.encp3 z c2 c3 (by omega)⟩))
 ·exact .inr (.inr (.inr ⟨by omega, h1, Cssp.encp4 z c3 h1⟩))
theorem enc_inj {x y : Nat} (hx : Cp x) (hy : Cp y) (h : Lib.encodeRune x = Lib.encodeRune y) : x = y := by
 rcases enc_cases hx with ⟨a1, a2⟩ | ⟨a1, a3, a2⟩ | ⟨a1, a3, a2⟩ | ⟨a1, a3, a2⟩ <;> rcases enc_cases hy with ⟨b1, b2⟩ | ⟨b1, b3, b2⟩ | ⟨b1, b3, b2⟩ | ⟨b1, b3, b2⟩ <;> rw [a2, b2] at h
 all_goals first | (exfalso; have := congrArg List.length h; simp at this; done) | skip
 ·simp only [List.cons.injEq, and_true] at h
  exact u8_of (by omega) (by omega) h
 ·simp only [List.cons.injEq, and_true] at h
  have h1 := u8_of (by omega) (by omega) h.1
  have h2 := u8_of (by omega) (by omega) h.2
  omega
 ·simp only [List.cons.injEq, and_true] at h
  have h1 := u8_of (by omega) (by omega) h.1
  have h2 := u8_of (by omega) (by omega) h.2.1
  have h3 := u8_of (by omega) (by omega) h.2.2
  omega
 ·simp only [List.cons.injEq, and_true] at h
  have h1 := u8_of (by omega) (by omega) h.1
  have h2 := u8_of (by omega) (by omega) h.2.1
  have h3 := u8_of (by omega) (by omega) h.2.2.1
  have h4 := u8_of (by omega) (by omega) h.2.2.2
  omega
theorem decodeL_cp (s : List UInt8) : Cp (Lib.decodeL s).1 := by
 rw [Lib.decodeL_N]
 have h1 := Lib.decodeN_valid s.length (s.getD 0 0).toNat (s.getD 1 0).toNat (s.getD 2 0).toNat (s.getD 3 0).toNat (UInt8.toNat_lt _)
 unfold Cp
 omega
theorem cpt_lib (s : List UInt8) (h0 : s ≠ []) (hp : (Cssp.piece s).2 = true) : (Lib.decodeL s).1 = Cssp.cpt s := by
 obtain ⟨h1, h2, h3⟩ := Cssp.cpt_ok s h0
 refine enc_inj (decodeL_cp s) ⟨h2, h3⟩ ?_
 rw [h1]
 exact Cssp.code_lib s h0 hp
theorem lib_pt (s : List UInt8) (hv : Cssp.valid s = true) (h0 : s ≠ []) : Lib.decodeL s = (pt s, pn s) := by
 have hp := (valid_split hv h0).1
 have h1 := cpt_lib s h0 hp
 have h2 := ((Cssp.piece_lib s h0).1 hp).1
 unfold pt pn
 rw [if_neg h0, if_neg h0, <- h1, h2]
theorem pt_cp {s : List UInt8} (h0 : s ≠ []) : Cp (pt s) := by
 unfold pt
 rw [if_neg h0]
 exact (Cssp.cpt_ok s h0).2
theorem pt_le (s : List UInt8) : pt s <= 1114111 := by
 by_cases h0 : s = []
 ·subst h0; decide
 ·exact (pt_cp h0).1
theorem decode_at (s : List UInt8) (k : Nat) (hv : Cssp.valid (s.drop k) = true) (h0 : s.drop k ≠ []) : Utf8.decode ⟨s.toArray⟩ k = (pt (s.drop k), pn (s.drop k)) := by
 rw [<- Lib.decodeL_drop]
 exact lib_pt _ hv h0
theorem idxFrom_run (p : Nat -> Bool) (s : List UInt8) : ∀ (f pos : Nat), s.length - pos <= f -> pos <= s.length -> Cssp.valid (s.drop pos) = true ->
  (Lib.idxFuncFrom p true ⟨s.toArray⟩ f pos = -1 /\ pos + run (fun r => !p r) (s.drop pos) = s.length) \/ (Lib.idxFuncFrom p true ⟨s.toArray⟩ f pos = ((pos + run (fun r => !p r) (s.drop pos) : Nat) : Int) /\ pos + run (fun r => !p r) (s.drop pos) < s.length)
 | 0, pos, hf, hp, _ => by
  left
  have : pos = s.length := by omega
  subst this
  rw [List.drop_length]
  exact ⟨rfl, rfl⟩
 | f + 1, pos, hf, hp, hv => by
  have hsz : (⟨s.toArray⟩ : ByteArray).size = s.length := by simp [ByteArray.size]
  by_cases hlt : pos < s.length
  ·have h0 : s.drop pos ≠ [] := fun e => by
    have := congrArg List.length e
    rw [List.length_drop, List.length_nil] at this
    omega
   have hpn := pn_le h0
   rw [List.length_drop] at hpn
   rw [Lib.idxFuncFrom, hsz, if_pos hlt, decode_at s pos hv h0, run_step _ _ h0]
   simp only
   cases hpp : p (pt (s.drop pos)) with
   | true =>
    right
    simp
    exact hlt
   | false =>
    have ih := idxFrom_run p s f (pos + pn (s.drop pos)) (by omega) (by omega) (by rw [<- List.drop_drop]; exact valid_pn hv)
    rw [List.drop_drop]
    simp only [Bool.false_eq_true, if_false, Bool.not_false, if_true]
    rw [<- Nat.add_assoc]
    exact ih
  ·left
   have : pos = s.length := by omega
   subst this
   rw [Lib.idxFuncFrom_end _ _ _ _ _ (by rw [hsz]; omega), List.drop_length]
   exact ⟨rfl, rfl⟩
theorem idx_run (p : Nat -> Bool) (s : List UInt8) (hv : Cssp.valid s = true) :
  (Lib.idxFunc p true ⟨s.toArray⟩ = -1 /\ run (fun r => !p r) s = s.length) \/ (Lib.idxFunc p true ⟨s.toArray⟩ = ((run (fun r => !p r) s : Nat) : Int) /\ run (fun r => !p r) s < s.length) := by
 have h := idxFrom_run p s s.length 0 (by omega) (Nat.zero_le _) (by simpa using hv)
 have hsz : (⟨s.toArray⟩ : ByteArray).size = s.length := by simp [ByteArray.size]
 unfold Lib.idxFunc
 rw [hsz]
 simpa using h
def bl (r : Nat) : Bool := blank r || lineEnd r
theorem gapOn_zero (x : (Nat × Bool) ⊕ Nat) : gapOn 0 x = x := by
 cases x with
 | inl y => rfl
 | inr o => rfl
theorem gap_run : ∀ (f : Nat) (s : List UInt8), s.length <= f -> gap s = gapOn (run bl s) (gap (s.drop (run bl s)))
 | _, [], _ => rfl
 | 0, c :: r, h => by simp at h
 | f + 1, c :: r, h => by
  obtain ⟨s, hs⟩ : ∃ s, c :: r = s := ⟨_, rfl⟩
  rw [hs] at h ⊢
  have h0 : s ≠ [] := by rw [<- hs]; simp
  have hp := pn_le h0
  rw [run_step bl s h0]
  cases hb : bl (pt s) with
  | false => rw [if_neg (by decide), List.drop_zero, gapOn_zero]
  | true =>
   have hb' : blank (pt s) = true \/ lineEnd (pt s) = true := by simpa [bl] using hb
   rw [if_pos rfl, gap_step s h0, if_pos hb', gap_run f (s.drop (pn s)) (by rw [List.length_drop]; omega), gapOn_on, List.drop_drop, Nat.add_comm]
theorem bl_run_stop : ∀ (f : Nat) (s : List UInt8), s.length <= f -> s.drop (run bl s) ≠ [] -> bl (pt (s.drop (run bl s))) = false
 | _, [], _, h => absurd rfl h
 | 0, c :: r, h, _ => by simp at h
 | f + 1, c :: r, h, hn => by
  obtain ⟨s, hs⟩ : ∃ s, c :: r = s := ⟨_, rfl⟩
  rw [hs] at h hn ⊢
  have h0 : s ≠ [] := by rw [<- hs]; simp
  have hp := pn_le h0
  rw [run_step bl s h0] at hn ⊢
  cases hb : bl (pt s) with
  | false => rw [if_neg (by decide), List.drop_zero]; exact hb
  | true =>
   rw [hb, if_pos rfl] at hn
   rw [if_pos rfl]
   rw [<- List.drop_drop] at hn ⊢
   exact bl_run_stop f (s.drop (pn s)) (by rw [List.length_drop]; omega) hn
theorem shut_index : ∀ s : List UInt8, (shut s = none -> Lib.index s [42, 47] = -1) /\ ∀ n, shut s = some n -> Lib.index s [42, 47] = (n : Int) /\ n + 2 <= s.length
 | [] => ⟨fun _ => rfl, fun n h => by cases h⟩
 | c :: r => by
  obtain ⟨h1, h2⟩ := shut_index r
  have hpre : [42, 47].isPrefixOf (c :: r) = decide (c = 42 /\ r.head? = some 47) := by
   cases r with
   | nil => simp [List.isPrefixOf]
   | cons d r =>
    rw [Bool.eq_iff_iff]
    simp [List.isPrefixOf]
    exact ⟨fun h => ⟨h.1.symm, h.2.symm⟩, fun h => ⟨h.1.symm, h.2.symm⟩⟩
  rw [shut_cons, Lib.index, hpre]
  by_cases hc : c = 42 /\ r.head? = some 47
  ·rw [if_pos hc, decide_eq_true hc]
   refine ⟨fun h => (by cases h), fun n h => ?_⟩
   injection h with h
   subst h
   refine ⟨rfl, ?_⟩
   cases r with
   | nil => exact absurd hc.2 (by simp)
   | cons d r => simp
  ·rw [if_neg hc, decide_eq_false hc]
   refine ⟨fun h => ?_, fun n h => ?_⟩
   ·cases hs : shut r with
    | none => rw [h1 hs]; rfl
    | some m => rw [hs] at h; cases h
   ·obtain ⟨m, hm, rfl⟩ := Option.map_eq_some_iff.1 h
    obtain ⟨h3, h4⟩ := h2 m hm
    rw [h3]
    have : ((m : Int) == -1) = false := by rw [beq_eq_false_iff_ne]; omega
    refine ⟨by simp [this], by simp only [List.length_cons]; omega⟩
open Go
theorem skip_le {r : List UInt8} (h : r ≠ []) : 1 <= skip r /\ skip r <= r.length := by
 have hp := pn_le h
 unfold skip
 split
 ·rename_i q
  obtain ⟨t, ht⟩ := List.isPrefixOf_iff_prefix.1 q
  rw [<- ht]
  simp
 ·exact hp
def walkF : Nat -> List UInt8 -> Bool
 | 0, _ => true
 | f + 1, s => match s with
  | [] => true
  | c :: r => if c = 92 then !r.isEmpty && walkF f (r.drop (skip r)) else walkF f r
def walk (s : List UInt8) : Bool := walkF s.length s
theorem walkF_fuel : ∀ (f g : Nat) (s : List UInt8), s.length <= f -> s.length <= g -> walkF f s = walkF g s
 | 0, g, s, hf, _ => by
  have : s = [] := List.eq_nil_of_length_eq_zero (by omega)
  subst this
  cases g <;> rfl
 | f + 1, 0, s, _, hg => by
  have : s = [] := List.eq_nil_of_length_eq_zero (by omega)
  subst this; rfl
 | f + 1, g + 1, [], _, _ => rfl
 | f + 1, g + 1, c :: r, hf, hg => by
  simp only [List.length_cons] at hf hg
  rw [walkF, walkF, walkF_fuel f g r (by omega) (by omega), walkF_fuel f g (r.drop (skip r)) (by rw [List.length_drop]; omega) (by rw [List.length_drop]; omega)]
theorem walk_cons (c : UInt8) (r : List UInt8) : walk (c :: r) = if c = 92 then !r.isEmpty && walk (r.drop (skip r)) else walk r := by
 unfold walk
 rw [List.length_cons, walkF, walkF_fuel r.length (r.drop (skip r)).length _ (by rw [List.length_drop]; omega) (Nat.le_refl _)]
theorem walk_byte {c : UInt8} (hc : c ≠ 92) (r : List UInt8) : walk (c :: r) = walk r := by rw [walk_cons, if_neg hc]
theorem walk_esc {r : List UInt8} (h : walk (92 :: r) = true) : r ≠ [] /\ walk (r.drop (skip r)) = true := by
 rw [walk_cons, if_pos rfl, Bool.and_eq_true] at h
 exact ⟨fun e => by rw [e] at h; exact absurd h.1 (by decide), h.2⟩
theorem walk_pre (X : List UInt8) : ∀ a : List UInt8, (92 : UInt8) ∉ a -> walk (a ++ X) = walk X
 | [], _ => rfl
 | c :: a, h => by
  rw [List.cons_append, walk_byte (fun e => h (by rw [e]; exact List.mem_cons_self)), walk_pre X a (fun e => h (List.mem_cons_of_mem _ e))]
theorem hexV92 {c : UInt8} (h : ¬ hexV c < 0) : c ≠ 92 := fun e => by subst e; exact h (by decide)
def hexStep (a : Option Nat) (c : UInt8) : Option Nat := match a with
 | none => none
 | some n => if hexV c < 0 then none else some (n * 16 + (hexV c).toNat)
theorem hexStep_none : ∀ l : List UInt8, l.foldl hexStep none = none
 | [] => rfl
 | c :: l => by rw [List.foldl_cons]; exact hexStep_none l
theorem hexStep_all : ∀ (l : List UInt8) (n v : Nat), l.foldl hexStep (some n) = some v -> ∀ c ∈ l, ¬ hexV c < 0
 | [], _, _, _, c, hc => by cases hc
 | d :: l, n, v, h, c, hc => by
  rw [List.foldl_cons] at h
  by_cases hd : hexV d < 0
  ·have : hexStep (some n) d = none := by unfold hexStep; simp only; rw [if_pos hd]
   rw [this, hexStep_none] at h
   cases h
  ·have : hexStep (some n) d = some (n * 16 + (hexV d).toNat) := by unfold hexStep; simp only; rw [if_neg hd]
   rw [this] at h
   rcases List.mem_cons.1 hc with rfl | hc
   ·exact hd
   ·exact hexStep_all l _ v h c hc
theorem hexN_eq (l : List UInt8) : hexN l = if l = [] then none else l.foldl hexStep (some 0) := rfl
theorem hexN_all {l : List UInt8} {v : Nat} (h : hexN l = some v) : ∀ c ∈ l, ¬ hexV c < 0 := by
 rw [hexN_eq] at h
 split at h
 ·cases h
 ·exact hexStep_all l 0 v h
theorem hexOf_some {s : List UInt8} {n v : Nat} (h : hexOf s n = some v) : n <= s.length /\ ∀ c ∈ s.take n, ¬ hexV c < 0 := by
 unfold hexOf at h
 split at h
 ·cases h
 ·exact ⟨by omega, hexN_all h⟩
theorem walk_hex {s : List UInt8} {n : Nat} (h : ∀ c ∈ s.take n, ¬ hexV c < 0) (hw : walk s = true) : walk (s.drop n) = true := by
 rw [<- List.take_append_drop n s, walk_pre _ _ (fun e => hexV92 (h _ e) rfl)] at hw
 exact hw
theorem unit_walk {s : List UInt8} {v m : Nat} (h : unit s = some (v, m)) (hw : walk (s.drop 1) = true) : walk (s.drop m) = true /\ 1 <= m /\ m <= s.length := by
 unfold unit at h
 split at h
 ·rename_i q
  obtain ⟨t, ht⟩ := List.isPrefixOf_iff_prefix.1 q
  simp only at h
  split at h
  ·rename_i q2
   obtain ⟨q3, q4⟩ := q2
   cases hx : hexN ((s.drop 2).take (runH (s.drop 2))) with
   | none => rw [hx] at h; cases h
   | some n =>
    rw [hx] at h
    simp only at h
    split at h
    ·cases h
    ·injection h with h
     injection h with h1 h2
     have hall := hexN_all hx
     obtain ⟨d, hd⟩ : ∃ d, (s.drop 2).take (runH (s.drop 2)) = d := ⟨_, rfl⟩
     rw [hd] at q3 q4 h2 hall
     have hpre : s.drop 2 = d ++ s.drop (2 + d.length) := by
      rw [<- List.drop_drop]
      have hdl : d.length <= (s.drop 2).length := by rw [<- hd, List.length_take]; omega
      have : (s.drop 2).take d.length = d := by rw [<- hd, List.length_take]; exact List.take_eq_take_min.symm
      conv => lhs; rw [<- List.take_append_drop d.length (s.drop 2), this]
     have h1s : s.drop 1 = 123 :: s.drop 2 := by rw [<- ht]; rfl
     rw [h1s, walk_byte (by decide), hpre, walk_pre _ _ (fun e => hexV92 (hall _ e) rfl)] at hw
     cases hr : s.drop (2 + d.length) with
     | nil => rw [hr] at q3; cases q3
     | cons c r =>
      rw [hr] at q3 hw
      have hc : c = 125 := by simpa [isB] using q3
      subst hc
      rw [walk_byte (by decide)] at hw
      have hl := congrArg List.length hr
      rw [List.length_drop, List.length_cons] at hl
      have h3 : s.drop m = r := by
       rw [<- h2, show d.length + 3 = (2 + d.length) + 1 by omega, <- List.drop_drop, hr]; rfl
      exact ⟨by rw [h3]; exact hw, by omega, by omega⟩
  ·cases h
 ·cases hx : hexOf (s.drop 1) 4 with
  | none => rw [hx] at h; cases h
  | some n =>
   rw [hx] at h
   injection h with h
   injection h with h1 h2
   obtain ⟨h3, h4⟩ := hexOf_some hx
   have := walk_hex h4 hw
   rw [List.drop_drop] at this
   rw [List.length_drop] at h3
   exact ⟨by rw [<- h2]; exact this, by omega, by omega⟩
theorem skip_asc {c : UInt8} (hc : c.toNat < 128) (h13 : c ≠ 13) (r : List UInt8) : skip (c :: r) = 1 := by
 unfold skip
 rw [if_neg, pn_ascii hc]
 intro e
 obtain ⟨t, ht⟩ := List.isPrefixOf_iff_prefix.1 e
 injection ht with ht
 exact h13 ht.symm
theorem letterOf_asc {c d : UInt8} (h : letterOf c = some d) : c.toNat < 128 /\ c ≠ 13 := by
 unfold letterOf at h
 by_cases h1 : c = 98; · subst h1; decide
 by_cases h2 : c = 116; · subst h2; decide
 by_cases h3 : c = 110; · subst h3; decide
 by_cases h4 : c = 118; · subst h4; decide
 by_cases h5 : c = 102; · subst h5; decide
 by_cases h6 : c = 114; · subst h6; decide
 rw [if_neg h1, if_neg h2, if_neg h3, if_neg h4, if_neg h5, if_neg h6] at h
 cases h
theorem escape_walk {s : List UInt8} (hv : Cssp.valid s = true) (h0 : s ≠ []) {x : List UInt8} {n : Nat} (h : escape s = some (x, n)) (hw : walk (s.drop (skip s)) = true) : walk (s.drop n) = true /\ 1 <= n /\ n <= s.length := by
 have hsk := skip_le h0
 have hpn := pn_le h0
 unfold escape at h
 split at h
 ·rename_i c hl
  injection h with h
  injection h with h1 h2
  obtain ⟨d, r, rfl⟩ := List.exists_cons_of_ne_nil h0
  obtain ⟨a1, a2⟩ := letterOf_asc (show letterOf d = some c from hl)
  rw [skip_asc a1 a2] at hw
  subst h2
  exact ⟨hw, Nat.le_refl _, by simp⟩
 ·rename_i hl
  by_cases c1 : pt s = 120
  ·rw [if_pos c1] at h
   obtain ⟨d, r, rfl, hd, _⟩ := pt_small hv h0 (by omega)
   rw [c1] at hd
   obtain rfl : d = 120 := UInt8.toNat_inj.1 hd
   cases hx : hexOf ((120 :: r).drop 1) 2 with
   | none => rw [hx] at h; cases h
   | some v =>
    rw [hx] at h
    injection h with h
    injection h with h1 h2
    obtain ⟨h3, h4⟩ := hexOf_some hx
    rw [skip_asc (by decide) (by decide)] at hw
    have := walk_hex h4 hw
    rw [List.drop_drop] at this
    rw [List.length_drop] at h3
    subst h2
    exact ⟨this, by omega, by omega⟩
  rw [if_neg c1] at h
  by_cases c2 : pt s = 117
  ·rw [if_pos c2] at h
   obtain ⟨d, r, rfl, hd, _⟩ := pt_small hv h0 (by omega)
   rw [c2] at hd
   obtain rfl : d = 117 := UInt8.toNat_inj.1 hd
   rw [skip_asc (by decide) (by decide)] at hw
   unfold unicode at h
   cases hu : unit (117 :: r) with
   | none => rw [hu] at h; cases h
   | some y =>
    obtain ⟨v, m⟩ := y
    rw [hu] at h
    simp only at h
    obtain ⟨u1, u2, u3⟩ := unit_walk hu hw
    have plain : ∀ {z : List UInt8}, (some (chr v, m) : Option (List UInt8 × Nat)) = some (z, n) -> walk ((117 :: r).drop n) = true /\ 1 <= n /\ n <= (117 :: r).length := fun h => by
     injection h with h
     injection h with h1 h2
     subst h2
     exact ⟨u1, u2, u3⟩
    split at h
    ·rename_i q
     obtain ⟨t, ht⟩ := List.isPrefixOf_iff_prefix.1 q.2.2
     have hml := congrArg List.length ht
     rw [List.length_append, List.length_drop] at hml
     simp only [List.length_cons, List.length_nil] at hml u3
     rw [<- ht, List.cons_append, List.cons_append, List.nil_append] at u1
     have u4 := (walk_esc u1).2
     rw [skip_asc (by decide) (by decide)] at u4
     have hm1 : (117 :: r).drop (m + 1) = 117 :: t := by rw [<- List.drop_drop, <- ht]; rfl
     cases hu2 : unit ((117 :: r).drop (m + 1)) with
     | none => rw [hu2] at h; exact plain h
     | some y2 =>
      obtain ⟨w, k⟩ := y2
      rw [hu2] at h
      simp only at h
      split at h
      ·injection h with h
       injection h with h1 h2
       rw [hm1] at hu2
       obtain ⟨u5, u6, u7⟩ := unit_walk hu2 u4
       rw [<- hm1, List.drop_drop] at u5
       subst h2
       simp only [List.length_cons] at u7 ⊢
       exact ⟨u5, by omega, by omega⟩
      ·exact plain h
    ·exact plain h
  rw [if_neg c2] at h
  by_cases c3 : pt s = 48 /\ isB (fun c => digit c.toNat) (s.drop 1) = false
  ·rw [if_pos c3] at h
   obtain ⟨d, r, rfl, hd, _⟩ := pt_small hv h0 (by omega)
   rw [c3.1] at hd
   obtain rfl : d = 48 := UInt8.toNat_inj.1 hd
   injection h with h
   injection h with h1 h2
   rw [skip_asc (by decide) (by decide)] at hw
   subst h2
   exact ⟨hw, Nat.le_refl _, by simp⟩
  rw [if_neg c3] at h
  by_cases c4 : digit (pt s) = true
  ·rw [if_pos c4] at h; cases h
  rw [if_neg c4] at h
  by_cases c5 : ([13, 10] : List UInt8).isPrefixOf s = true
  ·rw [if_pos c5] at h
   injection h with h
   injection h with h1 h2
   have : skip s = 2 := by unfold skip; rw [if_pos c5]
   rw [this] at hw hsk
   subst h2
   exact ⟨hw, by decide, hsk.2⟩
  rw [if_neg c5] at h
  have hsp : skip s = pn s := by unfold skip; rw [if_neg c5]
  rw [hsp] at hw
  by_cases c6 : lineEnd (pt s) = true
  ·rw [if_pos c6] at h
   injection h with h
   injection h with h1 h2
   subst h2
   exact ⟨hw, hpn⟩
  ·rw [if_neg c6] at h
   injection h with h
   injection h with h1 h2
   subst h2
   exact ⟨hw, hpn⟩
def normC : Bool -> List UInt8 -> List UInt8
 | _, [] => []
 | b, c :: r => if b = true /\ c = 10 then normC false r else if c = 13 then 10 :: normC true r else c :: normC false r
def norm (s : List UInt8) : List UInt8 := normC false s
theorem normC_true {r : List UInt8} (h : r.head? ≠ some 10) : normC true r = normC false r := by
 cases r with
 | nil => rfl
 | cons d q =>
  have hd : ¬ d = 10 := fun e => h (by rw [e]; rfl)
  rw [normC, normC]
  simp [hd]
def nrm (t : Bool) (s : List UInt8) : List UInt8 := if t = true then norm s else s
def mp (p : List UInt8) (k : Nat) : List UInt8 ⊕ Nat -> List UInt8 ⊕ Nat
 | .inl l => .inl (p ++ l)
 | .inr j => .inr (j + k)
theorem mp_nil (x : List UInt8 ⊕ Nat) : mp [] 0 x = x := by cases x <;> rfl
theorem mp_mp (p q : List UInt8) (j k : Nat) (x : List UInt8 ⊕ Nat) : mp p j (mp q k x) = mp (p ++ q) (k + j) x := by
 cases x with
 | inl l => simp [mp]
 | inr o => simp only [mp, Nat.add_assoc]
theorem cookF_fuel (t : Bool) : ∀ (f g : Nat) (s : List UInt8), s.length < f -> s.length < g -> cookF t f s = cookF t g s
 | 0, _, _, h, _ => by omega
 | _, 0, _, _, h => by omega
 | f + 1, g + 1, [], _, _ => rfl
 | f + 1, g + 1, c :: r, hf, hg => by
  simp only [List.length_cons] at hf hg
  have e1 := cookF_fuel t f g r (by omega) (by omega)
  have e2 := fun n => cookF_fuel t f g (r.drop n) (by rw [List.length_drop]; omega) (by rw [List.length_drop]; omega)
  rw [cookF, cookF, e1]
  simp only [e2]
theorem cook_nil (t : Bool) : cook t [] = .inl [] := rfl
theorem cook_cons (t : Bool) (c : UInt8) (r : List UInt8) : cook t (c :: r) =
  if c = 92 then (match escape r with
   | none => .inr 0
   | some (x, n) => mp x (1 + n) (cook t (r.drop n)))
  else if t = true /\ c = 13 then (if r.head? = some 10 then mp [10] 2 (cook t (r.drop 1)) else mp [10] 1 (cook t r))
  else mp [c] 1 (cook t r) := by
 have e1 : cookF t (r.length + 1) r = cook t r := rfl
 have e2 : ∀ n, cookF t (r.length + 1) (r.drop n) = cook t (r.drop n) := fun n => cookF_fuel t _ _ _ (by rw [List.length_drop]; omega) (Nat.lt_succ_self _)
 conv => lhs; unfold cook
 rw [List.length_cons, cookF, e1]
 simp only [e2]
 by_cases h1 : c = 92
 ·rw [if_pos h1, if_pos h1]
  cases escape r with
  | none => rfl
  | some y =>
   obtain ⟨x, n⟩ := y
   simp only
   cases cook t (r.drop n) with
   | inl l => rfl
   | inr k => simp only [mp, Nat.add_assoc]
 ·rw [if_neg h1, if_neg h1]
  by_cases h2 : t = true /\ c = 13
  ·rw [if_pos h2, if_pos h2]
   split
   ·cases cook t (r.drop 1) <;> rfl
   ·cases cook t r <;> rfl
  ·rw [if_neg h2, if_neg h2]
   cases cook t r <;> rfl
theorem cook_pre (t : Bool) (X : List UInt8) (hX : X.head? ≠ some 10) : ∀ (n : Nat) (a : List UInt8), a.length <= n -> (92 : UInt8) ∉ a -> cook t (a ++ X) = mp (nrm t a) a.length (cook t X)
 | _, [], _, _ => by
  rw [List.nil_append, List.length_nil, show nrm t [] = [] by unfold nrm; split <;> rfl, mp_nil]
 | 0, c :: a, h, _ => by simp at h
 | n + 1, c :: a, hl, h => by
  have hc : ¬ c = 92 := fun e => h (by rw [e]; exact List.mem_cons_self)
  have ha : (92 : UInt8) ∉ a := fun e => h (List.mem_cons_of_mem _ e)
  simp only [List.length_cons] at hl
  rw [List.cons_append, cook_cons, if_neg hc]
  by_cases h2 : t = true /\ c = 13
  ·rw [if_pos h2]
   obtain ⟨rfl, rfl⟩ := h2
   by_cases h3 : (a ++ X).head? = some 10
   ·rw [if_pos h3]
    obtain ⟨b, rfl⟩ : ∃ b, a = 10 :: b := by
     cases a with
     | nil => exact absurd h3 hX
     | cons d b =>
      obtain rfl : d = 10 := by simpa using h3
      exact ⟨b, rfl⟩
    rw [List.cons_append, List.drop_succ_cons, List.drop_zero, cook_pre true X hX n b (by simp only [List.length_cons] at hl; omega) (fun e => ha (List.mem_cons_of_mem _ e)), mp_mp]
    have : nrm true (13 :: 10 :: b) = 10 :: nrm true b := by
     show normC false (13 :: 10 :: b) = 10 :: normC false b
     rw [normC, if_neg (by simp), if_pos rfl, normC, if_pos ⟨rfl, rfl⟩]
    rw [this]
    simp only [List.length_cons, List.singleton_append]
   ·rw [if_neg h3, cook_pre true X hX n a (by omega) ha, mp_mp]
    have : nrm true (13 :: a) = 10 :: nrm true a := by
     show normC false (13 :: a) = 10 :: normC false a
     rw [normC, if_neg (by simp), if_pos rfl]
     rw [normC_true]
     intro e
     apply h3
     cases a with
     | nil => cases e
     | cons d b => exact e
    rw [this]
    simp only [List.length_cons, List.singleton_append]
  ·rw [if_neg h2, cook_pre t X hX n a (by omega) ha, mp_mp]
   have : nrm t (c :: a) = c :: nrm t a := by
    cases t with
    | false => rfl
    | true =>
     have h13 : ¬ c = 13 := fun e => h2 ⟨rfl, e⟩
     show normC false (c :: a) = c :: normC false a
     rw [normC, if_neg (by simp), if_neg h13]
   rw [this]
   simp only [List.length_cons, List.singleton_append]
theorem cook_plain (t : Bool) (a : List UInt8) (h : (92 : UInt8) ∉ a) : cook t a = .inl (nrm t a) := by
 have := cook_pre t [] (by simp) a.length a (Nat.le_refl _) h
 rw [List.append_nil, cook_nil] at this
 rw [this]
 simp [mp]
theorem cook_cut (t : Bool) (a r : List UInt8) (h : (92 : UInt8) ∉ a) : cook t (a ++ 92 :: r) = match escape r with
  | none => .inr a.length
  | some (x, n) => mp (nrm t a ++ x) (a.length + 1 + n) (cook t (r.drop n)) := by
 rw [cook_pre t (92 :: r) (by simp) a.length a (Nat.le_refl _) h, cook_cons, if_pos rfl]
 cases escape r with
 | none => simp [mp]
 | some y =>
  obtain ⟨x, n⟩ := y
  simp only [mp_mp]
  rw [show 1 + n + a.length = a.length + 1 + n by omega]
inductive Pth : List UInt8 -> Nat -> Prop
 | nil (s : List UInt8) : Pth s 0
 | byte {c : UInt8} {r : List UInt8} {j : Nat} : c ≠ 92 -> Pth r j -> Pth (c :: r) (j + 1)
 | esc {r : List UInt8} {j : Nat} : r ≠ [] -> Pth (r.drop (skip r)) j -> Pth (92 :: r) (j + (1 + skip r))
theorem Pth.le {s : List UInt8} {j : Nat} (h : Pth s j) : j <= s.length := by
 induction h with
 | nil => exact Nat.zero_le _
 | byte _ _ ih => simp only [List.length_cons]; omega
 | esc h0 _ ih =>
  have := skip_le h0
  rw [List.length_drop] at ih
  simp only [List.length_cons]
  omega
theorem Pth.byte' {s : List UInt8} {j : Nat} {c : UInt8} {r : List UInt8} (h : Pth s j) (hc : c ≠ 92) (hs : s.drop j = c :: r) : Pth s (j + 1) := by
 induction h with
 | nil s =>
  rw [List.drop_zero] at hs
  rw [hs]
  exact .byte hc (.nil _)
 | byte h1 _ ih => exact .byte h1 (ih (by rw [List.drop_succ_cons] at hs; exact hs))
 | @esc r' j' h0 _ ih =>
  have := ih (by
   rw [show j' + (1 + skip r') = (skip r' + j') + 1 by omega, List.drop_succ_cons] at hs
   rw [List.drop_drop]
   exact hs)
  rw [show j' + (1 + skip r') + 1 = (j' + 1) + (1 + skip r') by omega]
  exact .esc h0 this
theorem Pth.esc' {s : List UInt8} {j : Nat} {r : List UInt8} (h : Pth s j) (hs : s.drop j = 92 :: r) (h0 : r ≠ []) : Pth s (j + (1 + skip r)) := by
 induction h with
 | nil s =>
  rw [List.drop_zero] at hs
  rw [hs, Nat.zero_add, <- Nat.zero_add (1 + skip r)]
  exact .esc h0 (.nil _)
 | @byte c' r' j' h1 _ ih =>
  rw [show j' + 1 + (1 + skip r) = (j' + (1 + skip r)) + 1 by omega]
  exact .byte h1 (ih (by rw [List.drop_succ_cons] at hs; exact hs))
 | @esc r' j' h1 _ ih =>
  have := ih (by
   rw [show j' + (1 + skip r') = (skip r' + j') + 1 by omega, List.drop_succ_cons] at hs
   rw [List.drop_drop]
   exact hs)
  rw [show j' + (1 + skip r') + (1 + skip r) = (j' + (1 + skip r)) + (1 + skip r') by omega]
  exact .esc h1 this
theorem skip_take {r : List UInt8} (hv : Cssp.valid r = true) (h0 : r ≠ []) {m : Nat} (hm : skip r <= m) : skip (r.take m) = skip r := by
 unfold skip at hm ⊢
 by_cases h1 : ([13, 10] : List UInt8).isPrefixOf r = true
 ·rw [if_pos h1] at hm
  rw [if_pos h1, if_pos (pre_take_to h1 hm)]
 ·rw [if_neg h1] at hm
  rw [if_neg h1, if_neg (fun e => h1 (pre_take_of e)), (pn_take h0 hv hm).1]
theorem Pth.walk {s : List UInt8} {j : Nat} (h : Pth s j) (hs : Suf s) : walk (s.take j) = true := by
 induction h with
 | nil => rw [List.take_zero]; rfl
 | byte h1 _ ih =>
  rw [List.take_succ_cons, walk_byte h1]
  exact ih hs.tail
 | @esc r j h0 hp ih =>
  have hv := hs.valid (by decide)
  have hk := skip_le h0
  have hle := hp.le
  rw [List.length_drop] at hle
  rw [show j + (1 + skip r) = (j + skip r) + 1 by omega, List.take_succ_cons, walk_cons, if_pos rfl, skip_take hv h0 (by omega), Bool.and_eq_true]
  refine ⟨?_, ?_⟩
  ·cases r with
   | nil => exact absurd rfl h0
   | cons c r => rw [show j + skip (c :: r) = (j + skip (c :: r) - 1) + 1 by omega, List.take_succ_cons]; rfl
  ·rw [List.drop_take, show j + skip r - skip r = j by omega]
   exact ih (hs.tail.drop _)
theorem raw_at (q : UInt8) {s : List UInt8} {j : Nat} {c : UInt8} {r : List UInt8} (hs : s.drop j = c :: r) (hr : raw q s = (raw q (s.drop j)).on j) :
  ((c = q \/ (q = 96 /\ ([36, 123] : List UInt8).isPrefixOf (c :: r) = true)) -> raw q s = .ends j) /\
  (¬ (c = q \/ (q = 96 /\ ([36, 123] : List UInt8).isPrefixOf (c :: r) = true)) -> (q ≠ 96 /\ (c = 10 \/ c = 13)) -> raw q s = .line) /\
  (¬ (c = q \/ (q = 96 /\ ([36, 123] : List UInt8).isPrefixOf (c :: r) = true)) -> ¬ (q ≠ 96 /\ (c = 10 \/ c = 13)) -> c = 92 -> raw q s = (raw q (r.drop (skip r))).on (j + (1 + skip r))) /\
  (¬ (c = q \/ (q = 96 /\ ([36, 123] : List UInt8).isPrefixOf (c :: r) = true)) -> ¬ (q ≠ 96 /\ (c = 10 \/ c = 13)) -> ¬ c = 92 -> raw q s = (raw q r).on (j + 1)) := by
 have on_on : ∀ (x : Raw) (a b : Nat), (x.on a).on b = x.on (b + a) := fun x a b => by
  cases x with
  | ends n => show Raw.ends (n + a + b) = .ends (n + (b + a)); rw [Nat.add_assoc, Nat.add_comm a b]
  | script => rfl
  | line => rfl
 rw [hs, raw_cons] at hr
 refine ⟨fun h => ?_, fun h1 h2 => ?_, fun h1 h2 h3 => ?_, fun h1 h2 h3 => ?_⟩
 ·rw [hr, if_pos h]; show Raw.ends (0 + j) = _; rw [Nat.zero_add]
 ·rw [hr, if_neg h1, if_pos h2]; rfl
 ·rw [hr, if_neg h1, if_neg h2, if_pos h3, on_on]
 ·rw [hr, if_neg h1, if_neg h2, if_neg h3, on_on]
end Jsp
end Go.Proofs.YtngccmlcopcghaaGreatDoor
