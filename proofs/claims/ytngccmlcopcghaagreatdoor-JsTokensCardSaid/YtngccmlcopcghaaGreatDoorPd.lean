/- Plain words on lists of bytes. No program in sight. -/
import Derived.Lib.RuneBytes
import Derived.Lib.Atoi
import Derived.Lib.IndexMore
import Derived.Lib.ValidLaws
import Derived.Lib.MapLaws
set_option maxRecDepth 100000
set_option maxHeartbeats 8000000
namespace Go.Proofs.YtngccmlcopcghaaGreatDoor
namespace Cssp
open Go
def at_ (s : List UInt8) (i : Nat) : UInt8 := s.getD i 10
def fffd : List UInt8 := [239, 191, 189]
end Cssp
namespace Cssp
open Go
def first (c : UInt8) : (Nat × Nat × Nat) × Bool :=
 if c.toNat < 128 then ((0, 128, 191), true)
 else if 194 <= c.toNat /\ c.toNat <= 223 then ((1, 128, 191), true)
 else if c.toNat < 224 \/ 244 < c.toNat then ((0, 128, 191), false)
 else if c.toNat = 224 then ((2, 160, 191), true)
 else if c.toNat = 237 then ((2, 128, 159), true)
 else if c.toNat = 240 then ((3, 144, 191), true)
 else if c.toNat = 244 then ((3, 128, 143), true)
 else if c.toNat < 240 then ((2, 128, 191), true)
 else ((3, 128, 191), true)
def goOn : Nat -> Nat -> Nat -> Nat -> List UInt8 -> Nat × Bool
 | 0, _, _, n, _ => (n, true)
 | _ + 1, _, _, n, [] => (n, false)
 | k + 1, low, top, n, c :: r => if c.toNat < low \/ top < c.toNat then (n, false) else goOn k 128 191 (n + 1) r
def piece : List UInt8 -> Nat × Bool
 | [] => (1, false)
 | c :: r => if (first c).2 = true then goOn (first c).1.1 (first c).1.2.1 (first c).1.2.2 1 r else (1, false)
def code (s : List UInt8) : List UInt8 := if (piece s).2 = true then s.take (piece s).1 else fffd
def decodeF : Nat -> List UInt8 -> List UInt8
 | 0, _ => []
 | f + 1, s => if s = [] then [] else code s ++ decodeF f (s.drop (piece s).1)
def decode (s : List UInt8) : List UInt8 := decodeF s.length s
theorem goOn_le : ∀ (k lo hi n : Nat) (r : List UInt8), n <= (goOn k lo hi n r).1 /\ (goOn k lo hi n r).1 <= n + r.length /\ (goOn k lo hi n r).1 <= n + k
 | 0, _, _, n, r => by simp [goOn]
 | k + 1, _, _, n, [] => by simp [goOn]
 | k + 1, lo, hi, n, c :: r => by
  have := goOn_le k 128 191 (n + 1) r
  rw [goOn]
  split
  ·simp
  ·simp only [List.length_cons]; omega
theorem piece_le : ∀ s : List UInt8, s ≠ [] -> 1 <= (piece s).1 /\ (piece s).1 <= s.length /\ (piece s).1 <= 4
 | [], h => absurd rfl h
 | c :: r, _ => by
  rw [piece]
  split
  ·have h := goOn_le (first c).1.1 (first c).1.2.1 (first c).1.2.2 1 r
   have h3 : (first c).1.1 <= 3 := by unfold first; (repeat' split) <;> decide
   simp only [List.length_cons]
   omega
  ·simp
theorem piece_pos (s : List UInt8) : 1 <= (piece s).1 := by
 cases s with
 | nil => exact Nat.le_refl _
 | cons c r => exact (piece_le (c :: r) (by simp)).1
theorem decodeF_fuel : ∀ (f g : Nat) (s : List UInt8), s.length <= f -> s.length <= g -> decodeF f s = decodeF g s
 | 0, g, s, hf, _ => by
  have : s = [] := List.eq_nil_of_length_eq_zero (by omega)
  subst this
  cases g <;> rfl
 | f + 1, 0, s, _, hg => by
  have : s = [] := List.eq_nil_of_length_eq_zero (by omega)
  subst this; rfl
 | f + 1, g + 1, s, hf, hg => by
  rw [decodeF, decodeF]
  split
  ·rfl
  ·have := piece_pos s
   rw [decodeF_fuel f g _ (by rw [List.length_drop]; omega) (by rw [List.length_drop]; omega)]
theorem decode_nil : decode [] = [] := rfl
theorem decode_step (s : List UInt8) (h : s ≠ []) : decode s = code s ++ decode (s.drop (piece s).1) := by
 obtain ⟨c, r, rfl⟩ := List.exists_cons_of_ne_nil h
 have := piece_pos (c :: r)
 unfold decode
 rw [List.length_cons, decodeF, if_neg h, decodeF_fuel r.length ((c :: r).drop (piece (c :: r)).1).length _ (by rw [List.length_drop, List.length_cons]; omega) (Nat.le_refl _)]
theorem code_len3 (s : List UInt8) (h : s ≠ []) : (code s).length <= 3 * (piece s).1 := by
 have := piece_le s h
 unfold code
 split
 ·rw [List.length_take]; omega
 ·show 3 <= _; omega
theorem decode_len : ∀ (f : Nat) (s : List UInt8), s.length <= f -> (decode s).length <= 3 * s.length
 | 0, s, h => by
  have : s = [] := List.eq_nil_of_length_eq_zero (by omega)
  subst this; exact Nat.le_refl _
 | f + 1, s, h => by
  by_cases hn : s = []
  ·subst hn; exact Nat.zero_le _
  ·have hp := piece_le s hn
   have ih := decode_len f (s.drop (piece s).1) (by rw [List.length_drop]; omega)
   have := code_len3 s hn
   rw [decode_step s hn, List.length_append]
   rw [List.length_drop] at ih
   omega
theorem goOn_app : ∀ (k lo hi n : Nat) (r m : List UInt8), (goOn k lo hi n r).2 = true -> goOn k lo hi n (r ++ m) = goOn k lo hi n r
 | 0, _, _, _, _, _, _ => by simp [goOn]
 | k + 1, _, _, n, [], _, h => by simp [goOn] at h
 | k + 1, lo, hi, n, c :: r, m, h => by
  rw [List.cons_append, goOn, goOn]
  rw [goOn] at h
  split
  ·rfl
  ·rename_i hc
   rw [if_neg hc] at h
   exact goOn_app k _ _ _ r m h
theorem piece_app (s m : List UInt8) (hs : s ≠ []) (h : (piece s).2 = true) : piece (s ++ m) = piece s := by
 cases s with
 | nil => exact absurd rfl hs
 | cons c r =>
  rw [piece] at h ⊢
  rw [List.cons_append, piece]
  split
  ·rename_i hc
   rw [if_pos hc] at h
   exact goOn_app _ _ _ _ r m h
  ·rfl
def validF : Nat -> List UInt8 -> Bool
 | 0, _ => true
 | f + 1, s => if s = [] then true else (piece s).2 && validF f (s.drop (piece s).1)
def valid (s : List UInt8) : Bool := validF s.length s
theorem validF_fuel : ∀ (f g : Nat) (s : List UInt8), s.length <= f -> s.length <= g -> validF f s = validF g s
 | 0, g, s, hf, _ => by
  have : s = [] := List.eq_nil_of_length_eq_zero (by omega)
  subst this
  cases g <;> rfl
 | f + 1, 0, s, _, hg => by
  have : s = [] := List.eq_nil_of_length_eq_zero (by omega)
  subst this; rfl
 | f + 1, g + 1, s, hf, hg => by
  rw [validF, validF]
  split
  ·rfl
  ·have := piece_pos s
   rw [validF_fuel f g _ (by rw [List.length_drop]; omega) (by rw [List.length_drop]; omega)]
theorem valid_step (s : List UInt8) (h : s ≠ []) : valid s = ((piece s).2 && valid (s.drop (piece s).1)) := by
 obtain ⟨c, r, rfl⟩ := List.exists_cons_of_ne_nil h
 have := piece_pos (c :: r)
 unfold valid
 rw [List.length_cons, validF, if_neg h, validF_fuel r.length ((c :: r).drop (piece (c :: r)).1).length _ (by rw [List.length_drop, List.length_cons]; omega) (Nat.le_refl _)]
theorem valid_app (s m : List UInt8) (hs : valid s = true) : valid (s ++ m) = valid m := by
 suffices H : ∀ (f : Nat) (s : List UInt8), s.length <= f -> valid s = true -> valid (s ++ m) = valid m from H s.length s (Nat.le_refl _) hs
 intro f
 induction f with
 | zero =>
  intro s h _
  have : s = [] := List.eq_nil_of_length_eq_zero (by omega)
  subst this; rfl
 | succ f ih =>
  intro s h hv
  by_cases hn : s = []
  ·subst hn; rfl
  ·rw [valid_step s hn, Bool.and_eq_true] at hv
   have hp := piece_le s hn
   have hpa := piece_app s m hn hv.1
   rw [valid_step (s ++ m) (by simp [hn]), hpa, hv.1, Bool.true_and, List.drop_append_of_le_length hp.2.1]
   exact ih _ (by rw [List.length_drop]; omega) hv.2
def badL (s : List UInt8) : Prop := (Lib.decodeL s).1 = 65533 /\ (Lib.decodeL s).2 = 1
theorem first_all : ∀ n : Fin 256, (n.val < 128 /\ first (UInt8.ofNat n.val) = ((0, 128, 191), true)) \/ (Lib.firstT n.val = 241 /\ (first (UInt8.ofNat n.val)).2 = false) \/
  (Lib.firstT n.val < 240 /\ (Lib.firstT n.val % 8 = 2 \/ Lib.firstT n.val % 8 = 3 \/ Lib.firstT n.val % 8 = 4) /\ first (UInt8.ofNat n.val) = ((Lib.firstT n.val % 8 - 1, Lib.accLo (Lib.firstT n.val / 16), Lib.accHi (Lib.firstT n.val / 16)), true)) := by decide +kernel
theorem first_class (c : UInt8) : (c.toNat < 128 /\ first c = ((0, 128, 191), true)) \/ (Lib.firstT c.toNat = 241 /\ (first c).2 = false) \/
  (Lib.firstT c.toNat < 240 /\ (Lib.firstT c.toNat % 8 = 2 \/ Lib.firstT c.toNat % 8 = 3 \/ Lib.firstT c.toNat % 8 = 4) /\ first c = ((Lib.firstT c.toNat % 8 - 1, Lib.accLo (Lib.firstT c.toNat / 16), Lib.accHi (Lib.firstT c.toNat / 16)), true)) := by
 have := first_all ⟨c.toNat, c.toNat_lt⟩
 simpa only [UInt8.ofNat_toNat] using this
theorem slow_goOn (b0 sz lo hi : Nat) (r : List UInt8) (hsz : sz = 2 \/ sz = 3 \/ sz = 4) :
  ((goOn (sz - 1) lo hi 1 r).2 = true -> (goOn (sz - 1) lo hi 1 r).1 = (Lib.slowN (r.length + 1) b0 (r.getD 0 0).toNat (r.getD 1 0).toNat (r.getD 2 0).toNat sz lo hi).2 /\ 2 <= (goOn (sz - 1) lo hi 1 r).1) /\
  ((goOn (sz - 1) lo hi 1 r).2 = false -> Lib.slowN (r.length + 1) b0 (r.getD 0 0).toNat (r.getD 1 0).toNat (r.getD 2 0).toNat sz lo hi = (65533, 1)) := by
 rcases hsz with rfl | rfl | rfl
 ·match r with
  | [] => simp [goOn, Lib.slowN]
  | c :: r =>
   simp only [Nat.reduceSub, goOn, Lib.slowN, List.length_cons, List.getD_cons_zero]
   rw [if_neg (by omega : ¬ r.length + 1 + 1 < 2)]
   split <;> simp
 ·match r with
  | [] => simp [goOn, Lib.slowN]
  | [c] =>
   simp only [Nat.reduceSub, goOn, Lib.slowN, List.length_cons, List.length_nil, List.getD_cons_zero]
   split <;> simp
  | c :: d :: r =>
   simp only [Nat.reduceSub, goOn, Lib.slowN, List.length_cons, List.getD_cons_zero, List.getD_cons_succ]
   rw [if_neg (by omega : ¬ r.length + 1 + 1 + 1 < 3)]
   split
   ·simp
   ·rw [if_neg (by omega : ¬ 3 <= 2)]
    split <;> simp
 ·match r with
  | [] => simp [goOn, Lib.slowN]
  | [c] =>
   simp only [Nat.reduceSub, goOn, Lib.slowN, List.length_cons, List.length_nil, List.getD_cons_zero]
   split <;> simp
  | [c, d] =>
   simp only [Nat.reduceSub, goOn, Lib.slowN, List.length_cons, List.length_nil, List.getD_cons_zero, List.getD_cons_succ]
   split
   ·simp
   ·split <;> simp
  | c :: d :: e :: r =>
   simp only [Nat.reduceSub, goOn, Lib.slowN, List.length_cons, List.getD_cons_zero, List.getD_cons_succ]
   rw [if_neg (by omega : ¬ r.length + 1 + 1 + 1 + 1 < 4)]
   split
   ·simp
   ·rw [if_neg (by omega : ¬ 4 <= 2)]
    split
    ·simp
    ·rw [if_neg (by omega : ¬ 4 <= 3)]
     split <;> simp
theorem piece_lib : ∀ s : List UInt8, s ≠ [] -> ((piece s).2 = true -> (piece s).1 = (Lib.decodeL s).2 /\ ¬ badL s) /\ ((piece s).2 = false -> badL s)
 | [], h => absurd rfl h
 | a :: r, _ => by
  unfold badL
  have e0 : (a :: r).getD 0 0 = a := rfl
  have e1 : ∀ i, (a :: r).getD (i + 1) 0 = r.getD i 0 := fun i => by simp
  rw [Lib.decodeL_N, e0, e1 0, e1 1, e1 2, List.length_cons, piece]
  rcases first_class a with ⟨h, hf⟩ | ⟨h, hf⟩ | ⟨h, hz, hf⟩
  ·rw [hf, if_pos rfl]
   have hd : Lib.decodeN (r.length + 1) a.toNat (r.getD 0 0).toNat (r.getD 1 0).toNat (r.getD 2 0).toNat = (a.toNat, 1) := by unfold Lib.decodeN; rw [if_pos h]
   rw [hd]
   refine ⟨fun _ => ⟨rfl, fun h2 => ?_⟩, fun h2 => by simp [goOn] at h2⟩
   have := h2.1
   simp only at this
   omega
  ·rw [if_neg (by rw [hf]; decide), Lib.bad_eq _ _ _ _ _ a.toNat_lt h]
   exact ⟨fun h2 => (by cases h2), fun _ => ⟨rfl, rfl⟩⟩
  ·rw [hf, if_pos rfl, <- Lib.slow_eq _ _ _ _ _ (by omega) (UInt8.toNat_lt _) (UInt8.toNat_lt _) (UInt8.toNat_lt _) h]
   obtain ⟨h1, h2⟩ := slow_goOn a.toNat (Lib.firstT a.toNat % 8) (Lib.accLo (Lib.firstT a.toNat / 16)) (Lib.accHi (Lib.firstT a.toNat / 16)) r hz
   refine ⟨fun h3 => ?_, fun h3 => ?_⟩
   ·obtain ⟨h4, h5⟩ := h1 h3
    exact ⟨h4, fun h6 => by rw [<- h4] at h6; omega⟩
   ·rw [h2 h3]; exact ⟨rfl, rfl⟩
theorem code_lib (s : List UInt8) (h : s ≠ []) (hp : (piece s).2 = true) : Lib.encodeRune ((Lib.decodeL s).1 : Int) = code s := by
 obtain ⟨h1, h2⟩ := (piece_lib s h).1 hp
 rw [Lib.encode_decode s h h2, code, if_pos hp, h1]
end Cssp
namespace Cssp
open Go
def lng (c : UInt8) : Nat := if c.toNat < 128 then 1 else if 194 <= c.toNat /\ c.toNat < 224 then 2 else if 224 <= c.toNat /\ c.toNat < 240 then 3 else if 240 <= c.toNat /\ c.toNat < 245 then 4 else 0
def base (n : Nat) : Nat := if n = 2 then 192 else if n = 3 then 224 else 240
def bnd (n : Nat) (b : List UInt8) : Nat -> Nat × Nat
 | 0 => (0, 0)
 | i + 1 => if i = 0 then ((at_ b 0).toNat - base n, (at_ b 0).toNat - base n)
  else if i < b.length then ((bnd n b i).1 * 64 + ((at_ b i).toNat - 128), (bnd n b i).2 * 64 + ((at_ b i).toNat - 128))
  else ((bnd n b i).1 * 64, (bnd n b i).2 * 64 + 63)
def cont (c : UInt8) : Bool := decide (128 <= c.toNat) && decide (c.toNat <= 191)
def least (n : Nat) : Nat := if n = 2 then 128 else if n = 3 then 2048 else 65536
def most (n : Nat) : Nat := if n = 2 then 2047 else if n = 3 then 65535 else 1114111
def fits (n : Nat) (b : List UInt8) : Bool :=
 !(n == 3 && decide (55296 <= (bnd n b n).1) && decide ((bnd n b n).2 <= 57343)) && (decide ((bnd n b n).1 <= (bnd n b n).2) && decide ((bnd n b n).1 <= most n) && decide (least n <= (bnd n b n).2))
def begP (b : List UInt8) : Bool :=
 (lng (at_ b 0) != 0) && decide (b.length <= lng (at_ b 0)) && (b.drop 1).all cont && (lng (at_ b 0) == 1 || fits (lng (at_ b 0)) b)
theorem lng_le (c : UInt8) : lng c <= 4 := by unfold lng; (repeat' split) <;> decide
theorem first_lng (c : UInt8) : (first c).2 = (lng c != 0) /\ (lng c ≠ 0 -> (first c).1.1 + 1 = lng c) := by
 unfold first lng
 have := c.toNat_lt
 repeat' split
 all_goals first | exact ⟨rfl, fun _ => rfl⟩ | exact ⟨rfl, fun h => absurd rfl h⟩ | (exfalso; omega)
theorem first_ranges (c : UInt8) : (lng c = 1 -> c.toNat < 128) /\
  (lng c = 2 -> 194 <= c.toNat /\ c.toNat <= 223 /\ (first c).1 = (1, 128, 191)) /\
  (lng c = 3 -> 224 <= c.toNat /\ c.toNat <= 239 /\ (first c).1.1 = 2 /\ (first c).1.2.1 = (if c.toNat = 224 then 160 else 128) /\ (first c).1.2.2 = (if c.toNat = 237 then 159 else 191)) /\
  (lng c = 4 -> 240 <= c.toNat /\ c.toNat <= 244 /\ (first c).1.1 = 3 /\ (first c).1.2.1 = (if c.toNat = 240 then 144 else 128) /\ (first c).1.2.2 = (if c.toNat = 244 then 143 else 191)) := by
 unfold first lng
 have := c.toNat_lt
 refine ⟨fun h => ?_, fun h => ?_, fun h => ?_, fun h => ?_⟩
 ·revert h; (repeat' split) <;> intro h <;> first | omega | cases h
 ·have h1 : 194 <= c.toNat /\ c.toNat <= 223 := by revert h; (repeat' split) <;> intro h <;> first | omega | cases h
  refine ⟨h1.1, h1.2, ?_⟩
  rw [if_neg (by omega), if_pos (by omega)]
 ·have h1 : 224 <= c.toNat /\ c.toNat <= 239 := by revert h; (repeat' split) <;> intro h <;> first | omega | cases h
  refine ⟨h1.1, h1.2, ?_⟩
  rw [if_neg (by omega), if_neg (by omega), if_neg (by omega)]
  by_cases h2 : c.toNat = 224
  ·rw [if_pos h2, if_pos h2, if_neg (by omega)]; exact ⟨rfl, rfl, rfl⟩
  ·rw [if_neg h2, if_neg h2]
   by_cases h3 : c.toNat = 237
   ·rw [if_pos h3, if_pos h3]; exact ⟨rfl, rfl, rfl⟩
   ·rw [if_neg h3, if_neg h3, if_neg (by omega), if_neg (by omega), if_pos (by omega)]; exact ⟨rfl, rfl, rfl⟩
 ·have h1 : 240 <= c.toNat /\ c.toNat <= 244 := by revert h; (repeat' split) <;> intro h <;> first | omega | cases h
  refine ⟨h1.1, h1.2, ?_⟩
  rw [if_neg (by omega), if_neg (by omega), if_neg (by omega), if_neg (by omega), if_neg (by omega)]
  by_cases h2 : c.toNat = 240
  ·rw [if_pos h2, if_pos h2, if_neg (by omega)]; exact ⟨rfl, rfl, rfl⟩
  ·rw [if_neg h2, if_neg h2]
   by_cases h3 : c.toNat = 244
   ·rw [if_pos h3, if_pos h3]; exact ⟨rfl, rfl, rfl⟩
   ·rw [if_neg h3, if_neg h3, if_neg (by omega)]; exact ⟨rfl, rfl, rfl⟩
theorem at_0 (c : UInt8) (r : List UInt8) : at_ (c :: r) 0 = c := rfl
theorem at_1 (c d : UInt8) (r : List UInt8) : at_ (c :: d :: r) 1 = d := rfl
theorem at_2 (c d e : UInt8) (r : List UInt8) : at_ (c :: d :: e :: r) 2 = e := rfl
theorem at_3 (c d e f : UInt8) (r : List UInt8) : at_ (c :: d :: e :: f :: r) 3 = f := rfl
theorem cont_iff (c : UInt8) : cont c = true ↔ 128 <= c.toNat /\ c.toNat <= 191 := by simp [cont]
theorem bnd2 (b : List UInt8) : bnd 2 b 2 = if 1 < b.length then (((at_ b 0).toNat - 192) * 64 + ((at_ b 1).toNat - 128), ((at_ b 0).toNat - 192) * 64 + ((at_ b 1).toNat - 128)) else (((at_ b 0).toNat - 192) * 64, ((at_ b 0).toNat - 192) * 64 + 63) := rfl
theorem bnd3 (b : List UInt8) (p : Nat × Nat) (hp : p = if 1 < b.length then (((at_ b 0).toNat - 224) * 64 + ((at_ b 1).toNat - 128), ((at_ b 0).toNat - 224) * 64 + ((at_ b 1).toNat - 128)) else (((at_ b 0).toNat - 224) * 64, ((at_ b 0).toNat - 224) * 64 + 63)) :
  bnd 3 b 3 = if 2 < b.length then (p.1 * 64 + ((at_ b 2).toNat - 128), p.2 * 64 + ((at_ b 2).toNat - 128)) else (p.1 * 64, p.2 * 64 + 63) := by subst hp; rfl
theorem bnd4 (b : List UInt8) (p q : Nat × Nat) (hp : p = if 1 < b.length then (((at_ b 0).toNat - 240) * 64 + ((at_ b 1).toNat - 128), ((at_ b 0).toNat - 240) * 64 + ((at_ b 1).toNat - 128)) else (((at_ b 0).toNat - 240) * 64, ((at_ b 0).toNat - 240) * 64 + 63))
  (hq : q = if 2 < b.length then (p.1 * 64 + ((at_ b 2).toNat - 128), p.2 * 64 + ((at_ b 2).toNat - 128)) else (p.1 * 64, p.2 * 64 + 63)) :
  bnd 4 b 4 = if 3 < b.length then (q.1 * 64 + ((at_ b 3).toNat - 128), q.2 * 64 + ((at_ b 3).toNat - 128)) else (q.1 * 64, q.2 * 64 + 63) := by subst hp; subst hq; rfl
theorem fits2 (b : List UInt8) (x : Nat × Nat) (hx : bnd 2 b 2 = x) : fits 2 b = true ↔ x.1 <= x.2 /\ x.1 <= 2047 /\ 128 <= x.2 := by
 unfold fits; rw [hx]; simp [least, most, and_assoc]
theorem fits3 (b : List UInt8) (x : Nat × Nat) (hx : bnd 3 b 3 = x) : fits 3 b = true ↔ (55296 <= x.1 -> 57343 < x.2) /\ x.1 <= x.2 /\ x.1 <= 65535 /\ 2048 <= x.2 := by
 unfold fits; rw [hx]
 simp only [least, most, Bool.and_eq_true, Bool.not_eq_true', decide_eq_true_eq, Bool.and_eq_false_iff, decide_eq_false_iff_not, beq_self_eq_true, Bool.true_and]
 simp [and_assoc]
 intro _ _ _
 constructor
 ·rintro (h | h) h2 <;> omega
 ·intro h
  rcases Nat.lt_or_ge x.1 55296 with h1 | h1
  ·exact .inl h1
  ·exact .inr (h h1)
theorem fits4 (b : List UInt8) (x : Nat × Nat) (hx : bnd 4 b 4 = x) : fits 4 b = true ↔ x.1 <= x.2 /\ x.1 <= 1114111 /\ 65536 <= x.2 := by
 unfold fits; rw [hx]; simp [least, most, and_assoc]
theorem begP_iff (c : UInt8) (r : List UInt8) : begP (c :: r) = true ↔ (lng c ≠ 0 /\ r.length + 1 <= lng c /\ (∀ d ∈ r, cont d = true) /\ (lng c = 1 \/ fits (lng c) (c :: r) = true)) := by
 unfold begP
 rw [at_0]
 simp only [Bool.and_eq_true, bne_iff_ne, ne_eq, decide_eq_true_eq, List.length_cons, List.drop_succ_cons, List.drop_zero, List.all_eq_true, Bool.or_eq_true, beq_iff_eq, and_assoc]
def lead4 (s : List UInt8) : Nat := if (first (at_ s 0)).2 = true then (piece s).1 else 0
theorem goOn_take : ∀ (k lo hi m : Nat) (r : List UInt8) (j : Nat), j <= r.length -> j <= k -> ((goOn k lo hi m (r.take j)).1 = m + j ↔ m + j <= (goOn k lo hi m r).1)
 | k, lo, hi, m, r, 0, _, _ => by
  have := (goOn_le k lo hi m r).1
  cases k <;> simp [goOn] <;> omega
 | 0, _, _, _, _, j + 1, _, h => by omega
 | k + 1, lo, hi, m, [], j + 1, h, _ => by simp at h
 | k + 1, lo, hi, m, c :: r, j + 1, h, hk => by
  rw [List.take_succ_cons, goOn, goOn]
  split
  ·constructor <;> intro h <;> simp at h <;> omega
  ·have := goOn_take k 128 191 (m + 1) r j (by simpa using h) (by omega)
   rw [show m + (j + 1) = m + 1 + j by omega]
   exact this
theorem goOn_full : ∀ (k lo hi n : Nat) (r : List UInt8), (goOn k lo hi n r).2 = decide ((goOn k lo hi n r).1 = n + k)
 | 0, _, _, n, r => by simp [goOn]
 | k + 1, _, _, n, [] => by simp [goOn]
 | k + 1, lo, hi, n, c :: r => by
  rw [goOn]
  split
  ·simp
  ·rw [goOn_full k, show n + (k + 1) = n + 1 + k by omega]
theorem beg_goOn (c : UInt8) (r : List UInt8) (h0 : lng c ≠ 0) (hl : r.length + 1 <= lng c) : begP (c :: r) = true ↔ (goOn (first c).1.1 (first c).1.2.1 (first c).1.2.2 1 r).1 = 1 + r.length := by
 rw [begP_iff]
 have hl4 := lng_le c
 obtain ⟨r1, r2, r3, r4⟩ := first_ranges c
 have hc : lng c = 1 \/ lng c = 2 \/ lng c = 3 \/ lng c = 4 := by omega
 rcases hc with h | h | h | h
 ·have : r = [] := List.eq_nil_of_length_eq_zero (by omega)
  subst this
  have hk := (first_lng c).2 h0
  rw [show (first c).1.1 = 0 by omega]
  simp [goOn, h]
 ·obtain ⟨a, b, e⟩ := r2 h
  rw [e, h]
  match r, hl with
  | [], _ =>
   rw [fits2 _ _ (bnd2 [c])]
   simp [goOn, at_0]
   omega
  | [d], _ =>
   rw [fits2 _ _ (bnd2 [c, d])]
   simp [goOn, at_0, at_1, cont_iff]
   split <;> simp <;> omega
  | _ :: _ :: _, hl => simp at hl; omega
 ·obtain ⟨a, b, e1, e2, e3⟩ := r3 h
  rw [e1, e2, e3, h]
  match r, hl with
  | [], _ =>
   rw [fits3 _ _ (bnd3 [c] _ rfl)]
   simp [goOn, at_0]
   omega
  | [d], _ =>
   rw [fits3 _ _ (bnd3 [c, d] _ rfl)]
   simp [goOn, at_0, at_1, cont_iff]
   (repeat' split) <;> simp <;> omega
  | [d, e], _ =>
   rw [fits3 _ _ (bnd3 [c, d, e] _ rfl)]
   simp [goOn, at_0, at_1, at_2, cont_iff]
   (repeat' split) <;> simp <;> omega
  | _ :: _ :: _ :: _, hl => simp at hl; omega
 ·obtain ⟨a, b, e1, e2, e3⟩ := r4 h
  rw [e1, e2, e3, h]
  match r, hl with
  | [], _ =>
   rw [fits4 _ _ (bnd4 [c] _ _ rfl rfl)]
   simp [goOn, at_0]
   omega
  | [d], _ =>
   rw [fits4 _ _ (bnd4 [c, d] _ _ rfl rfl)]
   simp [goOn, at_0, at_1, cont_iff]
   (repeat' split) <;> simp <;> omega
  | [d, e], _ =>
   rw [fits4 _ _ (bnd4 [c, d, e] _ _ rfl rfl)]
   simp [goOn, at_0, at_1, at_2, cont_iff]
   (repeat' split) <;> simp <;> omega
  | [d, e, f], _ =>
   rw [fits4 _ _ (bnd4 [c, d, e, f] _ _ rfl rfl)]
   simp [goOn, at_0, at_1, at_2, at_3, cont_iff]
   (repeat' split) <;> simp <;> omega
  | _ :: _ :: _ :: _ :: _, hl => simp at hl; omega
theorem beg_take (s : List UInt8) (n : Nat) (h1 : 1 <= n) (hn : n <= s.length) : begP (s.take n) = true ↔ n <= lead4 s := by
 match s, hn with
 | [], hn => simp at hn; omega
 | c :: r, hn =>
  obtain ⟨j, rfl⟩ : ∃ j, n = j + 1 := ⟨n - 1, by omega⟩
  rw [List.take_succ_cons]
  have hj : j <= r.length := by simpa using hn
  have htl : (r.take j).length = j := by rw [List.length_take]; omega
  unfold lead4
  rw [at_0]
  by_cases h0 : lng c = 0
  ·have hf : (first c).2 = false := by rw [(first_lng c).1, h0]; rfl
   rw [hf, begP_iff]
   constructor
   ·rintro ⟨h, _⟩; exact absurd h0 h
   ·intro h; simp at h
  ·have hf : (first c).2 = true := by rw [(first_lng c).1]; simpa using h0
   have hk := (first_lng c).2 h0
   rw [if_pos hf, piece, if_pos hf]
   have hle := (goOn_le (first c).1.1 (first c).1.2.1 (first c).1.2.2 1 r).2.2
   by_cases hjk : j + 1 <= lng c
   ·rw [beg_goOn c (r.take j) h0 (by omega), htl, goOn_take _ _ _ _ _ _ hj (by omega), Nat.add_comm 1 j]
   ·rw [begP_iff, htl]
    constructor
    ·rintro ⟨_, h, _⟩; omega
    ·intro h; omega
theorem lead4_le (s : List UInt8) (h : s ≠ []) : lead4 s <= 4 /\ lead4 s <= s.length := by
 have := piece_le s h
 unfold lead4
 split
 ·omega
 ·omega
theorem piece_lead (s : List UInt8) (h : s ≠ []) : piece s = (if lead4 s = 0 then (1, false) else if lead4 s < lng (at_ s 0) then (lead4 s, false) else (lead4 s, true)) /\ (lead4 s = 0 -> lng (at_ s 0) = 0) /\ (lead4 s <= lng (at_ s 0)) := by
 cases s with
 | nil => exact absurd rfl h
 | cons c r =>
  unfold lead4
  rw [at_0, piece]
  by_cases h0 : lng c = 0
  ·have hf : (first c).2 = false := by rw [(first_lng c).1, h0]; rfl
   rw [hf]
   refine ⟨rfl, fun _ => h0, Nat.zero_le _⟩
  ·have hf : (first c).2 = true := by rw [(first_lng c).1]; simpa using h0
   have hk := (first_lng c).2 h0
   rw [hf, if_pos rfl, if_pos rfl]
   have hle := goOn_le (first c).1.1 (first c).1.2.1 (first c).1.2.2 1 r
   have hfu := goOn_full (first c).1.1 (first c).1.2.1 (first c).1.2.2 1 r
   refine ⟨?_, fun h => by omega, by omega⟩
   rw [if_neg (by omega)]
   split
   ·rename_i hlt
    rw [decide_eq_false (by omega)] at hfu
    rw [<- hfu]
   ·rename_i hlt
    rw [decide_eq_true (by omega)] at hfu
    rw [<- hfu]
def cpt (s : List UInt8) : Nat := if (piece s).2 = true then (if (piece s).1 = 1 then (at_ s 0).toNat else (bnd (piece s).1 (s.take (piece s).1) (piece s).1).1) else 65533
theorem encp1 (k : Nat) (h : k < 128) : Lib.encodeRune k = [UInt8.ofNat k] := by
 unfold Lib.encodeRune
 rw [Lib.encodeRuneZ_one (by omega) (by omega)]
 simp
theorem encp2 (k : Nat) (h1 : ¬ k < 128) (h : k < 2048) : Lib.encodeRune k = [UInt8.ofNat (192 + k / 64), UInt8.ofNat (128 + k % 64)] := by
 unfold Lib.encodeRune
 rw [Lib.encodeRuneZ_two (by omega) (by omega)]
 simp only [List.map_cons, List.map_nil]
 rw [show (192 + (k : Int) / 64).toNat = 192 + k / 64 by omega, show (128 + (k : Int) % 64).toNat = 128 + k % 64 by omega]
theorem encp3 (k : Nat) (h1 : ¬ k < 2048) (h : k < 65536) (hs : ¬ (55296 <= k /\ k <= 57343)) : Lib.encodeRune k = [UInt8.ofNat (224 + k / 4096), UInt8.ofNat (128 + k / 64 % 64), UInt8.ofNat (128 + k % 64)] := by
 unfold Lib.encodeRune
 rw [Lib.encodeRuneZ_three (by omega)]
 simp only [List.map_cons, List.map_nil]
 rw [show (224 + (k : Int) / 4096).toNat = 224 + k / 4096 by omega, show (128 + (k : Int) / 64 % 64).toNat = 128 + k / 64 % 64 by omega, show (128 + (k : Int) % 64).toNat = 128 + k % 64 by omega]
theorem encp4 (k : Nat) (h1 : ¬ k < 65536) (h : k <= 1114111) : Lib.encodeRune k = [UInt8.ofNat (240 + k / 262144), UInt8.ofNat (128 + k / 4096 % 64), UInt8.ofNat (128 + k / 64 % 64), UInt8.ofNat (128 + k % 64)] := by
 unfold Lib.encodeRune
 rw [Lib.encodeRuneZ_four (by omega) (by omega)]
 simp only [List.map_cons, List.map_nil]
 rw [show (240 + (k : Int) / 262144).toNat = 240 + k / 262144 by omega, show (128 + (k : Int) / 4096 % 64).toNat = 128 + k / 4096 % 64 by omega, show (128 + (k : Int) / 64 % 64).toNat = 128 + k / 64 % 64 by omega, show (128 + (k : Int) % 64).toNat = 128 + k % 64 by omega]
theorem ofNat_eq {c : UInt8} {n : Nat} (h : n = c.toNat) : UInt8.ofNat n = c := by rw [h]; simp
theorem fffd_enc : Lib.encodeRune (65533 : Nat) = fffd := by rw [encp3 65533 (by decide) (by decide) (by decide)]; rfl
theorem cpt_ok (s : List UInt8) (h : s ≠ []) : Lib.encodeRune (cpt s) = code s /\ cpt s <= 1114111 /\ (cpt s < 55296 \/ 57343 < cpt s) := by
 unfold cpt code
 by_cases hok : (piece s).2 = true
 ·rw [if_pos hok, if_pos hok]
  cases s with
  | nil => exact absurd rfl h
  | cons c r =>
   obtain ⟨hp, hp0, hpl⟩ := piece_lead (c :: r) h
   obtain ⟨hl4, hls⟩ := lead4_le (c :: r) h
   rw [at_0] at *
   have hn0 : lead4 (c :: r) ≠ 0 := fun e => by rw [hp, if_pos e] at hok; cases hok
   have hnl : ¬ lead4 (c :: r) < lng c := fun e => by rw [hp, if_neg hn0, if_pos e] at hok; cases hok
   have hpe : (piece (c :: r)).1 = lng c := by rw [hp, if_neg hn0, if_neg hnl]; show lead4 (c :: r) = _; omega
   have hbg := (beg_take (c :: r) (lng c) (by omega) (by omega)).2 (by omega)
   obtain ⟨r1, r2, r3, r4⟩ := first_ranges c
   rw [hpe]
   have hc : lng c = 1 \/ lng c = 2 \/ lng c = 3 \/ lng c = 4 := by omega
   rcases hc with e | e | e | e
   ·rw [e, if_pos rfl]
    have := r1 e
    exact ⟨by rw [encp1 _ this]; simp, by omega, .inl (by omega)⟩
   ·obtain ⟨a1, a2, _⟩ := r2 e
    have hls : lng c <= (c :: r).length := by omega
    rw [e] at hls hbg ⊢
    match r, hls, hbg with
    | [], hls, _ => exact absurd hls (by simp)
    | d :: r, _, hbg =>
     have hb2 : begP [c, d] = true := hbg
     rw [begP_iff, e, fits2 _ _ rfl] at hb2
     obtain ⟨_, _, hcd, hft⟩ := hb2
     have hd := (cont_iff d).1 (hcd d (by simp))
     have hv1 : (bnd 2 [c, d] 2).1 = ((c.toNat - 192) * 64 + (d.toNat - 128)) := rfl
     have hv2 : (bnd 2 [c, d] 2).2 = ((c.toNat - 192) * 64 + (d.toNat - 128)) := rfl
     rw [if_neg (by decide), show (c :: d :: r).take 2 = [c, d] from rfl]
     rw [hv1, hv2] at hft
     rw [hv1]
     clear hv1 hv2 hcd hbg hok h hp hp0 hpl hl4 hn0 hnl hpe r1 r2 r3 r4
     obtain ⟨v, hv⟩ : ∃ v, ((c.toNat - 192) * 64 + (d.toNat - 128)) = v := ⟨_, rfl⟩
     rw [hv] at hft ⊢
     refine ⟨?_, by omega, .inl (by omega)⟩
     rw [encp2 v (by omega) (by omega), ofNat_eq (c := c) (by omega), ofNat_eq (c := d) (by omega)]
   ·obtain ⟨a1, a2, _⟩ := r3 e
    have hls : lng c <= (c :: r).length := by omega
    rw [e] at hls hbg ⊢
    match r, hls, hbg with
    | [], hls, _ => exact absurd hls (by simp)
    | [d], hls, _ => exact absurd hls (by simp)
    | d :: g :: r, _, hbg =>
     have hb2 : begP [c, d, g] = true := hbg
     rw [begP_iff, e, fits3 _ _ rfl] at hb2
     obtain ⟨_, _, hcd, hft⟩ := hb2
     have hd := (cont_iff d).1 (hcd d (by simp))
     have hg := (cont_iff g).1 (hcd g (by simp))
     have hv1 : (bnd 3 [c, d, g] 3).1 = (((c.toNat - 224) * 64 + (d.toNat - 128)) * 64 + (g.toNat - 128)) := rfl
     have hv2 : (bnd 3 [c, d, g] 3).2 = (((c.toNat - 224) * 64 + (d.toNat - 128)) * 64 + (g.toNat - 128)) := rfl
     rw [if_neg (by decide), show (c :: d :: g :: r).take 3 = [c, d, g] from rfl]
     rw [hv1, hv2] at hft
     rw [hv1]
     clear hv1 hv2 hcd hbg hok h hp hp0 hpl hl4 hn0 hnl hpe r1 r2 r3 r4
     obtain ⟨v, hv⟩ : ∃ v, (((c.toNat - 224) * 64 + (d.toNat - 128)) * 64 + (g.toNat - 128)) = v := ⟨_, rfl⟩
     rw [hv] at hft ⊢
     refine ⟨?_, by omega, by omega⟩
     rw [encp3 v (by omega) (by omega) (by omega), ofNat_eq (c := c) (by omega), ofNat_eq (c := d) (by omega), ofNat_eq (c := g) (by omega)]
   ·obtain ⟨a1, a2, _⟩ := r4 e
    have hls : lng c <= (c :: r).length := by omega
    rw [e] at hls hbg ⊢
    match r, hls, hbg with
    | [], hls, _ => exact absurd hls (by simp)
    | [d], hls, _ => exact absurd hls (by simp)
    | [d, g], hls, _ => exact absurd hls (by simp)
    | d :: g :: k :: r, _, hbg =>
     have hb2 : begP [c, d, g, k] = true := hbg
     rw [begP_iff, e, fits4 _ _ rfl] at hb2
     obtain ⟨_, _, hcd, hft⟩ := hb2
     have hd := (cont_iff d).1 (hcd d (by simp))
     have hg := (cont_iff g).1 (hcd g (by simp))
     have hk := (cont_iff k).1 (hcd k (by simp))
     have hv1 : (bnd 4 [c, d, g, k] 4).1 = ((((c.toNat - 240) * 64 + (d.toNat - 128)) * 64 + (g.toNat - 128)) * 64 + (k.toNat - 128)) := rfl
     have hv2 : (bnd 4 [c, d, g, k] 4).2 = ((((c.toNat - 240) * 64 + (d.toNat - 128)) * 64 + (g.toNat - 128)) * 64 + (k.toNat - 128)) := rfl
     rw [if_neg (by decide), show (c :: d :: g :: k :: r).take 4 = [c, d, g, k] from rfl]
     rw [hv1, hv2] at hft
     rw [hv1]
     clear hv1 hv2 hcd hbg hok h hp hp0 hpl hl4 hn0 hnl hpe r1 r2 r3 r4
     obtain ⟨v, hv⟩ : ∃ v, ((((c.toNat - 240) * 64 + (d.toNat - 128)) * 64 + (g.toNat - 128)) * 64 + (k.toNat - 128)) = v := ⟨_, rfl⟩
     rw [hv] at hft ⊢
     refine ⟨?_, by omega, .inr (by omega)⟩
     rw [encp4 v (by omega) (by omega), ofNat_eq (c := c) (by omega), ofNat_eq (c := d) (by omega), ofNat_eq (c := g) (by omega), ofNat_eq (c := k) (by omega)]
 ·rw [if_neg hok, if_neg hok]
  exact ⟨fffd_enc, by decide, .inr (by decide)⟩
end Cssp
namespace Jsp
open Go
def pt (s : List UInt8) : Nat := if s = [] then 0 else Cssp.cpt s
def pn (s : List UInt8) : Nat := if s = [] then 0 else (Cssp.piece s).1
def lineEnd (r : Nat) : Bool := r == 10 || r == 13 || r == 8232 || r == 8233
def blank (r : Nat) : Bool := r == 9 || r == 11 || r == 12 || r == 32 || r == 160 || r == 5760 || (decide (8192 <= r) && decide (r <= 8202)) || r == 8239 || r == 8287 || r == 12288 || r == 65279
def alpha (r : Nat) : Bool := decide (65 <= r) && decide (r <= 90) || decide (97 <= r) && decide (r <= 122)
def digit (r : Nat) : Bool := decide (48 <= r) && decide (r <= 57)
def begins (r : Nat) : Bool := alpha r || r == 36 || r == 95 || (decide (128 <= r) && !blank r && !lineEnd r)
def goesOn (r : Nat) : Bool := begins r || digit r
def runF (p : Nat -> Bool) : Nat -> List UInt8 -> Nat
 | 0, _ => 0
 | f + 1, s => if s = [] then 0 else if p (pt s) = true then pn s + runF p f (s.drop (pn s)) else 0
def run (p : Nat -> Bool) (s : List UInt8) : Nat := runF p s.length s
def name (s : List UInt8) : Nat := run goesOn s
def hexV (c : UInt8) : Int :=
 if 48 <= c.toNat /\ c.toNat <= 57 then (c.toNat : Int) - 48
 else if 65 <= c.toNat /\ c.toNat <= 70 then (c.toNat : Int) - 55
 else if 97 <= c.toNat /\ c.toNat <= 102 then (c.toNat : Int) - 87
 else -1
def digitsF (base : Int) : UInt8 -> Bool -> List UInt8 -> Nat × Bool
 | last, any, [] => (0, any && last != 95)
 | last, any, c :: r =>
  if c = 95 then
   if last = 95 then (0, false) else ((digitsF base c true r).1 + 1, (digitsF base c true r).2)
  else if hexV c < 0 \/ base <= hexV c then (0, any && last != 95)
  else ((digitsF base c true r).1 + 1, (digitsF base c true r).2)
def digits (base : Int) (s : List UInt8) : Nat × Bool := digitsF base 95 false s
def isB (p : UInt8 -> Bool) (s : List UInt8) : Bool := match s with
 | [] => false
 | c :: _ => p c
def baseOf (c : UInt8) : Int := if c = 120 \/ c = 88 then 16 else if c = 111 \/ c = 79 then 8 else if c = 98 \/ c = 66 then 2 else 0
def frac (s : List UInt8) : Nat × Bool :=
 if isB (· == 46) s = true then
  if isB (fun c => digit c.toNat || c == 95) (s.drop 1) = true then ((digits 10 (s.drop 1)).1 + 1, (digits 10 (s.drop 1)).2) else (1, true)
 else (0, true)
def expo (s : List UInt8) : Nat × Bool :=
 if isB (fun c => c == 101 || c == 69) s = true then
  if isB (fun c => c == 43 || c == 45) (s.drop 1) = true then ((digits 10 (s.drop 2)).1 + 2, (digits 10 (s.drop 2)).2)
  else ((digits 10 (s.drop 1)).1 + 1, (digits 10 (s.drop 1)).2)
 else (0, true)
def numeral (s : List UInt8) : Nat × Bool :=
 if isB (· == 48) s = true /\ baseOf (Cssp.at_ s 1) ≠ 0 then
  let d := digits (baseOf (Cssp.at_ s 1)) (s.drop 2)
  if d.2 = true /\ isB (· == 110) (s.drop (d.1 + 2)) = true then (d.1 + 3, true) else (d.1 + 2, d.2)
 else
  let w := if isB (· == 46) s = true then (0, true) else digits 10 s
  if isB (· == 46) s = false /\ (w.2 = false \/ (isB (· == 48) s = true /\ 1 < w.1)) then (w.1, false)
  else if isB (· == 46) s = false /\ isB (· == 110) (s.drop w.1) = true then (w.1 + 1, true)
  else
   let f := frac (s.drop w.1)
   if f.2 = false then (w.1 + f.1, false)
   else
    let e := expo (s.drop (w.1 + f.1))
    (w.1 + f.1 + e.1, e.2)
def hexN : List UInt8 -> Option Nat
 | l => if l = [] then none else l.foldl (fun a c => match a with
  | none => none
  | some n => if hexV c < 0 then none else some (n * 16 + (hexV c).toNat)) (some 0)
def hexOf (s : List UInt8) (n : Nat) : Option Nat := if s.length < n then none else hexN (s.take n)
def runH : List UInt8 -> Nat
 | [] => 0
 | c :: r => if hexV c < 0 then 0 else runH r + 1
def unit (s : List UInt8) : Option (Nat × Nat) :=
 if [117, 123].isPrefixOf s = true then
  let d := (s.drop 2).take (runH (s.drop 2))
  if isB (· == 125) (s.drop (2 + d.length)) = true /\ d.length <= 6 then
   match hexN d with
   | none => none
   | some n => if 1114111 < n then none else some (n, d.length + 3)
  else none
 else match hexOf (s.drop 1) 4 with
  | none => none
  | some n => some (n, 5)
def chr (v : Nat) : List UInt8 := Lib.encodeRune (v : Int)
def unicode (s : List UInt8) : Option (List UInt8 × Nat) := match unit s with
 | none => none
 | some (v, n) =>
  if 55296 <= v /\ v < 56320 /\ [92, 117].isPrefixOf (s.drop n) = true then
   match unit (s.drop (n + 1)) with
   | some (w, k) => if 56320 <= w /\ w < 57344 then some (chr (65536 + (v - 55296) * 1024 + w - 56320), n + 1 + k) else some (chr v, n)
   | none => some (chr v, n)
  else some (chr v, n)
def letterOf (c : UInt8) : Option UInt8 :=
 if c = 98 then some 8 else if c = 116 then some 9 else if c = 110 then some 10 else if c = 118 then some 11 else if c = 102 then some 12 else if c = 114 then some 13 else none
def escape (s : List UInt8) : Option (List UInt8 × Nat) :=
 match letterOf (Cssp.at_ s 0) with
 | some c => some ([c], 1)
 | none =>
  if pt s = 120 then (match hexOf (s.drop 1) 2 with
   | some v => some (chr v, 3)
   | none => none)
  else if pt s = 117 then unicode s
  else if pt s = 48 /\ isB (fun c => digit c.toNat) (s.drop 1) = false then some ([0], 1)
  else if digit (pt s) = true then none
  else if [13, 10].isPrefixOf s = true then some ([], 2)
  else if lineEnd (pt s) = true then some ([], pn s)
  else some (s.take (pn s), pn s)
inductive Raw where
 | ends (k : Nat)
 | script
 | line
deriving DecidableEq
def Raw.on (k : Nat) : Raw -> Raw
 | .ends n => .ends (n + k)
 | .script => .script
 | .line => .line
def skip (s : List UInt8) : Nat := if [13, 10].isPrefixOf s = true then 2 else pn s
def rawF (q : UInt8) : Nat -> List UInt8 -> Raw
 | 0, _ => .script
 | f + 1, s => match s with
  | [] => .script
  | c :: r =>
   if c = q \/ (q = 96 /\ [36, 123].isPrefixOf (c :: r) = true) then .ends 0
   else if q ≠ 96 /\ (c = 10 \/ c = 13) then .line
   else if c = 92 then (rawF q f (r.drop (skip r))).on (1 + skip r)
   else (rawF q f r).on 1
def raw (q : UInt8) (s : List UInt8) : Raw := rawF q (s.length + 1) s
def cookF (t : Bool) : Nat -> List UInt8 -> List UInt8 ⊕ Nat
 | 0, _ => .inl []
 | f + 1, s => match s with
  | [] => .inl []
  | c :: r =>
   if c = 92 then
    match escape r with
    | none => .inr 0
    | some (x, n) => match cookF t f (r.drop n) with
     | .inl l => .inl (x ++ l)
     | .inr k => .inr (k + 1 + n)
   else if t = true /\ c = 13 then
    if r.head? = some 10 then
     match cookF t f (r.drop 1) with
     | .inl l => .inl (10 :: l)
     | .inr k => .inr (k + 2)
    else match cookF t f r with
     | .inl l => .inl (10 :: l)
     | .inr k => .inr (k + 1)
   else match cookF t f r with
    | .inl l => .inl (c :: l)
    | .inr k => .inr (k + 1)
def cook (t : Bool) (s : List UInt8) : List UInt8 ⊕ Nat := cookF t (s.length + 1) s
def regF (cls : Bool) : Nat -> List UInt8 -> Option Nat
 | 0, _ => none
 | f + 1, s =>
  if s = [] then none
  else if lineEnd (pt s) = true then none
  else if pt s = 92 then
   let r := s.drop 1
   if r = [] then none else if lineEnd (pt r) = true then none else (regF cls f (r.drop (pn r))).map (· + 1 + pn r)
  else if pt s = 47 /\ cls = false then some 0
  else (regF (if pt s = 91 then true else if pt s = 93 then false else cls) f (s.drop (pn s))).map (· + pn s)
def reg (s : List UInt8) : Option Nat := regF false (s.length + 1) s
structure Tk where
 kind : Nat
 t : List UInt8
 v : List UInt8
deriving DecidableEq
structure St where
 stk : List UInt8
 goal : Bool
 last : List UInt8
 some : Bool
deriving DecidableEq
def top (st : St) : UInt8 := st.stk.getLast?.getD 0
inductive Rs where
 | ok (x : Tk) (k : Nat) (st : St)
 | no (e : Nat) (o : Nat)
deriving DecidableEq
def wordsOf (l : List (List UInt8)) (t : List UInt8) : Bool := l.contains t
def aheadB : List (List UInt8) := [[59], [123], [125], [41], [61, 62], [101, 108, 115, 101], [100, 111]]
def aheadK : List (List UInt8) := [[105, 102], [102, 111, 114], [119, 104, 105, 108, 101], [119, 105, 116, 104]]
def aheadV : List (List UInt8) := [[97, 119, 97, 105, 116], [99, 97, 115, 101], [100, 101, 108, 101, 116, 101], [100, 111], [101, 108, 115, 101], [105, 110], [105, 110, 115, 116, 97, 110, 99, 101, 111, 102], [110, 101, 119], [111, 102], [114, 101, 116, 117, 114, 110], [116, 104, 114, 111, 119], [116, 121, 112, 101, 111, 102], [118, 111, 105, 100], [121, 105, 101, 108, 100]]
def brace (st : St) : UInt8 := if st.goal = false \/ st.some = false \/ wordsOf aheadB st.last = true then 98 else 101
def paren (st : St) : UInt8 := if wordsOf aheadK st.last = true then 107 else 112
def most : Nat := 200
def push (st : St) (c : UInt8) : Option St := if st.stk.length = most then none else some { st with stk := st.stk ++ [c] }
def pop (st : St) : St := { st with stk := st.stk.dropLast }
def marks : List (List UInt8) := [[62, 62, 62, 61],
 [46, 46, 46], [61, 61, 61], [33, 61, 61], [42, 42, 61], [60, 60, 61], [62, 62, 61], [62, 62, 62], [38, 38, 61], [124, 124, 61], [63, 63, 61],
 [60, 61], [62, 61], [61, 61], [33, 61], [42, 42], [43, 43], [45, 45], [60, 60], [62, 62], [38, 38], [124, 124], [63, 63], [63, 46], [43, 61], [45, 61], [42, 61], [47, 61], [37, 61], [38, 61], [124, 61], [94, 61], [61, 62],
 [123], [125], [40], [41], [91], [93], [46], [59], [44], [60], [62], [43], [45], [42], [47], [37], [38], [124], [94], [33], [126], [63], [58], [61]]
def markOf (s : List UInt8) : Option (List UInt8) := marks.find? fun m => m.isPrefixOf s && !(m == [63, 46] && isB (fun c => digit c.toNat) (s.drop 2))
def bracket (st : St) (m : List UInt8) : Option St :=
 if m = [40] then push { st with goal := true } (paren st)
 else if m = [91] then push { st with goal := true } 91
 else if m = [123] then push { st with goal := true } (brace st)
 else if m = [41] then if top st = 107 \/ top st = 112 then some { pop st with goal := top st == 107 } else none
 else if m = [93] then if top st = 91 then some { pop st with goal := false } else none
 else if m = [125] then if top st = 98 \/ top st = 101 then some { pop st with goal := top st == 98 } else none
 else if m = [43, 43] \/ m = [45, 45] then some { st with goal := false }
 else some { st with goal := true }
def plainS (st : St) : St := { st with goal := false, last := [], some := true }
def quote (s : List UInt8) : Rs ⊕ (Nat × List UInt8) := match raw (Cssp.at_ s 0) (s.drop 1) with
 | .ends k => match cook false ((s.drop 1).take k) with
  | .inl v => .inr (k, v)
  | .inr o => .inl (.no 172 (o + 1))
 | _ => .inl (.no 171 0)
def tmpl (st : St) (s : List UInt8) : Rs :=
 let mid := isB (· == 125) s
 let st1 := if mid = true then pop st else st
 match raw 96 (s.drop 1) with
 | .ends k => match cook true ((s.drop 1).take k) with
  | .inr o => .no 172 (o + 1)
  | .inl v =>
   if Cssp.at_ s (k + 1) = 96 then .ok ⟨if mid = true then 9 else 6, s.take (k + 2), v⟩ (k + 2) (plainS st1)
   else match push st1 36 with
    | none => .no 177 (k + 1)
    | some st2 => .ok ⟨if mid = true then 8 else 7, s.take (k + 3), v⟩ (k + 3) { plainS st2 with goal := true }
 | _ => .no 176 0
def next (st : St) (s : List UInt8) : Rs :=
 if begins (pt s) = true then
  let t := s.take (name s)
  .ok ⟨1, t, []⟩ (name s) { st with goal := wordsOf aheadV t, last := t, some := true }
 else if pt s = 35 then
  if s.drop 1 = [] \/ begins (pt (s.drop 1)) = false then .no 170 0
  else .ok ⟨2, s.take (1 + name (s.drop 1)), []⟩ (1 + name (s.drop 1)) (plainS st)
 else if digit (pt s) = true \/ (pt s = 46 /\ digit (pt (s.drop 1)) = true) then
  let n := numeral s
  if n.2 = false \/ name (s.drop n.1) ≠ 0 then .no 173 0
  else .ok ⟨4, s.take n.1, []⟩ n.1 (plainS st)
 else if pt s = 34 \/ pt s = 39 then
  match quote s with
  | .inl r => r
  | .inr (k, v) => .ok ⟨5, s.take (k + 2), v⟩ (k + 2) (plainS st)
 else if pt s = 96 \/ (pt s = 125 /\ top st = 36) then tmpl st s
 else if pt s = 47 /\ st.goal = true then
  match reg (s.drop 1) with
  | none => .no 174 0
  | some k => .ok ⟨10, s.take (k + 2 + name (s.drop (k + 2))), []⟩ (k + 2 + name (s.drop (k + 2))) (plainS st)
 else match markOf s with
  | none => .no 170 0
  | some m => match bracket st m with
   | none => .no 177 0
   | some st2 => .ok ⟨3, m, []⟩ m.length { st2 with last := m, some := true }
def shut : List UInt8 -> Option Nat
 | [] => none
 | c :: r => if c = 42 /\ r.head? = some 47 then some 0 else (shut r).map (· + 1)
def gapF : Nat -> List UInt8 -> (Nat × Bool) ⊕ Nat
 | 0, _ => .inl (0, false)
 | f + 1, s =>
  if s = [] then .inl (0, false)
  else if blank (pt s) = true \/ lineEnd (pt s) = true then
   match gapF f (s.drop (pn s)) with
   | .inl (k, l) => .inl (k + pn s, l)
   | .inr o => .inr (o + pn s)
  else if [47, 47].isPrefixOf s = true then
   let n := run (fun r => !lineEnd r) s
   if s.drop n = [] then .inl (n, true)
   else match gapF f (s.drop n) with
    | .inl (k, l) => .inl (k + n, l)
    | .inr o => .inr (o + n)
  else if [47, 42].isPrefixOf s = true then
   match shut (s.drop 2) with
   | none => .inr 0
   | some n => match gapF f (s.drop (2 + n + 2)) with
    | .inl (k, l) => .inl (k + (2 + n + 2), l)
    | .inr o => .inr (o + (2 + n + 2))
  else .inl (0, false)
def gap (s : List UInt8) : (Nat × Bool) ⊕ Nat := gapF (s.length + 1) s
def wordy (x : Tk) : Bool := x.kind == 1 || x.kind == 2 || x.kind == 4 || x.kind == 10 || (x.kind == 3 && x.t == [46])
inductive Al where
 | ok (l : List Tk) (st : St) (line word : Bool)
 | no (e place : Nat)
deriving DecidableEq
def lexF : Nat -> St -> List UInt8 -> Nat -> List Tk -> Al
 | 0, st, _, _, l => .ok l st false false
 | f + 1, st, s, p, l => match gap s with
  | .inr o => .no 175 (p + o)
  | .inl (g, ln) =>
   if s.drop g = [] then .ok l st ln (g == 0 && match l.getLast? with
    | none => false
    | some x => wordy x)
   else match next st (s.drop g) with
    | .no e o => .no e (p + g + o)
    | .ok x k st2 => lexF f st2 (s.drop (g + k)) (p + g + k) (l ++ [x])
def st0 : St := ⟨[], true, [], false⟩
def lex (s : List UInt8) : Al := lexF (s.length + 1) st0 s 0 []
structure Wh where
 state : Nat
 goal : Bool
 stk : List UInt8
deriving DecidableEq
def whereOf (st : St) (line word : Bool) : Wh := if line = true then ⟨6, false, st.stk⟩ else if word = true then ⟨2, false, st.stk⟩ else ⟨1, st.goal, st.stk⟩
def tokens (s : List UInt8) : List Tk × Nat × Nat := match lex (Cssp.decode s) with
 | .no e p => ([], e, p)
 | .ok l st _ _ => if st.stk = [] then (l, 0, 0) else ([], 177, (Cssp.decode s).length)
def value (s : List UInt8) : List UInt8 × Bool := match (tokens s).2.1, (tokens s).1 with
 | 0, [x] => if x.kind = 5 then (x.v, true) else ([], false)
 | _, _ => ([], false)
end Jsp
end Go.Proofs.YtngccmlcopcghaaGreatDoor
