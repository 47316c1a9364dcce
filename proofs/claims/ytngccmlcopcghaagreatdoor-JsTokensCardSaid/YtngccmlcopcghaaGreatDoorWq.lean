/- next. -/
import Derived.Test.YtngccmlcopcghaaGreatDoorWn
import Derived.Test.YtngccmlcopcghaaGreatDoorWc
import Derived.Test.YtngccmlcopcghaaGreatDoorQl
import Derived.Test.YtngccmlcopcghaaGreatDoorVc
import Derived.Deep.Cut
import Derived.Deep.CutRange
import Derived.Deep.CutBlock
set_option maxRecDepth 100000
set_option maxHeartbeats 8000000
namespace Go.Proofs.YtngccmlcopcghaaGreatDoor
open Go.RowKit
def ErrX (st : Jsp.St) (s : List UInt8) (x : Wx) : Prop := x.s ≠ 1 /\ ∀ q, Jsp.OpenStr s q -> x = ⟨3, q.toNat, false, false, st.stk⟩
theorem ErrX.of {st : Jsp.St} {s : List UInt8} {x : Wx} (h : x.s ≠ 1) (hn : ∀ q, ¬ Jsp.OpenStr s q) : ErrX st s x := ⟨h, fun q hq => absurd hq (hn q)⟩
theorem no_open {c : UInt8} {T : List UInt8} (h34 : c ≠ 34) (h39 : c ≠ 39) : ∀ q, ¬ Jsp.OpenStr (c :: T) q := by
 rintro q ⟨T', h1, h2, -⟩
 injection h1 with h1 _
 rcases h2 with rfl | rfl
 ·exact h34 h1
 ·exact h39 h1
theorem no_open_raw {c : UInt8} {T : List UInt8} (h : Jsp.raw c T ≠ .script) : ∀ q, ¬ Jsp.OpenStr (c :: T) q := by
 rintro q ⟨T', h1, _, h3, _⟩
 injection h1 with h1 h2
 subst h1; subst h2
 exact h h3
def TextP (F : List UInt8) (B b a : Nat) (st : Jsp.St) (ln : Bool) (w : World) (e : Ending) (w' : World) : Prop := match Jsp.quote (F.drop a) with
 | .inl (.no er o) => Pk er (a + o) (ErrX st (F.drop a)) B w e w'
 | .inl (.ok _ _ _) => False
 | .inr (k, v) => Lf (tokV 5 ((F.drop a).take (k + 2)) v) w B b F (a + (k + 2)) st ln e w'
theorem jText (F : List UInt8) (B b a : Nat) (q : UInt8) (hq : q = 34 \/ q = 39) (T : List UInt8) (st : Jsp.St) (ln : Bool) (w : World) (h : Lx w B b F a st ln) (hT : F.drop a = q :: T) (hs : Jsp.Suf T) (hl : F.length <= 4190000) :
  Calls Tryz.prog 42 #[.pointer (some ⟨b, 0, none⟩)] w (TextP F B b a st ln w) := by
 have hB := h.leB
 unfold TextP
 have hqe := Jsp.quote_cons q T
 have h96 : q ≠ 96 := by rcases hq with rfl | rfl <;> decide
 have h128 : q.toNat < 128 := by rcases hq with rfl | rfl <;> decide
 cases hr : Jsp.raw q T with
 | ends j =>
  rw [hr] at hqe
  dsimp only at hqe
  obtain ⟨hg, hj⟩ := Jsp.raw_quote h96 hr
  have hsj := Jsp.suf_take hs hg h128
  cases hc : Jsp.cook false (T.take j) with
  | inl v =>
   rw [hc] at hqe
   rw [hT, hqe, <- hT]
   exact jTextEnds F B b a j q T v st ln w h hT hs hl hr hj hsj hc
  | inr o =>
   rw [hc] at hqe
   rw [hT, hqe]
   refine (jTextBad F B b a j q T o st ln w h hT hs hl hr hj hsj hc).mono fun e w' hp => ?_
   exact Pk.to hp (Kp.refl B w) fun x hx => ErrX.of hx (no_open_raw (by rw [hr]; intro e; cases e))
 | line =>
  rw [hr] at hqe
  rw [hT, hqe]
  refine (jTextLine F B b a q T st ln w h hT hs hl hr).mono fun e w' hp => ?_
  exact Pk.to hp (Kp.refl B w) fun x hx => ErrX.of hx (no_open_raw (by rw [hr]; intro e; cases e))
 | script =>
  rw [hr] at hqe
  rw [hT, hqe]
  refine (jTextScript F B b a q T st ln w h hT hs hl hr).mono fun e w' hp => ?_
  refine Pk.to hp (Kp.refl B w) fun x hx => ⟨hx.1, fun q' ⟨T', h1, _, _, h4⟩ => ?_⟩
  injection h1 with h1 h2
  subst h1; subst h2
  exact hx.2 h4
theorem sContains' (s p : List UInt8) (w : World) (ht : Tab w) (hl : s.length <= 4194304) : Calls Tryz.prog 77 #[S s, S p] w (Ret (.bool (Lib.contains s p)) w) := by
 obtain ⟨m, hm⟩ := ht.mx
 exact (Tryz.strings_Contains ⟨s.toArray⟩ ⟨p.toArray⟩ m w (by rw [bl_size]; omega) hm).mono fun _ _ h => ⟨h.1, h.2.symm⟩
theorem jShut3 (t v : List UInt8) (w : World) (ht : Tab w) : Calls Tryz.prog 48 #[tokV 3 t v] w (AnyB w) := by
 have hal := (Below.refl w.heap.size w).alloc (Nat.le_refl _) (.cells #[.int .u8 3, S t, S v] 29)
 have hn := heap_alloc_last w (.cells #[.int .u8 3, S t, S v] 29)
 have HT := hide (ht.below ht.lt hal)
 obtain ⟨X, hX⟩ : ∃ X, Lib.contains [40, 41, 91, 93, 123, 125, 44, 59] t = X := ⟨_, rfl⟩
 have hC := fun W hT => hide (sContains' [40, 41, 91, 93, 123, 125, 44, 59] t W hT (by decide))
 rw [hX] at hC
 have c0 : (w.alloc (.cells #[.int .u8 3, S t, S v] 29)).cell? ⟨w.heap.size, 0, none⟩ = some (.int .u8 3) := by rw [Lib.cell_of_heap hn]; rfl
 have c1 : (w.alloc (.cells #[.int .u8 3, S t, S v] 29)).cell? ⟨w.heap.size, 1, none⟩ = some (S t) := by rw [Lib.cell_of_heap hn]; rfl
 have HAL := hide hal
 clear ht hal hn hX
 go_enter Tryz.func48, Tryz.ntmps48
 go_wp2_with fail
 refine (hC _ HT.out).out.mono ?_
 rintro e w1 ⟨rfl, rfl⟩
 go_wp2_with fail
 go_ret
 exact ⟨_, rfl, HAL.out⟩
theorem jShut (k : Nat) (hk : k < 11) (t v : List UInt8) (w : World) (ht : Tab w) : Calls Tryz.prog 48 #[tokV k t v] w (AnyB w) := by
 by_cases h3 : k = 3
 ·subst h3; exact jShut3 t v w ht
 clear ht
 have hk2 : k = 0 \/ k = 1 \/ k = 2 \/ k = 4 \/ k = 5 \/ k = 6 \/ k = 7 \/ k = 8 \/ k = 9 \/ k = 10 := by omega
 clear hk h3
 rcases hk2 with rfl | rfl | rfl | rfl | rfl | rfl | rfl | rfl | rfl | rfl
 all_goals
  have HAL := fun z : Int => hide ((Below.refl w.heap.size w).alloc (Nat.le_refl _) (.cells #[.int .u8 z, S t, S v] 29))
  go_enter Tryz.func48, Tryz.ntmps48
  go_wp2_with fail
  go_ret
  exact ⟨_, rfl, (HAL _).out⟩
theorem jWordy (k : Nat) (t v : List UInt8) (w : World) : Calls Tryz.prog 21 #[tokV k t v] w (Fresh (.bool (Jsp.wordy ⟨k, t, v⟩)) w) := by
 have HAL := hide ((Below.refl w.heap.size w).alloc (Nat.le_refl _) (.cells #[.int .u8 (k : Int), S t, S v] 29))
 by_cases h1 : k = 1
 ·have q1 : ((k : Int) == 1) = true := by rw [h1]; rfl
  rw [show Jsp.wordy ⟨k, t, v⟩ = true by rw [h1]; rfl]
  clear h1
  go_enter Tryz.func21, Tryz.ntmps21
  go_wp2_with fail
  go_ret
  exact ⟨rfl, HAL.out⟩
 have q1 : ((k : Int) == 1) = false := by rw [beq_eq_false_iff_ne]; omega
 by_cases h2 : k = 2
 ·have q2 : ((k : Int) == 2) = true := by rw [h2]; rfl
  rw [show Jsp.wordy ⟨k, t, v⟩ = true by rw [h2]; rfl]
  clear h1 h2
  go_enter Tryz.func21, Tryz.ntmps21
  go_wp2_with fail
  go_ret
  exact ⟨rfl, HAL.out⟩
 have q2 : ((k : Int) == 2) = false := by rw [beq_eq_false_iff_ne]; omega
 by_cases h4 : k = 4
 ·have q4 : ((k : Int) == 4) = true := by rw [h4]; rfl
  rw [show Jsp.wordy ⟨k, t, v⟩ = true by rw [h4]; rfl]
  clear h1 h2 h4
  go_enter Tryz.func21, Tryz.ntmps21
  go_wp2_with fail
  go_ret
  exact ⟨rfl, HAL.out⟩
 have q4 : ((k : Int) == 4) = false := by rw [beq_eq_false_iff_ne]; omega
 by_cases h10 : k = 10
 ·have q10 : ((k : Int) == 10) = true := by rw [h10]; rfl
  rw [show Jsp.wordy ⟨k, t, v⟩ = true by rw [h10]; rfl]
  clear h1 h2 h4 h10
  go_enter Tryz.func21, Tryz.ntmps21
  go_wp2_with fail
  go_ret
  exact ⟨rfl, HAL.out⟩
 have q10 : ((k : Int) == 10) = false := by rw [beq_eq_false_iff_ne]; omega
 have hw : Jsp.wordy ⟨k, t, v⟩ = (k == 3 && t == [46]) := by
  unfold Jsp.wordy
  simp [h1, h2, h4, h10]
 rw [hw]
 by_cases h3 : k = 3
 ·have q3 : ((k : Int) == 3) = true := by rw [h3]; rfl
  obtain ⟨X, hX⟩ : ∃ X, (t == [46]) = X := ⟨_, rfl⟩
  rw [hX, show (k == 3) = true by rw [h3]; rfl, Bool.true_and]
  clear h1 h2 h4 h10 h3
  go_enter Tryz.func21, Tryz.ntmps21
  go_wp2_with fail
  go_ret
  exact ⟨rfl, HAL.out⟩
 have q3 : ((k : Int) == 3) = false := by rw [beq_eq_false_iff_ne]; omega
 rw [show (k == 3) = false by rw [beq_eq_false_iff_ne]; exact h3, Bool.false_and]
 clear h1 h2 h4 h10 h3 hw
 go_enter Tryz.func21, Tryz.ntmps21
 go_wp2_with fail
 go_ret
 exact ⟨rfl, HAL.out⟩
def aft (st : Jsp.St) (K : Nat) (t : List UInt8) : Jsp.St :=
 if K = 3 then { st with last := t, some := true }
 else if K = 1 then { st with goal := Jsp.wordsOf Jsp.aheadV t, last := t, some := true }
 else { st with goal := K == 7 || K == 8, last := [], some := true }
def TkP (F : List UInt8) (B b a : Nat) (st : Jsp.St) (ln : Bool) (W : World) (e : Ending) (w' : World) : Prop :=
 (∃ (K : Nat) (t v : List UInt8) (k : Nat) (st3 : Jsp.St), e = .returned (tokV (K : Int) t v) /\ Lx w' B b F (a + k) st3 ln /\ Kp B W w' /\ K < 11 /\ Jsp.next st (F.drop a) = .ok ⟨K, t, v⟩ k (aft st3 K t)) \/
 (∃ (er o : Nat) (x : Wx), e = broke er (a + o) x /\ Kp B W w' /\ Jsp.next st (F.drop a) = .no er o /\ ErrX st (F.drop a) x)
def TkOk (F : List UInt8) (B b a : Nat) (st : Jsp.St) (ln : Bool) (f : Nat) : Prop :=
 (∀ (args : Array Value) (W : World), (callFunc f args).run Tryz.prog W = .ok (.enter f args) W) /\
 ∀ W, Lx W B b F a st ln -> Calls Tryz.prog f #[.pointer (some ⟨b, 0, none⟩)] W (TkP F B b a st ln W)
theorem no_open_pt {s : List UInt8} (h34 : Jsp.pt s ≠ 34) (h39 : Jsp.pt s ≠ 39) : ∀ q, ¬ Jsp.OpenStr s q := by
 rintro q ⟨T, rfl, h2, -⟩
 rcases h2 with rfl | rfl
 ·exact h34 (Jsp.pt_ascii (by decide) T)
 ·exact h39 (Jsp.pt_ascii (by decide) T)
theorem cons_of_pt {s : List UInt8} (hv : Cssp.valid s = true) (h0 : s ≠ []) {c : UInt8} (h : Jsp.pt s = c.toNat) (hc : c.toNat < 128) : ∃ T, s = c :: T /\ Cssp.valid T = true := by
 obtain ⟨d, r, rfl, hd, _⟩ := Jsp.pt_small hv h0 (by omega)
 have : d = c := UInt8.toNat_inj.1 (by omega)
 subst this
 exact ⟨r, rfl, (Jsp.Suf.of hv).valid hc⟩
theorem no_dig {r : Nat} {P : Prop} (h1 : Jsp.digit r = false) (h2 : r ≠ 46) : ¬ (Jsp.digit r = true \/ (r = 46 /\ P)) := by
 rintro (h | ⟨h, _⟩)
 ·rw [h1] at h; cases h
 ·exact h2 h
section
variable (F : List UInt8) (B b a : Nat) (st : Jsp.St) (ln : Bool) (h200 : st.stk.length <= 200) (ha : a < F.length) (hv : Cssp.valid (F.drop a) = true) (hl : F.length <= 4190000)
include h200 ha hv hl
omit h200 in
theorem tkWord (h1 : Jsp.begins (Jsp.pt (F.drop a)) = true) : TkOk F B b a st ln 38 := by
 refine ⟨enters_of Tryz.func38 (by kernel_rfl) rfl, fun W h => (jWord F B b a st ln W h (by omega) hv (by omega)).mono fun e w' hp => ?_⟩
 obtain ⟨rfl, hx, hk⟩ := hp
 refine .inl ⟨1, _, _, _, st, rfl, hx, hk, by decide, ?_⟩
 unfold Jsp.next
 rw [if_pos h1]
 rfl
omit h200 in
theorem tkPrivate (h2 : Jsp.pt (F.drop a) = 35) : TkOk F B b a st ln 39 := by
 have h0 : F.drop a ≠ [] := fun e => by
  have := congrArg List.length e
  rw [List.length_drop, List.length_nil] at this
  omega
 obtain ⟨T, hT, hvT⟩ := cons_of_pt (c := 35) hv h0 h2 (by decide)
 have hn : Jsp.next st (F.drop a) = if T = [] \/ Jsp.begins (Jsp.pt T) = false then .no 170 0 else .ok ⟨2, (F.drop a).take (1 + Jsp.name T), []⟩ (1 + Jsp.name T) (Jsp.plainS st) := by
  unfold Jsp.next
  rw [if_neg (by rw [h2]; decide), if_pos h2, show (F.drop a).drop 1 = T by rw [hT]; rfl]
 refine ⟨enters_of Tryz.func39 (by kernel_rfl) rfl, fun W h => (jPrivate F B b a st ln W h T hT hvT (by omega)).mono fun e w' hp => ?_⟩
 by_cases hc : T = [] \/ Jsp.begins (Jsp.pt T) = false
 ·rw [if_pos hc] at hp hn
  obtain ⟨x, rfl, hx, hk⟩ := hp
  exact .inr ⟨170, 0, x, rfl, hk, hn, ErrX.of hx (no_open_pt (by omega) (by omega))⟩
 ·rw [if_neg hc] at hp hn
  obtain ⟨rfl, hx, hk⟩ := hp
  exact .inl ⟨2, _, _, _, st, rfl, hx, hk, by decide, hn⟩
omit h200 in
theorem tkNumber (h1 : Jsp.begins (Jsp.pt (F.drop a)) = false) (h2 : Jsp.pt (F.drop a) ≠ 35) (h3 : Jsp.digit (Jsp.pt (F.drop a)) = true \/ (Jsp.pt (F.drop a) = 46 /\ Jsp.digit (Jsp.pt ((F.drop a).drop 1)) = true)) : TkOk F B b a st ln 41 := by
 have h34 : Jsp.pt (F.drop a) ≠ 34 := fun e => by rw [e] at h3; rcases h3 with h3 | ⟨h3, _⟩ <;> exact absurd h3 (by decide)
 have h39 : Jsp.pt (F.drop a) ≠ 39 := fun e => by rw [e] at h3; rcases h3 with h3 | ⟨h3, _⟩ <;> exact absurd h3 (by decide)
 have hn : Jsp.next st (F.drop a) = if (Jsp.numeral (F.drop a)).2 = false \/ Jsp.name ((F.drop a).drop (Jsp.numeral (F.drop a)).1) ≠ 0 then .no 173 0 else .ok ⟨4, (F.drop a).take (Jsp.numeral (F.drop a)).1, []⟩ (Jsp.numeral (F.drop a)).1 (Jsp.plainS st) := by
  unfold Jsp.next
  rw [if_neg (by rw [h1]; decide), if_neg h2, if_pos h3]
 refine ⟨enters_of Tryz.func41 (by kernel_rfl) rfl, fun W h => (jNumber F B b a st ln W h ha hv (by omega)).mono fun e w' hp => ?_⟩
 by_cases hc : (Jsp.numeral (F.drop a)).2 = false \/ Jsp.name ((F.drop a).drop (Jsp.numeral (F.drop a)).1) ≠ 0
 ·rw [if_pos hc] at hp hn
  obtain ⟨x, rfl, hx, hk⟩ := hp
  exact .inr ⟨173, 0, x, rfl, hk, hn, ErrX.of hx (no_open_pt h34 h39)⟩
 ·rw [if_neg hc] at hp hn
  obtain ⟨rfl, hx, hk⟩ := hp
  exact .inl ⟨4, _, _, _, st, rfl, hx, hk, by decide, hn⟩
omit h200 in
theorem tkText (h1 : Jsp.pt (F.drop a) = 34 \/ Jsp.pt (F.drop a) = 39) : TkOk F B b a st ln 42 := by
 have h0 : F.drop a ≠ [] := fun e => by
  have := congrArg List.length e
  rw [List.length_drop, List.length_nil] at this
  omega
 obtain ⟨q, hq, T, hT, hvT⟩ : ∃ q : UInt8, (q = 34 \/ q = 39) /\ ∃ T, F.drop a = q :: T /\ Cssp.valid T = true := by
  rcases h1 with h1 | h1
  ·exact ⟨34, .inl rfl, cons_of_pt (c := 34) hv h0 h1 (by decide)⟩
  ·exact ⟨39, .inr rfl, cons_of_pt (c := 39) hv h0 h1 (by decide)⟩
 have hn : Jsp.next st (F.drop a) = match Jsp.quote (F.drop a) with
   | .inl r => r
   | .inr (k, v) => .ok ⟨5, (F.drop a).take (k + 2), v⟩ (k + 2) (Jsp.plainS st) := by
  unfold Jsp.next
  rw [if_neg (by rcases h1 with h1 | h1 <;> rw [h1] <;> decide), if_neg (by omega), if_neg (by rcases h1 with h1 | h1 <;> rw [h1] <;> exact no_dig (by decide) (by decide)), if_pos h1]
  cases Jsp.quote (F.drop a) with
  | inl r => rfl
  | inr y => rfl
 refine ⟨enters_of Tryz.func42 (by kernel_rfl) rfl, fun W h => (jText F B b a q hq T st ln W h hT (Jsp.Suf.of hvT) hl).mono fun e w' hp => ?_⟩
 unfold TextP at hp
 cases hqu : Jsp.quote (F.drop a) with
 | inl r =>
  rw [hqu] at hp hn
  cases r with
  | ok x k s => exact hp.elim
  | no er o =>
   obtain ⟨x, rfl, hx, hk⟩ := hp
   exact .inr ⟨er, o, x, rfl, hk, hn, hx⟩
 | inr y =>
  obtain ⟨k, v⟩ := y
  rw [hqu] at hp hn
  obtain ⟨rfl, hx, hk⟩ := hp
  exact .inl ⟨5, _, _, _, st, rfl, hx, hk, by decide, hn⟩
omit hl h200 ha hv in
theorem tmpl_take {T : List UInt8} {c : UInt8} (hT : F.drop a = c :: T) {st1 : Jsp.St} {kw kp : Nat} (h5 : 3 < kw) (h6 : kw < 11) (h7 : 6 < kp) (h8 : kp < 9) (h9 : kw ≠ 7 /\ kw ≠ 8) (hc : c ≠ 34 /\ c ≠ 39)
  (hn : Jsp.next st (F.drop a) = match Jsp.raw 96 T with
   | .ends k => (match Jsp.cook true (T.take k) with
    | .inr o => .no 172 (o + 1)
    | .inl v => if Cssp.at_ T k = 96 then .ok ⟨kw, (F.drop a).take (k + 2), v⟩ (k + 2) (Jsp.plainS st1)
     else match Jsp.push st1 36 with
      | none => .no 177 (k + 1)
      | some st2 => .ok ⟨kp, (F.drop a).take (k + 3), v⟩ (k + 3) { Jsp.plainS st2 with goal := true })
   | _ => .no 176 0) {W : World} {e : Ending} {w' : World} (hp : TmP F B b a T st1 kw kp ln W e w') : TkP F B b a st ln W e w' := by
 have hno : ∀ q, ¬ Jsp.OpenStr (F.drop a) q := by rw [hT]; exact no_open hc.1 hc.2
 have ea : aft st1 kw = fun _ => Jsp.plainS st1 := by
  funext t
  unfold aft
  rw [if_neg (by omega), if_neg (by omega)]
  have : (kw == 7 || kw == 8) = false := by simp; omega
  rw [this]; rfl
 have eb : ∀ s t, aft s kp t = { Jsp.plainS s with goal := true } := fun s t => by
  unfold aft
  rw [if_neg (by omega), if_neg (by omega)]
  have : (kp == 7 || kp == 8) = true := by simp; omega
  rw [this]; rfl
 unfold TmP at hp
 cases hr : Jsp.raw 96 T with
 | ends k =>
  rw [hr] at hp hn
  dsimp only at hp hn
  cases hck : Jsp.cook true (T.take k) with
  | inr o =>
   rw [hck] at hp hn
   obtain ⟨x, rfl, hx, hk⟩ := hp
   exact .inr ⟨172, _, x, rfl, hk, hn, ErrX.of hx hno⟩
  | inl v =>
   rw [hck] at hp hn
   dsimp only at hp hn
   by_cases h96 : Cssp.at_ T k = 96
   ·rw [if_pos h96] at hp hn
    obtain ⟨rfl, hx, hk⟩ := hp
    exact .inl ⟨kw, _, _, _, st1, rfl, hx, hk, h6, by rw [ea]; exact hn⟩
   ·rw [if_neg h96] at hp hn
    by_cases hf : st1.stk.length = 200
    ·rw [if_pos hf] at hp
     rw [show Jsp.push st1 36 = none from if_pos hf] at hn
     obtain ⟨x, rfl, hx, hk⟩ := hp
     exact .inr ⟨177, _, x, rfl, hk, hn, ErrX.of hx hno⟩
    ·rw [if_neg hf] at hp
     rw [show Jsp.push st1 36 = some { st1 with stk := st1.stk ++ [36] } from if_neg hf] at hn
     obtain ⟨rfl, hx, hk⟩ := hp
     exact .inl ⟨kp, _, _, _, _, rfl, hx, hk, by omega, by rw [eb]; exact hn⟩
 | script =>
  rw [hr] at hp hn
  obtain ⟨x, rfl, hx, hk⟩ := hp
  exact .inr ⟨176, 0, x, rfl, hk, hn, ErrX.of hx hno⟩
 | line =>
  rw [hr] at hp hn
  obtain ⟨x, rfl, hx, hk⟩ := hp
  exact .inr ⟨176, 0, x, rfl, hk, hn, ErrX.of hx hno⟩
theorem tkTmplA (h1 : Jsp.pt (F.drop a) = 96) : TkOk F B b a st ln 44 := by
 have h0 : F.drop a ≠ [] := fun e => by
  have := congrArg List.length e
  rw [List.length_drop, List.length_nil] at this
  omega
 obtain ⟨T, hT, hvT⟩ := cons_of_pt (c := 96) hv h0 h1 (by decide)
 refine ⟨enters_of Tryz.func44 (by kernel_rfl) rfl, fun W h => (jTemplA F B b a T st ln W h h200 hT (Jsp.Suf.of hvT) hl).mono fun e w' hp => ?_⟩
 refine tmpl_take F B b a st ln hT (by decide) (by decide) (by decide) (by decide) (by decide) (by decide) ?_ hp
 unfold Jsp.next
 rw [if_neg (by rw [h1]; decide), if_neg (by omega), if_neg (by rw [h1]; exact no_dig (by decide) (by decide)), if_neg (by omega), if_pos (.inl h1), hT]
 rfl
theorem tkTmplB (h1 : Jsp.pt (F.drop a) = 125) (h2 : Jsp.top st = 36) : TkOk F B b a st ln 44 := by
 have h0 : F.drop a ≠ [] := fun e => by
  have := congrArg List.length e
  rw [List.length_drop, List.length_nil] at this
  omega
 obtain ⟨T, hT, hvT⟩ := cons_of_pt (c := 125) hv h0 h1 (by decide)
 have hst : st.stk ≠ [] := fun e => by unfold Jsp.top at h2; rw [e] at h2; exact absurd h2 (by decide)
 refine ⟨enters_of Tryz.func44 (by kernel_rfl) rfl, fun W h => (jTemplB F B b a T st ln W h h200 hst hT (Jsp.Suf.of hvT) hl).mono fun e w' hp => ?_⟩
 refine tmpl_take F B b a st ln hT (by decide) (by decide) (by decide) (by decide) (by decide) (by decide) ?_ hp
 unfold Jsp.next
 rw [if_neg (by rw [h1]; decide), if_neg (by omega), if_neg (by rw [h1]; exact no_dig (by decide) (by decide)), if_neg (by omega), if_pos (.inr ⟨h1, h2⟩), hT]
 rfl
omit h200 in
theorem tkRegex (h1 : Jsp.pt (F.drop a) = 47) (h2 : st.goal = true) : TkOk F B b a st ln 45 := by
 have h0 : F.drop a ≠ [] := fun e => by
  have := congrArg List.length e
  rw [List.length_drop, List.length_nil] at this
  omega
 obtain ⟨T, hT, hvT⟩ := cons_of_pt (c := 47) hv h0 h1 (by decide)
 have hn : Jsp.next st (F.drop a) = match Jsp.reg T with
   | none => .no 174 0
   | some k => .ok ⟨10, (F.drop a).take (k + 2 + Jsp.name (F.drop (a + (k + 2)))), []⟩ (k + 2 + Jsp.name (F.drop (a + (k + 2)))) (Jsp.plainS st) := by
  unfold Jsp.next
  rw [if_neg (by rw [h1]; decide), if_neg (by omega), if_neg (by rw [h1]; exact no_dig (by decide) (by decide)), if_neg (by omega), if_neg (by omega), if_pos ⟨h1, h2⟩, show (F.drop a).drop 1 = T by rw [hT]; rfl]
  cases Jsp.reg T with
  | none => rfl
  | some k => dsimp only; rw [List.drop_drop]
 refine ⟨enters_of Tryz.func45 (by kernel_rfl) rfl, fun W h => (jRegex F B b a T st ln W h hT hvT hl).mono fun e w' hp => ?_⟩
 unfold RgP at hp
 cases hr : Jsp.reg T with
 | none =>
  rw [hr] at hp hn
  obtain ⟨x, rfl, hx, hk⟩ := hp
  exact .inr ⟨174, 0, x, rfl, hk, hn, ErrX.of hx (no_open_pt (by omega) (by omega))⟩
 | some k =>
  rw [hr] at hp hn
  obtain ⟨rfl, hx, hk⟩ := hp
  exact .inl ⟨10, _, _, _, st, rfl, hx, hk, by decide, hn⟩
theorem tkMark (h1 : Jsp.begins (Jsp.pt (F.drop a)) = false) (h2 : Jsp.pt (F.drop a) ≠ 35) (h3 : ¬ (Jsp.digit (Jsp.pt (F.drop a)) = true \/ (Jsp.pt (F.drop a) = 46 /\ Jsp.digit (Jsp.pt ((F.drop a).drop 1)) = true))) (h4 : ¬ (Jsp.pt (F.drop a) = 34 \/ Jsp.pt (F.drop a) = 39)) (h5 : ¬ (Jsp.pt (F.drop a) = 96 \/ (Jsp.pt (F.drop a) = 125 /\ Jsp.top st = 36))) (h6 : ¬ (Jsp.pt (F.drop a) = 47 /\ st.goal = true)) : TkOk F B b a st ln 36 := by
 have hn : Jsp.next st (F.drop a) = match Jsp.markOf (F.drop a) with
   | none => .no 170 0
   | some m => match Jsp.bracket st m with
    | none => .no 177 0
    | some st2 => .ok ⟨3, m, []⟩ m.length { st2 with last := m, some := true } := by
  unfold Jsp.next
  rw [if_neg (by rw [h1]; decide), if_neg h2, if_neg h3, if_neg h4, if_neg h5, if_neg h6]
  cases Jsp.markOf (F.drop a) with
  | none => rfl
  | some m =>
   dsimp only
   cases Jsp.bracket st m <;> rfl
 refine ⟨enters_of Tryz.func36 (by kernel_rfl) rfl, fun W h => (jMark F B b a st ln W h h200 ha hv (by omega)).mono fun e w' hp => ?_⟩
 have hno := no_open_pt (s := F.drop a) (fun e => h4 (.inl e)) (fun e => h4 (.inr e))
 unfold jMkP at hp
 cases hm : Jsp.markOf (F.drop a) with
 | none =>
  rw [hm] at hp hn
  obtain ⟨x, rfl, rfl, hk⟩ := hp
  exact .inr ⟨170, 0, w0x, rfl, hk, hn, ErrX.of (by decide) hno⟩
 | some m =>
  rw [hm] at hp hn
  dsimp only at hp hn
  cases hb : Jsp.bracket st m with
  | none =>
   rw [hb] at hp hn
   obtain ⟨x, rfl, rfl, hk⟩ := hp
   exact .inr ⟨177, 0, w0x, rfl, hk, hn, ErrX.of (by decide) hno⟩
  | some st2 =>
   rw [hb] at hp hn
   obtain ⟨rfl, hx, hk⟩ := hp
   exact .inl ⟨3, _, _, _, st2, rfl, hx, hk, by decide, hn⟩
end
def NxP (F : List UInt8) (B b a : Nat) (st : Jsp.St) (ln : Bool) (w : World) (e : Ending) (w' : World) : Prop := match Jsp.next st (F.drop a) with
 | .ok x k st2 => Lf (tokV (x.kind : Int) x.t x.v) w B b F (a + k) st2 ln e w' /\ x.kind < 11
 | .no er o => Pk er (a + o) (ErrX st (F.drop a)) B w e w'
theorem NxP.ok {F : List UInt8} {B b a : Nat} {st : Jsp.St} {ln : Bool} {w : World} {e : Ending} {w' : World} {x : Jsp.Tk} {k : Nat} {st2 : Jsp.St} (hn : Jsp.next st (F.drop a) = .ok x k st2) (h : Lf (tokV (x.kind : Int) x.t x.v) w B b F (a + k) st2 ln e w') (hk : x.kind < 11) : NxP F B b a st ln w e w' := by unfold NxP; rw [hn]; exact ⟨h, hk⟩
theorem NxP.no {F : List UInt8} {B b a : Nat} {st : Jsp.St} {ln : Bool} {w : World} {e : Ending} {w' : World} {er o : Nat} (hn : Jsp.next st (F.drop a) = .no er o) (h : Pk er (a + o) (ErrX st (F.drop a)) B w e w') : NxP F B b a st ln w e w' := by unfold NxP; rw [hn]; exact h
def txV : List UInt8 := [97, 119, 97, 105, 116, 32, 99, 97, 115, 101, 32, 100, 101, 108, 101, 116, 101, 32, 100, 111, 32, 101, 108, 115, 101, 32, 105, 110, 32, 105, 110, 115, 116, 97, 110, 99, 101, 111, 102, 32, 110, 101, 119, 32, 111, 102, 32, 114, 101, 116, 117, 114, 110, 32, 116, 104, 114, 111, 119, 32, 116, 121, 112, 101, 111, 102, 32, 118, 111, 105, 100, 32, 121, 105, 101, 108, 100]
theorem fldV : Lib.fields txV = Jsp.aheadV := by decide
theorem tok_at {W : World} {M : Nat} {x y z : Value} (h : W.heap[M]? = some (.cells #[x, y, z] 29 (0, 0))) : W.cell? ⟨M, 0, none⟩ = some x /\ W.cell? ⟨M, 1, none⟩ = some y /\ W.cell? ⟨M, 2, none⟩ = some z := by
 refine ⟨?_, ?_, ?_⟩ <;> (rw [Lib.cell_of_heap h]; rfl)
theorem jNext (F : List UInt8) (B b a : Nat) (st : Jsp.St) (ln : Bool) (w : World) (h : Lx w B b F a st ln) (h200 : st.stk.length <= 200) (ha : a < F.length) (hv : Cssp.valid (F.drop a) = true) (hl : F.length <= 4190000) :
  Calls Tryz.prog 20 #[.pointer (some ⟨b, 0, none⟩)] w (NxP F B b a st ln w) := by
 have hB := h.leB
 obtain ⟨n1, n2, n3⟩ := tok_new h
 unfold tokC at n1 n2 n3
 have hP0 : ∀ W, Lx W B b F a st ln -> Hid (Calls Tryz.prog 35 #[.pointer (some ⟨b, 0, none⟩), .int .i64 0] W (Fresh (.int .i32 ((Jsp.pt (F.drop a) : Nat) : Int)) W)) := fun W hW => by
  refine (jPoint F B b a 0 st ln W hW (by omega) (by omega) (by omega)).mono fun e w' ⟨r, _, h2, h3⟩ => ?_
  rw [h2 hv] at h3
  exact h3
 have hP1 : ∀ W, Lx W B b F a st ln -> Hid (Calls Tryz.prog 35 #[.pointer (some ⟨b, 0, none⟩), .int .i64 1] W fun e w' => ∃ r : Nat, (Jsp.pt (F.drop a) = 46 -> r = Jsp.pt ((F.drop a).drop 1)) /\ Fresh (.int .i32 (r : Int)) W e w') := fun W hW => by
  refine (jPoint F B b a 1 st ln W hW (by omega) (by omega) (by omega)).mono fun e w' ⟨r, _, h2, h3⟩ => ⟨r, fun h46 => ?_, h3⟩
  rw [List.drop_drop]
  apply h2
  obtain ⟨T, hT, hvT⟩ := cons_of_pt (c := 46) hv (fun e => by
   have := congrArg List.length e
   rw [List.length_drop, List.length_nil] at this
   omega) h46 (by decide)
  rw [<- List.drop_drop, hT]
  exact hvT
 have hpl := Jsp.pt_le (F.drop a)
 have HP0 := hide hP0
 have HP1 := hide hP1
 have HX := hide n1
 have HK := hide n2
 have HR := hide n3
 have HV := hide hv
 clear h n1 n2 n3 hP0 hP1 hv
 go_enter Tryz.func20, Tryz.ntmps20
 go_wp2_with fail
 generalize (w.alloc (.cells #[.int .u8 0, S [], S []] 29)) = W1 at HX HK HR ⊢
 refine (HP0.out _ HX.out).out.mono ?_
 rintro e w1 ⟨rfl, hb1⟩
 have HX1 := hide (HX.out.below hb1)
 have HK1 := hide (HK.out.fresh hB hb1)
 have HR1 := hide ((hb1.block _ (heap_lt HR.out)).trans HR.out)
 clear hb1
 go_wp2_with fail
 refine (HP1.out _ HX1.out).out.mono ?_
 rintro e w2 ⟨r2, hr2, rfl, hb2⟩
 have HX2 := hide (HX1.out.below hb2)
 have HK2 := hide (HK1.out.fresh hB hb2)
 have HR2 := hide ((hb2.block _ (heap_lt HR1.out)).trans HR1.out)
 have HR46 := hide hr2
 clear hb2 hr2 HX HK HR HX1 HK1 HR1 HP0 HP1
 obtain ⟨r, hr⟩ : ∃ r, Jsp.pt (F.drop a) = r := ⟨_, rfl⟩
 rw [hr] at hpl
 rw [hr]
 have HRr := hide hr
 clear hr
 go_upto_block 0 with fail
 go_cut [5] from 13 to 63 (fun s5 wx => ∃ f : Nat, s5 = .func (.func f) #[.pointer (some ⟨b, 0, none⟩)] #[] /\ Hid (TkOk F B b a st ln f) /\ Hid (Lx wx B b F a st ln) /\ Hid (Kp B w wx) /\ Hid (wx.heap[w.heap.size]? = some (.cells tokC 29 (0, 0))))
 case first =>
  have hmf : ∀ (fn : Fn) (first cap : Array Value) (w : World), (Instr.makeFunc fn first cap).run Tryz.prog w = .ok (.func fn first cap) w := fun _ _ _ _ => rfl
  cases hbg : Jsp.begins r with
  | true =>
   have hBg := fun W => hide (jBegins r W hpl)
   rw [show Jsp.begins r = true from hbg] at hBg
   have HB1 := hide hbg
   clear hbg
   go_wp2_with fail
   refine (hBg _).out.mono ?_
   rintro e w3 ⟨rfl, rfl⟩
   go_wp2_with fail
   go_meet
   exact ⟨_, rfl, tkWord F B b a st ln ha HV.out hl (by rw [HRr.out]; exact HB1.out), HX2.out, HK2.out, HR2.out⟩
  | false =>
   by_cases hc : r = 35
   ·have hn : True := trivial
    have hbg : Jsp.begins r = false := by rw [hc]; decide
    have hdg : Jsp.digit r = false := by rw [hc]; decide
    have hBg := fun W => hide (jBegins r W hpl)
    rw [show Jsp.begins r = false from hbg] at hBg
    have hDg := fun W => hide (jDigit r W)
    rw [show Jsp.digit r = false from hdg] at hDg
    have q35 : ((r : Int) == 35) = true := by rw [hc]; rfl
    have q46 : ((r : Int) == 46) = false := by rw [beq_eq_false_iff_ne]; omega
    have q34 : ((r : Int) == 34) = false := by rw [beq_eq_false_iff_ne]; omega
    have q39 : ((r : Int) == 39) = false := by rw [beq_eq_false_iff_ne]; omega
    have q96 : ((r : Int) == 96) = false := by rw [beq_eq_false_iff_ne]; omega
    have q125 : ((r : Int) == 125) = false := by rw [beq_eq_false_iff_ne]; omega
    have q47 : ((r : Int) == 47) = false := by rw [beq_eq_false_iff_ne]; omega
    have HC := hide hc
    clear hbg hdg hc
    go_wp2_with fail
    refine (hBg _).out.mono ?_
    rintro e w3 ⟨rfl, rfl⟩
    go_wp2_with fail
    go_meet
    exact ⟨_, rfl, tkPrivate F B b a st ln ha HV.out hl (by rw [HRr.out, HC.out]), HX2.out, HK2.out, HR2.out⟩
   have q35 : ((r : Int) == 35) = false := by rw [beq_eq_false_iff_ne]; omega
   have HN35 := hide hc
   clear hc
   cases hdg : Jsp.digit r with
   | true =>
    have hBg := fun W => hide (jBegins r W hpl)
    rw [show Jsp.begins r = false from hbg] at hBg
    have hDg := fun W => hide (jDigit r W)
    rw [show Jsp.digit r = true from hdg] at hDg
    have HB1 := hide hbg
    have HD1 := hide hdg
    clear hbg hdg
    go_wp2_with fail
    refine (hBg _).out.mono ?_
    rintro e w3 ⟨rfl, rfl⟩
    go_wp2_with fail
    refine (hDg _).out.mono ?_
    rintro e w3 ⟨rfl, rfl⟩
    go_wp2_with fail
    go_meet
    exact ⟨_, rfl, tkNumber F B b a st ln ha HV.out hl (by rw [HRr.out]; exact HB1.out) (by rw [HRr.out]; exact HN35.out) (.inl (by rw [HRr.out]; exact HD1.out)), HX2.out, HK2.out, HR2.out⟩
   | false =>
    have HB1 := hide hbg
    have HD1 := hide hdg
    by_cases hc46 : r = 46
    ·have hc := hc46
     clear hbg hdg hc46
     have hr2 := HR46.out (by rw [HRr.out]; exact hc)
     have hD2 := fun W => hide (jDigit r2 W)
     have HR2E := hide hr2
     clear hr2
     have hbg : Jsp.begins r = false := by rw [hc]; decide
     have hdg : Jsp.digit r = false := by rw [hc]; decide
     have hBg := fun W => hide (jBegins r W hpl)
     rw [show Jsp.begins r = false from hbg] at hBg
     have hDg := fun W => hide (jDigit r W)
     rw [show Jsp.digit r = false from hdg] at hDg
     skip
     have q46 : ((r : Int) == 46) = true := by rw [hc]; rfl
     have q34 : ((r : Int) == 34) = false := by rw [beq_eq_false_iff_ne]; omega
     have q39 : ((r : Int) == 39) = false := by rw [beq_eq_false_iff_ne]; omega
     have q96 : ((r : Int) == 96) = false := by rw [beq_eq_false_iff_ne]; omega
     have q125 : ((r : Int) == 125) = false := by rw [beq_eq_false_iff_ne]; omega
     have q47 : ((r : Int) == 47) = false := by rw [beq_eq_false_iff_ne]; omega
     have HC := hide hc
     clear hbg hdg hc
     cases hd2 : Jsp.digit r2 with
     | true =>
      rw [hd2] at hD2
      have HD2 := hide hd2
      clear hd2
      go_wp2_with fail
      refine (hBg _).out.mono ?_
      rintro e w3 ⟨rfl, rfl⟩
      go_wp2_with fail
      refine (hDg _).out.mono ?_
      rintro e w3 ⟨rfl, rfl⟩
      go_wp2_with fail
      refine (hD2 _).out.mono ?_
      rintro e w3 ⟨rfl, rfl⟩
      go_wp2_with fail
      go_meet
      exact ⟨_, rfl, tkNumber F B b a st ln ha HV.out hl (by rw [HRr.out]; exact HB1.out) (by rw [HRr.out]; exact HN35.out) (.inr ⟨by rw [HRr.out]; exact HC.out, by rw [<- HR2E.out]; exact HD2.out⟩), HX2.out, HK2.out, HR2.out⟩
     | false =>
      rw [hd2] at hD2
      have HD2 := hide hd2
      clear hd2
      have hl1 : Jsp.begins (Jsp.pt (F.drop a)) = false := by rw [HRr.out, HC.out]; decide
      have hl2 : Jsp.pt (F.drop a) ≠ 35 := by rw [HRr.out, HC.out]; decide
      have hl3 : ¬ (Jsp.digit (Jsp.pt (F.drop a)) = true \/ (Jsp.pt (F.drop a) = 46 /\ Jsp.digit (Jsp.pt ((F.drop a).drop 1)) = true)) := by
             rintro (h | ⟨_, h⟩)
             ·rw [HRr.out, HD1.out] at h; cases h
             ·rw [<- HR2E.out, HD2.out] at h; cases h
      have hl4 : ¬ (Jsp.pt (F.drop a) = 34 \/ Jsp.pt (F.drop a) = 39) := by rw [HRr.out, HC.out]; decide
      have hl5 : ¬ (Jsp.pt (F.drop a) = 96 \/ (Jsp.pt (F.drop a) = 125 /\ Jsp.top st = 36)) := by rw [HRr.out, HC.out]; rintro (h | ⟨h, _⟩) <;> exact absurd h (by decide)
      have hl6 : ¬ (Jsp.pt (F.drop a) = 47 /\ st.goal = true) := by rw [HRr.out, HC.out]; rintro ⟨h, _⟩; exact absurd h (by decide)
      have HLM := hide (tkMark F B b a st ln h200 ha HV.out hl hl1 hl2 hl3 hl4 hl5 hl6)
      clear hl1 hl2 hl3 hl4 hl5 hl6
      go_wp2_with fail
      refine (hBg _).out.mono ?_
      rintro e w3 ⟨rfl, rfl⟩
      go_wp2_with fail
      refine (hDg _).out.mono ?_
      rintro e w3 ⟨rfl, rfl⟩
      go_wp2_with fail
      refine (hD2 _).out.mono ?_
      rintro e w3 ⟨rfl, rfl⟩
      go_wp2_with fail
      go_meet
      exact ⟨_, rfl, HLM.out, HX2.out, HK2.out, HR2.out⟩
    by_cases hc : r = 34
    ·clear hbg hdg
     have hbg : Jsp.begins r = false := by rw [hc]; decide
     have hdg : Jsp.digit r = false := by rw [hc]; decide
     have hBg := fun W => hide (jBegins r W hpl)
     rw [show Jsp.begins r = false from hbg] at hBg
     have hDg := fun W => hide (jDigit r W)
     rw [show Jsp.digit r = false from hdg] at hDg
     have q35 : ((r : Int) == 35) = false := by rw [beq_eq_false_iff_ne]; omega
     have q46 : ((r : Int) == 46) = false := by rw [beq_eq_false_iff_ne]; omega
     have q34 : ((r : Int) == 34) = true := by rw [hc]; rfl
     have q39 : ((r : Int) == 39) = false := by rw [beq_eq_false_iff_ne]; omega
     have q96 : ((r : Int) == 96) = false := by rw [beq_eq_false_iff_ne]; omega
     have q125 : ((r : Int) == 125) = false := by rw [beq_eq_false_iff_ne]; omega
     have q47 : ((r : Int) == 47) = false := by rw [beq_eq_false_iff_ne]; omega
     have HC := hide hc
     clear hbg hdg hc
     go_wp2_with fail
     refine (hBg _).out.mono ?_
     rintro e w3 ⟨rfl, rfl⟩
     go_wp2_with fail
     refine (hDg _).out.mono ?_
     rintro e w3 ⟨rfl, rfl⟩
     go_wp2_with fail
     go_meet
     exact ⟨_, rfl, tkText F B b a st ln ha HV.out hl (by rw [HRr.out]; exact .inl HC.out), HX2.out, HK2.out, HR2.out⟩
    have hnc34 := hc
    clear hc
    by_cases hc : r = 39
    ·clear hbg hdg
     have hbg : Jsp.begins r = false := by rw [hc]; decide
     have hdg : Jsp.digit r = false := by rw [hc]; decide
     have hBg := fun W => hide (jBegins r W hpl)
     rw [show Jsp.begins r = false from hbg] at hBg
     have hDg := fun W => hide (jDigit r W)
     rw [show Jsp.digit r = false from hdg] at hDg
     have q35 : ((r : Int) == 35) = false := by rw [beq_eq_false_iff_ne]; omega
     have q46 : ((r : Int) == 46) = false := by rw [beq_eq_false_iff_ne]; omega
     have q34 : ((r : Int) == 34) = false := by rw [beq_eq_false_iff_ne]; omega
     have q39 : ((r : Int) == 39) = true := by rw [hc]; rfl
     have q96 : ((r : Int) == 96) = false := by rw [beq_eq_false_iff_ne]; omega
     have q125 : ((r : Int) == 125) = false := by rw [beq_eq_false_iff_ne]; omega
     have q47 : ((r : Int) == 47) = false := by rw [beq_eq_false_iff_ne]; omega
     have HC := hide hc
     clear hbg hdg hc
     go_wp2_with fail
     refine (hBg _).out.mono ?_
     rintro e w3 ⟨rfl, rfl⟩
     go_wp2_with fail
     refine (hDg _).out.mono ?_
     rintro e w3 ⟨rfl, rfl⟩
     go_wp2_with fail
     go_meet
     exact ⟨_, rfl, tkText F B b a st ln ha HV.out hl (by rw [HRr.out]; exact .inr HC.out), HX2.out, HK2.out, HR2.out⟩
    have hnc39 := hc
    clear hc
    by_cases hc : r = 96
    ·clear hbg hdg
     have hbg : Jsp.begins r = false := by rw [hc]; decide
     have hdg : Jsp.digit r = false := by rw [hc]; decide
     have hBg := fun W => hide (jBegins r W hpl)
     rw [show Jsp.begins r = false from hbg] at hBg
     have hDg := fun W => hide (jDigit r W)
     rw [show Jsp.digit r = false from hdg] at hDg
     have q35 : ((r : Int) == 35) = false := by rw [beq_eq_false_iff_ne]; omega
     have q46 : ((r : Int) == 46) = false := by rw [beq_eq_false_iff_ne]; omega
     have q34 : ((r : Int) == 34) = false := by rw [beq_eq_false_iff_ne]; omega
     have q39 : ((r : Int) == 39) = false := by rw [beq_eq_false_iff_ne]; omega
     have q96 : ((r : Int) == 96) = true := by rw [hc]; rfl
     have q125 : ((r : Int) == 125) = false := by rw [beq_eq_false_iff_ne]; omega
     have q47 : ((r : Int) == 47) = false := by rw [beq_eq_false_iff_ne]; omega
     have HC := hide hc
     clear hbg hdg hc
     go_wp2_with fail
     refine (hBg _).out.mono ?_
     rintro e w3 ⟨rfl, rfl⟩
     go_wp2_with fail
     refine (hDg _).out.mono ?_
     rintro e w3 ⟨rfl, rfl⟩
     go_wp2_with fail
     go_meet
     exact ⟨_, rfl, tkTmplA F B b a st ln h200 ha HV.out hl (by rw [HRr.out]; exact HC.out), HX2.out, HK2.out, HR2.out⟩
    have hnc96 := hc
    clear hc
    by_cases hc : r = 125
    ·clear hbg hdg
     have hbg : Jsp.begins r = false := by rw [hc]; decide
     have hdg : Jsp.digit r = false := by rw [hc]; decide
     have hBg := fun W => hide (jBegins r W hpl)
     rw [show Jsp.begins r = false from hbg] at hBg
     have hDg := fun W => hide (jDigit r W)
     rw [show Jsp.digit r = false from hdg] at hDg
     have q35 : ((r : Int) == 35) = false := by rw [beq_eq_false_iff_ne]; omega
     have q46 : ((r : Int) == 46) = false := by rw [beq_eq_false_iff_ne]; omega
     have q34 : ((r : Int) == 34) = false := by rw [beq_eq_false_iff_ne]; omega
     have q39 : ((r : Int) == 39) = false := by rw [beq_eq_false_iff_ne]; omega
     have q96 : ((r : Int) == 96) = false := by rw [beq_eq_false_iff_ne]; omega
     have q125 : ((r : Int) == 125) = true := by rw [hc]; rfl
     have q47 : ((r : Int) == 47) = false := by rw [beq_eq_false_iff_ne]; omega
     have HC := hide hc
     clear hbg hdg hc
     have hTp := fun W hW => hide (jTop F B b a st ln W hW (by omega))
     by_cases h36 : Jsp.top st = 36
     ·rw [h36] at hTp
      have HTP := hide h36
      clear h36
      go_wp2_with fail
      refine (hBg _).out.mono ?_
      rintro e w3 ⟨rfl, rfl⟩
      go_wp2_with fail
      refine (hDg _).out.mono ?_
      rintro e w3 ⟨rfl, rfl⟩
      go_wp2_with fail
      refine (hTp _ HX2.out).out.mono ?_
      rintro e w3 ⟨rfl, nt, rfl⟩
      go_wp2_with fail
      go_meet
      exact ⟨_, rfl, tkTmplB F B b a st ln h200 ha HV.out hl (by rw [HRr.out]; exact HC.out) HTP.out, HX2.out.drewN nt, HK2.out.drewN nt, HR2.out⟩
     ·have q36 : (((Jsp.top st).toNat : Int) == 36) = false := by
       rw [beq_eq_false_iff_ne]
       intro e
       exact h36 (UInt8.toNat_inj.1 (by have : (36 : UInt8).toNat = 36 := rfl; omega))
      have HTP := hide h36
      clear h36
      have hl1 : Jsp.begins (Jsp.pt (F.drop a)) = false := by rw [HRr.out, HC.out]; decide
      have hl2 : Jsp.pt (F.drop a) ≠ 35 := by rw [HRr.out, HC.out]; decide
      have hl3 : ¬ (Jsp.digit (Jsp.pt (F.drop a)) = true \/ (Jsp.pt (F.drop a) = 46 /\ Jsp.digit (Jsp.pt ((F.drop a).drop 1)) = true)) := by rw [HRr.out, HC.out]; exact no_dig (by decide) (by decide)
      have hl4 : ¬ (Jsp.pt (F.drop a) = 34 \/ Jsp.pt (F.drop a) = 39) := by rw [HRr.out, HC.out]; decide
      have hl5 : ¬ (Jsp.pt (F.drop a) = 96 \/ (Jsp.pt (F.drop a) = 125 /\ Jsp.top st = 36)) := by rintro (h | ⟨_, h⟩) <;> first | exact HTP.out h | (rw [HRr.out, HC.out] at h; exact absurd h (by decide))
      have hl6 : ¬ (Jsp.pt (F.drop a) = 47 /\ st.goal = true) := by rw [HRr.out, HC.out]; rintro ⟨h, _⟩; exact absurd h (by decide)
      have HLM := hide (tkMark F B b a st ln h200 ha HV.out hl hl1 hl2 hl3 hl4 hl5 hl6)
      clear hl1 hl2 hl3 hl4 hl5 hl6
      go_wp2_with fail
      refine (hBg _).out.mono ?_
      rintro e w3 ⟨rfl, rfl⟩
      go_wp2_with fail
      refine (hDg _).out.mono ?_
      rintro e w3 ⟨rfl, rfl⟩
      go_wp2_with fail
      refine (hTp _ HX2.out).out.mono ?_
      rintro e w3 ⟨rfl, nt, rfl⟩
      go_wp2_with fail
      go_meet
      exact ⟨_, rfl, HLM.out, HX2.out.drewN nt, HK2.out.drewN nt, HR2.out⟩
    have hnc125 := hc
    clear hc
    by_cases hc : r = 47
    ·clear hbg hdg
     have hbg : Jsp.begins r = false := by rw [hc]; decide
     have hdg : Jsp.digit r = false := by rw [hc]; decide
     have hBg := fun W => hide (jBegins r W hpl)
     rw [show Jsp.begins r = false from hbg] at hBg
     have hDg := fun W => hide (jDigit r W)
     rw [show Jsp.digit r = false from hdg] at hDg
     have q35 : ((r : Int) == 35) = false := by rw [beq_eq_false_iff_ne]; omega
     have q46 : ((r : Int) == 46) = false := by rw [beq_eq_false_iff_ne]; omega
     have q34 : ((r : Int) == 34) = false := by rw [beq_eq_false_iff_ne]; omega
     have q39 : ((r : Int) == 39) = false := by rw [beq_eq_false_iff_ne]; omega
     have q96 : ((r : Int) == 96) = false := by rw [beq_eq_false_iff_ne]; omega
     have q125 : ((r : Int) == 125) = false := by rw [beq_eq_false_iff_ne]; omega
     have q47 : ((r : Int) == 47) = true := by rw [hc]; rfl
     have HC := hide hc
     clear hbg hdg hc
     obtain ⟨_, _, _, hx⟩ := HX2.out
     obtain ⟨-, -, -, c3, -⟩ := hx.cells
     clear hx
     cases hg : st.goal with
     | true =>
      rw [hg] at c3
      have HG := hide hg
      clear hg
      go_wp2_with fail
      refine (hBg _).out.mono ?_
      rintro e w3 ⟨rfl, rfl⟩
      go_wp2_with fail
      refine (hDg _).out.mono ?_
      rintro e w3 ⟨rfl, rfl⟩
      go_wp2_with fail
      go_meet
      exact ⟨_, rfl, tkRegex F B b a st ln ha HV.out hl (by rw [HRr.out]; exact HC.out) HG.out, HX2.out, HK2.out, HR2.out⟩
     | false =>
      rw [hg] at c3
      have HG := hide hg
      clear hg
      have hl1 : Jsp.begins (Jsp.pt (F.drop a)) = false := by rw [HRr.out, HC.out]; decide
      have hl2 : Jsp.pt (F.drop a) ≠ 35 := by rw [HRr.out, HC.out]; decide
      have hl3 : ¬ (Jsp.digit (Jsp.pt (F.drop a)) = true \/ (Jsp.pt (F.drop a) = 46 /\ Jsp.digit (Jsp.pt ((F.drop a).drop 1)) = true)) := by rw [HRr.out, HC.out]; exact no_dig (by decide) (by decide)
      have hl4 : ¬ (Jsp.pt (F.drop a) = 34 \/ Jsp.pt (F.drop a) = 39) := by rw [HRr.out, HC.out]; decide
      have hl5 : ¬ (Jsp.pt (F.drop a) = 96 \/ (Jsp.pt (F.drop a) = 125 /\ Jsp.top st = 36)) := by rw [HRr.out, HC.out]; rintro (h | ⟨h, _⟩) <;> exact absurd h (by decide)
      have hl6 : ¬ (Jsp.pt (F.drop a) = 47 /\ st.goal = true) := by rintro ⟨_, h⟩; rw [HG.out] at h; cases h
      have HLM := hide (tkMark F B b a st ln h200 ha HV.out hl hl1 hl2 hl3 hl4 hl5 hl6)
      clear hl1 hl2 hl3 hl4 hl5 hl6
      go_wp2_with fail
      refine (hBg _).out.mono ?_
      rintro e w3 ⟨rfl, rfl⟩
      go_wp2_with fail
      refine (hDg _).out.mono ?_
      rintro e w3 ⟨rfl, rfl⟩
      go_wp2_with fail
      go_meet
      exact ⟨_, rfl, HLM.out, HX2.out, HK2.out, HR2.out⟩
    have hnc46 := hc46
    have hnc35 := HN35.out
    have hBg := fun W => hide (jBegins r W hpl)
    rw [show Jsp.begins r = false from hbg] at hBg
    have hDg := fun W => hide (jDigit r W)
    rw [show Jsp.digit r = false from hdg] at hDg
    have q35 : ((r : Int) == 35) = false := by rw [beq_eq_false_iff_ne]; omega
    have q46 : ((r : Int) == 46) = false := by rw [beq_eq_false_iff_ne]; omega
    have q34 : ((r : Int) == 34) = false := by rw [beq_eq_false_iff_ne]; omega
    have q39 : ((r : Int) == 39) = false := by rw [beq_eq_false_iff_ne]; omega
    have q96 : ((r : Int) == 96) = false := by rw [beq_eq_false_iff_ne]; omega
    have q125 : ((r : Int) == 125) = false := by rw [beq_eq_false_iff_ne]; omega
    have q47 : ((r : Int) == 47) = false := by rw [beq_eq_false_iff_ne]; omega
    have hl3 : ¬ (Jsp.digit (Jsp.pt (F.drop a)) = true \/ (Jsp.pt (F.drop a) = 46 /\ Jsp.digit (Jsp.pt ((F.drop a).drop 1)) = true)) := by rw [HRr.out]; exact no_dig hdg hc46
    have hl4 : ¬ (Jsp.pt (F.drop a) = 34 \/ Jsp.pt (F.drop a) = 39) := by rw [HRr.out]; omega
    have hl5 : ¬ (Jsp.pt (F.drop a) = 96 \/ (Jsp.pt (F.drop a) = 125 /\ Jsp.top st = 36)) := by rw [HRr.out]; rintro (h | ⟨h, _⟩); exact hnc96 h; exact hnc125 h
    have hl6 : ¬ (Jsp.pt (F.drop a) = 47 /\ st.goal = true) := by rw [HRr.out]; rintro ⟨h, _⟩; exact hc h
    have HLM := hide (tkMark F B b a st ln h200 ha HV.out hl (by rw [HRr.out]; exact HB1.out) (by rw [HRr.out]; exact HN35.out) hl3 hl4 hl5 hl6)
    clear hl3 hl4 hl5 hl6 hbg hdg hnc34 hnc39 hnc96 hnc125 hc hc46 hnc46 hnc35
    go_wp2_with fail
    refine (hBg _).out.mono ?_
    rintro e w3 ⟨rfl, rfl⟩
    go_wp2_with fail
    refine (hDg _).out.mono ?_
    rintro e w3 ⟨rfl, rfl⟩
    go_wp2_with fail
    go_meet
    exact ⟨_, rfl, HLM.out, HX2.out, HK2.out, HR2.out⟩
 case rest =>
  obtain ⟨f, rfl, htk, hx3, hk3, hr3⟩ := hcut
  have hen : ∀ (args : Array Value) (W : World), (callFunc f args).run Tryz.prog W = .ok (.enter f args) W := htk.out.1
  have HTK := hide (htk.out.2 _ hx3.out)
  clear htk hx3 HX2 HK2 HR2 HV HR46 HRr hpl
  go_wp2_with fail
  refine HTK.out.mono ?_
  rintro e w3 (⟨K, t, v, k, st3, rfl, hx4, hk4, hK, hnx⟩ | ⟨er, o, x, rfl, hk4, hnx, hex⟩)
  case inr =>
   go_wp2_with fail
   exact ⟨rfl, NxP.no hnx ⟨x, rfl, hex, hk3.out.trans hk4⟩⟩
  case inl =>
   have HNX := hide hnx
   have HKK := hide hK
   have hr4 := hk4.kept _ _ _ _ hr3.out (by decide) (by decide)
   have hal := (Below.refl w3.heap.size w3).alloc (Nat.le_refl _) (.cells #[.int .u8 (K : Int), S t, S v] 29)
   have HX5 := hide (hx4.below hal)
   have HM5 := hide (heap_alloc_last w3 (.cells #[.int .u8 (K : Int), S t, S v] 29))
   have HR5 := hide ((hal.block _ (heap_lt hr4)).trans hr4)
   have HK5 := hide (hk3.out.trans (hk4.trans (Kp.of_below hx4.leB hal)))
   have hML := hide (show w.heap.size < w3.heap.size from heap_lt hr4)
   clear hnx hK hr4 hal hk3 hr3 hx4 hk4 HTK hen
   go_upto_region 19 with (fail)
   generalize w3.alloc (.cells #[.int .u8 (K : Int), S t, S v] 29) = W5 at HX5 HM5 HR5 HK5 ⊢
   generalize w3.heap.size = M at HM5 HX5 HR5 HK5 hML ⊢
   obtain ⟨u0, u1, u2⟩ := tok_at HM5.out
   obtain ⟨G, hG⟩ : ∃ G, (aft st3 K t).goal = G := ⟨_, rfl⟩
   have HGG := hide hG
   have HLX := hide (show Lx W5 B b F (a + k) st3 ln from HX5.out)
   clear hG
   go_upto_block 1 with fail
   go_cut [] from 68 to 89 (fun wx => Hid (Lx wx B b F (a + k) { st3 with goal := G } ln) /\ Hid (Kp B w wx) /\ Hid (wx.heap[M]? = some (.cells #[.int .u8 (K : Int), S t, S v] 29 (0, 0))) /\ Hid (wx.heap[w.heap.size]? = some (.cells tokC 29 (0, 0))))
   case first =>
    have htab := HX5.out
    obtain ⟨ao, cap, lo, hx⟩ := HX5.out
    obtain ⟨c0, c1, -, c3, -⟩ := hx.cells
    have f3 := hx.frozen 3
    have HXV := hide hx
    have hneM : M ≠ b := fun e => by
     have := hx.at'
     rw [<- e, HM5.out] at this
     injection this with this
     injection this with _ this _
     exact absurd this (by decide)
    have hneR : w.heap.size ≠ b := fun e => by
     have := hx.at'
     rw [<- e, HR5.out] at this
     injection this with this
     injection this with _ this _
     exact absurd this (by decide)
    have HNE := hide (And.intro hneM hneR)
    clear hx htab hneM hneR
    by_cases h3 : K = 3
    ·have q3 : ((K : Int) == 3) = true := by rw [h3]; rfl
     have HG3 := hide (show st3.goal = G by rw [<- HGG.out]; unfold aft; rw [if_pos h3])
     clear h3
     go_wp2_with fail
     go_meet
     refine ⟨?_, HK5.out, HM5.out, HR5.out⟩
     show Lx W5 B b F (a + k) _ ln
     rw [<- HG3.out]
     exact HLX.out
    ·have q3 : ((K : Int) == 3) = false := by rw [beq_eq_false_iff_ne]; omega
     by_cases h1 : K = 1
     ·have q1 : ((K : Int) == 1) = true := by rw [h1]; rfl
      have HG1 := hide (show Jsp.wordsOf Jsp.aheadV t = G by rw [<- HGG.out]; unfold aft; rw [if_neg h3, if_pos h1])
      clear h3 h1
      have hS : ∀ W, Below W5.heap.size W5 W -> W.cell? ⟨M, 1, none⟩ = some (S t) /\ W.cell? ⟨b, 3, none⟩ = some (.bool st3.goal) /\ W.frozen? ⟨b, 3, none⟩ = false := fun W hW => ⟨cell_below u1 hW, cell_below c3 hW, (HXV.out.below hW).frozen 3⟩
      have HT := fun W (hW : Below W5.heap.size W5 W) => hide (HXV.out.below hW).tab
      have hF := fun W (hT : Tab W) => hide (sFields txV Jsp.aheadV W hT (by decide) (by decide) fldV)
      have hC := fun g W hc => hide (sContains Jsp.aheadV t g W (by decide) hc)
      go_wp2_with fail
      have hSet : ∀ W, Below W5.heap.size W5 W -> ∀ x, (W.setCell ⟨b, 3, none⟩ x).cell? ⟨M, 1, none⟩ = some (S t) := fun W hW x => (World.cell?_of_block (a := ⟨M, 1, none⟩) (Below.heap_setCell W ⟨b, 3, none⟩ x M HNE.out.1)).trans (hS W hW).1
      go_region_held3 (fun W => W.cell? ⟨M, 1, none⟩ = some (S t)) (first | exact u1 | exact (hS _ (((Below.refl W5.heap.size W5).drew).trans hb)).1 | exact (hS _ ((((Below.refl W5.heap.size W5).drew).trans hb).drew)).1 | exact hSet _ (((Below.refl W5.heap.size W5).drew).trans hb) _ | exact hSet _ ((((Below.refl W5.heap.size W5).drew).trans hb).drew) _) ((first | (go_at_call 47; refine ((hF _ (HT _ ((Below.refl W5.heap.size W5).drew)).out).out).mono ?_; rintro e w1 ⟨rfl, hb, hcells⟩; have x3 := (hS _ (((Below.refl W5.heap.size W5).drew).trans hb)).2.1; have xf := (hS _ (((Below.refl W5.heap.size W5).drew).trans hb)).2.2) | (go_at_call 46; refine ((hC _ _ hcells).out).mono ?_; rintro e w2 ⟨rfl, rfl⟩)))
      all_goals
       have hbl := ((Below.refl W5.heap.size W5).drew).trans hb
       have hx1 := hide (HXV.out.below hbl)
       have hk1 := hide (HK5.out.fresh hB hbl)
       have hm1 := hide ((hbl.block M (heap_lt HM5.out)).trans HM5.out)
       have hr1 := hide ((hbl.block w.heap.size (heap_lt HR5.out)).trans HR5.out)
       clear hbl hb hcells x3 xf
       go_wp2_with fail
       go_meet
       refine ⟨?_, hx1.out.kp hk1.out 3 _, (Below.heap_setCell _ _ _ _ HNE.out.1).trans hm1.out, (Below.heap_setCell _ _ _ _ HNE.out.2).trans hr1.out⟩
       have hg : G = decide (t ∈ Jsp.aheadV) := by rw [<- HG1.out]; unfold Jsp.wordsOf; simp
       rw [hg]
       exact (hx1.out.set3 _).lx
     ·have q1 : ((K : Int) == 1) = false := by rw [beq_eq_false_iff_ne]; omega
      by_cases h7 : K = 7
      ·have q7 : ((K : Int) == 7) = true := by rw [h7]; rfl
       have HGX := hide (show true = G by rw [<- HGG.out]; unfold aft; rw [if_neg h3, if_neg h1, h7]; rfl)
       clear h3 h1 h7
       go_wp2_with fail
       go_meet
       refine ⟨?_, HXV.out.kp HK5.out 3 _, (Below.heap_setCell _ _ _ _ HNE.out.1).trans HM5.out, (Below.heap_setCell _ _ _ _ HNE.out.2).trans HR5.out⟩
       rw [<- HGX.out]
       exact (HXV.out.set3 true).lx
      ·have q7 : ((K : Int) == 7) = false := by rw [beq_eq_false_iff_ne]; omega
       by_cases h8 : K = 8
       ·have q8 : ((K : Int) == 8) = true := by rw [h8]; rfl
        have HGX := hide (show true = G by rw [<- HGG.out]; unfold aft; rw [if_neg h3, if_neg h1, h8]; rfl)
        clear h3 h1 h7 h8
        go_wp2_with fail
        go_meet
        refine ⟨?_, HXV.out.kp HK5.out 3 _, (Below.heap_setCell _ _ _ _ HNE.out.1).trans HM5.out, (Below.heap_setCell _ _ _ _ HNE.out.2).trans HR5.out⟩
        rw [<- HGX.out]
        exact (HXV.out.set3 true).lx
       ·have q8 : ((K : Int) == 8) = false := by rw [beq_eq_false_iff_ne]; omega
        have HGX := hide (show false = G by
         rw [<- HGG.out]; unfold aft; rw [if_neg h3, if_neg h1]
         show false = (K == 7 || K == 8)
         rw [beq_eq_false_iff_ne.2 h7, beq_eq_false_iff_ne.2 h8]; rfl)
        clear h3 h1 h7 h8
        go_wp2_with fail
        go_meet
        refine ⟨?_, HXV.out.kp HK5.out 3 _, (Below.heap_setCell _ _ _ _ HNE.out.1).trans HM5.out, (Below.heap_setCell _ _ _ _ HNE.out.2).trans HR5.out⟩
        rw [<- HGX.out]
        exact (HXV.out.set3 false).lx
   case rest =>
    obtain ⟨hx6, hk6, hm6, hr6⟩ := hcut
    clear u0 u1 u2 HX5 HK5 HM5 HR5 HLX
    obtain ⟨u0, u1, u2⟩ := tok_at hm6.out
    obtain ⟨_, _, _, hxt⟩ := hx6.out
    have hSh := hide (jShut K HKK.out t v _ hxt.tab)
    clear hxt
    go_wp2_with fail
    refine hSh.out.mono ?_
    rintro e w7 ⟨vb, rfl, hb7⟩
    have HX7 := hide (hx6.out.below hb7)
    have HK7 := hide (hk6.out.fresh hB hb7)
    have HM7 := hide ((hb7.block M (heap_lt hm6.out)).trans hm6.out)
    have HR7 := hide ((hb7.block w.heap.size (heap_lt hr6.out)).trans hr6.out)
    clear hx6 hk6 hm6 hr6 hb7 u0 u1 u2 hSh
    obtain ⟨u0, u1, u2⟩ := tok_at HM7.out
    obtain ⟨ao, cap, lo, hx⟩ := HX7.out
    obtain ⟨-, c1, -, -, c4, c5, -, c7⟩ := hx.cells
    have f7 := hx.frozen 7
    have f4 := hx.frozen 4
    have f5 := hx.frozen 5
    have HXV := hide hx
    clear hx
    cases vb with
    | true =>
     by_cases h1 : K = 1
     ·skip
      have q1 : ((K : Int) == 1) = true := by rw [h1]; rfl
      have HA := hide (show ({ ({ ({ st3 with goal := G } : Jsp.St) with last := t } : Jsp.St) with some := true } : Jsp.St) = aft st3 K t by rw [<- HGG.out]; unfold aft; rw [if_neg (by omega), if_pos h1])
      clear h1
      have HX8 := hide (((((HXV.out).set7 ((a : Int) + (k : Int))).set4 []).set4 t).set5 true)
      have HK8 := hide (((((HXV.out).set7 ((a : Int) + (k : Int))).set4 []).set4 t).kp ((((HXV.out).set7 ((a : Int) + (k : Int))).set4 []).kp (((HXV.out).set7 ((a : Int) + (k : Int))).kp ((HXV.out).kp (Kp.refl B w7) 7 (.int .i64 ((a : Int) + (k : Int)))) 4 (S [])) 4 (S t)) 5 (.bool true))
      go_upto_region 30 with (fail)
      generalize ((((w7.setCell ⟨b, 7, none⟩ (.int .i64 ((a : Int) + (k : Int)))).setCell ⟨b, 4, none⟩ (S [])).setCell ⟨b, 4, none⟩ (S t)).setCell ⟨b, 5, none⟩ (.bool true)) = W8 at HX8 HK8 ⊢
      have hm8 := HK8.out.kept _ _ _ _ HM7.out (by decide) (by decide)
      have hr8 := HK8.out.kept _ _ _ _ HR7.out (by decide) (by decide)
      have HR8 := hide hr8
      obtain ⟨v0, v1, v2⟩ := tok_at hm8
      obtain ⟨t0, t1, t2, tf0, tf1, tf2⟩ := tok_cells hr8
      clear hm8 hr8 u0 u1 u2 c1 c4 c5 c7 f7 f4 f5
      go_wp2_with fail
      obtain ⟨E1, E2⟩ := tok_end HX8.out.lx (HK7.out.trans HK8.out) hB (Nat.le_refl _) HR8.out (K : Int) t v
      refine bodyPost_ret (v := tokV (K : Int) t v) (tok_ret Tryz.results20 _ W8 _ HR8.out (K : Int) t v rfl) rfl ?_
      rw [HA.out] at E1
      exact NxP.ok HNX.out ⟨rfl, E1, E2⟩ HKK.out
     by_cases h3 : K = 3
     ·skip
      have q1 : ((K : Int) == 1) = false := by rw [beq_eq_false_iff_ne]; omega
      have q3 : ((K : Int) == 3) = true := by rw [h3]; rfl
      have HA := hide (show ({ ({ ({ st3 with goal := G } : Jsp.St) with last := t } : Jsp.St) with some := true } : Jsp.St) = aft st3 K t by rw [<- HGG.out]; unfold aft; rw [if_pos h3])
      clear h1 h3
      have HX8 := hide (((((HXV.out).set7 ((a : Int) + (k : Int))).set4 []).set4 t).set5 true)
      have HK8 := hide (((((HXV.out).set7 ((a : Int) + (k : Int))).set4 []).set4 t).kp ((((HXV.out).set7 ((a : Int) + (k : Int))).set4 []).kp (((HXV.out).set7 ((a : Int) + (k : Int))).kp ((HXV.out).kp (Kp.refl B w7) 7 (.int .i64 ((a : Int) + (k : Int)))) 4 (S [])) 4 (S t)) 5 (.bool true))
      go_upto_region 30 with (fail)
      generalize ((((w7.setCell ⟨b, 7, none⟩ (.int .i64 ((a : Int) + (k : Int)))).setCell ⟨b, 4, none⟩ (S [])).setCell ⟨b, 4, none⟩ (S t)).setCell ⟨b, 5, none⟩ (.bool true)) = W8 at HX8 HK8 ⊢
      have hm8 := HK8.out.kept _ _ _ _ HM7.out (by decide) (by decide)
      have hr8 := HK8.out.kept _ _ _ _ HR7.out (by decide) (by decide)
      have HR8 := hide hr8
      obtain ⟨v0, v1, v2⟩ := tok_at hm8
      obtain ⟨t0, t1, t2, tf0, tf1, tf2⟩ := tok_cells hr8
      clear hm8 hr8 u0 u1 u2 c1 c4 c5 c7 f7 f4 f5
      go_wp2_with fail
      obtain ⟨E1, E2⟩ := tok_end HX8.out.lx (HK7.out.trans HK8.out) hB (Nat.le_refl _) HR8.out (K : Int) t v
      refine bodyPost_ret (v := tokV (K : Int) t v) (tok_ret Tryz.results20 _ W8 _ HR8.out (K : Int) t v rfl) rfl ?_
      rw [HA.out] at E1
      exact NxP.ok HNX.out ⟨rfl, E1, E2⟩ HKK.out
     have q1 : ((K : Int) == 1) = false := by rw [beq_eq_false_iff_ne]; omega
     have q3 : ((K : Int) == 3) = false := by rw [beq_eq_false_iff_ne]; omega
     have HA := hide (show ({ ({ ({ st3 with goal := G } : Jsp.St) with last := [] } : Jsp.St) with some := true } : Jsp.St) = aft st3 K t by rw [<- HGG.out]; unfold aft; rw [if_neg h3, if_neg h1])
     clear h1 h3
     have HX8 := hide ((((HXV.out).set7 ((a : Int) + (k : Int))).set4 []).set5 true)
     have HK8 := hide ((((HXV.out).set7 ((a : Int) + (k : Int))).set4 []).kp (((HXV.out).set7 ((a : Int) + (k : Int))).kp ((HXV.out).kp (Kp.refl B w7) 7 (.int .i64 ((a : Int) + (k : Int)))) 4 (S [])) 5 (.bool true))
     go_upto_region 30 with (fail)
     generalize (((w7.setCell ⟨b, 7, none⟩ (.int .i64 ((a : Int) + (k : Int)))).setCell ⟨b, 4, none⟩ (S [])).setCell ⟨b, 5, none⟩ (.bool true)) = W8 at HX8 HK8 ⊢
     have hm8 := HK8.out.kept _ _ _ _ HM7.out (by decide) (by decide)
     have hr8 := HK8.out.kept _ _ _ _ HR7.out (by decide) (by decide)
     have HR8 := hide hr8
     obtain ⟨v0, v1, v2⟩ := tok_at hm8
     obtain ⟨t0, t1, t2, tf0, tf1, tf2⟩ := tok_cells hr8
     clear hm8 hr8 u0 u1 u2 c1 c4 c5 c7 f7 f4 f5
     go_wp2_with fail
     obtain ⟨E1, E2⟩ := tok_end HX8.out.lx (HK7.out.trans HK8.out) hB (Nat.le_refl _) HR8.out (K : Int) t v
     refine bodyPost_ret (v := tokV (K : Int) t v) (tok_ret Tryz.results20 _ W8 _ HR8.out (K : Int) t v rfl) rfl ?_
     rw [HA.out] at E1
     exact NxP.ok HNX.out ⟨rfl, E1, E2⟩ HKK.out
    | false =>
     by_cases h1 : K = 1
     ·skip
      have q1 : ((K : Int) == 1) = true := by rw [h1]; rfl
      have HA := hide (show ({ ({ ({ st3 with goal := G } : Jsp.St) with last := t } : Jsp.St) with some := true } : Jsp.St) = aft st3 K t by rw [<- HGG.out]; unfold aft; rw [if_neg (by omega), if_pos h1])
      clear h1
      have HX8 := hide ((((HXV.out).set4 []).set4 t).set5 true)
      have HK8 := hide ((((HXV.out).set4 []).set4 t).kp (((HXV.out).set4 []).kp ((HXV.out).kp (Kp.refl B w7) 4 (S [])) 4 (S t)) 5 (.bool true))
      go_upto_region 30 with (fail)
      generalize (((w7.setCell ⟨b, 4, none⟩ (S [])).setCell ⟨b, 4, none⟩ (S t)).setCell ⟨b, 5, none⟩ (.bool true)) = W8 at HX8 HK8 ⊢
      have hm8 := HK8.out.kept _ _ _ _ HM7.out (by decide) (by decide)
      have hr8 := HK8.out.kept _ _ _ _ HR7.out (by decide) (by decide)
      have HR8 := hide hr8
      obtain ⟨v0, v1, v2⟩ := tok_at hm8
      obtain ⟨t0, t1, t2, tf0, tf1, tf2⟩ := tok_cells hr8
      clear hm8 hr8 u0 u1 u2 c1 c4 c5 c7 f7 f4 f5
      go_wp2_with fail
      obtain ⟨E1, E2⟩ := tok_end HX8.out.lx (HK7.out.trans HK8.out) hB (Nat.le_refl _) HR8.out (K : Int) t v
      refine bodyPost_ret (v := tokV (K : Int) t v) (tok_ret Tryz.results20 _ W8 _ HR8.out (K : Int) t v rfl) rfl ?_
      rw [HA.out] at E1
      exact NxP.ok HNX.out ⟨rfl, E1, E2⟩ HKK.out
     by_cases h3 : K = 3
     ·skip
      have q1 : ((K : Int) == 1) = false := by rw [beq_eq_false_iff_ne]; omega
      have q3 : ((K : Int) == 3) = true := by rw [h3]; rfl
      have HA := hide (show ({ ({ ({ st3 with goal := G } : Jsp.St) with last := t } : Jsp.St) with some := true } : Jsp.St) = aft st3 K t by rw [<- HGG.out]; unfold aft; rw [if_pos h3])
      clear h1 h3
      have HX8 := hide ((((HXV.out).set4 []).set4 t).set5 true)
      have HK8 := hide ((((HXV.out).set4 []).set4 t).kp (((HXV.out).set4 []).kp ((HXV.out).kp (Kp.refl B w7) 4 (S [])) 4 (S t)) 5 (.bool true))
      go_upto_region 30 with (fail)
      generalize (((w7.setCell ⟨b, 4, none⟩ (S [])).setCell ⟨b, 4, none⟩ (S t)).setCell ⟨b, 5, none⟩ (.bool true)) = W8 at HX8 HK8 ⊢
      have hm8 := HK8.out.kept _ _ _ _ HM7.out (by decide) (by decide)
      have hr8 := HK8.out.kept _ _ _ _ HR7.out (by decide) (by decide)
      have HR8 := hide hr8
      obtain ⟨v0, v1, v2⟩ := tok_at hm8
      obtain ⟨t0, t1, t2, tf0, tf1, tf2⟩ := tok_cells hr8
      clear hm8 hr8 u0 u1 u2 c1 c4 c5 c7 f7 f4 f5
      go_wp2_with fail
      obtain ⟨E1, E2⟩ := tok_end HX8.out.lx (HK7.out.trans HK8.out) hB (Nat.le_refl _) HR8.out (K : Int) t v
      refine bodyPost_ret (v := tokV (K : Int) t v) (tok_ret Tryz.results20 _ W8 _ HR8.out (K : Int) t v rfl) rfl ?_
      rw [HA.out] at E1
      exact NxP.ok HNX.out ⟨rfl, E1, E2⟩ HKK.out
     have q1 : ((K : Int) == 1) = false := by rw [beq_eq_false_iff_ne]; omega
     have q3 : ((K : Int) == 3) = false := by rw [beq_eq_false_iff_ne]; omega
     have HA := hide (show ({ ({ ({ st3 with goal := G } : Jsp.St) with last := [] } : Jsp.St) with some := true } : Jsp.St) = aft st3 K t by rw [<- HGG.out]; unfold aft; rw [if_neg h3, if_neg h1])
     clear h1 h3
     have HX8 := hide (((HXV.out).set4 []).set5 true)
     have HK8 := hide (((HXV.out).set4 []).kp ((HXV.out).kp (Kp.refl B w7) 4 (S [])) 5 (.bool true))
     go_upto_region 30 with (fail)
     generalize ((w7.setCell ⟨b, 4, none⟩ (S [])).setCell ⟨b, 5, none⟩ (.bool true)) = W8 at HX8 HK8 ⊢
     have hm8 := HK8.out.kept _ _ _ _ HM7.out (by decide) (by decide)
     have hr8 := HK8.out.kept _ _ _ _ HR7.out (by decide) (by decide)
     have HR8 := hide hr8
     obtain ⟨v0, v1, v2⟩ := tok_at hm8
     obtain ⟨t0, t1, t2, tf0, tf1, tf2⟩ := tok_cells hr8
     clear hm8 hr8 u0 u1 u2 c1 c4 c5 c7 f7 f4 f5
     go_wp2_with fail
     obtain ⟨E1, E2⟩ := tok_end HX8.out.lx (HK7.out.trans HK8.out) hB (Nat.le_refl _) HR8.out (K : Int) t v
     refine bodyPost_ret (v := tokV (K : Int) t v) (tok_ret Tryz.results20 _ W8 _ HR8.out (K : Int) t v rfl) rfl ?_
     rw [HA.out] at E1
     exact NxP.ok HNX.out ⟨rfl, E1, E2⟩ HKK.out
end Go.Proofs.YtngccmlcopcghaaGreatDoor
