/- text, whatever it meets; what shuts, and what might go on. -/
import Derived.Test.YtngccmlcopcghaaGreatDoorWn
import Derived.Test.YtngccmlcopcghaaGreatDoorVd
import Derived.Test.YtngccmlcopcghaaGreatDoorWc
import Derived.Test.YtngccmlcopcghaaGreatDoorQl
namespace Go.Proofs.YtngccmlcopcghaaGreatDoor
open Go.RowKit

/-- what is said of where a script ends that has an error: not as one that has none; and where it ends within a string without escapes, just so -/
def ErrX (st : Jsp.St) (s : List UInt8) (x : Wx) : Prop := x.s ≠ 1 ∧ ∀ q, Jsp.OpenStr s q → x = ⟨3, q.toNat, false, false, st.stk⟩
theorem ErrX.of {st : Jsp.St} {s : List UInt8} {x : Wx} (h : x.s ≠ 1) (hn : ∀ q, ¬ Jsp.OpenStr s q) : ErrX st s x := ⟨h, fun q hq => absurd hq (hn q)⟩
theorem no_open {c : UInt8} {T : List UInt8} (h34 : c ≠ 34) (h39 : c ≠ 39) : ∀ q, ¬ Jsp.OpenStr (c :: T) q := by
  rintro q ⟨T', h1, h2, -⟩
  injection h1 with h1 _
  rcases h2 with rfl | rfl
  · exact h34 h1
  · exact h39 h1
theorem no_open_raw {c : UInt8} {T : List UInt8} (h : Jsp.raw c T ≠ .script) : ∀ q, ¬ Jsp.OpenStr (c :: T) q := by
  rintro q ⟨T', h1, _, h3, _⟩
  injection h1 with h1 h2
  subst h1; subst h2
  exact h h3
/-- what text leaves -/
def TextP (F : List UInt8) (B b a : Nat) (st : Jsp.St) (ln : Bool) (w : World) (e : Ending) (w' : World) : Prop := match Jsp.quote (F.drop a) with
  | .inl (.no er o) => Pk er (a + o) (ErrX st (F.drop a)) B w e w'
  | .inl (.ok _ _ _) => False
  | .inr (k, v) => Lf (tokV 5 ((F.drop a).take (k + 2)) v) w B b F (a + (k + 2)) st ln e w'
theorem jText (F : List UInt8) (B b a : Nat) (q : UInt8) (hq : q = 34 ∨ q = 39) (T : List UInt8) (st : Jsp.St) (ln : Bool) (w : World) (h : Lx w B b F a st ln) (hT : F.drop a = q :: T) (hs : Jsp.Suf T) (hl : F.length ≤ 4190000) :
    Calls Tryz.prog 42 #[.pointer (some ⟨b, 0, none⟩)] w (TextP F B b a st ln w) := by
  have hB := h.leB
  unfold TextP
  have hqe := Jsp.quote_cons q T
  have h96 : q ≠ 96 := by rcases hq with rfl | rfl <;> decide
  have h128 : q.toNat < 128 := by rcases hq with rfl | rfl <;> decide
  cases hr : Jsp.raw q T with
  | ends j =>
    rw [hr] at hqe
    dsimp only at hqe
    obtain ⟨hg, hj⟩ := Jsp.raw_quote h96 hr
    have hsj := Jsp.suf_take hs hg h128
    cases hc : Jsp.cook false (T.take j) with
    | inl v =>
      rw [hc] at hqe
      rw [hT, hqe, ← hT]
      exact jTextEnds F B b a j q T v st ln w h hT hs hl hr hj hsj hc
    | inr o =>
      rw [hc] at hqe
      rw [hT, hqe]
      refine (jTextBad F B b a j q T o st ln w h hT hs hl hr hj hsj hc).mono fun e w' hp => ?_
      exact Pk.to hp (Kp.refl B w) fun x hx => ErrX.of hx (no_open_raw (by rw [hr]; intro e; cases e))
  | line =>
    rw [hr] at hqe
    rw [hT, hqe]
    refine (jTextLine F B b a q T st ln w h hT hs hl hr).mono fun e w' hp => ?_
    exact Pk.to hp (Kp.refl B w) fun x hx => ErrX.of hx (no_open_raw (by rw [hr]; intro e; cases e))
  | script =>
    rw [hr] at hqe
    rw [hT, hqe]
    refine (jTextScript F B b a q T st ln w h hT hs hl hr).mono fun e w' hp => ?_
    refine Pk.to hp (Kp.refl B w) fun x hx => ⟨hx.1, fun q' ⟨T', h1, _, _, h4⟩ => ?_⟩
    injection h1 with h1 h2
    subst h1; subst h2
    exact hx.2 h4
theorem sContains' (s p : List UInt8) (w : World) (ht : Tab w) (hl : s.length ≤ 4194304) : Calls Tryz.prog 77 #[S s, S p] w (Ret (.bool (Lib.contains s p)) w) := by
  obtain ⟨m, hm⟩ := ht.mx
  exact (Tryz.strings_Contains ⟨s.toArray⟩ ⟨p.toArray⟩ m w (by rw [bl_size]; omega) hm).mono fun _ _ h => ⟨h.1, h.2.symm⟩
set_option maxRecDepth 100000 in
set_option maxHeartbeats 4000000 in
theorem jShut3 (t v : List UInt8) (w : World) (ht : Tab w) : Calls Tryz.prog 48 #[tokV 3 t v] w (AnyB w) := by
  have hal := (Below.refl w.heap.size w).alloc (Nat.le_refl _) (.cells #[.int .u8 3, S t, S v] 29)
  have hn := heap_alloc_last w (.cells #[.int .u8 3, S t, S v] 29)
  have HT := hide (ht.below ht.lt hal)
  obtain ⟨X, hX⟩ : ∃ X, Lib.contains [40, 41, 91, 93, 123, 125, 44, 59] t = X := ⟨_, rfl⟩
  have hC := fun W hT => hide (sContains' [40, 41, 91, 93, 123, 125, 44, 59] t W hT (by decide))
  rw [hX] at hC
  have c0 : (w.alloc (.cells #[.int .u8 3, S t, S v] 29)).cell? ⟨w.heap.size, 0, none⟩ = some (.int .u8 3) := by rw [Lib.cell_of_heap hn]; rfl
  have c1 : (w.alloc (.cells #[.int .u8 3, S t, S v] 29)).cell? ⟨w.heap.size, 1, none⟩ = some (S t) := by rw [Lib.cell_of_heap hn]; rfl
  have HAL := hide hal
  clear ht hal hn hX
  go_enter Tryz.func48, Tryz.ntmps48
  go_wp2_with fail
  refine (hC _ HT.out).out.mono ?_
  rintro e w1 ⟨rfl, rfl⟩
  go_wp2_with fail
  go_ret
  exact ⟨_, rfl, HAL.out⟩
set_option maxRecDepth 100000 in
set_option maxHeartbeats 4000000 in
theorem jShut (k : Nat) (hk : k < 11) (t v : List UInt8) (w : World) (ht : Tab w) : Calls Tryz.prog 48 #[tokV k t v] w (AnyB w) := by
  by_cases h3 : k = 3
  · subst h3; exact jShut3 t v w ht
  clear ht
  have hk2 : k = 0 ∨ k = 1 ∨ k = 2 ∨ k = 4 ∨ k = 5 ∨ k = 6 ∨ k = 7 ∨ k = 8 ∨ k = 9 ∨ k = 10 := by omega
  clear hk h3
  rcases hk2 with rfl | rfl | rfl | rfl | rfl | rfl | rfl | rfl | rfl | rfl
  all_goals
    have HAL := fun z : Int => hide ((Below.refl w.heap.size w).alloc (Nat.le_refl _) (.cells #[.int .u8 z, S t, S v] 29))
    go_enter Tryz.func48, Tryz.ntmps48
    go_wp2_with fail
    go_ret
    exact ⟨_, rfl, (HAL _).out⟩
set_option maxRecDepth 100000 in
set_option maxHeartbeats 4000000 in
theorem jWordy (k : Nat) (t v : List UInt8) (w : World) : Calls Tryz.prog 21 #[tokV k t v] w (Fresh (.bool (Jsp.wordy ⟨k, t, v⟩)) w) := by
  have HAL := hide ((Below.refl w.heap.size w).alloc (Nat.le_refl _) (.cells #[.int .u8 (k : Int), S t, S v] 29))
  by_cases h1 : k = 1
  · have q1 : ((k : Int) == 1) = true := by rw [h1]; rfl
    rw [show Jsp.wordy ⟨k, t, v⟩ = true by rw [h1]; rfl]
    clear h1
    go_enter Tryz.func21, Tryz.ntmps21
    go_wp2_with fail
    go_ret
    exact ⟨rfl, HAL.out⟩
  have q1 : ((k : Int) == 1) = false := by rw [beq_eq_false_iff_ne]; omega
  by_cases h2 : k = 2
  · have q2 : ((k : Int) == 2) = true := by rw [h2]; rfl
    rw [show Jsp.wordy ⟨k, t, v⟩ = true by rw [h2]; rfl]
    clear h1 h2
    go_enter Tryz.func21, Tryz.ntmps21
    go_wp2_with fail
    go_ret
    exact ⟨rfl, HAL.out⟩
  have q2 : ((k : Int) == 2) = false := by rw [beq_eq_false_iff_ne]; omega
  by_cases h4 : k = 4
  · have q4 : ((k : Int) == 4) = true := by rw [h4]; rfl
    rw [show Jsp.wordy ⟨k, t, v⟩ = true by rw [h4]; rfl]
    clear h1 h2 h4
    go_enter Tryz.func21, Tryz.ntmps21
    go_wp2_with fail
    go_ret
    exact ⟨rfl, HAL.out⟩
  have q4 : ((k : Int) == 4) = false := by rw [beq_eq_false_iff_ne]; omega
  by_cases h10 : k = 10
  · have q10 : ((k : Int) == 10) = true := by rw [h10]; rfl
    rw [show Jsp.wordy ⟨k, t, v⟩ = true by rw [h10]; rfl]
    clear h1 h2 h4 h10
    go_enter Tryz.func21, Tryz.ntmps21
    go_wp2_with fail
    go_ret
    exact ⟨rfl, HAL.out⟩
  have q10 : ((k : Int) == 10) = false := by rw [beq_eq_false_iff_ne]; omega
  have hw : Jsp.wordy ⟨k, t, v⟩ = (k == 3 && t == [46]) := by
    unfold Jsp.wordy
    simp [h1, h2, h4, h10]
  rw [hw]
  by_cases h3 : k = 3
  · have q3 : ((k : Int) == 3) = true := by rw [h3]; rfl
    obtain ⟨X, hX⟩ : ∃ X, (t == [46]) = X := ⟨_, rfl⟩
    rw [hX, show (k == 3) = true by rw [h3]; rfl, Bool.true_and]
    clear h1 h2 h4 h10 h3
    go_enter Tryz.func21, Tryz.ntmps21
    go_wp2_with fail
    go_ret
    exact ⟨rfl, HAL.out⟩
  have q3 : ((k : Int) == 3) = false := by rw [beq_eq_false_iff_ne]; omega
  rw [show (k == 3) = false by rw [beq_eq_false_iff_ne]; exact h3, Bool.false_and]
  clear h1 h2 h4 h10 h3 hw
  go_enter Tryz.func21, Tryz.ntmps21
  go_wp2_with fail
  go_ret
  exact ⟨rfl, HAL.out⟩
end Go.Proofs.YtngccmlcopcghaaGreatDoor
namespace Go.Proofs.YtngccmlcopcghaaGreatDoor
open Go.RowKit

/-- the state behind a token of kind K, taken -/
def aft (st : Jsp.St) (K : Nat) (t : List UInt8) : Jsp.St :=
  if K = 3 then { st with last := t, some := true }
  else if K = 1 then { st with goal := Jsp.wordsOf Jsp.aheadV t, last := t, some := true }
  else { st with goal := K == 7 || K == 8, last := [], some := true }
/-- what comes of a token taken by one of the ways -/
def TkP (F : List UInt8) (B b a : Nat) (st : Jsp.St) (ln : Bool) (W : World) (e : Ending) (w' : World) : Prop :=
  (∃ (K : Nat) (t v : List UInt8) (k : Nat) (st3 : Jsp.St), e = .returned (tokV (K : Int) t v) ∧ Lx w' B b F (a + k) st3 ln ∧ Kp B W w' ∧ K < 11 ∧ Jsp.next st (F.drop a) = .ok ⟨K, t, v⟩ k (aft st3 K t)) ∨
  (∃ (er o : Nat) (x : Wx), e = broke er (a + o) x ∧ Kp B W w' ∧ Jsp.next st (F.drop a) = .no er o ∧ ErrX st (F.drop a) x)
/-- f is the way that next takes -/
def TkOk (F : List UInt8) (B b a : Nat) (st : Jsp.St) (ln : Bool) (f : Nat) : Prop :=
  (∀ (args : Array Value) (W : World), (callFunc f args).run Tryz.prog W = .ok (.enter f args) W) ∧
  ∀ W, Lx W B b F a st ln → Calls Tryz.prog f #[.pointer (some ⟨b, 0, none⟩)] W (TkP F B b a st ln W)
theorem no_open_pt {s : List UInt8} (h34 : Jsp.pt s ≠ 34) (h39 : Jsp.pt s ≠ 39) : ∀ q, ¬ Jsp.OpenStr s q := by
  rintro q ⟨T, rfl, h2, -⟩
  rcases h2 with rfl | rfl
  · exact h34 (Jsp.pt_ascii (by decide) T)
  · exact h39 (Jsp.pt_ascii (by decide) T)
theorem cons_of_pt {s : List UInt8} (hv : Cssp.valid s = true) (h0 : s ≠ []) {c : UInt8} (h : Jsp.pt s = c.toNat) (hc : c.toNat < 128) : ∃ T, s = c :: T ∧ Cssp.valid T = true := by
  obtain ⟨d, r, rfl, hd, _⟩ := Jsp.pt_small hv h0 (by omega)
  have : d = c := UInt8.toNat_inj.1 (by omega)
  subst this
  exact ⟨r, rfl, (Jsp.Suf.of hv).valid hc⟩
theorem no_dig {r : Nat} {P : Prop} (h1 : Jsp.digit r = false) (h2 : r ≠ 46) : ¬ (Jsp.digit r = true ∨ (r = 46 ∧ P)) := by
  rintro (h | ⟨h, _⟩)
  · rw [h1] at h; cases h
  · exact h2 h
section
variable (F : List UInt8) (B b a : Nat) (st : Jsp.St) (ln : Bool) (h200 : st.stk.length ≤ 200) (ha : a < F.length) (hv : Cssp.valid (F.drop a) = true) (hl : F.length ≤ 4190000)
include h200 ha hv hl
omit h200 in
theorem tkWord (h1 : Jsp.begins (Jsp.pt (F.drop a)) = true) : TkOk F B b a st ln 38 := by
  refine ⟨enters_of Tryz.func38 (by kernel_rfl) rfl, fun W h => (jWord F B b a st ln W h (by omega) hv (by omega)).mono fun e w' hp => ?_⟩
  obtain ⟨rfl, hx, hk⟩ := hp
  refine .inl ⟨1, _, _, _, st, rfl, hx, hk, by decide, ?_⟩
  unfold Jsp.next
  rw [if_pos h1]
  rfl
omit h200 in
theorem tkPrivate (h2 : Jsp.pt (F.drop a) = 35) : TkOk F B b a st ln 39 := by
  have h0 : F.drop a ≠ [] := fun e => by
    have := congrArg List.length e
    rw [List.length_drop, List.length_nil] at this
    omega
  obtain ⟨T, hT, hvT⟩ := cons_of_pt (c := 35) hv h0 h2 (by decide)
  have hn : Jsp.next st (F.drop a) = if T = [] ∨ Jsp.begins (Jsp.pt T) = false then .no 170 0 else .ok ⟨2, (F.drop a).take (1 + Jsp.name T), []⟩ (1 + Jsp.name T) (Jsp.plainS st) := by
    unfold Jsp.next
    rw [if_neg (by rw [h2]; decide), if_pos h2, show (F.drop a).drop 1 = T by rw [hT]; rfl]
  refine ⟨enters_of Tryz.func39 (by kernel_rfl) rfl, fun W h => (jPrivate F B b a st ln W h T hT hvT (by omega)).mono fun e w' hp => ?_⟩
  by_cases hc : T = [] ∨ Jsp.begins (Jsp.pt T) = false
  · rw [if_pos hc] at hp hn
    obtain ⟨x, rfl, hx, hk⟩ := hp
    exact .inr ⟨170, 0, x, rfl, hk, hn, ErrX.of hx (no_open_pt (by omega) (by omega))⟩
  · rw [if_neg hc] at hp hn
    obtain ⟨rfl, hx, hk⟩ := hp
    exact .inl ⟨2, _, _, _, st, rfl, hx, hk, by decide, hn⟩
omit h200 in
theorem tkNumber (h1 : Jsp.begins (Jsp.pt (F.drop a)) = false) (h2 : Jsp.pt (F.drop a) ≠ 35) (h3 : Jsp.digit (Jsp.pt (F.drop a)) = true ∨ (Jsp.pt (F.drop a) = 46 ∧ Jsp.digit (Jsp.pt ((F.drop a).drop 1)) = true)) : TkOk F B b a st ln 41 := by
  have h34 : Jsp.pt (F.drop a) ≠ 34 := fun e => by rw [e] at h3; rcases h3 with h3 | ⟨h3, _⟩ <;> exact absurd h3 (by decide)
  have h39 : Jsp.pt (F.drop a) ≠ 39 := fun e => by rw [e] at h3; rcases h3 with h3 | ⟨h3, _⟩ <;> exact absurd h3 (by decide)
  have hn : Jsp.next st (F.drop a) = if (Jsp.numeral (F.drop a)).2 = false ∨ Jsp.name ((F.drop a).drop (Jsp.numeral (F.drop a)).1) ≠ 0 then .no 173 0 else .ok ⟨4, (F.drop a).take (Jsp.numeral (F.drop a)).1, []⟩ (Jsp.numeral (F.drop a)).1 (Jsp.plainS st) := by
    unfold Jsp.next
    rw [if_neg (by rw [h1]; decide), if_neg h2, if_pos h3]
  refine ⟨enters_of Tryz.func41 (by kernel_rfl) rfl, fun W h => (jNumber F B b a st ln W h ha hv (by omega)).mono fun e w' hp => ?_⟩
  by_cases hc : (Jsp.numeral (F.drop a)).2 = false ∨ Jsp.name ((F.drop a).drop (Jsp.numeral (F.drop a)).1) ≠ 0
  · rw [if_pos hc] at hp hn
    obtain ⟨x, rfl, hx, hk⟩ := hp
    exact .inr ⟨173, 0, x, rfl, hk, hn, ErrX.of hx (no_open_pt h34 h39)⟩
  · rw [if_neg hc] at hp hn
    obtain ⟨rfl, hx, hk⟩ := hp
    exact .inl ⟨4, _, _, _, st, rfl, hx, hk, by decide, hn⟩
omit h200 in
theorem tkText (h1 : Jsp.pt (F.drop a) = 34 ∨ Jsp.pt (F.drop a) = 39) : TkOk F B b a st ln 42 := by
  have h0 : F.drop a ≠ [] := fun e => by
    have := congrArg List.length e
    rw [List.length_drop, List.length_nil] at this
    omega
  obtain ⟨q, hq, T, hT, hvT⟩ : ∃ q : UInt8, (q = 34 ∨ q = 39) ∧ ∃ T, F.drop a = q :: T ∧ Cssp.valid T = true := by
    rcases h1 with h1 | h1
    · exact ⟨34, .inl rfl, cons_of_pt (c := 34) hv h0 h1 (by decide)⟩
    · exact ⟨39, .inr rfl, cons_of_pt (c := 39) hv h0 h1 (by decide)⟩
  have hn : Jsp.next st (F.drop a) = match Jsp.quote (F.drop a) with
      | .inl r => r
      | .inr (k, v) => .ok ⟨5, (F.drop a).take (k + 2), v⟩ (k + 2) (Jsp.plainS st) := by
    unfold Jsp.next
    rw [if_neg (by rcases h1 with h1 | h1 <;> rw [h1] <;> decide), if_neg (by omega), if_neg (by rcases h1 with h1 | h1 <;> rw [h1] <;> exact no_dig (by decide) (by decide)), if_pos h1]
    cases Jsp.quote (F.drop a) with
    | inl r => rfl
    | inr y => rfl
  refine ⟨enters_of Tryz.func42 (by kernel_rfl) rfl, fun W h => (jText F B b a q hq T st ln W h hT (Jsp.Suf.of hvT) hl).mono fun e w' hp => ?_⟩
  unfold TextP at hp
  cases hqu : Jsp.quote (F.drop a) with
  | inl r =>
    rw [hqu] at hp hn
    cases r with
    | ok x k s => exact hp.elim
    | no er o =>
      obtain ⟨x, rfl, hx, hk⟩ := hp
      exact .inr ⟨er, o, x, rfl, hk, hn, hx⟩
  | inr y =>
    obtain ⟨k, v⟩ := y
    rw [hqu] at hp hn
    obtain ⟨rfl, hx, hk⟩ := hp
    exact .inl ⟨5, _, _, _, st, rfl, hx, hk, by decide, hn⟩
omit hl h200 ha hv in
theorem tmpl_take {T : List UInt8} {c : UInt8} (hT : F.drop a = c :: T) {st1 : Jsp.St} {kw kp : Nat} (h5 : 3 < kw) (h6 : kw < 11) (h7 : 6 < kp) (h8 : kp < 9) (h9 : kw ≠ 7 ∧ kw ≠ 8) (hc : c ≠ 34 ∧ c ≠ 39)
    (hn : Jsp.next st (F.drop a) = match Jsp.raw 96 T with
      | .ends k => (match Jsp.cook true (T.take k) with
        | .inr o => .no 172 (o + 1)
        | .inl v => if Cssp.at_ T k = 96 then .ok ⟨kw, (F.drop a).take (k + 2), v⟩ (k + 2) (Jsp.plainS st1)
          else match Jsp.push st1 36 with
            | none => .no 177 (k + 1)
            | some st2 => .ok ⟨kp, (F.drop a).take (k + 3), v⟩ (k + 3) { Jsp.plainS st2 with goal := true })
      | _ => .no 176 0) {W : World} {e : Ending} {w' : World} (hp : TmP F B b a T st1 kw kp ln W e w') : TkP F B b a st ln W e w' := by
  have hno : ∀ q, ¬ Jsp.OpenStr (F.drop a) q := by rw [hT]; exact no_open hc.1 hc.2
  have ea : aft st1 kw = fun _ => Jsp.plainS st1 := by
    funext t
    unfold aft
    rw [if_neg (by omega), if_neg (by omega)]
    have : (kw == 7 || kw == 8) = false := by simp; omega
    rw [this]; rfl
  have eb : ∀ s t, aft s kp t = { Jsp.plainS s with goal := true } := fun s t => by
    unfold aft
    rw [if_neg (by omega), if_neg (by omega)]
    have : (kp == 7 || kp == 8) = true := by simp; omega
    rw [this]; rfl
  unfold TmP at hp
  cases hr : Jsp.raw 96 T with
  | ends k =>
    rw [hr] at hp hn
    dsimp only at hp hn
    cases hck : Jsp.cook true (T.take k) with
    | inr o =>
      rw [hck] at hp hn
      obtain ⟨x, rfl, hx, hk⟩ := hp
      exact .inr ⟨172, _, x, rfl, hk, hn, ErrX.of hx hno⟩
    | inl v =>
      rw [hck] at hp hn
      dsimp only at hp hn
      by_cases h96 : Cssp.at_ T k = 96
      · rw [if_pos h96] at hp hn
        obtain ⟨rfl, hx, hk⟩ := hp
        exact .inl ⟨kw, _, _, _, st1, rfl, hx, hk, h6, by rw [ea]; exact hn⟩
      · rw [if_neg h96] at hp hn
        by_cases hf : st1.stk.length = 200
        · rw [if_pos hf] at hp
          rw [show Jsp.push st1 36 = none from if_pos hf] at hn
          obtain ⟨x, rfl, hx, hk⟩ := hp
          exact .inr ⟨177, _, x, rfl, hk, hn, ErrX.of hx hno⟩
        · rw [if_neg hf] at hp
          rw [show Jsp.push st1 36 = some { st1 with stk := st1.stk ++ [36] } from if_neg hf] at hn
          obtain ⟨rfl, hx, hk⟩ := hp
          exact .inl ⟨kp, _, _, _, _, rfl, hx, hk, by omega, by rw [eb]; exact hn⟩
  | script =>
    rw [hr] at hp hn
    obtain ⟨x, rfl, hx, hk⟩ := hp
    exact .inr ⟨176, 0, x, rfl, hk, hn, ErrX.of hx hno⟩
  | line =>
    rw [hr] at hp hn
    obtain ⟨x, rfl, hx, hk⟩ := hp
    exact .inr ⟨176, 0, x, rfl, hk, hn, ErrX.of hx hno⟩
theorem tkTmplA (h1 : Jsp.pt (F.drop a) = 96) : TkOk F B b a st ln 44 := by
  have h0 : F.drop a ≠ [] := fun e => by
    have := congrArg List.length e
    rw [List.length_drop, List.length_nil] at this
    omega
  obtain ⟨T, hT, hvT⟩ := cons_of_pt (c := 96) hv h0 h1 (by decide)
  refine ⟨enters_of Tryz.func44 (by kernel_rfl) rfl, fun W h => (jTemplA F B b a T st ln W h h200 hT (Jsp.Suf.of hvT) hl).mono fun e w' hp => ?_⟩
  refine tmpl_take F B b a st ln hT (by decide) (by decide) (by decide) (by decide) (by decide) (by decide) ?_ hp
  unfold Jsp.next
  rw [if_neg (by rw [h1]; decide), if_neg (by omega), if_neg (by rw [h1]; exact no_dig (by decide) (by decide)), if_neg (by omega), if_pos (.inl h1), hT]
  rfl
theorem tkTmplB (h1 : Jsp.pt (F.drop a) = 125) (h2 : Jsp.top st = 36) : TkOk F B b a st ln 44 := by
  have h0 : F.drop a ≠ [] := fun e => by
    have := congrArg List.length e
    rw [List.length_drop, List.length_nil] at this
    omega
  obtain ⟨T, hT, hvT⟩ := cons_of_pt (c := 125) hv h0 h1 (by decide)
  have hst : st.stk ≠ [] := fun e => by unfold Jsp.top at h2; rw [e] at h2; exact absurd h2 (by decide)
  refine ⟨enters_of Tryz.func44 (by kernel_rfl) rfl, fun W h => (jTemplB F B b a T st ln W h h200 hst hT (Jsp.Suf.of hvT) hl).mono fun e w' hp => ?_⟩
  refine tmpl_take F B b a st ln hT (by decide) (by decide) (by decide) (by decide) (by decide) (by decide) ?_ hp
  unfold Jsp.next
  rw [if_neg (by rw [h1]; decide), if_neg (by omega), if_neg (by rw [h1]; exact no_dig (by decide) (by decide)), if_neg (by omega), if_pos (.inr ⟨h1, h2⟩), hT]
  rfl
omit h200 in
theorem tkRegex (h1 : Jsp.pt (F.drop a) = 47) (h2 : st.goal = true) : TkOk F B b a st ln 45 := by
  have h0 : F.drop a ≠ [] := fun e => by
    have := congrArg List.length e
    rw [List.length_drop, List.length_nil] at this
    omega
  obtain ⟨T, hT, hvT⟩ := cons_of_pt (c := 47) hv h0 h1 (by decide)
  have hn : Jsp.next st (F.drop a) = match Jsp.reg T with
      | none => .no 174 0
      | some k => .ok ⟨10, (F.drop a).take (k + 2 + Jsp.name (F.drop (a + (k + 2)))), []⟩ (k + 2 + Jsp.name (F.drop (a + (k + 2)))) (Jsp.plainS st) := by
    unfold Jsp.next
    rw [if_neg (by rw [h1]; decide), if_neg (by omega), if_neg (by rw [h1]; exact no_dig (by decide) (by decide)), if_neg (by omega), if_neg (by omega), if_pos ⟨h1, h2⟩, show (F.drop a).drop 1 = T by rw [hT]; rfl]
    cases Jsp.reg T with
    | none => rfl
    | some k => dsimp only; rw [List.drop_drop]
  refine ⟨enters_of Tryz.func45 (by kernel_rfl) rfl, fun W h => (jRegex F B b a T st ln W h hT hvT hl).mono fun e w' hp => ?_⟩
  unfold RgP at hp
  cases hr : Jsp.reg T with
  | none =>
    rw [hr] at hp hn
    obtain ⟨x, rfl, hx, hk⟩ := hp
    exact .inr ⟨174, 0, x, rfl, hk, hn, ErrX.of hx (no_open_pt (by omega) (by omega))⟩
  | some k =>
    rw [hr] at hp hn
    obtain ⟨rfl, hx, hk⟩ := hp
    exact .inl ⟨10, _, _, _, st, rfl, hx, hk, by decide, hn⟩
theorem tkMark (h1 : Jsp.begins (Jsp.pt (F.drop a)) = false) (h2 : Jsp.pt (F.drop a) ≠ 35) (h3 : ¬ (Jsp.digit (Jsp.pt (F.drop a)) = true ∨ (Jsp.pt (F.drop a) = 46 ∧ Jsp.digit (Jsp.pt ((F.drop a).drop 1)) = true))) (h4 : ¬ (Jsp.pt (F.drop a) = 34 ∨ Jsp.pt (F.drop a) = 39)) (h5 : ¬ (Jsp.pt (F.drop a) = 96 ∨ (Jsp.pt (F.drop a) = 125 ∧ Jsp.top st = 36))) (h6 : ¬ (Jsp.pt (F.drop a) = 47 ∧ st.goal = true)) : TkOk F B b a st ln 36 := by
  have hn : Jsp.next st (F.drop a) = match Jsp.markOf (F.drop a) with
      | none => .no 170 0
      | some m => match Jsp.bracket st m with
        | none => .no 177 0
        | some st2 => .ok ⟨3, m, []⟩ m.length { st2 with last := m, some := true } := by
    unfold Jsp.next
    rw [if_neg (by rw [h1]; decide), if_neg h2, if_neg h3, if_neg h4, if_neg h5, if_neg h6]
    cases Jsp.markOf (F.drop a) with
    | none => rfl
    | some m =>
      dsimp only
      cases Jsp.bracket st m <;> rfl
  refine ⟨enters_of Tryz.func36 (by kernel_rfl) rfl, fun W h => (jMark F B b a st ln W h h200 ha hv (by omega)).mono fun e w' hp => ?_⟩
  have hno := no_open_pt (s := F.drop a) (fun e => h4 (.inl e)) (fun e => h4 (.inr e))
  unfold MkP at hp
  cases hm : Jsp.markOf (F.drop a) with
  | none =>
    rw [hm] at hp hn
    obtain ⟨x, rfl, rfl, hk⟩ := hp
    exact .inr ⟨170, 0, w0x, rfl, hk, hn, ErrX.of (by decide) hno⟩
  | some m =>
    rw [hm] at hp hn
    dsimp only at hp hn
    cases hb : Jsp.bracket st m with
    | none =>
      rw [hb] at hp hn
      obtain ⟨x, rfl, rfl, hk⟩ := hp
      exact .inr ⟨177, 0, w0x, rfl, hk, hn, ErrX.of (by decide) hno⟩
    | some st2 =>
      rw [hb] at hp hn
      obtain ⟨rfl, hx, hk⟩ := hp
      exact .inl ⟨3, _, _, _, st2, rfl, hx, hk, by decide, hn⟩
end
end Go.Proofs.YtngccmlcopcghaaGreatDoor
