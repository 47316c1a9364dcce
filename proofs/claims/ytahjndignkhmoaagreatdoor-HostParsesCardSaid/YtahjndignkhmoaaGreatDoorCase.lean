/- Plain laws of package host: great and small letters; one number of base 10, 8 or 16; what was read is written and read again. No program in sight. -/
import Derived.Test.YtahjndignkhmoaaGreatDoorSix
namespace Go.Proofs.YtahjndignkhmoaaGreatDoor
namespace Hostp
open Go

/-! ### great and small letters -/
theorem low_all : ∀ n : Fin 256, hex (lowB (UInt8.ofNat n.val)) = hex (UInt8.ofNat n.val) ∧ (lowB (UInt8.ofNat n.val) = 37 ↔ UInt8.ofNat n.val = 37) ∧ (lowB (UInt8.ofNat n.val) = 46 ↔ UInt8.ofNat n.val = 46) ∧ (lowB (UInt8.ofNat n.val) = 48 ↔ UInt8.ofNat n.val = 48) ∧
    (lowB (UInt8.ofNat n.val) = 58 ↔ UInt8.ofNat n.val = 58) ∧ (lowB (UInt8.ofNat n.val) = 91 ↔ UInt8.ofNat n.val = 91) ∧ (lowB (UInt8.ofNat n.val) = 93 ↔ UInt8.ofNat n.val = 93) := by decide +kernel
theorem low_of (c : UInt8) : hex (lowB c) = hex c ∧ (lowB c = 37 ↔ c = 37) ∧ (lowB c = 46 ↔ c = 46) ∧ (lowB c = 48 ↔ c = 48) ∧ (lowB c = 58 ↔ c = 58) ∧ (lowB c = 91 ↔ c = 91) ∧ (lowB c = 93 ↔ c = 93) := by
  have := low_all ⟨c.toNat, c.toNat_lt⟩
  simpa using this
theorem low_hex (c : UInt8) : hex (lowB c) = hex c := (low_of c).1
theorem lower_pDec : ∀ (n : Nat) (s : List UInt8), s.length ≤ n → lower (pDec (lower s)) = lower (pDec s)
  | 0, s, h => by
    have : s = [] := List.eq_nil_of_length_eq_zero (by omega)
    subst this; rfl
  | n + 1, s, h => by
    match s, h with
    | [], _ => rfl
    | [a], _ => show lower (lower [a]) = lower [a]; exact lower_low _
    | [a, b], _ => show lower (lower [a, b]) = lower [a, b]; exact lower_low _
    | c :: a :: b :: l, h =>
      show lower (pDec (lowB c :: lowB a :: lowB b :: lower l)) = _
      rw [pDec, pDec, low_hex, low_hex]
      by_cases hc : c = 37 ∧ 0 ≤ hex a ∧ 0 ≤ hex b
      · rw [if_pos hc, if_pos ⟨(low_of c).2.1.2 hc.1, hc.2⟩]
        have ih := lower_pDec n l (by simp at h; omega)
        show lowB _ :: lower (pDec (lower l)) = lowB _ :: lower (pDec l)
        rw [ih]
      · rw [if_neg hc, if_neg (fun q => hc ⟨(low_of c).2.1.1 q.1, q.2⟩)]
        have ih := lower_pDec n (a :: b :: l) (by simp at h ⊢; omega)
        show lowB (lowB c) :: lower (pDec (lower (a :: b :: l))) = lowB c :: lower (pDec (a :: b :: l))
        rw [ih, lowB_low]
theorem splitOn_low (c : UInt8) (hc : ∀ b, lowB b = c ↔ b = c) : ∀ s : List UInt8, splitOn c (lower s) = (splitOn c s).map lower
  | [] => rfl
  | b :: l => by
    have ih := splitOn_low c hc l
    show splitOn c (lowB b :: lower l) = _
    rw [splitOn, splitOn, ih]
    by_cases h : b = c
    · rw [if_pos h, if_pos ((hc b).2 h)]; rfl
    · rw [if_neg h, if_neg (fun q => h ((hc b).1 q))]
      cases splitOn c l <;> rfl
theorem allB_low (base : Int) (s : List UInt8) : allB base (lower s) = allB base s := by
  unfold allB lower
  rw [List.all_map]
  congr 1
  funext c
  show isDig base (lowB c) = isDig base c
  unfold isDig; rw [low_hex]
theorem value_low (base : Int) (s : List UInt8) : value base (lower s) = value base s := by
  unfold value lower
  rw [List.foldl_map]
  congr 1
  funext n c
  rw [low_hex]
theorem lower_len (s : List UInt8) : (lower s).length = s.length := by simp [lower]
theorem lower_nil (s : List UInt8) : lower s = [] ↔ s = [] := by simp [lower]
theorem byteP_low (s : List UInt8) : byteP (lower s) = byteP s := by
  unfold byteP
  rw [allB_low, value_low, lower_len]
  have e1 : (lower s = []) = (s = []) := propext (lower_nil s)
  have e2 : ((lower s).head? = some 48) = (s.head? = some 48) := by
    cases s with
    | nil => rfl
    | cons c l =>
      refine propext ?_
      show some (lowB c) = some 48 ↔ some c = some 48
      rw [Option.some.injEq, Option.some.injEq]; exact (low_of c).2.2.2.1
  simp only [e1, e2]
theorem fourP_low (s : List UInt8) : fourP (lower s) = fourP s := by
  unfold fourP
  rw [splitOn_low 46 (fun b => (low_of b).2.2.1)]
  match splitOn 46 s with
  | [] => rfl
  | [_] => rfl
  | [_, _] => rfl
  | [_, _, _] => rfl
  | [a, b, c, d] => simp only [List.map_cons, List.map_nil, byteP_low]
  | _ :: _ :: _ :: _ :: _ :: _ => rfl
theorem groupP_low (s : List UInt8) : groupP (lower s) = groupP s := by
  unfold groupP
  have e1 : (lower s = []) = (s = []) := propext (lower_nil s)
  rw [allB_low, value_low, lower_len]
  simp only [e1]
theorem mem_low (s : List UInt8) : 46 ∈ lower s ↔ (46 : UInt8) ∈ s := by
  unfold lower
  rw [List.mem_map]
  constructor
  · rintro ⟨c, hc, e⟩
    rw [← (low_of c).2.2.1.1 e]; exact hc
  · intro h
    exact ⟨46, h, (low_of 46).2.2.1.2 rfl⟩
theorem groupsF_low (last : Bool) : ∀ ws : List (List UInt8), groupsF last (ws.map lower) = groupsF last ws
  | [] => rfl
  | w :: r => by
    show groupsF last (lower w :: r.map lower) = _
    rw [groupsF, groupsF, groupsF_low last r, fourP_low, groupP_low]
    have e : (last = true ∧ r.map lower = [] ∧ (46 : UInt8) ∈ lower w) = (last = true ∧ r = [] ∧ (46 : UInt8) ∈ w) := by
      rw [propext (mem_low w), propext (List.map_eq_nil_iff)]
    simp only [e]
theorem groups_low (s : List UInt8) (last : Bool) : groups (lower s) last = groups s last := by
  unfold groups
  have e1 : (lower s = []) = (s = []) := propext (lower_nil s)
  rw [splitOn_low 58 (fun b => (low_of b).2.2.2.2.1), groupsF_low]
  simp only [e1]
theorem cut2_low : ∀ s : List UInt8, cut2 (lower s) = (cut2 s).map fun x => (lower x.1, lower x.2)
  | [] => rfl
  | [_] => rfl
  | c :: d :: r => by
    have ih := cut2_low (d :: r)
    show cut2 (lowB c :: lowB d :: lower r) = _
    rw [cut2, cut2]
    by_cases h : c = 58 ∧ d = 58
    · rw [if_pos h, if_pos ⟨(low_of c).2.2.2.2.1.2 h.1, (low_of d).2.2.2.2.1.2 h.2⟩]; rfl
    · rw [if_neg h, if_neg (fun q => h ⟨(low_of c).2.2.2.2.1.1 q.1, (low_of d).2.2.2.2.1.1 q.2⟩)]
      rw [show lowB d :: lower r = lower (d :: r) from rfl, ih, Option.map_map, Option.map_map]
      rfl
theorem v6_low (s : List UInt8) : v6 (lower s) = v6 s := by
  unfold v6
  rw [cut2_low]
  cases cut2 s with
  | none => simp only [Option.map_none, groups_low]
  | some x => simp only [Option.map_some, groups_low]
theorem parse_low (s : List UInt8) : parse (lower s) true = parse s true := by
  unfold parse
  have e1 : ((lower s).head? = some 91) = (s.head? = some 91) := by
    cases s with
    | nil => rfl
    | cons c l =>
      refine propext ?_
      show some (lowB c) = some 91 ↔ some c = some 91
      rw [Option.some.injEq, Option.some.injEq]; exact (low_of c).2.2.2.2.2.1
  have e2 : ((lower s).getLast? = some 93) = (s.getLast? = some 93) := by
    refine propext ?_
    unfold lower
    rw [List.getLast?_map, Option.map_eq_some_iff]
    constructor
    · rintro ⟨c, hc, e⟩
      rw [hc, (low_of c).2.2.2.2.2.2.1 e]
    · intro h
      exact ⟨93, h, (low_of 93).2.2.2.2.2.2.2 rfl⟩
  have e3 : ((lower s).drop 1).dropLast = lower ((s.drop 1).dropLast) := by
    unfold lower
    rw [List.map_dropLast, List.map_drop]
  rw [e3, lower_len, v6_low, lower_pDec _ s (Nat.le_refl _)]
  simp only [e1, e2, Bool.true_eq_false, if_false]
/-- small letters made great -/
def upB (c : UInt8) : UInt8 := if 97 ≤ c.toNat ∧ c.toNat ≤ 122 then UInt8.ofNat (c.toNat - 32) else c
theorem lowB_upB (c : UInt8) : lowB (upB c) = lowB c := by
  have : ∀ n : Fin 256, lowB (upB (UInt8.ofNat n.val)) = lowB (UInt8.ofNat n.val) := by decide +kernel
  have := this ⟨c.toNat, c.toNat_lt⟩
  simpa using this
theorem parse_up (s : List UInt8) : parse (s.map upB) true = parse (lower s) true := by
  rw [← parse_low (s.map upB), parse_low s]
  have : lower (s.map upB) = lower s := by
    unfold lower
    rw [List.map_map]
    exact List.map_congr_left fun c _ => lowB_upB c
  rw [this, parse_low]

/-! ### one number -/
theorem parse_one (t : List UInt8) (n : Nat) (hn : n < 4294967296) (hc : ∀ x ∈ t, calm x = true) (h46 : ∀ x ∈ t, x ≠ 46) (hne : t ≠ []) (hv : numberP t = some (n : Int)) (hnum : (allB 10 t || decide ((basedP t).2 = 16) && allB 16 (basedP t).1) = true) :
    parse t true = some (.four n) := by
  obtain ⟨h1, h2⟩ := calm_low t hc
  have hhd : ¬ (t.head? = some 91) := fun h => by
    have := hc 91 (List.mem_of_mem_head? (by rw [h]; rfl))
    exact absurd this (by decide)
  have hsp : splitOn 46 t = [t] := splitOn_no 46 t h46
  have hpa : parts t = [t] := by unfold parts; rw [hsp, if_neg (by simp)]
  have hnm : numericP t = true := by
    unfold numericP
    rw [hpa]
    have : t.isEmpty = false := by cases t with | nil => exact absurd rfl hne | cons _ _ => rfl
    simp only [List.getLast?_singleton, this, hnum]; rfl
  have hv4 : v4 t = some (n : Int) := by
    unfold v4
    rw [hpa, if_neg (by simp)]
    simp only [v4from, hv]
    rw [if_pos (by simp; omega)]
    simp
  rw [parse, if_neg hhd, if_neg (by simp), h1, if_neg (fun h => by
    rcases h with h | h
    · exact hne h
    · rw [h2] at h; cases h), hnm, if_neg (by simp), hv4]
  rfl
theorem repr_calm (base n : Nat) (h2 : 2 ≤ base) (h16 : base ≤ 16) : (∀ x ∈ repr base n, calm x = true) ∧ ∀ x ∈ repr base n, x ≠ 46 :=
  ⟨repr_mem _ base (fun d hd => (digL_all ⟨d, by omega⟩).2.1) n h2, repr_mem _ base (fun d hd => (digL_all ⟨d, by omega⟩).2.2.1) n h2⟩
theorem allB_le (a b : Int) (h : a ≤ b) (t : List UInt8) (ht : allB a t = true) : allB b t = true := by
  unfold allB at *
  rw [List.all_eq_true] at *
  intro c hc
  have := ht c hc
  unfold isDig at *
  rw [Bool.and_eq_true, decide_eq_true_eq, decide_eq_true_eq] at *
  omega
/-- a number's first digit is no nought, but of nought itself -/
theorem repr_head (base : Nat) (h2 : 2 ≤ base) (h16 : base ≤ 16) : ∀ n, 0 < n → ∃ d r, repr base n = digL d :: r ∧ 0 < d ∧ d < base := by
  intro n
  induction n using Nat.strongRecOn with
  | _ n ih =>
    intro hn
    by_cases h : n < base
    · exact ⟨n, [], repr_lo base n h, hn, h⟩
    · obtain ⟨d, r, e, h3, h4⟩ := ih (n / base) (Nat.div_lt_self (by omega) (by omega)) (Nat.div_pos (by omega) (by omega))
      exact ⟨d, r ++ [digL (n % base)], by rw [repr_hi base n (by omega) h2, e]; rfl, h3, h4⟩
theorem digL_48 : ∀ d : Fin 16, digL d.val = 48 → d.val = 0 := by decide
theorem basedP_10 (n : Nat) : basedP (repr 10 n) = (repr 10 n, 10) := by
  by_cases hn : 0 < n
  · obtain ⟨d, r, e, h3, h4⟩ := repr_head 10 (by decide) (by decide) n hn
    rw [e]
    have : digL d ≠ 48 := fun h => by have := digL_48 ⟨d, by omega⟩ h; simp at this; omega
    cases r with
    | nil => rfl
    | cons x r => rw [basedP, if_neg this]
  · have : n = 0 := by omega
    subst this
    rw [repr_lo 10 0 (by decide)]; rfl
theorem number_of (t : List UInt8) (d : List UInt8) (base : Int) (n : Int) (hne : t ≠ []) (hb : basedP t = (d, base)) (ha : allB base d = true) (hv : value base d = n) (hn : n < 1099511627776) : numberP t = some n := by
  unfold numberP
  rw [hb]
  simp only [ha, hv]
  rw [if_neg]
  rintro (h | h | h)
  · exact hne h
  · cases h
  · omega
theorem parse_10 (n : Nat) (hn : n < 4294967296) : parse (repr 10 n) true = some (.four n) := by
  have ha : allB 10 (repr 10 n) = true := repr_all 10 (by decide) (by decide) n
  obtain ⟨h1, h2⟩ := repr_calm 10 n (by decide) (by decide)
  refine parse_one _ n hn h1 h2 (repr_ne 10 n) (number_of _ _ _ _ (repr_ne 10 n) (basedP_10 n) ha (repr_value 10 (by decide) (by decide) n) (by omega)) (by rw [ha]; rfl)
theorem basedP_8 (n : Nat) : basedP (48 :: repr 8 n) = (repr 8 n, 8) := by
  cases e : repr 8 n with
  | nil => exact absurd e (repr_ne 8 n)
  | cons x r =>
    have hx : x ≠ 120 ∧ x ≠ 88 := by
      have h : ∀ d, d < 8 → digL d ≠ 120 ∧ digL d ≠ 88 := by decide
      have := repr_mem (fun c => c ≠ 120 ∧ c ≠ 88) 8 (fun d hd => h d hd) n (by decide) x (by rw [e]; simp)
      exact this
    rw [basedP, if_pos rfl, if_neg (by rintro (h | h); exact hx.1 h; exact hx.2 h)]
theorem parse_8 (n : Nat) (hn : n < 4294967296) : parse (48 :: repr 8 n) true = some (.four n) := by
  have ha : allB 8 (repr 8 n) = true := repr_all 8 (by decide) (by decide) n
  have ha10 : allB 10 (48 :: repr 8 n) = true := by
    show (isDig 10 48 && allB 10 (repr 8 n)) = true
    rw [allB_le 8 10 (by decide) _ ha]; decide
  obtain ⟨h1, h2⟩ := repr_calm 8 n (by decide) (by decide)
  refine parse_one _ n hn (fun x hx => ?_) (fun x hx => ?_) (by simp) (number_of _ _ _ _ (by simp) (basedP_8 n) ha (repr_value 8 (by decide) (by decide) n) (by omega)) (by rw [ha10]; rfl)
  · rcases List.mem_cons.1 hx with rfl | hx
    · decide
    · exact h1 x hx
  · rcases List.mem_cons.1 hx with rfl | hx
    · decide
    · exact h2 x hx
theorem basedP_16 (t : List UInt8) : basedP (48 :: 120 :: t) = (t, 16) := by rw [basedP, if_pos rfl, if_pos (.inl rfl)]
theorem parse_16 (n : Nat) (hn : n < 4294967296) : parse (48 :: 120 :: repr 16 n) true = some (.four n) := by
  have ha : allB 16 (repr 16 n) = true := repr_all 16 (by decide) (by decide) n
  obtain ⟨h1, h2⟩ := repr_calm 16 n (by decide) (by decide)
  refine parse_one _ n hn (fun x hx => ?_) (fun x hx => ?_) (by simp) (number_of _ _ _ _ (by simp) (basedP_16 _) ha (repr_value 16 (by decide) (by decide) n) (by omega)) (by rw [basedP_16]; simp [ha])
  · rcases List.mem_cons.1 hx with rfl | hx
    · decide
    · rcases List.mem_cons.1 hx with rfl | hx
      · decide
      · exact h1 x hx
  · rcases List.mem_cons.1 hx with rfl | hx
    · decide
    · rcases List.mem_cons.1 hx with rfl | hx
      · decide
      · exact h2 x hx

/-! ### read, written, read again -/
def showP : Host → List UInt8
  | .none => []
  | .domain s => s
  | .four n => show4 n.toNat
  | .eight l => 91 :: (show6 l ++ [93])
  | .opaque_ s => s
  | .empty => []
theorem numberP_ge (t : List UInt8) (n : Int) (h : numberP t = some n) : 0 ≤ n := by
  unfold numberP at h
  split at h
  · cases h
  · rename_i q
    injection h with h
    rw [← h]
    have hall : allB (basedP t).2 (basedP t).1 = true := eq_true_of_ne_false fun e => q (.inr (.inl e))
    have hb : 1 ≤ (basedP t).2 := by
      match t with
      | [] => decide
      | [c] => show (1 : Int) ≤ 10; decide
      | c :: d :: r =>
        rw [basedP]
        split
        · split
          · show (1 : Int) ≤ 16; decide
          · show (1 : Int) ≤ 8; decide
        · show (1 : Int) ≤ 10; decide
    have : ∀ (s : List UInt8) (acc : Int), 0 ≤ acc → (∀ c ∈ s, 0 ≤ hex c) → 0 ≤ s.foldl (fun n c => n * (basedP t).2 + hex c) acc := by
      intro s
      induction s with
      | nil => intro acc h _; exact h
      | cons c s ih =>
        intro acc h0 hc
        refine ih _ ?_ (fun x hx => hc x (by simp [hx]))
        have h1 := hc c (by simp)
        have h2 : 0 ≤ acc * (basedP t).2 := Int.mul_nonneg h0 (by omega)
        show 0 ≤ acc * (basedP t).2 + hex c
        omega
    refine this _ 0 (Int.le_refl _) fun c hc => ?_
    have := List.all_eq_true.1 hall c hc
    unfold isDig at this
    rw [Bool.and_eq_true, decide_eq_true_eq] at this
    exact this.1
theorem v4from_range : ∀ (l : List (List UInt8)) (i : Nat) (sum n : Int), i + l.length ≤ 4 → 0 ≤ sum → sum + 256 ^ (4 - i) ≤ 4294967296 → l ≠ [] → v4from i sum l = some n → 0 ≤ n ∧ n < 4294967296
  | [], _, _, _, _, _, _, h, _ => absurd rfl h
  | [p], i, sum, n, hi, h0, h1, _, h => by
    rw [v4from] at h
    split at h
    · rename_i m hm
      have := numberP_ge p m hm
      split at h
      · injection h with h; omega
      · cases h
    · cases h
  | p :: q :: r, i, sum, n, hi, h0, h1, _, h => by
    rw [v4from] at h
    simp only [List.length_cons] at hi
    split at h
    · rename_i m hm
      have := numberP_ge p m hm
      split at h
      · rename_i hm256
        have h3 : i = 0 ∨ i = 1 ∨ i = 2 := by omega
        refine v4from_range (q :: r) (i + 1) _ n (by simp only [List.length_cons]; omega) ?_ ?_ (by simp) h
        · rcases h3 with rfl | rfl | rfl <;> simp <;> omega
        · rcases h3 with rfl | rfl | rfl <;> simp at h1 ⊢ <;> omega
      · cases h
    · cases h
theorem v4_range (s : List UInt8) (n : Int) (h : v4 s = some n) : 0 ≤ n ∧ n < 4294967296 := by
  unfold v4 at h
  split at h
  · cases h
  · rename_i q
    have hne : parts s ≠ [] := by
      intro e
      rw [e] at q h
      unfold parts at e
      split at e
      · rename_i w
        have := congrArg List.length e
        rw [List.length_dropLast] at this
        simp at this; omega
      · exact splitOn_ne 46 s e
    exact v4from_range _ 0 0 n (by omega) (Int.le_refl _) (by decide) hne h
theorem byteP_range (s : List UInt8) (n : Int) (h : byteP s = some n) : 0 ≤ n ∧ n < 256 := by
  unfold byteP at h
  split at h
  · cases h
  · rename_i q
    injection h with h
    have hall : allB 10 s = true := eq_true_of_ne_false fun e => q (.inr (.inl e))
    have h255 : ¬ 255 < value 10 s := fun e => q (.inr (.inr (.inl e)))
    have : ∀ (s : List UInt8) (acc : Int), 0 ≤ acc → (∀ c ∈ s, 0 ≤ hex c) → 0 ≤ s.foldl (fun n c => n * 10 + hex c) acc := by
      intro s
      induction s with
      | nil => intro acc h _; exact h
      | cons c s ih =>
        intro acc h0 hc
        have h1 := hc c (by simp)
        exact ih (acc * 10 + hex c) (by omega) (fun x hx => hc x (by simp [hx]))
    have h0 := this s 0 (Int.le_refl _) fun c hc => by
      have := List.all_eq_true.1 hall c hc
      unfold isDig at this
      rw [Bool.and_eq_true, decide_eq_true_eq] at this
      exact this.1
    have e : value 10 s = s.foldl (fun n c => n * 10 + hex c) 0 := rfl
    omega
theorem fourP_range (s : List UInt8) (l : List Int) (h : fourP s = some l) : ∀ n ∈ l, 0 ≤ n ∧ n < 65536 := by
  unfold fourP at h
  split at h
  · rename_i a b c d _
    split at h
    · rename_i x y z w h1 h2 h3 h4
      injection h with h
      subst h
      have q1 := byteP_range _ _ h1
      have q2 := byteP_range _ _ h2
      have q3 := byteP_range _ _ h3
      have q4 := byteP_range _ _ h4
      intro n hn
      simp at hn
      omega
    · cases h
  · cases h
theorem hex_le (c : UInt8) : hex c ≤ 15 := by
  unfold hex
  repeat' split
  all_goals omega
theorem groupP_range (s : List UInt8) (n : Int) (h : groupP s = some n) : 0 ≤ n ∧ n < 65536 := by
  unfold groupP at h
  split at h
  · cases h
  · rename_i q
    injection h with h
    have hall : allB 16 s = true := eq_true_of_ne_false fun e => q (.inr (.inr e))
    have hlen : ¬ 4 < s.length := fun e => q (.inr (.inl e))
    have h0 : ∀ c ∈ s, 0 ≤ hex c := fun c hc => by
      have := List.all_eq_true.1 hall c hc
      unfold isDig at this
      rw [Bool.and_eq_true, decide_eq_true_eq] at this
      exact this.1
    match s, h, hlen, h0 with
    | [], h, _, _ => rw [← h]; decide
    | [a], h, _, h0 =>
      have ha := h0 a (by simp)
      have ha2 := hex_le a
      have : value 16 [a] = 0 * 16 + hex a := rfl
      omega
    | [a, b], h, _, h0 =>
      have ha := h0 a (by simp)
      have hb := h0 b (by simp)
      have ha2 := hex_le a
      have hb2 := hex_le b
      have : value 16 [a, b] = (0 * 16 + hex a) * 16 + hex b := rfl
      omega
    | [a, b, c], h, _, h0 =>
      have ha := h0 a (by simp)
      have hb := h0 b (by simp)
      have hc := h0 c (by simp)
      have ha2 := hex_le a
      have hb2 := hex_le b
      have hc2 := hex_le c
      have : value 16 [a, b, c] = ((0 * 16 + hex a) * 16 + hex b) * 16 + hex c := rfl
      omega
    | [a, b, c, d], h, _, h0 =>
      have ha := h0 a (by simp)
      have hb := h0 b (by simp)
      have hc := h0 c (by simp)
      have hd := h0 d (by simp)
      have ha2 := hex_le a
      have hb2 := hex_le b
      have hc2 := hex_le c
      have hd2 := hex_le d
      have : value 16 [a, b, c, d] = (((0 * 16 + hex a) * 16 + hex b) * 16 + hex c) * 16 + hex d := rfl
      omega
    | _ :: _ :: _ :: _ :: _ :: _, _, hlen, _ => exact absurd (by simp) hlen
theorem groupsF_range (last : Bool) : ∀ (ws : List (List UInt8)) (l : List Int), groupsF last ws = some l → ∀ n ∈ l, 0 ≤ n ∧ n < 65536
  | [], l, h => by
    rw [groupsF] at h
    injection h with h
    subst h
    intro n hn; cases hn
  | w :: r, l, h => by
    rw [groupsF] at h
    split at h
    · exact fourP_range w l h
    · split at h
      · rename_i m hm
        rw [Option.map_eq_some_iff] at h
        obtain ⟨k, hk, rfl⟩ := h
        intro n hn
        rcases List.mem_cons.1 hn with rfl | hn
        · exact groupP_range w _ hm
        · exact groupsF_range last r k hk n hn
      · cases h
theorem groups_range (s : List UInt8) (last : Bool) (l : List Int) (h : groups s last = some l) : ∀ n ∈ l, 0 ≤ n ∧ n < 65536 := by
  unfold groups at h
  split at h
  · injection h with h
    subst h
    intro n hn; cases hn
  · exact groupsF_range last _ l h
theorem v6_range (s : List UInt8) (v : List Int) (h : v6 s = some v) : v.length = 8 ∧ ∀ n ∈ v, 0 ≤ n ∧ n < 65536 := by
  unfold v6 at h
  split at h
  · split at h
    · rename_i l hl
      split at h
      · rename_i h8
        injection h with h
        subst h
        exact ⟨h8, groups_range s true _ hl⟩
      · cases h
    · cases h
  · rename_i a b _
    split at h
    · rename_i l m hl hm
      split at h
      · rename_i h7
        injection h with h
        subst h
        refine ⟨by simp; omega, fun n hn => ?_⟩
        rcases List.mem_append.1 hn with hn | hn
        · rcases List.mem_append.1 hn with hn | hn
          · exact groups_range a false l hl n hn
          · rw [(List.mem_replicate.1 hn).2]; decide
        · exact groups_range b true m hm n hn
      · cases h
    · cases h
theorem any_bad_head (s : List UInt8) (h : s.any bad = false) : s.head? ≠ some 91 := by
  cases s with
  | nil => simp
  | cons c l =>
    intro e
    rw [List.head?_cons] at e
    injection e with e
    subst e
    rw [List.any_cons] at h
    rw [show bad 91 = true from by decide] at h
    cases h
/-- what was read is written, and read again, as the same -/
theorem parse_back (s : List UInt8) (sp : Bool) (h : Host) (hp : parse s sp = some h) : parse (showP h) sp = some h := by
  rw [parse] at hp
  split at hp
  · split at hp
    · rw [Option.map_eq_some_iff] at hp
      obtain ⟨v, hv, rfl⟩ := hp
      obtain ⟨h1, h2⟩ := v6_range _ _ hv
      exact parse_show6 v sp h1 h2
    · cases hp
  · split at hp
    · rename_i hsp
      subst hsp
      split at hp
      · cases hp
      · rename_i hb
        split at hp
        · injection hp with hp
          subst hp
          rfl
        · rename_i hne
          injection hp with hp
          subst hp
          have hb2 := pEnc_bad s (eq_false_of_ne_true hb)
          show parse (pEnc s) false = _
          have hne2 : pEnc s ≠ [] := by
            cases s with
            | nil => exact absurd rfl hne
            | cons c l => rw [pEnc]; split <;> simp
          rw [parse, if_neg (any_bad_head _ hb2), if_pos rfl, hb2, if_neg (by decide), if_neg hne2, pEnc_enc]
    · rename_i hsp
      have hsp2 : sp = true := eq_true_of_ne_false hsp
      subst hsp2
      split at hp
      · cases hp
      · rename_i hok
        split at hp
        · rename_i hnum
          injection hp with hp
          subst hp
          show parse (lower (pDec s)) true = _
          obtain ⟨u, hu⟩ : ∃ u, lower (pDec s) = u := ⟨_, rfl⟩
          have hlow : lower u = u := by rw [← hu, lower_low]
          rw [hu] at hok hnum ⊢
          have hne : u ≠ [] := fun e => hok (.inl e)
          have hany : u.any (fun c => bad c || decide (c.toNat < 32) || decide (126 < c.toNat) || c == 37) = false := eq_false_of_ne_true fun e => hok (.inr e)
          rw [List.any_eq_false] at hany
          have hbad : u.any bad = false := by
            rw [List.any_eq_false]
            intro c hc
            have := hany c hc
            simp only [Bool.or_eq_true, not_or] at this
            exact this.1.1.1
          have h37 : ∀ c ∈ u, c ≠ 37 := fun c hc e => by
            have := hany c hc
            simp only [Bool.or_eq_true, not_or] at this
            exact this.2 (by rw [e]; rfl)
          rw [parse, if_neg (any_bad_head _ hbad), if_neg (by simp), pDec_no u h37, hlow, if_neg hok, if_pos hnum]
        · rw [Option.map_eq_some_iff] at hp
          obtain ⟨n, hn, rfl⟩ := hp
          obtain ⟨h1, h2⟩ := v4_range _ _ hn
          show parse (show4 n.toNat) true = _
          rw [parse_show4 n.toNat (by omega)]
          congr 2
          omega
end Hostp
end Go.Proofs.YtahjndignkhmoaaGreatDoor
