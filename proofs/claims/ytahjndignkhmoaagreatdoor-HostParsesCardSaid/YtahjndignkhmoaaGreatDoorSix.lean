/- Plain laws of package host: an address of eight is written, and read as just that. No program in sight. -/
import Derived.Test.YtahjndignkhmoaaGreatDoorFour
namespace Go.Proofs.YtahjndignkhmoaaGreatDoor
namespace Hostp
open Go

/-! ### numbers to a base -/
def digL (n : Nat) : UInt8 := if n < 10 then UInt8.ofNat (48 + n) else UInt8.ofNat (87 + n)
def repr (base : Nat) (n : Nat) : List UInt8 := if _h : n < base ∨ base < 2 then [digL n] else repr base (n / base) ++ [digL (n % base)]
termination_by n
decreasing_by exact Nat.div_lt_self (by omega) (by omega)
theorem repr_lo (base n : Nat) (h : n < base) : repr base n = [digL n] := by rw [repr, dif_pos (.inl h)]
theorem repr_hi (base n : Nat) (h : base ≤ n) (hb : 2 ≤ base) : repr base n = repr base (n / base) ++ [digL (n % base)] := by rw [repr, dif_neg (by omega)]
theorem digL_all : ∀ n : Fin 16, hex (digL n.val) = (n.val : Int) ∧ calm (digL n.val) = true ∧ digL n.val ≠ 46 ∧ digL n.val ≠ 58 ∧ lowB (digL n.val) = digL n.val := by decide
theorem digL_hex (n : Nat) (h : n < 16) : hex (digL n) = (n : Int) := (digL_all ⟨n, h⟩).1
theorem repr_ne (base n : Nat) : repr base n ≠ [] := by
  rw [repr]; split <;> simp
/-- whatever holds of all digits -/
theorem repr_mem (P : UInt8 → Prop) (base : Nat) (hP : ∀ d, d < base → P (digL d)) : ∀ n, 2 ≤ base → ∀ c ∈ repr base n, P c := by
  intro n hb
  induction n using Nat.strongRecOn with
  | _ n ih =>
    intro c hc
    by_cases h : n < base
    · rw [repr_lo base n h] at hc
      rw [List.mem_singleton.1 hc]; exact hP n h
    · rw [repr_hi base n (by omega) hb] at hc
      rcases List.mem_append.1 hc with hc | hc
      · exact ih (n / base) (Nat.div_lt_self (by omega) (by omega)) c hc
      · rw [List.mem_singleton.1 hc]; exact hP _ (Nat.mod_lt _ (by omega))
theorem value_app (base : Int) (l : List UInt8) (c : UInt8) : value base (l ++ [c]) = value base l * base + hex c := by
  unfold value
  rw [List.foldl_append]; rfl
theorem repr_value (base : Nat) (h2 : 2 ≤ base) (h16 : base ≤ 16) : ∀ n, value (base : Int) (repr base n) = (n : Int) := by
  intro n
  induction n using Nat.strongRecOn with
  | _ n ih =>
    by_cases h : n < base
    · rw [repr_lo base n h]
      show 0 * (base : Int) + hex (digL n) = n
      rw [digL_hex n (by omega)]; omega
    · rw [repr_hi base n (by omega) h2, value_app, ih (n / base) (Nat.div_lt_self (by omega) (by omega)), digL_hex _ (by have := Nat.mod_lt n (show 0 < base by omega); omega)]
      have := Nat.div_add_mod n base
      have e : ((n / base : Nat) : Int) * (base : Int) + ((n % base : Nat) : Int) = ((base * (n / base) + n % base : Nat) : Int) := by push_cast; rw [Int.mul_comm]
      rw [e, this]
theorem repr_all (base : Nat) (h2 : 2 ≤ base) (h16 : base ≤ 16) (n : Nat) : allB (base : Int) (repr base n) = true := by
  unfold allB
  rw [List.all_eq_true]
  refine repr_mem _ base (fun d hd => ?_) n h2
  unfold isDig
  rw [digL_hex d (by omega), decide_eq_true (by omega), decide_eq_true (by omega)]; rfl
theorem repr_len (base : Nat) (h2 : 2 ≤ base) : ∀ (k n : Nat), n < base ^ (k + 1) → (repr base n).length ≤ k + 1 := by
  intro k
  induction k with
  | zero => intro n h; rw [repr_lo base n (by simpa using h)]; exact Nat.le_refl _
  | succ k ih =>
    intro n h
    by_cases hn : n < base
    · rw [repr_lo base n hn]; simp
    · rw [repr_hi base n (by omega) h2, List.length_append]
      have := ih (n / base) (Nat.div_lt_of_lt_mul (by rw [← Nat.pow_succ']; exact h))
      simp; omega
theorem group_repr (n : Nat) (h : n < 65536) : groupP (repr 16 n) = some (n : Int) := by
  unfold groupP
  have hv : value 16 (repr 16 n) = (n : Int) := repr_value 16 (by decide) (by decide) n
  have ha : allB 16 (repr 16 n) = true := repr_all 16 (by decide) (by decide) n
  rw [if_neg, hv]
  rintro (q | q | q)
  · exact repr_ne 16 n q
  · have := repr_len 16 (by decide) 3 n h; omega
  · rw [ha] at q; cases q

/-! ### joined -/
def joinW (c : UInt8) : List (List UInt8) → List UInt8
  | [] => []
  | [w] => w
  | w :: x :: l => w ++ c :: joinW c (x :: l)
theorem splitOn_join (c : UInt8) : ∀ ws : List (List UInt8), ws ≠ [] → (∀ w ∈ ws, ∀ b ∈ w, b ≠ c) → splitOn c (joinW c ws) = ws
  | [], h, _ => absurd rfl h
  | [w], _, h => splitOn_no c w (h w (by simp))
  | w :: x :: l, _, h => by
    rw [joinW, splitOn_at c w _ (h w (by simp)), splitOn_join c (x :: l) (by simp) (fun y hy => h y (by simp [hy]))]
/-- a text that has no two colons behind each other, and does not begin with one -/
theorem cut2_word (w : List UInt8) (hw : ∀ b ∈ w, b ≠ 58) : cut2 w = none := by
  match w, hw with
  | [], _ => rfl
  | [_], _ => rfl
  | c :: d :: r, hw =>
    rw [cut2, if_neg (fun h => hw c (by simp) h.1), cut2_word (d :: r) (fun b hb => hw b (by simp [hb]))]; rfl
theorem cut2_word_colon (w r : List UInt8) (hw : ∀ b ∈ w, b ≠ 58) (h : r.head? ≠ some 58) : cut2 (w ++ 58 :: r) = (cut2 r).map fun x => (w ++ 58 :: x.1, x.2) := by
  match w, hw with
  | [], _ =>
    match r, h with
    | [], _ => rfl
    | d :: r, h =>
      rw [List.nil_append, cut2, if_neg (fun q => h (by rw [List.head?_cons, q.2]))]
      rfl
  | [c], hw =>
    show cut2 (c :: 58 :: r) = _
    rw [cut2, if_neg (fun q => hw c (by simp) q.1), show (58 : UInt8) :: r = [] ++ 58 :: r from rfl, cut2_word_colon [] r (by simp) h, Option.map_map]
    rfl
  | c :: d :: w, hw =>
    show cut2 (c :: d :: (w ++ 58 :: r)) = _
    rw [cut2, if_neg (fun q => hw c (by simp) q.1), show d :: (w ++ 58 :: r) = (d :: w) ++ 58 :: r from rfl, cut2_word_colon (d :: w) r (fun b hb => hw b (by simp [hb])) h, Option.map_map]
    rfl
theorem join_head (c : UInt8) : ∀ ws : List (List UInt8), (∀ w ∈ ws, w ≠ [] ∧ ∀ b ∈ w, b ≠ c) → (joinW c ws).head? ≠ some c
  | [], _ => by simp [joinW]
  | [w], h => by
    obtain ⟨h1, h2⟩ := h w (by simp)
    cases w with
    | nil => exact absurd rfl h1
    | cons a w => rw [joinW, List.head?_cons]; intro q; injection q with q; exact h2 a (by simp) q
  | w :: x :: l, h => by
    obtain ⟨h1, h2⟩ := h w (by simp)
    cases w with
    | nil => exact absurd rfl h1
    | cons a w => rw [joinW, List.cons_append, List.head?_cons]; intro q; injection q with q; exact h2 a (by simp) q
theorem cut2_join : ∀ ws : List (List UInt8), (∀ w ∈ ws, w ≠ [] ∧ ∀ b ∈ w, b ≠ 58) → cut2 (joinW 58 ws) = none
  | [], _ => rfl
  | [w], h => cut2_word w (h w (by simp)).2
  | w :: x :: l, h => by
    have hr : ∀ y ∈ x :: l, y ≠ [] ∧ ∀ b ∈ y, b ≠ 58 := fun y hy => h y (by simp [hy])
    rw [joinW, cut2_word_colon w _ (h w (by simp)).2 (join_head 58 _ hr), cut2_join (x :: l) hr]; rfl
theorem cut2_two (w r : List UInt8) (hw : ∀ b ∈ w, b ≠ 58) : cut2 (w ++ 58 :: 58 :: r) = some (w, r) := by
  match w, hw with
  | [], _ => rfl
  | [c], hw =>
    show cut2 (c :: 58 :: 58 :: r) = _
    rw [cut2, if_neg (fun q => hw c (by simp) q.1)]
    rfl
  | c :: d :: w, hw =>
    show cut2 (c :: d :: (w ++ 58 :: 58 :: r)) = _
    rw [cut2, if_neg (fun q => hw c (by simp) q.1), show d :: (w ++ 58 :: 58 :: r) = (d :: w) ++ 58 :: 58 :: r from rfl, cut2_two (d :: w) r (fun b hb => hw b (by simp [hb]))]
    rfl
theorem head_app (ws : List (List UInt8)) (r : List UInt8) (hne : ws ≠ []) (h : ∀ w ∈ ws, w ≠ [] ∧ ∀ b ∈ w, b ≠ 58) : (joinW 58 ws ++ r).head? ≠ some 58 := by
  have := join_head 58 ws h
  cases e : joinW 58 ws with
  | nil =>
    match ws, hne, h with
    | [w], _, h => exact absurd e (h w (by simp)).1
    | w :: x :: l, _, h =>
      rw [joinW] at e
      simp at e
  | cons a l =>
    rw [e] at this
    simpa using this
theorem cut2_joins : ∀ (ws : List (List UInt8)) (r : List UInt8), (∀ w ∈ ws, w ≠ [] ∧ ∀ b ∈ w, b ≠ 58) → cut2 (joinW 58 ws ++ 58 :: 58 :: r) = some (joinW 58 ws, r)
  | [], r, _ => rfl
  | [w], r, h => cut2_two w r (h w (by simp)).2
  | w :: x :: l, r, h => by
    have hr : ∀ y ∈ x :: l, y ≠ [] ∧ ∀ b ∈ y, b ≠ 58 := fun y hy => h y (by simp [hy])
    rw [joinW, List.append_assoc, List.cons_append, cut2_word_colon w _ (h w (by simp)).2 (head_app _ _ (by simp) hr), cut2_joins (x :: l) r hr]; rfl

/-! ### written, and read -/
def words (v : List Int) : List (List UInt8) := v.map fun n => repr 16 n.toNat
theorem words_ok (v : List Int) : ∀ w ∈ words v, w ≠ [] ∧ ∀ b ∈ w, b ≠ 58 := by
  intro w hw
  obtain ⟨n, _, rfl⟩ := List.mem_map.1 hw
  exact ⟨repr_ne _ _, repr_mem _ 16 (fun d hd => (digL_all ⟨d, hd⟩).2.2.2.1) _ (by decide)⟩
theorem words_no46 (n : Int) : ∀ b ∈ repr 16 n.toNat, b ≠ 46 := repr_mem _ 16 (fun d hd => (digL_all ⟨d, hd⟩).2.2.1) _ (by decide)
theorem groupsF_words (last : Bool) : ∀ v : List Int, (∀ n ∈ v, 0 ≤ n ∧ n < 65536) → groupsF last (words v) = some v
  | [], _ => rfl
  | n :: v, h => by
    have hn := h n (by simp)
    show groupsF last (repr 16 n.toNat :: words v) = _
    rw [groupsF, if_neg (fun q => words_no46 n 46 q.2.2 rfl), group_repr _ (by omega), groupsF_words last v (fun m hm => h m (by simp [hm]))]
    simp
    omega
theorem joinW_nil (ws : List (List UInt8)) (h : ∀ w ∈ ws, w ≠ [] ∧ ∀ b ∈ w, b ≠ (58 : UInt8)) : joinW 58 ws = [] ↔ ws = [] := by
  constructor
  · intro e
    match ws, h with
    | [], _ => rfl
    | [w], h => exact absurd e (h w (by simp)).1
    | w :: x :: l, h => rw [joinW] at e; simp at e
  · rintro rfl; rfl
theorem groups_words (last : Bool) (v : List Int) (h : ∀ n ∈ v, 0 ≤ n ∧ n < 65536) : groups (joinW 58 (words v)) last = some v := by
  unfold groups
  by_cases hv : v = []
  · subst hv; rfl
  · have hw : words v ≠ [] := fun e => hv (by simpa [words] using e)
    rw [if_neg (fun e => hw ((joinW_nil _ (words_ok v)).1 e)), splitOn_join 58 _ hw (fun w hw => (words_ok v w hw).2), groupsF_words last v h]

/-- how many noughts stand ahead -/
def noughts : List Int → Nat
  | [] => 0
  | n :: l => if n = 0 then noughts l + 1 else 0
theorem noughts_take : ∀ l : List Int, l.take (noughts l) = List.replicate (noughts l) 0 ∧ noughts l ≤ l.length
  | [] => ⟨rfl, Nat.le_refl _⟩
  | n :: l => by
    obtain ⟨h1, h2⟩ := noughts_take l
    unfold noughts
    split
    · rename_i h
      subst h
      refine ⟨by rw [List.take_succ_cons, h1]; rfl, by simp; omega⟩
    · exact ⟨rfl, Nat.zero_le _⟩
/-- the first of the longest runs: where, how long (from place i on) -/
def longs (v : List Int) : List Nat := (List.range 9).map fun i => noughts (v.drop i)
def mostOf (v : List Int) : Nat := (longs v).foldl max 0
def atOf (v : List Int) : Nat := (longs v).findIdx (· == mostOf v)
def show6 (v : List Int) : List UInt8 :=
  if mostOf v < 2 then joinW 58 (words v) else joinW 58 (words (v.take (atOf v))) ++ 58 :: 58 :: joinW 58 (words (v.drop (atOf v + mostOf v)))
theorem foldl_max_mem : ∀ (l : List Nat) (a : Nat), l.foldl max a = a ∨ l.foldl max a ∈ l
  | [], a => .inl rfl
  | b :: l, a => by
    rcases foldl_max_mem l (max a b) with h | h
    · show l.foldl max (max a b) = a ∨ _
      rw [h]
      by_cases q : a ≤ b
      · right; show l.foldl max (max a b) ∈ b :: l
        rw [h, Nat.max_eq_right q]; simp
      · left; omega
    · right; exact List.mem_cons_of_mem _ h
theorem at_ok (v : List Int) (h : 0 < mostOf v) : atOf v < 9 ∧ noughts (v.drop (atOf v)) = mostOf v := by
  have hm : mostOf v ∈ longs v := by
    rcases foldl_max_mem (longs v) 0 with q | q
    · unfold mostOf at h; omega
    · exact q
  have hlt : atOf v < (longs v).length := List.findIdx_lt_length_of_exists ⟨_, hm, by simp⟩
  have hv : ((longs v)[atOf v]'hlt == mostOf v) = true := List.findIdx_getElem (w := hlt)
  have hl : (longs v).length = 9 := by simp [longs]
  refine ⟨by omega, ?_⟩
  have hk : ∀ k (hk : k < (longs v).length), (longs v)[k]'hk = noughts (v.drop k) := fun k hk => by simp [longs]
  rw [hk] at hv
  exact beq_iff_eq.1 hv
theorem v6_show6 (v : List Int) (hl : v.length = 8) (h : ∀ n ∈ v, 0 ≤ n ∧ n < 65536) : v6 (show6 v) = some v := by
  unfold show6
  split
  · rw [v6, cut2_join _ (words_ok v)]
    simp only
    rw [groups_words true v h]
    simp [hl]
  · rename_i hm
    obtain ⟨h1, h2⟩ := at_ok v (by omega)
    obtain ⟨h3, h4⟩ := noughts_take (v.drop (atOf v))
    rw [h2] at h3 h4
    rw [List.length_drop, hl] at h4
    rw [v6, cut2_joins _ _ (words_ok _)]
    simp only
    rw [groups_words false _ (fun n hn => h n (List.mem_of_mem_take hn)), groups_words true _ (fun n hn => h n (List.mem_of_mem_drop hn))]
    simp only [List.length_take, List.length_drop, hl]
    rw [Nat.min_eq_left (by omega), if_pos (by omega)]
    have e : 8 - atOf v - (8 - (atOf v + mostOf v)) = mostOf v := by omega
    refine congrArg some ?_
    rw [e, ← h3, List.append_assoc, ← List.drop_drop]
    rw [List.take_append_drop, List.take_append_drop]
theorem parse_show6 (v : List Int) (sp : Bool) (hl : v.length = 8) (h : ∀ n ∈ v, 0 ≤ n ∧ n < 65536) : parse (91 :: (show6 v ++ [93])) sp = some (.eight v) := by
  unfold parse
  rw [if_pos (show (91 :: (show6 v ++ [93])).head? = some 91 from rfl), if_pos]
  · rw [List.drop_succ_cons, List.drop_zero, List.dropLast_concat, v6_show6 v hl h]; rfl
  · refine ⟨by rw [← List.cons_append, List.getLast?_concat], by simp⟩
end Hostp
end Go.Proofs.YtahjndignkhmoaaGreatDoor
