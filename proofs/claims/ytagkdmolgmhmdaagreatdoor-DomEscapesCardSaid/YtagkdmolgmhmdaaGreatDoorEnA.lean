/- Words and small laws of mine for the walks: strings as lists of bytes in the walk's own rules; a post behind a name. -/
import Derived.Test.YtagkdmolgmhmdaaGreatDoorProg
import Derived.WalkKit
import Derived.WalkLawsBesides
import Derived.WalkSpells
import Derived.Deep.LoopGhost
import Derived.Lib.Hide
import Derived.Lib.Strings
import Derived.Lib.IndexBytes
import Derived.Outline
import Derived.Test.YtagkdmolgmhmdaaGreatDoorEnLaws
namespace Go.Proofs.YtagkdmolgmhmdaaGreatDoor.En
open Go.RowKit

theorem hide {p : Prop} (h : p) : Hid p := h

/-! ### strings as lists -/
theorem bl_get (l : List UInt8) (i : Nat) (h : i < (⟨l.toArray⟩ : ByteArray).size) : (⟨l.toArray⟩ : ByteArray)[i]'h = l[i]'(by simpa [ByteArray.size] using h) := rfl
theorem bl_extract (l : List UInt8) (a b : Nat) : (⟨l.toArray⟩ : ByteArray).extract a b = ⟨((l.drop a).take (b - a)).toArray⟩ := Lib.extract_eq _ _ _
theorem bl_toList (l : List UInt8) : (⟨l.toArray⟩ : ByteArray).toList = l := by rw [Lib.toList_data]
theorem bl_append (l m : List UInt8) : (⟨l.toArray⟩ : ByteArray) ++ (⟨m.toArray⟩ : ByteArray) = ⟨(l ++ m).toArray⟩ := by
  apply ByteArray.ext
  rw [ByteArray.data_append]
  exact Array.ext' (by simp)
theorem bl_size (l : List UInt8) : (⟨l.toArray⟩ : ByteArray).size = l.length := by simp [ByteArray.size]
theorem bl_td (l : List UInt8) (a : Nat) : List.take (l.length - a) (List.drop a l) = List.drop a l := List.take_of_length_le (by simp)
attribute [go_sem] bl_get bl_extract bl_toList bl_append bl_td
theorem bl_of (s : ByteArray) : ∃ l : List UInt8, s = ⟨l.toArray⟩ ∧ s.size = l.length := ⟨s.data.toList, (Lib.mk_data s).symm, Lib.size_eq s⟩

/-- the value of a text -/
abbrev S (l : List UInt8) : Value := .string ⟨l.toArray⟩
abbrev B8 (c : UInt8) : Value := .int .u8 (c.toNat : Int)

/-! ### posts -/
/-- it hands v back and the world is as it was -/
def Ret (v : Value) (w : World) (e : Ending) (w' : World) : Prop := e = .returned v ∧ w = w'
theorem Ret.of {u v : Value} {w : World} (h : u = v) : Ret v w (.returned u) w := ⟨by rw [h], rfl⟩
theorem v_b {a b : Bool} (h : a = b) : Value.bool a = .bool b := by rw [h]
theorem v_i {k : IntKind} {a b : Int} (h : a = b) : Value.int k a = .int k b := by rw [h]
theorem v_s {a b : List UInt8} (h : a = b) : S a = S b := by rw [h]

/-- it hands v back; what was there before stands as it was -/
def Fresh (v : Value) (w : World) (e : Ending) (w' : World) : Prop := e = .returned v ∧ Below w.heap.size w w'
theorem Ret.fresh {v : Value} {w : World} {e : Ending} {w' : World} (h : Ret v w e w') : Fresh v w e w' := ⟨h.1, by rw [← h.2]; exact Below.refl _ _⟩

/-! ### bytes against numbers -/
theorem u8_inj {a b : UInt8} (h : (a.toNat : Int) = (b.toNat : Int)) : a = b := by
  have h' : a.toNat = b.toNat := by omega
  rw [← UInt8.ofNat_toNat (x := a), h', UInt8.ofNat_toNat]
theorem u8_beq (a b : UInt8) : ((a.toNat : Int) == (b.toNat : Int)) = (a == b) := by
  rw [Bool.eq_iff_iff, beq_iff_eq, beq_iff_eq]
  exact ⟨u8_inj, fun h => by rw [h]⟩
theorem u8_bne (a b : UInt8) : ((a.toNat : Int) != (b.toNat : Int)) = (a != b) := by
  rw [bne, u8_beq]; rfl
theorem u8_eq (c : UInt8) (n : Nat) (hn : n < 256) : ((c.toNat : Int) == (n : Int)) = (c == UInt8.ofNat n) := by
  rw [← u8_beq, UInt8.toNat_ofNat_of_lt' hn]
theorem u8_lt (c : UInt8) : (c.toNat : Int) < 256 := by have := c.toNat_lt; omega
theorem u8_nonneg (c : UInt8) : (0 : Int) ≤ (c.toNat : Int) := by omega
end Go.Proofs.YtagkdmolgmhmdaaGreatDoor.En
namespace Go.Proofs.YtagkdmolgmhmdaaGreatDoor.En
open Go.RowKit

theorem or_all : ∀ n : Fin 256, bits BinOp.or .i32 (n.val : Int) 32 = (((n.val ||| 32 : Nat)) : Int) ∧ (97 ≤ (n.val ||| 32) ∧ (n.val ||| 32) ≤ 122 ↔ (65 ≤ n.val ∧ n.val ≤ 90) ∨ (97 ≤ n.val ∧ n.val ≤ 122)) ∧
    ((65 ≤ n.val ∧ n.val ≤ 90) → (n.val ||| 32) = n.val + 32) ∧ ((97 ≤ n.val ∧ n.val ≤ 122) → (n.val ||| 32) = n.val) := by decide +kernel
theorem or_low (c : UInt8) : ∃ m : Nat, bits BinOp.or .i32 (c.toNat : Int) 32 = (m : Int) ∧ (97 ≤ m ∧ m ≤ 122 ↔ (65 ≤ c.toNat ∧ c.toNat ≤ 90) ∨ (97 ≤ c.toNat ∧ c.toNat ≤ 122)) ∧
    ((65 ≤ c.toNat ∧ c.toNat ≤ 90) → m = c.toNat + 32) ∧ ((97 ≤ c.toNat ∧ c.toNat ≤ 122) → m = c.toNat) := by
  obtain ⟨h1, h2, h3, h4⟩ := or_all ⟨c.toNat, c.toNat_lt⟩
  exact ⟨_, h1, h2, h3, h4⟩

def isAlpha (c : UInt8) : Bool := decide (65 ≤ c.toNat) && decide (c.toNat ≤ 90) || decide (97 ≤ c.toNat) && decide (c.toNat ≤ 122)
def isDigit (c : UInt8) : Bool := decide (48 ≤ c.toNat) && decide (c.toNat ≤ 57)
theorem isAlpha_iff (c : UInt8) : isAlpha c = true ↔ (65 ≤ c.toNat ∧ c.toNat ≤ 90) ∨ (97 ≤ c.toNat ∧ c.toNat ≤ 122) := by simp [isAlpha]
theorem isDigit_iff (c : UInt8) : isDigit c = true ↔ (48 ≤ c.toNat ∧ c.toNat ≤ 57) := by simp [isDigit]
theorem alnum_eq (c : UInt8) : Entp.alnum c = (isAlpha c || isDigit c) := rfl

theorem tDigit (c : UInt8) (w : World) : Calls Tryz.prog 92 #[.int .i32 c.toNat] w (Ret (.bool (isDigit c)) w) := by
  go_enter Tryz.func92, Tryz.ntmps92
  go_wp2
  all_goals go_ret
  all_goals exact Ret.of (v_b (by rw [Bool.eq_iff_iff, isDigit_iff]; simp only [decide_eq_true_eq, Bool.false_eq_true, false_iff]; omega))
theorem tAlpha (c : UInt8) (w : World) : Calls Tryz.prog 91 #[.int .i32 c.toNat] w (Ret (.bool (isAlpha c)) w) := by
  obtain ⟨m, h1, h2, _, _⟩ := or_low c
  go_enter Tryz.func91, Tryz.ntmps91
  go_wp2
  all_goals go_ret
  all_goals exact Ret.of (v_b (by rw [Bool.eq_iff_iff, isAlpha_iff]; simp only [decide_eq_true_eq, Bool.false_eq_true, false_iff]; omega))
set_option maxRecDepth 100000 in
set_option maxRecDepth 100000 in
set_option maxRecDepth 100000 in
theorem tHex (c : UInt8) (w : World) : Calls Tryz.prog 86 #[.int .i32 c.toNat] w (Ret (.int .i64 (Entp.hex c)) w) := by
  obtain ⟨m, h1, h2, h3, h4⟩ := or_low c
  have hc := u8_lt c
  go_enter Tryz.func86, Tryz.ntmps86
  go_wp2_with fail
  refine (tDigit c _).mono ?_
  rintro e w' ⟨rfl, rfl⟩
  cases hd : isDigit c
  · go_wp2_with fail
    refine (tAlpha c _).mono ?_
    rintro e w' ⟨rfl, rfl⟩
    cases ha : isAlpha c
    · go_wp2_with fail
      go_ret
      refine Ret.of (v_i ?_)
      have a1 : ¬ ((65 ≤ c.toNat ∧ c.toNat ≤ 90) ∨ (97 ≤ c.toNat ∧ c.toNat ≤ 122)) := fun h => by rw [(isAlpha_iff c).2 h] at ha; cases ha
      have a2 : ¬ (48 ≤ c.toNat ∧ c.toNat ≤ 57) := fun h => by rw [(isDigit_iff c).2 h] at hd; cases hd
      unfold Entp.hex
      rw [if_neg a2, if_neg (fun h => a1 (by omega)), if_neg (fun h => a1 (by omega))]
    · have H3 := hide h3
      have H4 := hide h4
      clear h3 h4
      have a1 := (isAlpha_iff c).1 ha
      have a2 : ¬ (48 ≤ c.toNat ∧ c.toNat ≤ 57) := fun h => by rw [(isDigit_iff c).2 h] at hd; cases hd
      have hm : 97 ≤ m ∧ m ≤ 122 := h2.2 a1
      clear h2
      go_wp2_with fail
      all_goals go_ret
      all_goals refine Ret.of (v_i ?_)
      all_goals have h3 := H3.out
      all_goals have h4 := H4.out
      all_goals have h3 := H3.out
      all_goals have h4 := H4.out
      all_goals have h3 := H3.out
      all_goals have h4 := H4.out
      all_goals unfold Entp.hex
      all_goals rw [if_neg a2]
      all_goals (split; (go_num <;> omega))
      all_goals (split; (go_num <;> omega))
      all_goals (go_num <;> omega)
  · have a2 := (isDigit_iff c).1 hd
    go_wp2_with fail
    go_ret
    refine Ret.of (v_i ?_)
    unfold Entp.hex
    rw [if_pos a2]
theorem alnum (c : UInt8) (w : World) : Calls Tryz.prog 75 #[B8 c] w (Ret (.bool (Entp.alnum c)) w) := by
  have hc := u8_lt c
  go_enter Tryz.func75, Tryz.ntmps75
  go_wp2_with fail
  refine (tAlpha c _).mono ?_
  rintro e w' ⟨rfl, rfl⟩
  cases ha : isAlpha c
  · go_wp2_with fail
    refine (tDigit c _).mono ?_
    rintro e w' ⟨rfl, rfl⟩
    go_wp2_with fail
    go_ret
    exact Ret.of (v_b (by rw [alnum_eq, ha]; rfl))
  · go_wp2_with fail
    go_ret
    exact Ret.of (v_b (by rw [alnum_eq, ha]; rfl))

theorem lets_drop {l : List UInt8} {i : Nat} {x : UInt8} (h : l[i]? = some x) : Entp.lets (l.drop i) = if Entp.alnum x = true then Entp.lets (l.drop (i + 1)) + 1 else 0 := by
  have hlt : i < l.length := by rcases Nat.lt_or_ge i l.length with h' | h'; exact h'; rw [List.getElem?_eq_none h'] at h; cases h
  rw [List.drop_eq_getElem_cons hlt, Entp.lets]
  rw [List.getElem?_eq_getElem hlt] at h
  rw [Option.some.inj h]
theorem letters (l : List UInt8) (n : Nat) (w : World) (hl : l.length ≤ maxLen) (hn : Hid (Entp.lets l = n)) :
    Calls Tryz.prog 89 #[S l] w (Ret (.int .i64 n) w) := by
  unfold maxLen at hl
  go_enter Tryz.func89, Tryz.ntmps89
  go_wp2_with fail
  go_loopg [3] l.length (fun g s3 wx => ∃ i : Nat, i + g = l.length ∧ s3 = .int .i64 i ∧ w = wx ∧ Hid (n = i + Entp.lets (l.drop i)))
  case atStart => exact ⟨0, by omega, rfl, rfl, by unfold Hid; simpa using hn.out.symm⟩
  case round =>
    obtain ⟨i, hi, rfl, rfl, hd⟩ := hrel
    by_cases hlt : i < l.length
    · obtain ⟨x, hx⟩ : ∃ x, l[i] = x := ⟨_, rfl⟩
      have hx? : Hid (l[i]? = some x) := by unfold Hid; rw [List.getElem?_eq_getElem hlt, hx]
      go_wp2_with fail
      refine (alnum x _).mono ?_
      rintro e w' ⟨rfl, rfl⟩
      cases ha : Entp.alnum x
      · go_wp2_with fail
        go_ret
        refine Ret.of (v_i ?_)
        have := hd.out
        rw [lets_drop hx?.out, ha, if_neg (by decide)] at this
        omega
      · go_wp2_with fail
        go_roundg (gk - 1)
        case measure => omega
        case rel =>
          refine ⟨i + 1, by omega, by go_num, rfl, ?_⟩
          have := hd.out
          rw [lets_drop hx?.out, ha, if_pos rfl] at this
          unfold Hid; omega
    · obtain rfl : i = l.length := by omega
      go_wp2_with fail
      go_ret
      refine Ret.of (v_i ?_)
      have := hd.out
      rw [List.drop_length, Entp.lets] at this
      omega

theorem clip_snoc (f b : Int) (x : UInt8) : ∀ (m : List UInt8) (n : Int), Entp.clip f b n (m ++ [x]) = min (Entp.clip f b n m * b + Entp.hex x) f
  | [], _ => rfl
  | c :: m, n => by rw [List.cons_append, Entp.clip, clip_snoc f b x m, Entp.clip]
theorem many_drop {b : Int} {l : List UInt8} {i : Nat} {x : UInt8} (h : l[i]? = some x) : Entp.many b (l.drop i) = if Entp.isDig b x = true then Entp.many b (l.drop (i + 1)) + 1 else 0 := by
  have hlt : i < l.length := by rcases Nat.lt_or_ge i l.length with h' | h'; exact h'; rw [List.getElem?_eq_none h'] at h; cases h
  rw [List.drop_eq_getElem_cons hlt, Entp.many]
  rw [List.getElem?_eq_getElem hlt] at h
  rw [Option.some.inj h]
theorem hex_ge (c : UInt8) : -1 ≤ Entp.hex c ∧ Entp.hex c ≤ 15 := by
  unfold Entp.hex
  repeat' split
  all_goals omega
set_option maxRecDepth 100000 in
theorem digits10 (l : List UInt8) (n : Int) (k : Nat) (w : World) (hl : l.length ≤ maxLen) (hk : Hid (Entp.many 10 l = k)) (hn : Hid (Entp.clip 2097152 10 0 (l.take (Entp.many 10 l)) = n)) :
    Calls Tryz.prog 71 #[S l, .int .i64 10] w (Ret (.tuple #[.int .i64 n, .int .i64 k]) w) := by
  unfold maxLen at hl
  go_enter Tryz.func71, Tryz.ntmps71
  go_wp2_with fail
  go_loopg [4, 5] l.length (fun g s4 s5 wx => ∃ (i : Nat) (m : Int), i + g = l.length ∧ s4 = .int .i64 m ∧ s5 = .int .i64 i ∧ w = wx ∧ 0 ≤ m ∧ m ≤ 2097152 ∧ Hid (m = Entp.clip 2097152 10 0 (l.take i)) ∧ Hid (k = i + Entp.many 10 (l.drop i)))
  case atStart => exact ⟨0, 0, by omega, rfl, rfl, rfl, by omega, by omega, rfl, by unfold Hid; simpa using hk.out.symm⟩
  case round =>
    obtain ⟨i, m, hi, rfl, rfl, rfl, hm0, hm1, hm, hd⟩ := hrel
    by_cases hlt : i < l.length
    · obtain ⟨x, hx⟩ : ∃ x, l[i] = x := ⟨_, rfl⟩
      have hx? : Hid (l[i]? = some x) := by unfold Hid; rw [List.getElem?_eq_getElem hlt, hx]
      obtain ⟨y0, y1⟩ := hex_ge x
      have hc := u8_lt x
      go_wp2_with fail
      refine (tHex x _).mono ?_
      rintro e w' ⟨rfl, rfl⟩
      obtain ⟨y, hy⟩ : ∃ y, Entp.hex x = y := ⟨_, rfl⟩
      rw [hy] at y0 y1 ⊢
      have HY := hide hy
      clear hy hx
      by_cases hyb : 0 ≤ y ∧ y < 10
      · obtain ⟨hy0, hy1⟩ := hyb
        have hdig : Entp.isDig 10 x = true := by rw [Entp.isDig, HY.out]; simp [hy0, hy1]
        have HD := hide hdig
        clear hdig
        have h1 : Hid (k = i + 1 + Entp.many 10 (l.drop (i + 1))) := by
          have h1 := hd.out
          rw [many_drop hx?.out, if_pos HD.out] at h1
          unfold Hid; omega
        have hm2 : Hid (min (m * 10 + y) 2097152 = Entp.clip 2097152 10 0 (l.take (i + 1))) := by
          unfold Hid
          rw [List.take_add_one, hx?.out, Option.toList, clip_snoc, ← hm.out, HY.out]
        by_cases hq : m * 10 + y ≤ 2097152
        · go_wp2_with fail
          go_roundg (gk - 1)
          case measure => omega
          case rel => exact ⟨i + 1, m * 10 + y, by omega, by go_num, by go_num, rfl, by omega, by omega, by unfold Hid; rw [← hm2.out]; omega, h1⟩
        · go_wp2_with fail
          go_roundg (gk - 1)
          case measure => omega
          case rel => exact ⟨i + 1, 2097152, by omega, by go_num, by go_num, rfl, by omega, by omega, by unfold Hid; rw [← hm2.out]; omega, h1⟩
      · have hdig : Entp.isDig 10 x = false := by rw [Entp.isDig, HY.out]; simp; omega
        have HD := hide hdig
        have h1 := hd.out
        rw [many_drop hx?.out, HD.out, if_neg (by decide)] at h1
        have hki : k = i := by omega
        subst hki
        clear hdig h1
        go_wp2_with fail
        all_goals refine bodyPost_ret (v := .tuple #[.int .i64 m, .int .i64 k]) (by simp [results, Tryz.results71, go_sem]) rfl ?_
        all_goals exact Ret.of (by rw [← hn.out, hk.out, ← hm.out])
    · obtain rfl : i = l.length := by omega
      have h1 := hd.out
      rw [List.drop_length, Entp.many, Nat.add_zero] at h1
      subst h1
      go_wp2_with fail
      refine bodyPost_ret (v := .tuple #[.int .i64 m, .int .i64 l.length]) (by simp [results, Tryz.results71, go_sem]) rfl ?_
      exact Ret.of (by rw [← hn.out, hk.out, ← hm.out])
set_option maxRecDepth 100000 in
theorem digits16 (l : List UInt8) (n : Int) (k : Nat) (w : World) (hl : l.length ≤ maxLen) (hk : Hid (Entp.many 16 l = k)) (hn : Hid (Entp.clip 2097152 16 0 (l.take (Entp.many 16 l)) = n)) :
    Calls Tryz.prog 71 #[S l, .int .i64 16] w (Ret (.tuple #[.int .i64 n, .int .i64 k]) w) := by
  unfold maxLen at hl
  go_enter Tryz.func71, Tryz.ntmps71
  go_wp2_with fail
  go_loopg [4, 5] l.length (fun g s4 s5 wx => ∃ (i : Nat) (m : Int), i + g = l.length ∧ s4 = .int .i64 m ∧ s5 = .int .i64 i ∧ w = wx ∧ 0 ≤ m ∧ m ≤ 2097152 ∧ Hid (m = Entp.clip 2097152 16 0 (l.take i)) ∧ Hid (k = i + Entp.many 16 (l.drop i)))
  case atStart => exact ⟨0, 0, by omega, rfl, rfl, rfl, by omega, by omega, rfl, by unfold Hid; simpa using hk.out.symm⟩
  case round =>
    obtain ⟨i, m, hi, rfl, rfl, rfl, hm0, hm1, hm, hd⟩ := hrel
    by_cases hlt : i < l.length
    · obtain ⟨x, hx⟩ : ∃ x, l[i] = x := ⟨_, rfl⟩
      have hx? : Hid (l[i]? = some x) := by unfold Hid; rw [List.getElem?_eq_getElem hlt, hx]
      obtain ⟨y0, y1⟩ := hex_ge x
      have hc := u8_lt x
      go_wp2_with fail
      refine (tHex x _).mono ?_
      rintro e w' ⟨rfl, rfl⟩
      obtain ⟨y, hy⟩ : ∃ y, Entp.hex x = y := ⟨_, rfl⟩
      rw [hy] at y0 y1 ⊢
      have HY := hide hy
      clear hy hx
      by_cases hyb : 0 ≤ y ∧ y < 16
      · obtain ⟨hy0, hy1⟩ := hyb
        have hdig : Entp.isDig 16 x = true := by rw [Entp.isDig, HY.out]; simp [hy0, hy1]
        have HD := hide hdig
        clear hdig
        have h1 : Hid (k = i + 1 + Entp.many 16 (l.drop (i + 1))) := by
          have h1 := hd.out
          rw [many_drop hx?.out, if_pos HD.out] at h1
          unfold Hid; omega
        have hm2 : Hid (min (m * 16 + y) 2097152 = Entp.clip 2097152 16 0 (l.take (i + 1))) := by
          unfold Hid
          rw [List.take_add_one, hx?.out, Option.toList, clip_snoc, ← hm.out, HY.out]
        by_cases hq : m * 16 + y ≤ 2097152
        · go_wp2_with fail
          go_roundg (gk - 1)
          case measure => omega
          case rel => exact ⟨i + 1, m * 16 + y, by omega, by go_num, by go_num, rfl, by omega, by omega, by unfold Hid; rw [← hm2.out]; omega, h1⟩
        · go_wp2_with fail
          go_roundg (gk - 1)
          case measure => omega
          case rel => exact ⟨i + 1, 2097152, by omega, by go_num, by go_num, rfl, by omega, by omega, by unfold Hid; rw [← hm2.out]; omega, h1⟩
      · have hdig : Entp.isDig 16 x = false := by rw [Entp.isDig, HY.out]; simp; omega
        have HD := hide hdig
        have h1 := hd.out
        rw [many_drop hx?.out, HD.out, if_neg (by decide)] at h1
        have hki : k = i := by omega
        subst hki
        clear hdig h1
        go_wp2_with fail
        all_goals refine bodyPost_ret (v := .tuple #[.int .i64 m, .int .i64 k]) (by simp [results, Tryz.results71, go_sem]) rfl ?_
        all_goals exact Ret.of (by rw [← hn.out, hk.out, ← hm.out])
    · obtain rfl : i = l.length := by omega
      have h1 := hd.out
      rw [List.drop_length, Entp.many, Nat.add_zero] at h1
      subst h1
      go_wp2_with fail
      refine bodyPost_ret (v := .tuple #[.int .i64 m, .int .i64 l.length]) (by simp [results, Tryz.results71, go_sem]) rfl ?_
      exact Ret.of (by rw [← hn.out, hk.out, ← hm.out])
end Go.Proofs.YtagkdmolgmhmdaaGreatDoor.En
