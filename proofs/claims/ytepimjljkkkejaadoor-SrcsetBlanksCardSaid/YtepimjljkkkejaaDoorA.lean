/- The leaves of the srcset seat: blanks, digits, words cut, and what is a number. -/
import Derived.Test.YtepimjljkkkejaaDoorBase
import Derived.Test.YtepimjljkkkejaaDoorPlain
namespace Go.Proofs.YtepimjljkkkejaaDoor
open Go.RowKit

theorem sp_int (c : UInt8) : Srcp.sp c = ((c.toNat : Int) == 9 || (c.toNat : Int) == 10 || (c.toNat : Int) == 12 || (c.toNat : Int) == 13 || (c.toNat : Int) == 32) := by
  have h9 : ((c.toNat : Int) == 9) = (c == 9) := u8_eq c 9 (by decide)
  have h10 : ((c.toNat : Int) == 10) = (c == 10) := u8_eq c 10 (by decide)
  have h12 : ((c.toNat : Int) == 12) = (c == 12) := u8_eq c 12 (by decide)
  have h13 : ((c.toNat : Int) == 13) = (c == 13) := u8_eq c 13 (by decide)
  have h32 : ((c.toNat : Int) == 32) = (c == 32) := u8_eq c 32 (by decide)
  rw [h9, h10, h12, h13, h32]
  rfl
theorem dig_int (c : UInt8) : Srcp.dig c = true ↔ (48 : Int) ≤ (c.toNat : Int) ∧ (c.toNat : Int) ≤ 57 := by
  unfold Srcp.dig
  simp only [Bool.and_eq_true, decide_eq_true_eq, UInt8.le_iff_toNat_le]
  have h48 : (48 : UInt8).toNat = 48 := rfl
  have h57 : (57 : UInt8).toNat = 57 := rfl
  rw [h48, h57]
  omega
theorem dig_no {c : UInt8} (h : Srcp.dig c = false) : ¬ ((48 : Int) ≤ (c.toNat : Int) ∧ (c.toNat : Int) ≤ 57) := fun h' => by
  rw [(dig_int c).2 h'] at h; cases h

theorem space_any (c : Int) (w : World) : Calls Tryd.prog 47 #[.int .i32 c] w (Ret (.bool (c == 9 || c == 10 || c == 12 || c == 13 || c == 32)) w) := by
  go_enter Tryd.func47, Tryd.ntmps47
  go_wp2
  all_goals go_ret
  all_goals exact Ret.of (v_b (by simp [*]))
theorem rspace_any (c : Int) (w : World) : Calls Tryd.prog 32 #[.int .i32 c] w (Ret (.bool (c == 9 || c == 10 || c == 12 || c == 13 || c == 32)) w) := by
  go_enter Tryd.func32, Tryd.ntmps32
  go_wp2
  all_goals go_ret
  all_goals exact Ret.of (v_b (by simp [*]))
theorem space_u8 (c : UInt8) (w : World) : Calls Tryd.prog 47 #[.int .i32 (c.toNat : Int)] w (Ret (.bool (Srcp.sp c)) w) := by
  rw [sp_int]; exact space_any _ w
theorem rspace_u8 (c : UInt8) (w : World) : Calls Tryd.prog 32 #[.int .i32 (c.toNat : Int)] w (Ret (.bool (Srcp.sp c)) w) := by
  rw [sp_int]; exact rspace_any _ w

theorem r13space (c : UInt8) (w : World) : Calls Tryd.prog 17 #[B8 c] w (Ret (.bool (Srcp.sp c)) w) := by
  have hc := u8_lt c
  go_enter Tryd.func17, Tryd.ntmps17
  go_wp2_with (go_at_call 32; refine (rspace_u8 c _).mono ?_; rintro e w' ⟨rfl, rfl⟩)
  go_ret
  exact Ret.of rfl

theorem r13digits (l : List UInt8) (a : Int) (m : Nat) (w : World) (hs : l.length ≤ maxLen) (h0 : 0 ≤ a) (ha : a ≤ l.length) (hm : Hid (Srcp.digits (l.drop a.toNat) = m)) :
    Calls Tryd.prog 56 #[S l, .int .i64 a] w (Ret (.int .i64 m) w) := by
  unfold maxLen at hs
  obtain ⟨a, rfl⟩ := Int.eq_ofNat_of_zero_le h0
  rw [Int.toNat_natCast] at hm
  clear h0
  go_enter Tryd.func56, Tryd.ntmps56
  go_wp2
  go_loopg [5] (l.length - a) (fun g s5 wx => ∃ n : Nat, a + n + g = l.length ∧ s5 = .int .i64 n ∧ w = wx ∧ Hid (m = n + Srcp.digits (l.drop (a + n))))
  case atStart => exact ⟨0, by omega, rfl, rfl, by unfold Hid; simpa using hm.out.symm⟩
  case round =>
    obtain ⟨n, hn, rfl, rfl, hd⟩ := hrel
    by_cases hlt : a + n < l.length
    · obtain ⟨x, hx⟩ : ∃ x, l[a + n] = x := ⟨_, rfl⟩
      have HD : Hid (l.drop (a + n) = x :: l.drop (a + n + 1)) := by unfold Hid; rw [← hx]; exact List.drop_eq_getElem_cons hlt
      cases hdx : Srcp.dig x
      · have h := dig_no hdx
        have HX := hide hdx
        clear hdx
        go_wp2
        all_goals go_ret
        all_goals exact Ret.of (v_i (by rw [hd.out, HD.out]; simp [Srcp.digits, HX.out]))
      · obtain ⟨h1, h2⟩ := (dig_int x).1 hdx
        have HX := hide hdx
        clear hdx
        go_wp2
        go_roundg (gk - 1)
        case measure => omega
        case rel => exact ⟨n + 1, by omega, by go_num, rfl, by unfold Hid; rw [hd.out, HD.out]; simp [Srcp.digits, HX.out, Nat.add_assoc, Nat.add_comm]⟩
    · have hdn : l.drop (a + n) = [] := List.drop_eq_nil_of_le (by omega)
      have HD := hide hdn
      clear hdn
      go_wp2
      go_ret
      exact Ret.of (v_i (by rw [hd.out, HD.out]; simp [Srcp.digits]))

theorem getLast_at (l : List UInt8) (h : l ≠ []) : l.getLast? = some (l[l.length - 1]'(by have := List.length_pos_iff.2 h; omega)) := by
  rw [List.getLast?_eq_getElem?, List.getElem?_eq_getElem]

theorem r13cut_no (l : List UInt8) (c : UInt8) (w : World) (hs : l.length ≤ maxLen) (hc : Srcp.cut l c = none) :
    Calls Tryd.prog 33 #[S l, B8 c] w (Ret (.tuple #[S [], .bool false]) w) := by
  unfold maxLen at hs
  by_cases hl : l = []
  · subst hl
    go_enter Tryd.func33, Tryd.ntmps33
    go_wp2
    go_ret2
    exact Ret.of rfl
  · have hp := List.length_pos_iff.2 hl
    have hg := getLast_at l hl
    obtain ⟨x, hx⟩ : ∃ x, l[l.length - 1] = x := ⟨_, rfl⟩
    have hne : ((x.toNat : Int) != (c.toNat : Int)) = true := by
      rw [u8_bne, bne_iff_ne]
      rintro rfl
      rw [hx] at hg
      unfold Srcp.cut at hc
      rw [if_pos hg] at hc
      cases hc
    have hz : ((l.length : Int) == 0) = false := beq_eq_false_iff_ne.2 (by omega)
    clear hg hc hl
    go_enter Tryd.func33, Tryd.ntmps33
    go_wp2
    go_ret2
    exact Ret.of rfl

theorem r13cut_yes (l d : List UInt8) (c : UInt8) (w : World) (hs : l.length ≤ maxLen) (hc : Srcp.cut l c = some d) :
    Calls Tryd.prog 33 #[S l, B8 c] w (Ret (.tuple #[S d, .bool true]) w) := by
  unfold maxLen at hs
  have hc' := hc
  unfold Srcp.cut at hc
  split at hc
  · rename_i hg
    have hl : l ≠ [] := by rintro rfl; simp at hg
    have hp := List.length_pos_iff.2 hl
    rw [getLast_at l hl] at hg
    have hx : l[l.length - 1] = c := by injection hg
    injection hc with hc
    subst hc
    have hz : ((l.length : Int) == 0) = false := beq_eq_false_iff_ne.2 (by omega)
    clear hg hc' hl
    go_enter Tryd.func33, Tryd.ntmps33
    go_wp2
    go_ret2
    refine Ret.of ?_
    show Value.tuple #[S _, .bool true] = _
    rw [List.dropLast_eq_take]
  · cases hc

theorem whole_snoc (l : List UInt8) : Srcp.whole l = (l.all Srcp.dig && l.any (fun c => c != 48)) := rfl

theorem r13whole (l : List UInt8) (b : Bool) (w : World) (hs : l.length ≤ maxLen) (hb : Hid (Srcp.whole l = b)) :
    Calls Tryd.prog 35 #[S l] w (Ret (.bool b) w) := by
  unfold maxLen at hs
  go_enter Tryd.func35, Tryd.ntmps35
  go_wp2
  go_loopg [3, 4] l.length (fun g s3 s4 wx => ∃ (n : Nat) (some_ : Bool), n + g = l.length ∧ s3 = .bool some_ ∧ s4 = .int .i64 n ∧ w = wx ∧ Hid (b = ((l.drop n).all Srcp.dig && (some_ || (l.drop n).any (fun c => c != 48)))))
  case atStart => exact ⟨0, false, by omega, rfl, rfl, rfl, by unfold Hid; rw [← hb.out]; rfl⟩
  case round =>
    obtain ⟨n, sm, hn, rfl, rfl, rfl, hd⟩ := hrel
    by_cases hlt : n < l.length
    · obtain ⟨x, hx⟩ : ∃ x, l[n] = x := ⟨_, rfl⟩
      have HD : Hid (l.drop n = x :: l.drop (n + 1)) := by unfold Hid; rw [← hx]; exact List.drop_eq_getElem_cons hlt
      cases hdx : Srcp.dig x
      · have h := dig_no hdx
        have HX := hide hdx
        clear hdx
        go_wp2
        all_goals go_ret
        all_goals exact Ret.of (v_b (by rw [hd.out, HD.out]; simp [HX.out]))
      · obtain ⟨h1, h2⟩ := (dig_int x).1 hdx
        have HX := hide hdx
        clear hdx
        have e48 : ((x.toNat : Int) != 48) = (x != 48) := by rw [bne, bne]; congr 1; exact u8_eq x 48 (by decide)
        cases sm <;> cases h48 : (x != 48) <;> rw [h48] at e48 <;> have H48 := hide h48 <;> clear h48
        all_goals
          go_wp2
          go_roundg (gk - 1)
          case measure => omega
          case rel => exact ⟨n + 1, _, by omega, rfl, by go_num, rfl, by unfold Hid; rw [hd.out, HD.out]; simp [HX.out, H48.out]⟩
    · have hdn : l.drop n = [] := List.drop_eq_nil_of_le (by omega)
      have HD := hide hdn
      clear hdn
      go_wp2
      go_ret
      exact Ret.of (v_b (by rw [hd.out, HD.out]; simp))
end Go.Proofs.YtepimjljkkkejaaDoor
