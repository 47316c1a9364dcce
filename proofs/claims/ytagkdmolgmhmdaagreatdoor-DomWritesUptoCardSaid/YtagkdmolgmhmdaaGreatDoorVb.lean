/- The reference's Escaped, plain and quoted, walked. (Printed by genVb.py.) -/
import Derived.Test.YtagkdmolgmhmdaaGreatDoorVa
import Derived.Test.YtagkdmolgmhmdaaGreatDoorBu
import Derived.Test.YtagkdmolgmhmdaaGreatDoorDc
import Derived.Lib.AppendStr
import Derived.Lib.AppendIntMem
import Derived.IntWalk
namespace Go.Proofs.YtagkdmolgmhmdaaGreatDoor
open Go.RowKit

theorem escStr (c : List UInt8) : Lib.strCells ⟨c.toArray⟩ = c.map B8 := by simp [Lib.strCells]
theorem row_text {w : World} {B n : Nat} {v : Value} {l : List UInt8} (h : w.ownsRow B 5 1 v n (l.map B8)) (hn : l.length = n) : (convert 52 9 v).run Tryz.prog w = .ok (S l) w := by
  rcases h.2 with ⟨rfl, h0⟩ | ⟨g, cap, cur, rfl, hg, hgg, _⟩
  · have : l = [] := List.eq_nil_of_length_eq_zero (by omega)
    subst this
    exact Lib.run_convert_nil_bytes w _ _ 5 0 Tryz.underlying52 Tryz.underlying5 Tryz.underlying9
  · have hc := h.cells (g := g) rfl
    rw [← hn]
    exact run_convert_bytes_back w 52 9 5 ⟨g, 0, none⟩ cap l Tryz.underlying52 Tryz.underlying5 Tryz.underlying9 (fun j hj => hc j _ (by rw [List.getElem?_map, List.getElem?_eq_getElem hj]; rfl))
theorem one_b (l : List UInt8) : ∀ u ∈ l.map B8, u.oneCell' = true := by
  intro u hu
  obtain ⟨x, _, rfl⟩ := List.mem_map.1 hu
  rfl

set_option maxHeartbeats 4000000 in
set_option maxRecDepth 100000 in
theorem rEscaped (s : List UInt8) (v : Bool) (w : World) (hl : s.length ≤ 1048576) :
    Calls Tryz.prog 65 #[S s, .bool v] w (Fresh (S (escV v s)) w) := by
  obtain ⟨i0, hi0, hz0, hz1, hz2⟩ := info_parts info_byte
  obtain ⟨u, hu⟩ : ∃ u, escV v s = u := ⟨_, rfl⟩
  rw [hu]
  obtain ⟨M, hM⟩ : ∃ M, w.heap.size = M := ⟨_, rfl⟩
  have HM := hide hM
  have HU := hide hu
  have hnil := World.ownsRow_nil w M 5 1
  clear hM hu
  go_enter Tryz.func65, Tryz.ntmps65
  go_wp2_with fail
  go_loopg [5, 6] s.length (fun g s5 s6 wx => ∃ (i : Nat) (acc : List UInt8), i + g = s.length ∧ s6 = .int .i64 i ∧ acc.length ≤ 6 * i ∧ wx.ownsRow M 5 1 s5 acc.length (acc.map B8) ∧ Below M w wx ∧ Hid (acc ++ escV v (s.drop i) = u))
  case atStart => exact ⟨0, [], by omega, rfl, by simp, hnil, by rw [← HM.out]; exact Below.refl _ _, by unfold Hid; simpa using HU.out⟩
  case round =>
    obtain ⟨i, acc, hi, rfl, hal, hown, hb, hd⟩ := hrel
    clear hnil
    have hs := hb.size
    rw [HM.out] at hs
    by_cases hlt : i < s.length
    · obtain ⟨c, hc⟩ : ∃ c, s[i] = c := ⟨_, rfl⟩
      have hcons : s.drop i = c :: s.drop (i + 1) := by rw [List.drop_eq_getElem_cons hlt, hc]
      have hd2 := hd.out
      rw [hcons] at hd2
      clear hd hcons
      by_cases h38 : c = 38
      · subst h38
        rw [escV_amp] at hd2
        have HD3 := hide hd2
        clear hd2
        go_wp2_with (at_builtin; refine Lib.wpList_append_own_string _ rfl (.tmp 24) _ 52 9 rfl M 5 i0 Tryz.underlying52 Tryz.underlying9 hi0 hz0 hz1 hz2 _ _ _ rfl hown ⟨#[38, 97, 109, 112, 59]⟩ rfl (by show acc.length + 5 ≤ maxLen; unfold maxLen; omega) (by show acc.length + 5 ≤ _; omega) (by omega) ?_)
        intro v' w6 hown6 hgrow _
        have hb6 : Below M w w6 := hb.grown hgrow (by omega) (fun k hk => (hown.lt k hk).1)
        have hown7 : w6.ownsRow M 5 1 v' (acc ++ [38, 97, 109, 112, 59]).length ((acc ++ [38, 97, 109, 112, 59]).map B8) := by rw [List.length_append, List.map_append, ← escStr [38, 97, 109, 112, 59]]; exact hown6
        clear hgrow hown hown6
        go_wp2_with fail
        go_roundg (gk - 1)
        case measure => omega
        case rel => exact ⟨i + 1, acc ++ [38, 97, 109, 112, 59], by omega, by go_num, by simp; omega, hown7, hb6, by unfold Hid; rw [← HD3.out]; simp⟩
      by_cases h34 : c = 34 ∧ v = true
      · obtain ⟨rfl, rfl⟩ := h34
        rw [escV_quot] at hd2
        have HD3 := hide hd2
        clear hd2 h38
        go_wp2_with (at_builtin; refine Lib.wpList_append_own_string _ rfl (.tmp 34) _ 52 9 rfl M 5 i0 Tryz.underlying52 Tryz.underlying9 hi0 hz0 hz1 hz2 _ _ _ rfl hown ⟨#[38, 113, 117, 111, 116, 59]⟩ rfl (by show acc.length + 6 ≤ maxLen; unfold maxLen; omega) (by show acc.length + 6 ≤ _; omega) (by omega) ?_)
        intro v' w6 hown6 hgrow _
        have hb6 : Below M w w6 := hb.grown hgrow (by omega) (fun k hk => (hown.lt k hk).1)
        have hown7 : w6.ownsRow M 5 1 v' (acc ++ [38, 113, 117, 111, 116, 59]).length ((acc ++ [38, 113, 117, 111, 116, 59]).map B8) := by rw [List.length_append, List.map_append, ← escStr [38, 113, 117, 111, 116, 59]]; exact hown6
        clear hgrow hown hown6
        go_wp2_with fail
        go_roundg (gk - 1)
        case measure => omega
        case rel => exact ⟨i + 1, acc ++ [38, 113, 117, 111, 116, 59], by omega, by go_num, by simp; omega, hown7, hb6, by unfold Hid; rw [← HD3.out]; simp⟩
      by_cases h60 : c = 60 ∧ v = false
      · obtain ⟨rfl, rfl⟩ := h60
        rw [escV_lt] at hd2
        have HD3 := hide hd2
        clear hd2 h38 h34
        go_wp2_with (at_builtin; refine Lib.wpList_append_own_string _ rfl (.tmp 45) _ 52 9 rfl M 5 i0 Tryz.underlying52 Tryz.underlying9 hi0 hz0 hz1 hz2 _ _ _ rfl hown ⟨#[38, 108, 116, 59]⟩ rfl (by show acc.length + 4 ≤ maxLen; unfold maxLen; omega) (by show acc.length + 4 ≤ _; omega) (by omega) ?_)
        intro v' w6 hown6 hgrow _
        have hb6 : Below M w w6 := hb.grown hgrow (by omega) (fun k hk => (hown.lt k hk).1)
        have hown7 : w6.ownsRow M 5 1 v' (acc ++ [38, 108, 116, 59]).length ((acc ++ [38, 108, 116, 59]).map B8) := by rw [List.length_append, List.map_append, ← escStr [38, 108, 116, 59]]; exact hown6
        clear hgrow hown hown6
        go_wp2_with fail
        go_roundg (gk - 1)
        case measure => omega
        case rel => exact ⟨i + 1, acc ++ [38, 108, 116, 59], by omega, by go_num, by simp; omega, hown7, hb6, by unfold Hid; rw [← HD3.out]; simp⟩
      by_cases h62 : c = 62 ∧ v = false
      · obtain ⟨rfl, rfl⟩ := h62
        rw [escV_gt] at hd2
        have HD3 := hide hd2
        clear hd2 h38 h34 h60
        go_wp2_with (at_builtin; refine Lib.wpList_append_own_string _ rfl (.tmp 56) _ 52 9 rfl M 5 i0 Tryz.underlying52 Tryz.underlying9 hi0 hz0 hz1 hz2 _ _ _ rfl hown ⟨#[38, 103, 116, 59]⟩ rfl (by show acc.length + 4 ≤ maxLen; unfold maxLen; omega) (by show acc.length + 4 ≤ _; omega) (by omega) ?_)
        intro v' w6 hown6 hgrow _
        have hb6 : Below M w w6 := hb.grown hgrow (by omega) (fun k hk => (hown.lt k hk).1)
        have hown7 : w6.ownsRow M 5 1 v' (acc ++ [38, 103, 116, 59]).length ((acc ++ [38, 103, 116, 59]).map B8) := by rw [List.length_append, List.map_append, ← escStr [38, 103, 116, 59]]; exact hown6
        clear hgrow hown hown6
        go_wp2_with fail
        go_roundg (gk - 1)
        case measure => omega
        case rel => exact ⟨i + 1, acc ++ [38, 103, 116, 59], by omega, by go_num, by simp; omega, hown7, hb6, by unfold Hid; rw [← HD3.out]; simp⟩
      by_cases hnb : c = 194 ∧ (s.drop (i + 1)).head? = some 160
      · obtain ⟨rfl, hnb⟩ := hnb
        have hlt1 : i + 1 < s.length := by
          rcases Nat.lt_or_ge (i + 1) s.length with h | h
          · exact h
          · rw [List.drop_of_length_le h] at hnb; cases hnb
        have hc2 : s[i + 1] = 160 := by
          rw [List.drop_eq_getElem_cons hlt1] at hnb
          exact Option.some.inj hnb
        have e2 : s.drop (i + 1) = 160 :: s.drop (i + 2) := by rw [List.drop_eq_getElem_cons hlt1, hc2]
        rw [e2, escV_nbsp] at hd2
        have HD3 := hide hd2
        have ti1 : ((i : Int) + 1).toNat = i + 1 := by omega
        have tj1 : (i : Int) + 1 < (s.length : Int) := by omega
        clear hd2 h38 h34 h60 h62 hnb e2
        go_wp2_with (at_builtin; refine Lib.wpList_append_own_string _ rfl (.tmp 77) _ 52 9 rfl M 5 i0 Tryz.underlying52 Tryz.underlying9 hi0 hz0 hz1 hz2 _ _ _ rfl hown ⟨#[38, 110, 98, 115, 112, 59]⟩ rfl (by show acc.length + 6 ≤ maxLen; unfold maxLen; omega) (by show acc.length + 6 ≤ _; omega) (by omega) ?_)
        intro v' w6 hown6 hgrow _
        have hb6 : Below M w w6 := hb.grown hgrow (by omega) (fun k hk => (hown.lt k hk).1)
        have hown7 : w6.ownsRow M 5 1 v' (acc ++ [38, 110, 98, 115, 112, 59]).length ((acc ++ [38, 110, 98, 115, 112, 59]).map B8) := by rw [List.length_append, List.map_append, ← escStr [38, 110, 98, 115, 112, 59]]; exact hown6
        clear hgrow hown hown6
        go_wp2_with fail
        go_roundg (gk - 2)
        case measure => omega
        case rel => exact ⟨i + 2, acc ++ [38, 110, 98, 115, 112, 59], by omega, by go_num, by simp; omega, hown7, hb6, by unfold Hid; rw [← HD3.out]; simp⟩
      rw [escV_cons v c _ h38 (fun e h => hnb ⟨e, h⟩) (fun e h => h34 ⟨h, e⟩) (fun e => ⟨fun h => h60 ⟨h, e⟩, fun h => h62 ⟨h, e⟩⟩)] at hd2
      have HD3 := hide hd2
      have g38 : ((c.toNat : Int) == 38) = false := beq_eq_false_iff_ne.2 (fun e => h38 (u8_inj (b := 38) e))
      have ways : (c = 34 ∧ v = false) ∨ (c = 60 ∧ v = true) ∨ (c = 62 ∧ v = true) ∨ (c = 194 ∧ ¬ (i : Int) + 1 < (s.length : Int)) ∨ (c = 194 ∧ ∃ d, ∃ h : i + 1 < s.length, s[i + 1] = d ∧ d ≠ 160) ∨ (c ≠ 34 ∧ c ≠ 60 ∧ c ≠ 62 ∧ c ≠ 194) := by
        by_cases e : c = 194
        · rcases Nat.lt_or_ge (i + 1) s.length with h | h
          · refine .inr (.inr (.inr (.inr (.inl ⟨e, _, h, rfl, fun e2 => hnb ⟨e, ?_⟩⟩))))
            rw [List.drop_eq_getElem_cons h, e2]; rfl
          · exact .inr (.inr (.inr (.inl ⟨e, by omega⟩)))
        · by_cases e1 : c = 34
          · cases v
            · exact .inl ⟨e1, rfl⟩
            · exact absurd ⟨e1, rfl⟩ h34
          · by_cases e2 : c = 60
            · cases v
              · exact absurd ⟨e2, rfl⟩ h60
              · exact .inr (.inl ⟨e2, rfl⟩)
            · by_cases e3 : c = 62
              · cases v
                · exact absurd ⟨e3, rfl⟩ h62
                · exact .inr (.inr (.inl ⟨e3, rfl⟩))
              · exact .inr (.inr (.inr (.inr (.inr ⟨e1, e2, e3, e⟩))))
      clear hd2 h38 h34 h60 h62 hnb
      have fin : ∀ (v' : Value) (w6 : World), w6.ownsRow M 5 1 v' (acc.length + 1) (acc.map B8 ++ [B8 c]) → w6.ownsRow M 5 1 v' (acc ++ [c]).length ((acc ++ [c]).map B8) := fun v' w6 h => by rw [List.length_append, List.map_append]; exact h
      have HFIN := hide fin
      clear fin
      rcases ways with ⟨rfl, rfl⟩ | ⟨rfl, rfl⟩ | ⟨rfl, rfl⟩ | ⟨rfl, g2⟩ | ⟨rfl, d, g2, g3, g4⟩ | ⟨g34, g60, g62, g194⟩
      · go_wp2_with (at_builtin; refine wpList_append_own _ rfl (.tmp 13) (.tmp 17) 52 rfl M 5 i0 (.int .u8 0) 1 1 Tryz.underlying52 hi0 hz0 hz1 hz2 rfl (by decide) _ _ _ rfl (hown.alloc _) ⟨wr.heap.size, 0, none⟩ 1 1 [B8 34] rfl rfl (cell_one_new _ _ _) (one_b [34]) (by unfold maxLen; omega) (by omega) (by simp; omega) ?_)
        intro v' w6 hown6 hgrow _
        have hb6 : Below M w w6 := (hb.alloc (by omega) _).grown hgrow (by simp; omega) (fun k hk => (hown.lt k hk).1)
        have hown7 := HFIN.out v' w6 hown6
        clear hgrow hown hown6 HFIN
        go_wp2_with fail
        go_roundg (gk - 1)
        (case measure => omega)
        (case rel => exact ⟨i + 1, acc ++ [34], by omega, by go_num, by simp; omega, hown7, hb6, by unfold Hid; rw [← HD3.out]; simp⟩)
      · go_wp2_with (at_builtin; refine wpList_append_own _ rfl (.tmp 13) (.tmp 17) 52 rfl M 5 i0 (.int .u8 0) 1 1 Tryz.underlying52 hi0 hz0 hz1 hz2 rfl (by decide) _ _ _ rfl (hown.alloc _) ⟨wr.heap.size, 0, none⟩ 1 1 [B8 60] rfl rfl (cell_one_new _ _ _) (one_b [60]) (by unfold maxLen; omega) (by omega) (by simp; omega) ?_)
        intro v' w6 hown6 hgrow _
        have hb6 : Below M w w6 := (hb.alloc (by omega) _).grown hgrow (by simp; omega) (fun k hk => (hown.lt k hk).1)
        have hown7 := HFIN.out v' w6 hown6
        clear hgrow hown hown6 HFIN
        go_wp2_with fail
        go_roundg (gk - 1)
        (case measure => omega)
        (case rel => exact ⟨i + 1, acc ++ [60], by omega, by go_num, by simp; omega, hown7, hb6, by unfold Hid; rw [← HD3.out]; simp⟩)
      · go_wp2_with (at_builtin; refine wpList_append_own _ rfl (.tmp 13) (.tmp 17) 52 rfl M 5 i0 (.int .u8 0) 1 1 Tryz.underlying52 hi0 hz0 hz1 hz2 rfl (by decide) _ _ _ rfl (hown.alloc _) ⟨wr.heap.size, 0, none⟩ 1 1 [B8 62] rfl rfl (cell_one_new _ _ _) (one_b [62]) (by unfold maxLen; omega) (by omega) (by simp; omega) ?_)
        intro v' w6 hown6 hgrow _
        have hb6 : Below M w w6 := (hb.alloc (by omega) _).grown hgrow (by simp; omega) (fun k hk => (hown.lt k hk).1)
        have hown7 := HFIN.out v' w6 hown6
        clear hgrow hown hown6 HFIN
        go_wp2_with fail
        go_roundg (gk - 1)
        (case measure => omega)
        (case rel => exact ⟨i + 1, acc ++ [62], by omega, by go_num, by simp; omega, hown7, hb6, by unfold Hid; rw [← HD3.out]; simp⟩)
      · cases v
        all_goals
          go_wp2_with (at_builtin; refine wpList_append_own _ rfl (.tmp 13) (.tmp 17) 52 rfl M 5 i0 (.int .u8 0) 1 1 Tryz.underlying52 hi0 hz0 hz1 hz2 rfl (by decide) _ _ _ rfl (hown.alloc _) ⟨wr.heap.size, 0, none⟩ 1 1 [B8 194] rfl rfl (cell_one_new _ _ _) (one_b [194]) (by unfold maxLen; omega) (by omega) (by simp; omega) ?_)
          intro v' w6 hown6 hgrow _
          have hb6 : Below M w w6 := (hb.alloc (by omega) _).grown hgrow (by simp; omega) (fun k hk => (hown.lt k hk).1)
          have hown7 := HFIN.out v' w6 hown6
          clear hgrow hown hown6 HFIN
          go_wp2_with fail
          go_roundg (gk - 1)
          (case measure => omega)
          (case rel => exact ⟨i + 1, acc ++ [194], by omega, by go_num, by simp; omega, hown7, hb6, by unfold Hid; rw [← HD3.out]; simp⟩)
      · have g5 : ((d.toNat : Int) == 160) = false := beq_eq_false_iff_ne.2 (fun e => g4 (u8_inj (b := 160) e))
        have ti1 : ((i : Int) + 1).toNat = i + 1 := by omega
        have tj1 : (i : Int) + 1 < (s.length : Int) := by omega
        clear g4
        cases v
        all_goals
          go_wp2_with (at_builtin; refine wpList_append_own _ rfl (.tmp 13) (.tmp 17) 52 rfl M 5 i0 (.int .u8 0) 1 1 Tryz.underlying52 hi0 hz0 hz1 hz2 rfl (by decide) _ _ _ rfl (hown.alloc _) ⟨wr.heap.size, 0, none⟩ 1 1 [B8 194] rfl rfl (cell_one_new _ _ _) (one_b [194]) (by unfold maxLen; omega) (by omega) (by simp; omega) ?_)
          intro v' w6 hown6 hgrow _
          have hb6 : Below M w w6 := (hb.alloc (by omega) _).grown hgrow (by simp; omega) (fun k hk => (hown.lt k hk).1)
          have hown7 := HFIN.out v' w6 hown6
          clear hgrow hown hown6 HFIN
          go_wp2_with fail
          go_roundg (gk - 1)
          (case measure => omega)
          (case rel => exact ⟨i + 1, acc ++ [194], by omega, by go_num, by simp; omega, hown7, hb6, by unfold Hid; rw [← HD3.out]; simp⟩)
      · have k34 : ((c.toNat : Int) == 34) = false := beq_eq_false_iff_ne.2 (fun e => g34 (u8_inj (b := 34) e))
        have k60 : ((c.toNat : Int) == 60) = false := beq_eq_false_iff_ne.2 (fun e => g60 (u8_inj (b := 60) e))
        have k62 : ((c.toNat : Int) == 62) = false := beq_eq_false_iff_ne.2 (fun e => g62 (u8_inj (b := 62) e))
        have k194 : ((c.toNat : Int) == 194) = false := beq_eq_false_iff_ne.2 (fun e => g194 (u8_inj (b := 194) e))
        clear g34 g60 g62 g194
        cases v
        all_goals
          go_wp2_with (at_builtin; refine wpList_append_own _ rfl (.tmp 13) (.tmp 17) 52 rfl M 5 i0 (.int .u8 0) 1 1 Tryz.underlying52 hi0 hz0 hz1 hz2 rfl (by decide) _ _ _ rfl (hown.alloc _) ⟨wr.heap.size, 0, none⟩ 1 1 [B8 c] rfl rfl (cell_one_new _ _ _) (one_b [c]) (by unfold maxLen; omega) (by omega) (by simp; omega) ?_)
          intro v' w6 hown6 hgrow _
          have hb6 : Below M w w6 := (hb.alloc (by omega) _).grown hgrow (by simp; omega) (fun k hk => (hown.lt k hk).1)
          have hown7 := HFIN.out v' w6 hown6
          clear hgrow hown hown6 HFIN
          go_wp2_with fail
          go_roundg (gk - 1)
          (case measure => omega)
          (case rel => exact ⟨i + 1, acc ++ [c], by omega, by go_num, by simp; omega, hown7, hb6, by unfold Hid; rw [← HD3.out]; simp⟩)
    · have e : i = s.length := by omega
      subst e
      have hd2 := hd.out
      rw [List.drop_length, escV_nil, List.append_nil] at hd2
      subst hd2
      have hcv := row_text hown rfl
      clear hd
      go_wp2_with fail
      go_ret
      exact ⟨rfl, by rw [HM.out]; exact hb⟩

theorem quo_b (c : UInt8) : (48 : Int) + (c.toNat : Int) / 64 = ((48 + c / 64 : UInt8).toNat : Int) := by
  have := c.toNat_lt
  rw [UInt8.toNat_add, UInt8.toNat_div]
  show _ = (((48 + c.toNat / 64) % 256 : Nat) : Int)
  omega
theorem mid_b (c : UInt8) : (48 : Int) + (c.toNat : Int) / 8 % 8 = ((48 + (c / 8) % 8 : UInt8).toNat : Int) := by
  have := c.toNat_lt
  rw [UInt8.toNat_add, UInt8.toNat_mod, UInt8.toNat_div]
  show _ = (((48 + c.toNat / 8 % 8) % 256 : Nat) : Int)
  omega
theorem low_b (c : UInt8) : (48 : Int) + (c.toNat : Int) % 8 = ((48 + c % 8 : UInt8).toNat : Int) := by
  have := c.toNat_lt
  rw [UInt8.toNat_add, UInt8.toNat_mod]
  show _ = (((48 + c.toNat % 8) % 256 : Nat) : Int)
  omega
set_option maxHeartbeats 4000000 in
set_option maxRecDepth 100000 in
theorem rPlain (s : List UInt8) (w : World) (hl : s.length ≤ 1048576) :
    Calls Tryz.prog 67 #[S s] w (Fresh (S (bareP s)) w) := by
  obtain ⟨i0, hi0, hz0, hz1, hz2⟩ := info_parts info_byte
  obtain ⟨M, hM⟩ : ∃ M, w.heap.size = M := ⟨_, rfl⟩
  have HM := hide hM
  have hnil := World.ownsRow_nil w M 5 1
  clear hM
  go_enter Tryz.func67, Tryz.ntmps67
  go_wp2_with fail
  go_loopg [3, 4] s.length (fun g s3 s4 wx => ∃ (i : Nat) (acc : List UInt8), i + g = s.length ∧ s4 = .int .i64 i ∧ acc.length ≤ 4 * i ∧ wx.ownsRow M 5 1 s3 acc.length (acc.map B8) ∧ Below M w wx ∧ Hid (acc = bareP (s.take i)))
  case atStart => exact ⟨0, [], by omega, rfl, by simp, hnil, by rw [← HM.out]; exact Below.refl _ _, by unfold Hid; simp [bareP]⟩
  case round =>
    obtain ⟨i, acc, hi, rfl, hal, hown, hb, hd⟩ := hrel
    clear hnil
    have hs := hb.size
    rw [HM.out] at hs
    by_cases hlt : i < s.length
    · obtain ⟨c, hc⟩ : ∃ c, s[i] = c := ⟨_, rfl⟩
      have hstep : bareP (s.take (i + 1)) = bareP (s.take i) ++ bareB c := by
        unfold bareP
        rw [List.take_succ_eq_append_getElem hlt, List.flatMap_append, hc]
        simp
      have HST := hide hstep
      clear hstep
      by_cases hgood : c ≠ 34 ∧ c ≠ 92 ∧ 32 ≤ c.toNat
      · have hbb : bareB c = [c] := by unfold bareB; rw [if_pos hgood]
        have HBB := hide hbb
        obtain ⟨g1, g2, g3⟩ := hgood
        have k34 : ((c.toNat : Int) == 34) = false := beq_eq_false_iff_ne.2 (fun e => g1 (u8_inj (b := 34) e))
        have k92 : ((c.toNat : Int) == 92) = false := beq_eq_false_iff_ne.2 (fun e => g2 (u8_inj (b := 92) e))
        have k32 : ¬ (c.toNat : Int) < 32 := by omega
        clear g1 g2 g3 hbb
        go_wp2_with (at_builtin; refine wpList_append_own _ rfl (.tmp 38) (.tmp 40) 52 rfl M 5 i0 (.int .u8 0) 1 1 Tryz.underlying52 hi0 hz0 hz1 hz2 rfl (by decide) _ _ _ rfl (hown.alloc _) ⟨wr.heap.size, 0, none⟩ 1 1 [B8 c] rfl rfl (cell_one_new _ _ _) (one_b [c]) (by unfold maxLen; omega) (by omega) (by simp; omega) ?_)
        intro v' w6 hown6 hgrow _
        have hb6 : Below M w w6 := (hb.alloc (by omega) _).grown hgrow (by simp; omega) (fun k hk => (hown.lt k hk).1)
        have hown7 : w6.ownsRow M 5 1 v' (acc ++ [c]).length ((acc ++ [c]).map B8) := by rw [List.length_append, List.map_append]; exact hown6
        clear hgrow hown hown6
        go_wp2_with fail
        go_roundg (gk - 1)
        case measure => omega
        case rel => exact ⟨i + 1, acc ++ [c], by omega, by go_num, by simp; omega, hown7, hb6, by unfold Hid; rw [HST.out, HBB.out, hd.out]⟩
      · have hbb : bareB c = [92, 48 + c / 64, 48 + (c / 8) % 8, 48 + c % 8] := by unfold bareB; rw [if_neg hgood]
        have HBB := hide hbb
        have ways : ((c.toNat : Int) == 34) = true ∨ (((c.toNat : Int) == 34) = false ∧ ((c.toNat : Int) == 92) = true) ∨ (((c.toNat : Int) == 34) = false ∧ ((c.toNat : Int) == 92) = false ∧ (c.toNat : Int) < 32) := by
          by_cases e1 : c = 34
          · exact .inl (by rw [e1]; rfl)
          · have k34 : ((c.toNat : Int) == 34) = false := beq_eq_false_iff_ne.2 (fun e => e1 (u8_inj (b := 34) e))
            by_cases e2 : c = 92
            · exact .inr (.inl ⟨k34, by rw [e2]; rfl⟩)
            · have := Nat.lt_of_not_le fun h => hgood ⟨e1, e2, h⟩
              exact .inr (.inr ⟨k34, beq_eq_false_iff_ne.2 (fun e => e2 (u8_inj (b := 92) e)), by omega⟩)
        have q0 := c.toNat_lt
        have q1 := quo_b c
        have q2 := mid_b c
        have q3 := low_b c
        obtain ⟨x1, hx1⟩ : ∃ x, (48 + c / 64 : UInt8) = x := ⟨_, rfl⟩
        obtain ⟨x2, hx2⟩ : ∃ x, (48 + (c / 8) % 8 : UInt8) = x := ⟨_, rfl⟩
        obtain ⟨x3, hx3⟩ : ∃ x, (48 + c % 8 : UInt8) = x := ⟨_, rfl⟩
        have HBC := HBB.out
        rw [hx1, hx2, hx3] at HBC
        rw [hx1] at q1
        rw [hx2] at q2
        rw [hx3] at q3
        have HB2 := hide HBC
        clear hgood hbb HBB hx1 hx2 hx3 HBC
        have h4 : ∀ (j : Nat) (u : Value), [B8 92, B8 x1, B8 x2, B8 x3][j]? = some u → (wr.alloc (.cells #[B8 92, B8 x1, B8 x2, B8 x3] 5)).cell? ((⟨wr.heap.size, 0, none⟩ : Addr).add j) = some u := by
          intro j u h
          match j, h with
          | 0, h => rw [show (⟨wr.heap.size, 0, none⟩ : Addr).add 0 = ⟨wr.heap.size, 0, none⟩ by rfl, Lib.cell_of_heap (heap_alloc_last _ _)]; simpa using h
          | 1, h => rw [show (⟨wr.heap.size, 0, none⟩ : Addr).add 1 = ⟨wr.heap.size, 1, none⟩ by rfl, Lib.cell_of_heap (heap_alloc_last _ _)]; simpa using h
          | 2, h => rw [show (⟨wr.heap.size, 0, none⟩ : Addr).add 2 = ⟨wr.heap.size, 2, none⟩ by rfl, Lib.cell_of_heap (heap_alloc_last _ _)]; simpa using h
          | 3, h => rw [show (⟨wr.heap.size, 0, none⟩ : Addr).add 3 = ⟨wr.heap.size, 3, none⟩ by rfl, Lib.cell_of_heap (heap_alloc_last _ _)]; simpa using h
          | j + 4, h => simp at h
        rcases ways with k34 | ⟨k34, k92⟩ | ⟨k34, k92, k32⟩
        all_goals
          go_wp2_with (at_builtin; refine wpList_append_own _ rfl (.tmp 25) (.tmp 36) 52 rfl M 5 i0 (.int .u8 0) 1 1 Tryz.underlying52 hi0 hz0 hz1 hz2 rfl (by decide) _ _ _ rfl (hown.alloc _) ⟨wr.heap.size, 0, none⟩ 4 4 [B8 92, B8 x1, B8 x2, B8 x3] rfl rfl h4 (one_b [92, x1, x2, x3]) (by unfold maxLen; omega) (by omega) (by simp; omega) ?_)
          intro v' w6 hown6 hgrow _
          have hb6 : Below M w w6 := (hb.alloc (by omega) _).grown hgrow (by simp; omega) (fun k hk => (hown.lt k hk).1)
          have hown7 : w6.ownsRow M 5 1 v' (acc ++ [92, x1, x2, x3]).length ((acc ++ [92, x1, x2, x3]).map B8) := by rw [List.length_append, List.map_append]; exact hown6
          clear hgrow hown hown6 h4
          go_wp2_with fail
          go_roundg (gk - 1)
          (case measure => omega)
          (case rel => exact ⟨i + 1, acc ++ [92, x1, x2, x3], by omega, by go_num, by simp; omega, hown7, hb6, by unfold Hid; rw [HST.out, HB2.out, hd.out]⟩)
    · have e : i = s.length := by omega
      subst e
      have hd2 := hd.out
      rw [List.take_length] at hd2
      subst hd2
      have hcv := row_text hown rfl
      clear hd
      go_wp2_with fail
      go_ret
      exact ⟨rfl, by rw [HM.out]; exact hb⟩
set_option maxRecDepth 100000 in
theorem rQuoted (s : List UInt8) (w : World) (hl : s.length ≤ 1048576) :
    Calls Tryz.prog 66 #[S s] w (Fresh (S (34 :: (bareP s ++ [34]))) w) := by
  have hc := hide (rPlain s w hl)
  have hlen := bareP_len s
  generalize bareP s = u at hc hlen
  have g1 : ¬ 9223372036854775807 < 1 + u.length := by omega
  have g2 : ¬ 9223372036854775807 < u.length + 1 := by omega
  have g3 : ¬ 9223372036854775807 < u.length + 1 + 1 := by omega
  go_enter Tryz.func66, Tryz.ntmps66
  go_wp2_with fail
  refine hc.out.mono ?_
  rintro e w2 ⟨rfl, hb⟩
  go_wp2_with fail
  go_ret
  exact ⟨rfl, hb⟩
end Go.Proofs.YtagkdmolgmhmdaaGreatDoor
