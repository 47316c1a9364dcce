/- The reference: parts between a byte; digits of a base; a part's number. -/
import Derived.Test.YtahjndignkhmoaaGreatDoorRd
import Derived.Test.YtahjndignkhmoaaGreatDoorR
namespace Go.Proofs.YtahjndignkhmoaaGreatDoor
open Go.RowKit

set_option maxHeartbeats 4000000 in
set_option maxRecDepth 100000 in
theorem rSplit (c : UInt8) (s : List UInt8) (xs : List (List UInt8)) (w : World) (hl : s.length ≤ 4194304) (hx : Hid (Hostp.splitOn c s = xs)) :
    Calls Tryz.prog 59 #[S s, B8 c] w fun e w' => (∃ g cap, w.heap.size ≤ g ∧ xs.length ≤ cap ∧ e = .returned (.slice (some ⟨g, 0, none⟩) xs.length cap) ∧ Texts w' g xs) ∧ Below w.heap.size w w' := by
  obtain ⟨i0, hi0, hz0, hz1, hz2⟩ := info_parts info_str
  obtain ⟨l0, l1⟩ := splitOn_len c s
  rw [hx.out] at l0 l1
  obtain ⟨M, hM⟩ : ∃ M, w.heap.size = M := ⟨_, rfl⟩
  have HM := hide hM
  have hnil := World.ownsRow_nil w M 9 1
  have hcb := u8_lt c
  clear hM
  go_enter Tryz.func59, Tryz.ntmps59
  go_wp2_with fail
  go_loopg [5, 6, 7] (s.length + 1) (fun g s5 s6 s7 wx => ∃ (i f : Nat) (acc : List (List UInt8)), i + g = s.length + 1 ∧ s7 = .int .i64 i ∧ s6 = .int .i64 f ∧ acc.length ≤ i ∧ wx.ownsRow M 9 1 s5 acc.length (acc.map S) ∧ Below M w wx ∧ Hid ((f ≤ i ∧ i ≤ s.length ∧ acc ++ Hostp.splitOn c (s.drop f) = xs ∧ ∀ b ∈ (s.drop f).take (i - f), b ≠ c) ∨ (i = s.length + 1 ∧ acc = xs)))
  case atStart => exact ⟨0, 0, [], by omega, rfl, rfl, by simp, hnil, by rw [← HM.out]; exact Below.refl _ _, .inl ⟨Nat.le_refl _, by omega, by simpa using hx.out, by simp⟩⟩
  case round =>
    obtain ⟨i, f, acc, hi, rfl, rfl, hal, hown, hb, hd⟩ := hrel
    clear hnil
    have hs := hb.size
    rw [HM.out] at hs
    by_cases hlt : i < s.length
    · rcases hd.out with ⟨hf, _, hacc, hno⟩ | ⟨h, _⟩
      · obtain ⟨x, hxx⟩ : ∃ x, s[i] = x := ⟨_, rfl⟩
        have hseg : s.drop f = (s.drop f).take (i - f) ++ x :: s.drop (i + 1) := by
          conv => lhs; rw [← List.take_append_drop (i - f) (s.drop f)]
          rw [List.drop_drop, show f + (i - f) = i by omega, List.drop_eq_getElem_cons hlt, hxx]
        by_cases hxc : x = c
        · subst hxc
          rw [hseg, Hostp.splitOn_at x _ _ hno] at hacc
          have HACC := hide hacc
          have ht1 : ((i : Int) - (f : Int)).toNat = i - f := by omega
          clear hacc hno hd hseg
          go_wp2_with (at_builtin; refine wpList_append_own _ rfl (.tmp 25) (.tmp 30) 42 rfl M 9 i0 (.string .empty) 1 16 Tryz.underlying42 hi0 hz0 hz1 hz2 rfl (by decide) _ _ _ rfl (hown.alloc _) ⟨wr.heap.size, 0, none⟩ 1 1 [S ((s.drop f).take (i - f))] rfl rfl (cell_one_new _ _ _) (one_s [_]) (by unfold maxLen; omega) (by omega) (by simp; omega) ?_)
          intro v' w6 hown6 hgrow _
          have hb6 : Below M w w6 := (hb.alloc (by omega) _).grown hgrow (by simp; omega) (fun k hk => (hown.lt k hk).1)
          have hown7 : w6.ownsRow M 9 1 v' (acc ++ [(s.drop f).take (i - f)]).length ((acc ++ [(s.drop f).take (i - f)]).map S) := by
            rw [List.length_append, List.map_append]; exact hown6
          clear hgrow hown hown6
          go_wp2_with fail
          go_roundg (gk - 1)
          case measure => omega
          case rel => exact ⟨i + 1, i + 1, acc ++ [(s.drop f).take (i - f)], by omega, by go_num, by go_num, by simp; omega, hown7, hb6, .inl ⟨Nat.le_refl _, by omega, by rw [← HACC.out]; simp, by simp⟩⟩
        · have hxn : ((x.toNat : Int) == (c.toNat : Int)) = false := by rw [u8_beq]; simpa using hxc
          have hnew : Hid (∀ b ∈ (s.drop f).take (i + 1 - f), b ≠ c) := fun b hb => by
            rw [hseg, show i + 1 - f = (i - f) + 1 by omega, List.take_append, List.take_of_length_le (by simp; omega)] at hb
            rcases List.mem_append.1 hb with hb | hb
            · exact hno b hb
            · have : (i - f) + 1 - ((s.drop f).take (i - f)).length = 1 := by simp; omega
              rw [this] at hb
              simp at hb
              rw [hb]; exact hxc
          have HACC := hide hacc
          clear hacc hno hd hseg
          go_wp2_with fail
          go_roundg (gk - 1)
          case measure => omega
          case rel => exact ⟨i + 1, f, acc, by omega, by go_num, rfl, by omega, hown, hb, .inl ⟨by omega, by omega, HACC.out, hnew.out⟩⟩
      · omega
    · by_cases he : i = s.length
      · subst he
        rcases hd.out with ⟨hf, _, hacc, hno⟩ | ⟨h, _⟩
        · have hwhole : (s.drop f).take (s.length - f) = s.drop f := List.take_of_length_le (by simp)
          rw [hwhole] at hno
          rw [Hostp.splitOn_no c _ hno] at hacc
          have HACC := hide hacc
          clear hacc hno hd
          go_wp2_with (at_builtin; refine wpList_append_own _ rfl (.tmp 25) (.tmp 30) 42 rfl M 9 i0 (.string .empty) 1 16 Tryz.underlying42 hi0 hz0 hz1 hz2 rfl (by decide) _ _ _ rfl (hown.alloc _) ⟨wr.heap.size, 0, none⟩ 1 1 [S (s.drop f)] rfl rfl (cell_one_new _ _ _) (one_s [_]) (by unfold maxLen; omega) (by omega) (by simp; omega) ?_)
          intro v' w6 hown6 hgrow _
          have hb6 : Below M w w6 := (hb.alloc (by omega) _).grown hgrow (by simp; omega) (fun k hk => (hown.lt k hk).1)
          have hown7 : w6.ownsRow M 9 1 v' (acc ++ [s.drop f]).length ((acc ++ [s.drop f]).map S) := by
            rw [List.length_append, List.map_append]; exact hown6
          clear hgrow hown hown6
          go_wp2_with fail
          go_roundg (gk - 1)
          case measure => omega
          case rel => exact ⟨s.length + 1, s.length + 1, acc ++ [s.drop f], by omega, by go_num, by go_num, by simp; omega, hown7, hb6, .inr ⟨rfl, HACC.out⟩⟩
        · omega
      · rcases hd.out with ⟨_, h, _⟩ | ⟨h, rfl⟩
        · omega
        · subst h
          clear hd
          have hcells : ∃ g cap, u5 = .slice (some ⟨g, 0, none⟩) acc.length cap ∧ M ≤ g ∧ acc.length ≤ cap ∧ Texts wr g acc := by
            rcases hown.2 with ⟨_, h0⟩ | ⟨g, cap, cur, hv, hg, hgg, hcap⟩
            · omega
            · subst hv
              have hc := hown.cells (g := g) rfl
              refine ⟨g, cap, rfl, hg, hcap.1, fun j t ht => ?_⟩
              have := hc j (S t) (by rw [List.getElem?_map, ht]; rfl)
              rw [show (⟨g, 0, none⟩ : Addr).add j = ⟨g, j, none⟩ by unfold Addr.add; split <;> simp_all] at this
              exact this
          obtain ⟨g, cap, rfl, hg, hcap, htx⟩ := hcells
          go_wp2_with fail
          go_ret
          rw [HM.out]
          exact ⟨⟨g, cap, hg, hcap, rfl, htx⟩, hb⟩

end Go.Proofs.YtahjndignkhmoaaGreatDoor
