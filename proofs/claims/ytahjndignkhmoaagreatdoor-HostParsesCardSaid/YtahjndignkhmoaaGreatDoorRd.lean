/- The reference: percent signs decoded. -/
import Derived.Test.YtahjndignkhmoaaGreatDoorRa
import Derived.IntWalk
namespace Go.Proofs.YtahjndignkhmoaaGreatDoor
open Go.RowKit

theorem w32_byte (a : UInt8) : wrap32 (a.toNat : Int) = (a.toNat : Int) := IntWalk.wrap32_in _ (by have := u8_lt a; omega)

set_option maxHeartbeats 4000000 in
set_option maxRecDepth 100000 in
theorem rDecode (s : List UInt8) (u : List UInt8) (w : World) (hl : s.length ≤ 1048576) (hu : Hid (Hostp.pDec s = u)) :
    Calls Tryz.prog 25 #[S s] w (Fresh (S u) w) := by
  obtain ⟨i0, hi0, hz0, hz1, hz2⟩ := info_parts info_byte
  obtain ⟨M, hM⟩ : ∃ M, w.heap.size = M := ⟨_, rfl⟩
  have HM := hide hM
  have hnil := World.ownsRow_nil w M 5 1
  clear hM
  go_enter Tryz.func25, Tryz.ntmps25
  go_wp2_with fail
  go_loopg [3, 4] s.length (fun g s3 s4 wx => ∃ (i : Nat) (acc : List UInt8), i + g = s.length ∧ s4 = .int .i64 i ∧ acc.length ≤ i ∧ wx.ownsRow M 5 1 s3 acc.length (acc.map B8) ∧ Below M w wx ∧ Hid (acc ++ Hostp.pDec (s.drop i) = u))
  case atStart => exact ⟨0, [], by omega, rfl, by simp, hnil, by rw [← HM.out]; exact Below.refl _ _, by unfold Hid; simpa using hu.out⟩
  case round =>
    obtain ⟨i, acc, hi, rfl, hal, hown, hb, hd⟩ := hrel
    clear hnil
    have hs := hb.size
    rw [HM.out] at hs
    by_cases hlt : i < s.length
    · obtain ⟨c, hc⟩ : ∃ c, s[i] = c := ⟨_, rfl⟩
      have hcons : s.drop i = c :: s.drop (i + 1) := by rw [List.drop_eq_getElem_cons hlt, hc]
      have hd2 := hd.out
      rw [hcons] at hd2
      clear hd hcons
      by_cases h37 : c = 37 ∧ i + 2 < s.length
      · obtain ⟨rfl, h2⟩ := h37
        obtain ⟨a, ha⟩ : ∃ a, s[i + 1] = a := ⟨_, rfl⟩
        obtain ⟨b, hb'⟩ : ∃ b, s[i + 2] = b := ⟨_, rfl⟩
        have hc2 : s.drop (i + 1) = a :: b :: s.drop (i + 3) := by
          rw [List.drop_eq_getElem_cons (by omega : i + 1 < s.length), ha, List.drop_eq_getElem_cons (by omega : i + 1 + 1 < s.length)]
          rw [show s[i + 1 + 1] = b from hb']
        obtain ⟨x0, x1⟩ := hex_ge a
        obtain ⟨y0, y1⟩ := hex_ge b
        have HC2 := hide hc2
        have ti1 : ((i : Int) + 1).toNat = i + 1 := by omega
        have ti2 : ((i : Int) + 2).toNat = i + 2 := by omega
        have tj1 : (i : Int) + 1 < (s.length : Int) := by omega
        have tj2 : (i : Int) + 2 < (s.length : Int) := by omega
        have wa := w32_byte a
        have wb := w32_byte b
        clear hc2
        go_wp2_with fail
        refine (rHex a _).mono ?_
        rintro e w2 ⟨rfl, rfl⟩
        go_wp2_with fail
        refine (rHex b _).mono ?_
        rintro e w2 ⟨rfl, rfl⟩
        have hd3 := hd2
        rw [HC2.out] at hd3
        generalize hX : Hostp.hex a = X at x0 x1 ⊢
        generalize hY : Hostp.hex b = Y at y0 y1 ⊢
        by_cases hh : 0 ≤ X ∧ 0 ≤ Y
        · obtain ⟨hX0, hY0⟩ := hh
          rw [Hostp.pDec_hit a b _ (by rw [hX]; exact hX0) (by rw [hY]; exact hY0), hX, hY] at hd3
          obtain ⟨z, hz⟩ : ∃ z, UInt8.ofNat (X * 16 + Y).toNat = z := ⟨_, rfl⟩
          rw [hz] at hd3
          have hzz : (z.toNat : Int) = X * 16 + Y := by
            rw [← hz, UInt8.toNat_ofNat_of_lt' (by show (X * 16 + Y).toNat < 256; omega)]; omega
          have HD3 := hide hd3
          have HZZ := hide hzz
          clear hd3 hd2 hX hY hz hzz ha hb' hc
          go_upto_region 9 with (fail)
          go_wp2_with (at_builtin; refine wpList_append_own _ rfl (.tmp 42) (.tmp 48) 40 rfl M 5 i0 (.int .u8 0) 1 1 Tryz.underlying40 hi0 hz0 hz1 hz2 rfl (by decide) _ _ _ rfl (hown.alloc _) ⟨wr.heap.size, 0, none⟩ 1 1 [.int .u8 (X * 16 + Y)] rfl rfl (cell_one_new _ _ _) (by intro u hu; simp at hu; subst hu; rfl) (by unfold maxLen; omega) (by omega) (by simp; omega) ?_)
          intro v' w6 hown6 hgrow _
          rw [← HZZ.out] at hown6
          have hb6 : Below M w w6 := (hb.alloc (by omega) _).grown hgrow (by simp; omega) (fun k hk => (hown.lt k hk).1)
          have hown7 : w6.ownsRow M 5 1 v' (acc ++ [z]).length ((acc ++ [z]).map B8) := by rw [List.length_append, List.map_append]; exact hown6
          clear hgrow hown hown6
          go_wp2_with fail
          go_roundg (gk - 3)
          case measure => omega
          case rel => exact ⟨i + 3, acc ++ [z], by omega, by go_num, by simp; omega, hown7, hb6, by unfold Hid; rw [← HD3.out]; simp⟩
        · rw [Hostp.pDec_miss a b _ (by rw [hX, hY]; exact hh), ← HC2.out] at hd3
          have HD3 := hide hd3
          have hways : X < 0 ∨ (0 ≤ X ∧ Y < 0) := by omega
          clear hd3 hd2 hX hY hh ha hb'
          rcases hways with hw | ⟨hw1, hw2⟩
          all_goals
            go_wp2_with (at_builtin; refine wpList_append_own _ rfl (.tmp 52) (.tmp 56) 40 rfl M 5 i0 (.int .u8 0) 1 1 Tryz.underlying40 hi0 hz0 hz1 hz2 rfl (by decide) _ _ _ rfl (hown.alloc _) ⟨wr.heap.size, 0, none⟩ 1 1 [B8 37] rfl rfl (cell_one_new _ _ _) (one_b [37]) (by unfold maxLen; omega) (by omega) (by simp; omega) ?_)
            intro v' w6 hown6 hgrow _
            have hb6 : Below M w w6 := (hb.alloc (by omega) _).grown hgrow (by simp; omega) (fun k hk => (hown.lt k hk).1)
            have hown7 : w6.ownsRow M 5 1 v' (acc ++ [37]).length ((acc ++ [37]).map B8) := by rw [List.length_append, List.map_append]; exact hown6
            clear hgrow hown hown6
            go_wp2_with fail
            go_roundg (gk - 1)
            (case measure => omega)
            (case rel => exact ⟨i + 1, acc ++ [37], by omega, by go_num, by simp; omega, hown7, hb6, by unfold Hid; rw [← HD3.out]; simp⟩)
      · have hd3 : acc ++ c :: Hostp.pDec (s.drop (i + 1)) = u := by
          rw [← hd2]
          by_cases hc37 : c = 37
          · have hsh : ¬ i + 2 < s.length := fun h => h37 ⟨hc37, h⟩
            subst hc37
            rw [Hostp.pDec_short _ (by simp; omega)]
          · rw [Hostp.pDec_cons c _ hc37]
        have HD3 := hide hd3
        have hways : ((c.toNat : Int) == 37) = false ∨ (c = 37 ∧ ¬ i + 2 < s.length) := by
          by_cases e : c = 37
          · exact .inr ⟨e, fun h => h37 ⟨e, h⟩⟩
          · exact .inl (beq_eq_false_iff_ne.2 (fun h => e (UInt8.toNat_inj.1 (by show c.toNat = 37; omega))))
        clear hd3 hd2 h37
        rcases hways with hw | ⟨rfl, hw⟩
        · go_wp2_with (at_builtin; refine wpList_append_own _ rfl (.tmp 52) (.tmp 56) 40 rfl M 5 i0 (.int .u8 0) 1 1 Tryz.underlying40 hi0 hz0 hz1 hz2 rfl (by decide) _ _ _ rfl (hown.alloc _) ⟨wr.heap.size, 0, none⟩ 1 1 [B8 c] rfl rfl (cell_one_new _ _ _) (one_b [c]) (by unfold maxLen; omega) (by omega) (by simp; omega) ?_)
          intro v' w6 hown6 hgrow _
          have hb6 : Below M w w6 := (hb.alloc (by omega) _).grown hgrow (by simp; omega) (fun k hk => (hown.lt k hk).1)
          have hown7 : w6.ownsRow M 5 1 v' (acc ++ [c]).length ((acc ++ [c]).map B8) := by rw [List.length_append, List.map_append]; exact hown6
          clear hgrow hown hown6
          go_wp2_with fail
          go_roundg (gk - 1)
          (case measure => omega)
          (case rel => exact ⟨i + 1, acc ++ [c], by omega, by go_num, by simp; omega, hown7, hb6, by unfold Hid; rw [← HD3.out]; simp⟩)
        · go_wp2_with (at_builtin; refine wpList_append_own _ rfl (.tmp 52) (.tmp 56) 40 rfl M 5 i0 (.int .u8 0) 1 1 Tryz.underlying40 hi0 hz0 hz1 hz2 rfl (by decide) _ _ _ rfl (hown.alloc _) ⟨wr.heap.size, 0, none⟩ 1 1 [B8 37] rfl rfl (cell_one_new _ _ _) (one_b [37]) (by unfold maxLen; omega) (by omega) (by simp; omega) ?_)
          intro v' w6 hown6 hgrow _
          have hb6 : Below M w w6 := (hb.alloc (by omega) _).grown hgrow (by simp; omega) (fun k hk => (hown.lt k hk).1)
          have hown7 : w6.ownsRow M 5 1 v' (acc ++ [37]).length ((acc ++ [37]).map B8) := by rw [List.length_append, List.map_append]; exact hown6
          clear hgrow hown hown6
          go_wp2_with fail
          go_roundg (gk - 1)
          (case measure => omega)
          (case rel => exact ⟨i + 1, acc ++ [37], by omega, by go_num, by simp; omega, hown7, hb6, by unfold Hid; rw [← HD3.out]; simp⟩)
    · have e : i = s.length := by omega
      subst e
      have hd2 := hd.out
      rw [List.drop_length, Hostp.pDec, List.append_nil] at hd2
      subst hd2
      have hcv := row_text hown rfl
      clear hd
      go_wp2_with fail
      go_ret
      exact ⟨rfl, by rw [HM.out]; exact hb⟩
end Go.Proofs.YtahjndignkhmoaaGreatDoor
