/- The reference: a text written with percent signs (the least set). -/
import Derived.Test.YtahjndignkhmoaaGreatDoorRd
import Derived.Deep.RegionHeld3
import Derived.Deep.AppendLies
namespace Go.Proofs.YtahjndignkhmoaaGreatDoor
open Go.RowKit

set_option maxHeartbeats 2000000 in
set_option maxRecDepth 100000 in
theorem rHas (c : UInt8) (w : World) : Calls Tryz.prog 83 #[S [], B8 c] w (Ret (.bool false) w) := by
  go_enter Tryz.func83, Tryz.ntmps83
  go_wp2_with fail
  go_loopg [5] 0 (fun _ s5 wx => s5 = .int .i64 0 ∧ wx = w)
  case atStart => exact ⟨rfl, rfl⟩
  case round =>
    obtain ⟨rfl, rfl⟩ := hrel
    go_wp2_with fail
    go_ret
    exact Ret.of rfl

set_option maxHeartbeats 2000000 in
set_option maxRecDepth 100000 in
theorem rIn (c : UInt8) (w : World) : Calls Tryz.prog 55 #[B8 c, .int .u8 0] w (Ret (.bool (Hostp.ctl c)) w) := by
  have hcb := u8_lt c
  by_cases h : c.toNat < 32 ∨ 126 < c.toNat
  · have e : Hostp.ctl c = true := by
      unfold Hostp.ctl
      rcases h with h | h
      · rw [decide_eq_true h]; rfl
      · rw [decide_eq_true (by omega : 127 ≤ c.toNat), Bool.or_true]
    rw [e]
    have h2 : c.toNat < 32 ∨ (32 ≤ c.toNat ∧ 126 < c.toNat) := by omega
    clear h e
    rcases h2 with h | ⟨h, h3⟩
    all_goals
      go_enter Tryz.func55, Tryz.ntmps55
      go_wp2_with fail
      go_ret
      exact Ret.of rfl
  · have h1 : 32 ≤ c.toNat := by omega
    have h3 : c.toNat ≤ 126 := by omega
    have e : Hostp.ctl c = false := by
      unfold Hostp.ctl
      rw [decide_eq_false (by omega : ¬ c.toNat < 32), decide_eq_false (by omega : ¬ 127 ≤ c.toNat)]; rfl
    rw [e]
    clear h e
    go_enter Tryz.func55, Tryz.ntmps55
    go_wp2_with fail
    refine (rHas c _).mono ?_
    rintro e w2 ⟨rfl, rfl⟩
    go_wp2_with fail
    go_ret
    exact Ret.of rfl
end Go.Proofs.YtahjndignkhmoaaGreatDoor
namespace Go.Proofs.YtahjndignkhmoaaGreatDoor
open Go.RowKit

theorem digU_at : ∀ d : Fin 16, ([48, 49, 50, 51, 52, 53, 54, 55, 56, 57, 65, 66, 67, 68, 69, 70] : List UInt8)[d.val] = Hostp.hexU d.val := by decide
theorem pEnc_hit (c : UInt8) (l : List UInt8) (h : Hostp.ctl c = true) : Hostp.pEnc (c :: l) = 37 :: Hostp.hexU (c.toNat / 16) :: Hostp.hexU (c.toNat % 16) :: Hostp.pEnc l := by rw [Hostp.pEnc, if_pos h]
theorem pEnc_miss (c : UInt8) (l : List UInt8) (h : Hostp.ctl c = false) : Hostp.pEnc (c :: l) = c :: Hostp.pEnc l := by rw [Hostp.pEnc, if_neg (by rw [h]; decide)]

set_option maxHeartbeats 4000000 in
set_option maxRecDepth 100000 in
theorem rEncode (s : List UInt8) (u : List UInt8) (w : World) (hl : s.length ≤ 1048576) (hu : Hid (Hostp.pEnc s = u)) :
    Calls Tryz.prog 27 #[S s, .int .u8 0] w (Fresh (S u) w) := by
  obtain ⟨i0, hi0, hz0, hz1, hz2⟩ := info_parts info_byte
  obtain ⟨M, hM⟩ : ∃ M, w.heap.size = M := ⟨_, rfl⟩
  have HM := hide hM
  have hnil := World.ownsRow_nil w M 5 1
  clear hM
  go_enter Tryz.func27, Tryz.ntmps27
  go_wp2_with fail
  go_loopg [5, 6] s.length (fun g s5 s6 wx => ∃ (i : Nat) (acc : List UInt8), i + g = s.length ∧ s6 = .int .i64 i ∧ acc.length ≤ 3 * i ∧ wx.ownsRow M 5 1 s5 acc.length (acc.map B8) ∧ Below M w wx ∧ Hid (acc ++ Hostp.pEnc (s.drop i) = u))
  case atStart => exact ⟨0, [], by omega, rfl, by simp, hnil, by rw [← HM.out]; exact Below.refl _ _, by unfold Hid; simpa using hu.out⟩
  case round =>
    obtain ⟨i, acc, hi, rfl, hal, hown, hb, hd⟩ := hrel
    clear hnil
    have hs := hb.size
    rw [HM.out] at hs
    by_cases hlt : i < s.length
    · obtain ⟨c, hc⟩ : ∃ c, s[i] = c := ⟨_, rfl⟩
      have hcons : s.drop i = c :: s.drop (i + 1) := by rw [List.drop_eq_getElem_cons hlt, hc]
      have hd2 := hd.out
      rw [hcons] at hd2
      have hcb := u8_lt c
      clear hd hcons
      obtain ⟨b, hb'⟩ : ∃ b, Hostp.ctl c = b := ⟨_, rfl⟩
      cases b with
      | true =>
        rw [pEnc_hit c _ hb'] at hd2
        obtain ⟨x, hx⟩ : ∃ x, c.toNat / 16 = x := ⟨_, rfl⟩
        obtain ⟨y, hy⟩ : ∃ y, c.toNat % 16 = y := ⟨_, rfl⟩
        rw [hx, hy] at hd2
        have hx16 : x < 16 := by have := c.toNat_lt; omega
        have hy16 : y < 16 := by omega
        have e1 : (c.toNat : Int) / 16 = (x : Int) := by omega
        have e2 : (c.toNat : Int) % 16 = (y : Int) := by omega
        have e3 : (c.toNat : Int).tdiv 16 = (x : Int) := by rw [Int.tdiv_eq_ediv_of_nonneg (by omega)]; exact e1
        have e4 : (c.toNat : Int).tmod 16 = (y : Int) := by rw [Int.tmod_eq_emod_of_nonneg (by omega)]; exact e2
        have bx0 : (0 : Int) ≤ (x : Int) := by omega
        have bx1 : (x : Int) < 16 := by omega
        have by0 : (0 : Int) ≤ (y : Int) := by omega
        have by1 : (y : Int) < 16 := by omega
        have kx : ([48, 49, 50, 51, 52, 53, 54, 55, 56, 57, 65, 66, 67, 68, 69, 70] : List UInt8)[x] = _ := digU_at ⟨x, hx16⟩
        have ky : ([48, 49, 50, 51, 52, 53, 54, 55, 56, 57, 65, 66, 67, 68, 69, 70] : List UInt8)[y] = _ := digU_at ⟨y, hy16⟩
        have m1 : IntKind.u8.wrap (x : Int) = x := IntWalk.u8_in _ (by omega)
        have m2 : IntKind.u8.wrap (y : Int) = y := IntWalk.u8_in _ (by omega)
        have bi0 : (0 : Int) ≤ (i : Int) := by omega
        have bi1 : (i : Int) < (s.length : Int) := by omega
        obtain ⟨p, hp⟩ : ∃ p, Hostp.hexU x = p := ⟨_, rfl⟩
        obtain ⟨q, hq⟩ : ∃ q, Hostp.hexU y = q := ⟨_, rfl⟩
        rw [hp] at kx hd2
        rw [hq] at ky hd2
        have HD := hide hd2
        have HB' := hide hb'
        clear hd2 hx hy hp hq hb'
        go_wp2_with fail
        refine (rIn c _).mono ?_
        rintro e w2 ⟨rfl, rfl⟩
        rw [HB'.out]
        go_wp2_with fail
        go_region_held3 (fun _ => True) (trivial) ((refine step_append_lies _ (by rfl) (.tmp 20) (.tmp 31) 40 (by rfl) M 5 i0 (.int .u8 0) 1 1 Tryz.underlying40 hi0 hz0 hz1 hz2 rfl (by decide) _ _ _ (by rfl) (hown.alloc _) ⟨wr.heap.size, 0, none⟩ 3 3 ([37, p, q].map B8) (by rfl) (by rfl) (World.news_of_block (heap_alloc_last _ _)) (one_b [37, p, q]) (by decide) (by unfold maxLen; omega) (by omega) (by simp; omega) _ rfl ?_; intro g cap w6 hown6 hgrow hat hlt6))
        all_goals
          have hb6 : Below M w w6 := ((hb.alloc (by omega) _).drew).grown hgrow (by simp; omega) (fun k hk => (hown.lt k hk).1)
          have hown7 : w6.ownsRow M 5 1 (.slice (some ⟨g, 0, none⟩) (acc.length + 3) cap) (acc ++ [37, p, q]).length ((acc ++ [37, p, q]).map B8) := by rw [List.length_append, List.map_append]; exact hown6
          clear hgrow hown hown6 hat m1 m2 kx ky e1 e2 e3 e4
          go_wp2_with fail
          go_roundg (gk - 1)
          (case measure => omega)
          (case rel => exact ⟨i + 1, acc ++ [37, p, q], by omega, by go_num, by simp; omega, hown7, hb6, by unfold Hid; rw [← HD.out]; simp⟩)
      | false =>
        rw [pEnc_miss c _ hb'] at hd2
        have HD := hide hd2
        have HB' := hide hb'
        clear hd2 hb'
        go_wp2_with fail
        refine (rIn c _).mono ?_
        rintro e w2 ⟨rfl, rfl⟩
        rw [HB'.out]
        go_wp2_with (at_builtin; refine wpList_append_own _ rfl (.tmp 33) (.tmp 37) 40 rfl M 5 i0 (.int .u8 0) 1 1 Tryz.underlying40 hi0 hz0 hz1 hz2 rfl (by decide) _ _ _ rfl (hown.alloc _) ⟨wr.heap.size, 0, none⟩ 1 1 [B8 c] rfl rfl (cell_one_new _ _ _) (one_b [c]) (by unfold maxLen; omega) (by omega) (by simp; omega) ?_)
        intro v' w6 hown6 hgrow _
        have hb6 : Below M w w6 := (hb.alloc (by omega) _).grown hgrow (by simp; omega) (fun k hk => (hown.lt k hk).1)
        have hown7 : w6.ownsRow M 5 1 v' (acc ++ [c]).length ((acc ++ [c]).map B8) := by rw [List.length_append, List.map_append]; exact hown6
        clear hgrow hown hown6
        go_wp2_with fail
        go_roundg (gk - 1)
        case measure => omega
        case rel => exact ⟨i + 1, acc ++ [c], by omega, by go_num, by simp; omega, hown7, hb6, by unfold Hid; rw [← HD.out]; simp⟩
    · have e : i = s.length := by omega
      subst e
      have hd2 := hd.out
      rw [List.drop_length, Hostp.pEnc, List.append_nil] at hd2
      subst hd2
      have hcv := row_text hown rfl
      clear hd
      go_wp2_with fail
      go_ret
      exact ⟨rfl, by rw [HM.out]; exact hb⟩
end Go.Proofs.YtahjndignkhmoaaGreatDoor
