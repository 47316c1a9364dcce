/- The reference: digits, small letters, percent signs. -/
import Derived.Test.YtahjndignkhmoaaGreatDoorN
import Derived.Lib.BufferRead
namespace Go.Proofs.YtahjndignkhmoaaGreatDoor
open Go.RowKit

set_option maxRecDepth 100000 in
theorem rHex (c : UInt8) (w : World) : Calls Tryz.prog 54 #[.int .i32 c.toNat] w (Ret (.int .i64 (Hostp.hex c)) w) := by
  have hc := u8_lt c
  go_enter Tryz.func54, Tryz.ntmps54
  go_wp2
  all_goals go_ret
  all_goals refine Ret.of (v_i ?_)
  all_goals unfold Hostp.hex
  all_goals (split; (go_num <;> omega))
  all_goals (split; (go_num <;> omega))
  all_goals (split; (go_num <;> omega))
  all_goals (go_num <;> omega)

set_option maxHeartbeats 2000000 in
set_option maxRecDepth 100000 in
theorem rLower (s : List UInt8) (u : List UInt8) (w : World) (hl : s.length ≤ 4194304) (hu : Hid (Hostp.lower s = u)) :
    Calls Tryz.prog 28 #[S s] w (Fresh (S u) w) := by
  have hr := rowAt_new w s
  have hb := below_bytes w 5 ⟨s.toArray⟩
  have hcv := Lib.run_convert_string_bytes (P := Tryz.prog) w 9 40 5 ⟨s.toArray⟩ Tryz.underlying9 Tryz.underlying40 Tryz.underlying5
  rw [bl_size] at hcv
  obtain ⟨B, hB⟩ : ∃ B, B = w.heap.size := ⟨_, rfl⟩
  obtain ⟨w1, hw1⟩ : ∃ x, x = Lib.bytesWorld w 5 ⟨s.toArray⟩ := ⟨_, rfl⟩
  obtain ⟨cap, hcap⟩ : ∃ x, x = grownCap w s.length 0 5 := ⟨_, rfl⟩
  rw [← hw1, ← hB] at hr hb
  rw [← hw1, ← hB, ← hcap] at hcv
  have hB' := hide hB
  clear hw1 hB hcap
  go_enter Tryz.func28, Tryz.ntmps28
  go_wp2_with fail
  clear hcv
  go_loopg [4] s.length (fun g s4 wx => ∃ (i : Nat), i + g = s.length ∧ s4 = .int .i64 i ∧ RowAt wx B ((s.take i).map Hostp.lowB ++ s.drop i) ∧ Below B w wx)
  case atStart => exact ⟨0, by omega, rfl, by simpa using hr, hb⟩
  case round =>
    obtain ⟨i, hi, rfl, hrx, hbx⟩ := hrel
    clear hr hb
    by_cases hlt : i < s.length
    · have hlen : ((s.take i).map Hostp.lowB ++ s.drop i).length = s.length := by simp; omega
      have hc0 := hrx.cell i (by rw [hlen]; exact hlt)
      have hf0 := hrx.free i (by rw [hlen]; exact hlt)
      obtain ⟨c, hc⟩ : ∃ c, s[i] = c := ⟨_, rfl⟩
      have hx : ((s.take i).map Hostp.lowB ++ s.drop i)[i]'(by rw [hlen]; exact hlt) = c := by
        rw [List.getElem_append_right (by simp; omega)]
        simp [Nat.min_eq_left (Nat.le_of_lt hlt), hc]
      rw [hx] at hc0
      have hstep : (s.take (i + 1)).map Hostp.lowB ++ s.drop (i + 1) = ((s.take i).map Hostp.lowB ++ s.drop i).set i (Hostp.lowB c) := by
        rw [List.set_append_right _ _ (by simp; omega), List.take_succ_eq_append_getElem hlt, List.drop_eq_getElem_cons hlt, hc]
        simp [Nat.min_eq_left (Nat.le_of_lt hlt)]
      have hsame : Hostp.lowB c = c → (s.take (i + 1)).map Hostp.lowB ++ s.drop (i + 1) = (s.take i).map Hostp.lowB ++ s.drop i := fun e => by
        rw [List.take_succ_eq_append_getElem hlt, List.drop_eq_getElem_cons hlt, hc]
        simp [e]
      have HS := hide hstep
      have HE := hide hsame
      have hcb := u8_lt c
      clear hstep hx hc hlen hsame
      by_cases h65 : 65 ≤ c.toNat ∧ c.toNat ≤ 90
      · obtain ⟨h1, h2⟩ := h65
        have hv : ((Hostp.lowB c).toNat : Int) = (c.toNat : Int) + 32 := by
          unfold Hostp.lowB
          rw [if_pos ⟨h1, h2⟩, UInt8.toNat_ofNat_of_lt' (by show c.toNat + 32 < 256; omega)]
          omega
        have hr2 := hrx.set i (Hostp.lowB c)
        rw [← HS.out] at hr2
        have HR2 := hide hr2
        have HV := hide hv
        clear hr2 hv
        go_wp2_with fail
        rw [← HV.out]
        go_roundg (gk - 1)
        case measure => omega
        case rel => exact ⟨i + 1, by omega, by go_num, HR2.out, hbx.setCell (Nat.le_refl _) _⟩
      · have h3 : c.toNat < 65 ∨ (65 ≤ c.toNat ∧ 90 < c.toNat) := by omega
        have hr2 := hrx
        rw [← HE.out (lowB_miss c h65)] at hr2
        have HR2 := hide hr2
        clear h65 hr2
        rcases h3 with h3 | ⟨h3, h4⟩
        all_goals
          go_wp2_with fail
          go_roundg (gk - 1)
          (case measure => omega)
          (case rel => exact ⟨i + 1, by omega, by go_num, HR2.out, hbx⟩)
    · have e : i = s.length := by omega
      subst e
      rw [List.take_length, List.drop_length, List.append_nil] at hrx
      have hcv := run_convert_bytes_back (P := Tryz.prog) wr 40 9 5 ⟨B, 0, none⟩ cap (Hostp.lower s) Tryz.underlying40 Tryz.underlying5 Tryz.underlying9 (fun j hj => by
        have := hrx.cell j hj
        rw [show (⟨B, 0, none⟩ : Addr).add j = ⟨B, j, none⟩ by unfold Addr.add; split <;> simp_all]
        exact this)
      rw [show (Hostp.lower s).length = s.length by simp [Hostp.lower]] at hcv
      go_wp2_with fail
      go_ret
      exact ⟨by rw [← hu.out]; rfl, by rw [← hB'.out]; exact hbx⟩

/-! ### a row of bytes of one's own -/
theorem row_text {w : World} {B n : Nat} {v : Value} {l : List UInt8} (h : w.ownsRow B 5 1 v n (l.map B8)) (hn : l.length = n) : (convert 40 9 v).run Tryz.prog w = .ok (S l) w := by
  rcases h.2 with ⟨rfl, h0⟩ | ⟨g, cap, cur, rfl, hg, hgg, _⟩
  · have : l = [] := List.eq_nil_of_length_eq_zero (by omega)
    subst this
    exact Lib.run_convert_nil_bytes w _ _ 5 0 Tryz.underlying40 Tryz.underlying5 Tryz.underlying9
  · have hc := h.cells (g := g) rfl
    rw [← hn]
    exact run_convert_bytes_back w 40 9 5 ⟨g, 0, none⟩ cap l Tryz.underlying40 Tryz.underlying5 Tryz.underlying9 (fun j hj => hc j _ (by rw [List.getElem?_map, List.getElem?_eq_getElem hj]; rfl))
theorem one_b (l : List UInt8) : ∀ u ∈ l.map B8, u.oneCell' = true := by
  intro u hu
  obtain ⟨x, _, rfl⟩ := List.mem_map.1 hu
  rfl

end Go.Proofs.YtahjndignkhmoaaGreatDoor
