/- The document's answer: has a node no other fields than its kind names? -/
import Derived.Test.YtagkdmolgmhmdaaGreatDoorWk
namespace Go.Proofs.YtagkdmolgmhmdaaGreatDoor
open Go.RowKit

set_option maxRecDepth 100000 in
set_option maxHeartbeats 16000000 in
theorem fields (d : Dm.D) (n : Nat) (aa ka : Option Addr) (ac kc : Nat) (w : World) :
    Calls Tryz.prog 55 #[NV d (.slice aa d.ats.length ac) (.slice ka n kc)] w (Fresh (.bool (Dm.fieldsOk d n)) w) := by
  obtain ⟨R, hR⟩ : ∃ R, Dm.fieldsOk d n = R := ⟨_, rfl⟩
  rw [hR]
  have HR := hide hR
  have hw1 := ((Below.refl w.heap.size w).alloc (Nat.le_refl _) (.cells #[.int .u8 d.kd, S d.sp, S d.nm, .slice aa d.ats.length ac, S d.tx, S d.pb, S d.sy, .slice ka n kc] 26))
  have b1 := Box.new w d (.slice aa d.ats.length ac) (.slice ka n kc)
  clear hR
  obtain ⟨kd, sp, nm, ats, tx, pb, sy⟩ := d
  go_enter Tryz.func55, Tryz.ntmps55
  go_upto_region 1 with (fail)
  generalize hgen : (w.alloc (.cells #[.int .u8 kd, S sp, S nm, .slice aa ats.length ac, S tx, S pb, S sy, .slice ka n kc] 26)) = w1 at b1 hw1 ⊢
  clear hgen
  obtain ⟨d0, d1, d2, d3, d4, d5, d6, d7⟩ := b1.cells
  simp only at d0 d1 d2 d3 d4 d5 d6 d7
  have HW := hide hw1
  clear b1 hw1
  by_cases k1 : kd = 1
  · subst k1
    by_cases csp : sp = []
    rotate_left
    · have cb : (sp == []) = false := by simpa using csp
      have HE : Hid (R = false) := by unfold Hid; rw [← HR.out]; simp [Dm.fieldsOk, csp]
      go_wp2_with fail
      go_ret
      exact ⟨by rw [HE.out]; rfl, HW.out⟩
    subst csp
    by_cases cats : ats.length = 0
    rotate_left
    · have cb : ((ats.length : Int) == 0) = false := by rw [beq_eq_false_iff_ne]; omega
      have HE : Hid (R = false) := by unfold Hid; rw [← HR.out]; cases ats with | nil => exact absurd rfl cats | cons a r => simp [Dm.fieldsOk]
      go_wp2_with fail
      go_ret
      exact ⟨by rw [HE.out]; rfl, HW.out⟩
    obtain rfl : ats = [] := List.eq_nil_of_length_eq_zero cats
    clear cats
    by_cases cnm : nm = []
    rotate_left
    · have cb : (nm == []) = false := by simpa using cnm
      have HE : Hid (R = false) := by unfold Hid; rw [← HR.out]; simp [Dm.fieldsOk, cnm]
      go_wp2_with fail
      go_ret
      exact ⟨by rw [HE.out]; rfl, HW.out⟩
    subst cnm
    by_cases ctx : tx = []
    rotate_left
    · have cb : (tx == []) = false := by simpa using ctx
      have HE : Hid (R = false) := by unfold Hid; rw [← HR.out]; simp [Dm.fieldsOk, ctx]
      go_wp2_with fail
      go_ret
      exact ⟨by rw [HE.out]; rfl, HW.out⟩
    subst ctx
    by_cases cpb : pb = []
    rotate_left
    · have cb : (pb == []) = false := by simpa using cpb
      have HE : Hid (R = false) := by unfold Hid; rw [← HR.out]; simp [Dm.fieldsOk, cpb]
      go_wp2_with fail
      go_ret
      exact ⟨by rw [HE.out]; rfl, HW.out⟩
    subst cpb
    by_cases csy : sy = []
    rotate_left
    · have cb : (sy == []) = false := by simpa using csy
      have HE : Hid (R = false) := by unfold Hid; rw [← HR.out]; simp [Dm.fieldsOk, csy]
      go_wp2_with fail
      go_ret
      exact ⟨by rw [HE.out]; rfl, HW.out⟩
    subst csy
    have HE : Hid (R = true) := by unfold Hid; rw [← HR.out]; simp [Dm.fieldsOk]
    go_wp2_with fail
    go_ret
    exact ⟨by rw [HE.out]; rfl, HW.out⟩
  by_cases k2 : kd = 2
  · subst k2
    by_cases csp : sp = []
    rotate_left
    · have cb : (sp == []) = false := by simpa using csp
      have HE : Hid (R = false) := by unfold Hid; rw [← HR.out]; simp [Dm.fieldsOk, csp]
      go_wp2_with fail
      go_ret
      exact ⟨by rw [HE.out]; rfl, HW.out⟩
    subst csp
    by_cases cats : ats.length = 0
    rotate_left
    · have cb : ((ats.length : Int) == 0) = false := by rw [beq_eq_false_iff_ne]; omega
      have HE : Hid (R = false) := by unfold Hid; rw [← HR.out]; cases ats with | nil => exact absurd rfl cats | cons a r => simp [Dm.fieldsOk]
      go_wp2_with fail
      go_ret
      exact ⟨by rw [HE.out]; rfl, HW.out⟩
    obtain rfl : ats = [] := List.eq_nil_of_length_eq_zero cats
    clear cats
    by_cases ctx : tx = []
    rotate_left
    · have cb : (tx == []) = false := by simpa using ctx
      have HE : Hid (R = false) := by unfold Hid; rw [← HR.out]; simp [Dm.fieldsOk, ctx]
      go_wp2_with fail
      go_ret
      exact ⟨by rw [HE.out]; rfl, HW.out⟩
    subst ctx
    by_cases cn : n = 0
    rotate_left
    · have cb : ((n : Int) == 0) = false := by rw [beq_eq_false_iff_ne]; omega
      have HE : Hid (R = false) := by unfold Hid; rw [← HR.out]; simp [Dm.fieldsOk, cn]
      go_wp2_with fail
      go_ret
      exact ⟨by rw [HE.out]; rfl, HW.out⟩
    subst cn
    have HE : Hid (R = true) := by unfold Hid; rw [← HR.out]; simp [Dm.fieldsOk]
    go_wp2_with fail
    go_ret
    exact ⟨by rw [HE.out]; rfl, HW.out⟩
  by_cases k3 : kd = 3
  · subst k3
    by_cases ctx : tx = []
    rotate_left
    · have cb : (tx == []) = false := by simpa using ctx
      have HE : Hid (R = false) := by unfold Hid; rw [← HR.out]; simp [Dm.fieldsOk, ctx]
      go_wp2_with fail
      go_ret
      exact ⟨by rw [HE.out]; rfl, HW.out⟩
    subst ctx
    by_cases cpb : pb = []
    rotate_left
    · have cb : (pb == []) = false := by simpa using cpb
      have HE : Hid (R = false) := by unfold Hid; rw [← HR.out]; simp [Dm.fieldsOk, cpb]
      go_wp2_with fail
      go_ret
      exact ⟨by rw [HE.out]; rfl, HW.out⟩
    subst cpb
    by_cases csy : sy = []
    rotate_left
    · have cb : (sy == []) = false := by simpa using csy
      have HE : Hid (R = false) := by unfold Hid; rw [← HR.out]; simp [Dm.fieldsOk, csy]
      go_wp2_with fail
      go_ret
      exact ⟨by rw [HE.out]; rfl, HW.out⟩
    subst csy
    have HE : Hid (R = true) := by unfold Hid; rw [← HR.out]; simp [Dm.fieldsOk]
    go_wp2_with fail
    go_ret
    exact ⟨by rw [HE.out]; rfl, HW.out⟩
  by_cases k4 : kd = 4
  · subst k4
    by_cases csp : sp = []
    rotate_left
    · have cb : (sp == []) = false := by simpa using csp
      have HE : Hid (R = false) := by unfold Hid; rw [← HR.out]; simp [Dm.fieldsOk, csp]
      go_wp2_with fail
      go_ret
      exact ⟨by rw [HE.out]; rfl, HW.out⟩
    subst csp
    by_cases cats : ats.length = 0
    rotate_left
    · have cb : ((ats.length : Int) == 0) = false := by rw [beq_eq_false_iff_ne]; omega
      have HE : Hid (R = false) := by unfold Hid; rw [← HR.out]; cases ats with | nil => exact absurd rfl cats | cons a r => simp [Dm.fieldsOk]
      go_wp2_with fail
      go_ret
      exact ⟨by rw [HE.out]; rfl, HW.out⟩
    obtain rfl : ats = [] := List.eq_nil_of_length_eq_zero cats
    clear cats
    by_cases cnm : nm = []
    rotate_left
    · have cb : (nm == []) = false := by simpa using cnm
      have HE : Hid (R = false) := by unfold Hid; rw [← HR.out]; simp [Dm.fieldsOk, cnm]
      go_wp2_with fail
      go_ret
      exact ⟨by rw [HE.out]; rfl, HW.out⟩
    subst cnm
    by_cases cpb : pb = []
    rotate_left
    · have cb : (pb == []) = false := by simpa using cpb
      have HE : Hid (R = false) := by unfold Hid; rw [← HR.out]; simp [Dm.fieldsOk, cpb]
      go_wp2_with fail
      go_ret
      exact ⟨by rw [HE.out]; rfl, HW.out⟩
    subst cpb
    by_cases csy : sy = []
    rotate_left
    · have cb : (sy == []) = false := by simpa using csy
      have HE : Hid (R = false) := by unfold Hid; rw [← HR.out]; simp [Dm.fieldsOk, csy]
      go_wp2_with fail
      go_ret
      exact ⟨by rw [HE.out]; rfl, HW.out⟩
    subst csy
    by_cases cn : n = 0
    rotate_left
    · have cb : ((n : Int) == 0) = false := by rw [beq_eq_false_iff_ne]; omega
      have HE : Hid (R = false) := by unfold Hid; rw [← HR.out]; simp [Dm.fieldsOk, cn]
      go_wp2_with fail
      go_ret
      exact ⟨by rw [HE.out]; rfl, HW.out⟩
    subst cn
    have HE : Hid (R = true) := by unfold Hid; rw [← HR.out]; simp [Dm.fieldsOk]
    go_wp2_with fail
    go_ret
    exact ⟨by rw [HE.out]; rfl, HW.out⟩
  by_cases k5 : kd = 5
  · subst k5
    by_cases csp : sp = []
    rotate_left
    · have cb : (sp == []) = false := by simpa using csp
      have HE : Hid (R = false) := by unfold Hid; rw [← HR.out]; simp [Dm.fieldsOk, csp]
      go_wp2_with fail
      go_ret
      exact ⟨by rw [HE.out]; rfl, HW.out⟩
    subst csp
    by_cases cats : ats.length = 0
    rotate_left
    · have cb : ((ats.length : Int) == 0) = false := by rw [beq_eq_false_iff_ne]; omega
      have HE : Hid (R = false) := by unfold Hid; rw [← HR.out]; cases ats with | nil => exact absurd rfl cats | cons a r => simp [Dm.fieldsOk]
      go_wp2_with fail
      go_ret
      exact ⟨by rw [HE.out]; rfl, HW.out⟩
    obtain rfl : ats = [] := List.eq_nil_of_length_eq_zero cats
    clear cats
    by_cases cnm : nm = []
    rotate_left
    · have cb : (nm == []) = false := by simpa using cnm
      have HE : Hid (R = false) := by unfold Hid; rw [← HR.out]; simp [Dm.fieldsOk, cnm]
      go_wp2_with fail
      go_ret
      exact ⟨by rw [HE.out]; rfl, HW.out⟩
    subst cnm
    by_cases cpb : pb = []
    rotate_left
    · have cb : (pb == []) = false := by simpa using cpb
      have HE : Hid (R = false) := by unfold Hid; rw [← HR.out]; simp [Dm.fieldsOk, cpb]
      go_wp2_with fail
      go_ret
      exact ⟨by rw [HE.out]; rfl, HW.out⟩
    subst cpb
    by_cases csy : sy = []
    rotate_left
    · have cb : (sy == []) = false := by simpa using csy
      have HE : Hid (R = false) := by unfold Hid; rw [← HR.out]; simp [Dm.fieldsOk, csy]
      go_wp2_with fail
      go_ret
      exact ⟨by rw [HE.out]; rfl, HW.out⟩
    subst csy
    by_cases cn : n = 0
    rotate_left
    · have cb : ((n : Int) == 0) = false := by rw [beq_eq_false_iff_ne]; omega
      have HE : Hid (R = false) := by unfold Hid; rw [← HR.out]; simp [Dm.fieldsOk, cn]
      go_wp2_with fail
      go_ret
      exact ⟨by rw [HE.out]; rfl, HW.out⟩
    subst cn
    have HE : Hid (R = true) := by unfold Hid; rw [← HR.out]; simp [Dm.fieldsOk]
    go_wp2_with fail
    go_ret
    exact ⟨by rw [HE.out]; rfl, HW.out⟩
  have k1b : (kd == 1) = false := by simpa using k1
  have k2b : (kd == 2) = false := by simpa using k2
  have k3b : (kd == 3) = false := by simpa using k3
  have k4b : (kd == 4) = false := by simpa using k4
  have k5b : (kd == 5) = false := by simpa using k5
  have HE : Hid (R = false) := by unfold Hid; rw [← HR.out]; simp [Dm.fieldsOk, k1, k2, k3, k4, k5]
  go_wp2_with fail
  go_ret
  exact ⟨by rw [HE.out]; rfl, HW.out⟩
end Go.Proofs.YtagkdmolgmhmdaaGreatDoor
