/- lacunalaw03.bare, walked. -/
import Derived.Test.YtagkdmolgmhmdaaGreatDoorPw
namespace Go.Proofs.YtagkdmolgmhmdaaGreatDoor
open Go.RowKit

set_option maxRecDepth 100000 in
set_option maxHeartbeats 4000000 in
theorem sole_ (s : Dm.T) : ∀ (av kv : Value) (w : World), RdT w s av kv → s.wt ≤ 1048576 →
    Calls Tryz.prog 29 #[NV s.d av kv] w (Fresh (.bool s.sole) w) := by
  refine Dm.T.induct (C := fun s => ∀ (av kv : Value) (w : World), RdT w s av kv → s.wt ≤ 1048576 →
    Calls Tryz.prog 29 #[NV s.d av kv] w (Fresh (.bool s.sole) w)) (fun d ks ih av kv w hs hwt => ?_) s
  obtain ⟨ha, hk⟩ := RdT.mk_iff.1 hs
  obtain ⟨ka, kc, rfl⟩ := hk.length
  obtain ⟨aa, ac, rfl⟩ := ha.length
  have l2 : ks.length ≤ 1048576 := by have := Dm.wtK_len ks; simp only [Dm.T.wt, Dm.D.own] at hwt; omega
  have HWT := hide (p := ∀ t ∈ ks, t.wt ≤ 1048576) (fun t ht => by have := Dm.wtK_mem ht; simp only [Dm.T.wt, Dm.D.own] at hwt; omega)
  have b1 := Box.new w d (.slice aa d.ats.length ac) (.slice ka ks.length kc)
  have hal := (Below.refl w.heap.size w).alloc (Nat.le_refl _) (.cells #[.int .u8 d.kd, S d.sp, S d.nm, .slice aa d.ats.length ac, S d.tx, S d.pb, S d.sy, .slice ka ks.length kc] 26)
  have HK := hide (hk.below hal)
  obtain ⟨R, hR⟩ : ∃ R, (Dm.T.mk d ks).sole = R := ⟨_, rfl⟩
  rw [hR]
  have HR := hide hR
  clear hwt hs ha hk hR
  show Calls Tryz.prog 29 #[NV d (.slice aa d.ats.length ac) (.slice ka ks.length kc)] w _
  go_enter Tryz.func29, Tryz.ntmps29
  go_upto_region 1 with (fail)
  generalize hgen : (w.alloc (.cells #[.int .u8 d.kd, S d.sp, S d.nm, .slice aa d.ats.length ac, S d.tx, S d.pb, S d.sy, .slice ka ks.length kc] 26)) = w1 at b1 hal HK ⊢
  clear hgen
  obtain ⟨d0, d1, d2, d3, d4, d5, d6, d7⟩ := b1.cells
  have HB := hide b1
  have HAL := hide hal
  clear b1 hal
  by_cases hbad : d.kd = 4 ∧ 0 < ks.length
  · have q4 : ((d.kd : Int) == 4) = true := by simp [hbad.1]
    have q5 : 0 < ks.length := hbad.2
    have HE : Hid (R = false) := by
      unfold Hid
      rw [← HR.out, Dm.T.sole]
      cases ks with
      | nil => simp at q5
      | cons a r => simp [hbad.1]
    clear hbad ih
    go_wp2_with fail
    go_ret
    exact ⟨by rw [HE.out]; rfl, HAL.out⟩
  · have HE : Hid (R = Dm.soleK ks) := by
      unfold Hid
      rw [← HR.out, Dm.T.sole]
      have : (d.kd == 4 && !ks.isEmpty) = false := by
        rw [Bool.and_eq_false_iff]
        by_cases h4 : d.kd = 4
        · right
          have : ks = [] := List.eq_nil_of_length_eq_zero (by have := fun h => hbad ⟨h4, h⟩; omega)
          rw [this]; rfl
        · left; simpa using h4
      rw [this]; rfl
    by_cases h4 : d.kd = 4
    · have q4 : ((d.kd : Int) == 4) = true := by simp [h4]
      have q6 : ¬ 0 < ks.length := fun h => hbad ⟨h4, h⟩
      clear hbad h4
      go_wp2_with fail
      clear d0 d1 d2 d3 d4 d5 d6 d7
      go_loopg [3] ks.length (fun g s3 wx => ∃ i : Nat, i + g = ks.length ∧ s3 = .int .i64 i ∧ Hid (Dm.soleK ks = Dm.soleK (ks.drop i)) ∧ Below w1.heap.size w1 wx)
      case atStart => exact ⟨0, by omega, rfl, by unfold Hid; rfl, Below.refl _ _⟩
      case round =>
        obtain ⟨i, hi, rfl, hso, hbx⟩ := hrel
        have f7 := (HB.out.below hbx HB.out.lt).cells.2.2.2.2.2.2.2
        have hnl : ¬ i < ks.length := by omega
        have HF : Hid (R = true) := by
          unfold Hid
          rw [HE.out, hso.out, List.drop_of_length_le (by omega)]
          rfl
        clear ih
        go_wp2_with fail
        go_ret
        exact ⟨by rw [HF.out]; rfl, HAL.out.trans (hbx.mono HAL.out.size)⟩
    · have q4 : ((d.kd : Int) == 4) = false := by simp; omega
      clear hbad h4
      go_wp2_with fail
      clear d0 d1 d2 d3 d4 d5 d6 d7
      go_loopg [3] ks.length (fun g s3 wx => ∃ i : Nat, i + g = ks.length ∧ s3 = .int .i64 i ∧ Hid (Dm.soleK ks = Dm.soleK (ks.drop i)) ∧ Below w1.heap.size w1 wx)
      case atStart => exact ⟨0, by omega, rfl, by unfold Hid; rfl, Below.refl _ _⟩
      case round =>
        obtain ⟨i, hi, rfl, hso, hbx⟩ := hrel
        have f7 := (HB.out.below hbx HB.out.lt).cells.2.2.2.2.2.2.2
        by_cases hlt : i < ks.length
        · obtain ⟨t, ht⟩ : ∃ t, ks[i]? = some t := ⟨ks[i], List.getElem?_eq_getElem hlt⟩
          obtain ⟨b, o, av, kv, rfl, ⟨m0, m1, m2, m3, m4, m5, m6, m7⟩, hrt⟩ := (HK.out.below hbx).at ht
          have hmem := List.mem_of_getElem? ht
          have hcall := ih t hmem av kv wr hrt (HWT.out t hmem)
          have hdr : Dm.soleK (ks.drop i) = (t.sole && Dm.soleK (ks.drop (i + 1))) := by
            have e : ks.drop i = t :: ks.drop (i + 1) := by
              obtain ⟨hi, rfl⟩ := List.getElem?_eq_some_iff.1 ht
              exact List.drop_eq_getElem_cons hi
            rw [e, Dm.soleK]
          generalize t.sole = q at hcall hdr
          have HC := hide hcall
          have HD := hide hdr
          have HI := hide ih
          clear ih ht hrt hmem hcall hdr
          go_wp2_with fail
          refine HC.out.mono ?_
          rintro e w2 ⟨rfl, hb2⟩
          have hb3 := hide (hbx.trans (hb2.mono hbx.size))
          clear hb2 m0 m1 m2 m3 m4 m5 m6 m7 f7
          cases q with
          | true =>
            go_wp2_with fail
            go_roundg (gk - 1)
            case measure => omega
            case rel => exact ⟨i + 1, by omega, by go_num, by unfold Hid; rw [hso.out, HD.out, Bool.true_and], hb3.out⟩
          | false =>
            have HF : Hid (R = false) := by unfold Hid; rw [HE.out, hso.out, HD.out, Bool.false_and]
            go_wp2_with fail
            go_ret
            exact ⟨by rw [HF.out]; rfl, HAL.out.trans (hb3.out.mono HAL.out.size)⟩
        · have HF : Hid (R = true) := by
            unfold Hid
            rw [HE.out, hso.out, List.drop_of_length_le (by omega)]
            rfl
          clear ih
          go_wp2_with fail
          go_ret
          exact ⟨by rw [HF.out]; rfl, HAL.out.trans (hbx.mono HAL.out.size)⟩
end Go.Proofs.YtagkdmolgmhmdaaGreatDoor
