/- What a tree weighs. -/
import Derived.Test.YtagkdmolgmhmdaaGreatDoorDc
import Derived.IntWalk
namespace Go.Proofs.YtagkdmolgmhmdaaGreatDoor
open Go.RowKit

def Weighed (n : Nat) (most : Int) (w : World) (e : Ending) (w' : World) : Prop :=
  ∃ m : Int, e = .returned (.int .i64 m) ∧ (m ≤ most → m = n) ∧ (most < m → most < n) ∧ 0 ≤ m ∧ m ≤ most + 1125899906842624 ∧ Below w.heap.size w w'

set_option maxRecDepth 100000 in
set_option maxHeartbeats 4000000 in
theorem weigh (s : Dm.T) : ∀ (av kv : Value) (most : Int) (w : World), RdT w s av kv → s.Lim 140737488355328 → 0 ≤ most → most ≤ 1048576 →
    Calls Tryz.prog 34 #[NV s.d av kv, .int .i64 most] w (Weighed s.wt most w) := by
  refine Dm.T.induct (C := fun s => ∀ (av kv : Value) (most : Int) (w : World), RdT w s av kv → s.Lim 140737488355328 → 0 ≤ most → most ≤ 1048576 →
    Calls Tryz.prog 34 #[NV s.d av kv, .int .i64 most] w (Weighed s.wt most w)) (fun d ks ih av kv most w hs hlim hm0 hm1 => ?_) s
  obtain ⟨ha, hk⟩ := RdT.mk_iff.1 hs
  obtain ⟨ka, kc, rfl⟩ := hk.length
  obtain ⟨aa, ac, rfl⟩ := ha.length
  simp only [Dm.T.Lim] at hlim
  obtain ⟨hld, hlk, hlK⟩ := hlim
  have HIH := hide (p := ∀ t ∈ ks, t.Lim 140737488355328) (fun t ht => hlK.mem ht)
  have HLA := hide (p := ∀ a ∈ d.ats, a.Lim 140737488355328) hld.2.2.2.2.2.2
  have l1 := hld.2.2.1
  have l2 := hld.2.2.2.1
  have l3 := hld.2.1
  clear hlK hld hs
  show Calls Tryz.prog 34 #[NV d (.slice aa d.ats.length ac) (.slice ka ks.length kc), .int .i64 most] w _
  obtain ⟨R, hR⟩ : ∃ R, Dm.T.wt (.mk d ks) = R := ⟨_, rfl⟩
  rw [hR]
  have HR := hide hR
  have HO := hide (p := d.own = 1 + d.ats.length + d.tx.length + d.nm.length) rfl
  clear hR
  have b1 := (Box.new w d (.slice aa d.ats.length ac) (.slice ka ks.length kc))
  have hw1 := ((Below.refl w.heap.size w).alloc (Nat.le_refl _) (.cells #[.int .u8 d.kd, S d.sp, S d.nm, .slice aa d.ats.length ac, S d.tx, S d.pb, S d.sy, .slice ka ks.length kc] 26))
  go_enter Tryz.func34, Tryz.ntmps34
  go_upto_region 1 with (fail)
  generalize hgen : (w.alloc (.cells #[.int .u8 d.kd, S d.sp, S d.nm, .slice aa d.ats.length ac, S d.tx, S d.pb, S d.sy, .slice ka ks.length kc] 26)) = w1 at b1 hw1 ⊢
  clear hgen
  obtain ⟨kd, sp, nm, ats, tx, pb, sy⟩ := d
  obtain ⟨d0, d1, d2, d3, d4, d5, d6, d7⟩ := b1.cells
  have hA := hide ha
  have hKs := hide hk
  have hW := hide hw1
  have hB1 := hide b1
  clear ha hk b1 hw1
  simp only at d0 d1 d2 d3 d4 d5 d6 d7 l1 l2 l3 hA
  have HO2 : Hid (∀ i, Dm.wtA (ats.take i) ≤ Dm.wtA ats) := fun i => Dm.wtA_take_le _ _
  have HO3 : Hid (R = 1 + ats.length + tx.length + nm.length + Dm.wtA ats + Dm.wtK ks) := by
    unfold Hid
    rw [← HR.out, Dm.T.wt, Dm.D.own]
  clear HO HR
  go_wp2_with fail
  go_loopg [5, 6] ats.length (fun g s5 s6 wx => ∃ (i q : Nat) (m : Int), i + g = ats.length ∧ s6 = .int .i64 i ∧ s5 = .int .i64 m ∧ wx = w1.drewN q ∧ 0 ≤ m ∧ m ≤ most + 562949953421312 ∧ Hid (m = 1 + ats.length + tx.length + nm.length + Dm.wtA (ats.take i)))
  case atStart => exact ⟨0, 0, _, by omega, rfl, rfl, rfl, by omega, by omega, by simp [Hid, Dm.wtA]⟩
  case round =>
    obtain ⟨i, q, m, hi, rfl, rfl, rfl, hm2, hm3, hm⟩ := hrel
    by_cases hlt : i < ats.length ∧ m ≤ most
    · obtain ⟨hlt, hle⟩ := hlt
      obtain ⟨x, hx⟩ : ∃ x, ats[i]? = some x := ⟨ats[i], List.getElem?_eq_getElem hlt⟩
      obtain ⟨b, o, rfl, c0, c1, c2⟩ := (hA.out.below hW.out).at hx
      obtain ⟨x1, x2, x3⟩ := HLA.out x (List.mem_of_getElem? hx)
      have HX := hide hx
      clear hx
      have e1 : IntKind.i64.wrap (m + (x.vl.length : Int)) = m + (x.vl.length : Int) := IntWalk.i64_in _ (by omega)
      have e2 : IntKind.i64.wrap (m + (x.vl.length : Int) + (x.nm.length : Int)) = m + (x.vl.length : Int) + (x.nm.length : Int) := IntWalk.i64_in _ (by omega)
      go_wp2_with fail
      go_quiet (fail)
      clear e1 e2
      go_wp2_with fail
      go_roundg (gk - 1)
      case measure => omega
      case rel =>
        refine ⟨i + 1, _, _, by omega, by go_num, rfl, by first | rfl | exact World.drewN_drewN _ _ _, by omega, by omega, ?_⟩
        unfold Hid
        rw [Dm.wtA_take _ _ _ HX.out, Dm.A.wt, hm.out]
        omega
    · have HM : Hid ((m ≤ most → m = 1 + ats.length + tx.length + nm.length + Dm.wtA ats) ∧ (most < m → most < R)) := by
        have h1 := hm.out
        have h2 := HO2.out i
        have h3 := HO3.out
        refine ⟨fun hle => ?_, fun hgt => by omega⟩
        have : i = ats.length := by omega
        rw [this, List.take_of_length_le (Nat.le_refl _)] at h1
        exact h1
      clear hm
      have hcase : (¬ i < ats.length) ∨ (i < ats.length ∧ most < m) := by omega
      clear hlt
      rcases hcase with hlt | ⟨hlt, hgt⟩
      all_goals
        go_wp2_with fail
        go_loopg [5, 7] ks.length (fun g s5 s7 wx => ∃ (j : Nat) (m : Int), j + g = ks.length ∧ s7 = .int .i64 j ∧ s5 = .int .i64 m ∧ 0 ≤ m ∧ m ≤ most + 1125899906842624 ∧
          Hid ((m ≤ most → m = 1 + ats.length + tx.length + nm.length + Dm.wtA ats + Dm.wtK (ks.take j)) ∧ (most < m → most < R)) ∧ Below w1.heap.size w1 wx)
        case atStart => exact ⟨0, m, by omega, rfl, rfl, hm2, by omega, by simpa [Hid, Dm.wtK] using HM.out, belowN w1 _⟩
        case round =>
          obtain ⟨j, m, hj, rfl, rfl, hm2, hm3, hm, hbx⟩ := hrel
          have f7 := (hB1.out.below hbx hB1.out.lt).cells.2.2.2.2.2.2.2
          have hwx : Below w.heap.size w wr := hW.out.trans (hbx.mono hW.out.size)
          have hsx := hbx.size
          by_cases hlt2 : j < ks.length ∧ m ≤ most
          · obtain ⟨hlt2, hle⟩ := hlt2
            obtain ⟨t, ht⟩ : ∃ t, ks[j]? = some t := ⟨ks[j], List.getElem?_eq_getElem hlt2⟩
            obtain ⟨b, o, av, kv, rfl, ⟨m0, m1, m2, m3, m4, m5, m6, m7⟩, hrt⟩ := (hKs.out.below hwx).at ht
            have hmem := List.mem_of_getElem? ht
            have HT := hide (p := ks[j]? = some t) ht
            have hcall := hide (ih t hmem av kv (most - m) wr hrt (HIH.out t hmem) (by omega) (by omega))
            have HI := hide ih
            clear ih ht hrt hmem hKs
            go_wp2_with fail
            refine hcall.out.mono ?_
            rintro e w2 ⟨mk, rfl, hk1, hk2, hk3, hk4, hb2⟩
            have hb3 := hbx.trans (hb2.mono hsx)
            have HKK := hide (p := (mk ≤ most - m → mk = t.wt) ∧ (most - m < mk → most - m < t.wt)) ⟨hk1, hk2⟩
            clear hk1 hk2
            go_wp2_with fail
            go_roundg (gk - 1)
            case measure => omega
            case rel =>
              refine ⟨j + 1, _, by omega, by go_num, rfl, by omega, by omega, ?_, hb3⟩
              have h1 := hm.out
              have h2 := HKK.out
              have h3 := HO3.out
              have h4 := Dm.wtK_take _ _ _ HT.out
              have h5 := Dm.wtK_take_le ks (j + 1)
              unfold Hid
              rw [h4]
              rw [h4] at h5
              refine ⟨fun h => ?_, fun h => ?_⟩
              · have := h1.1 hle
                have := h2.1 (by omega)
                omega
              · have := h1.1 hle
                by_cases hq : mk ≤ most - m
                · have := h2.1 hq
                  omega
                · have := h2.2 (by omega)
                  omega
          · have HQ : Hid ((m ≤ most → m = R) ∧ (most < m → most < R)) := by
              have h1 := hm.out
              have h3 := HO3.out
              refine ⟨fun hle => ?_, h1.2⟩
              have h4 := h1.1 hle
              rw [List.take_of_length_le (by omega)] at h4
              omega
            clear hm ih
            have hcase : (¬ j < ks.length) ∨ (j < ks.length ∧ most < m) := by omega
            clear hlt2
            rcases hcase with hlt2 | ⟨hlt2, hgt2⟩
            all_goals
              go_wp2_with fail
              go_ret
              exact ⟨m, rfl, HQ.out.1, HQ.out.2, hm2, hm3, hwx⟩
end Go.Proofs.YtagkdmolgmhmdaaGreatDoor
