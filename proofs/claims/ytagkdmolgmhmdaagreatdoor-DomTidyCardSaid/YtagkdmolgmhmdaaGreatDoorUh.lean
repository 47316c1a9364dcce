/- The law DomTidy, walked. -/
import Derived.Test.YtagkdmolgmhmdaaGreatDoorTg
import Derived.Test.YtagkdmolgmhmdaaGreatDoorUg
import Derived.Test.YtagkdmolgmhmdaaGreatDoorUe
import Derived.Test.YtagkdmolgmhmdaaGreatDoorSk
import Derived.BigQuiet
import Derived.Deep.RegionWith
import Derived.Deep.QuietTactic
namespace Go.Proofs.YtagkdmolgmhmdaaGreatDoor
open Go.RowKit

set_option maxRecDepth 100000 in
set_option maxHeartbeats 8000000 in
theorem law_tidy (t : Dm.T) (av kv : Value) (w : World) (htab : Tab w) (hs : RdT w t av kv) (hlim : t.Lim 140737488355328) :
    Calls Tryz.prog 7 #[NV t.d av kv] w (Fresh (.bool true) w) := by
  obtain ⟨⟨aa, ac, rfl⟩, ka, kc, rfl⟩ := (⟨(hs.eta).1.length, (hs.eta).2.length⟩ : (∃ ao c, av = .slice ao t.d.ats.length c) ∧ ∃ ko c, kv = .slice ko t.ks.length c)
  have hw1 := (Below.refl w.heap.size w).alloc (Nat.le_refl _) (.cells #[.int .u8 t.d.kd, S t.d.sp, S t.d.nm, .slice aa t.d.ats.length ac, S t.d.tx, S t.d.pb, S t.d.sy, .slice ka t.ks.length kc] 26)
  have b1 := Box.new w t.d (.slice aa t.d.ats.length ac) (.slice ka t.ks.length kc)
  have HT := hide (htab.below hw1)
  have HRD := hide (hs.below hw1)
  clear htab hs
  go_enter Tryz.func7, Tryz.ntmps7
  go_upto_region 1 with (fail)
  generalize hgen : (w.alloc (.cells #[.int .u8 t.d.kd, S t.d.sp, S t.d.nm, .slice aa t.d.ats.length ac, S t.d.tx, S t.d.pb, S t.d.sy, .slice ka t.ks.length kc] 26)) = w1 at b1 hw1 HT HRD ⊢
  clear hgen
  have HW := hide hw1
  have HB := hide b1
  have h1 := hide (works w1 HT.out)
  clear hw1 b1
  go_wp2_with fail
  refine Calls.mono h1.out ?_
  rintro e w2 ⟨rfl, hb2⟩
  have HB2 := hide hb2
  obtain ⟨d0, d1, d2, d3, d4, d5, d6, d7⟩ := (HB.out.below hb2 HB.out.lt).cells
  have h2 := hide (far t _ _ w2 (HRD.out.below hb2) hlim)
  clear hb2
  go_wp2_with fail
  refine Calls.mono h2.out ?_
  rintro e w3 ⟨z, rfl, hz, hb3⟩
  have HB3 := hide (HB2.out.trans (hb3.mono HB2.out.size))
  clear hb3 d0 d1 d2 d3 d4 d5 d6 d7
  cases z with
  | true =>
    go_wp2_with fail
    go_ret
    exact ⟨rfl, HW.out.trans (HB3.out.mono HW.out.size)⟩
  | false =>
  have hwt := hz rfl
  clear hz
  obtain ⟨T, hTT⟩ : ∃ T, t.tidy = T := ⟨_, rfl⟩
  have HTT := hide hTT
  have HTW := hide (show T.wt ≤ 8192 by rw [← hTT]; have := Dm.tidy_wt t; omega)
  have HTI := hide (show T.tidy = T by rw [← hTT]; exact Dm.tidy_tidy t)
  have HLT := hide (show T.Lim 140737488355328 by rw [← hTT]; exact Dm.tidy_lim t hlim (by omega))
  clear hTT
  obtain ⟨d0, d1, d2, d3, d4, d5, d6, d7⟩ := (HB.out.below HB3.out HB.out.lt).cells
  have hc := hide ((by have := tidy t _ _ w3 (HRD.out.below HB3.out) (by omega); rw [HTT.out] at this; exact this : Calls Tryz.prog 28 #[NV t.d (.slice aa t.d.ats.length ac) (.slice ka t.ks.length kc)] w3 (Made T w3)))
  go_wp2_with fail
  refine Calls.mono hc.out ?_
  rintro e w4 ⟨xa, xk, F, rfl, how, hnd, hfr, hbj⟩
  obtain ⟨⟨xo, xc, rfl⟩, yo, yc, rfl⟩ := how.forms
  have HOWF := hide how
  clear how hnd hfr hc d0 d1 d2 d3 d4 d5 d6 d7
  have hal := (Below.refl w4.heap.size w4).alloc (Nat.le_refl _) (.cells #[.int .u8 T.d.kd, S T.d.sp, S T.d.nm, .slice xo T.d.ats.length xc, S T.d.tx, S T.d.pb, S T.d.sy, .slice yo T.ks.length yc] 26)
  have hbx := Box.new w4 T.d (.slice xo T.d.ats.length xc) (.slice yo T.ks.length yc)
  go_upto_region 8 with (fail)
  generalize hgen : w4.alloc (.cells #[.int .u8 T.d.kd, S T.d.sp, S T.d.nm, .slice xo T.d.ats.length xc, S T.d.tx, S T.d.pb, S T.d.sy, .slice yo T.ks.length yc] 26) = w5 at hal hbx ⊢
  have HSTw5 := hide (hbj.trans (hal.mono hbj.size))
  have HALw5 := hide hal
  have HX := hide hbx
  clear hgen hal hbx hbj
  have HB5 := hide (HB3.out.trans (HSTw5.out.mono HB3.out.size))
  have HRX := hide ((OwT.rd T _ _ _ HOWF.out).below HALw5.out)
  obtain ⟨d0, d1, d2, d3, d4, d5, d6, d7⟩ := (HX.out).cells
  have hc := hide ((by have := tidy T _ _ w5 HRX.out (by have := HTW.out; omega); rw [HTI.out] at this; exact this : Calls Tryz.prog 28 #[NV T.d (.slice xo T.d.ats.length xc) (.slice yo T.ks.length yc)] w5 (Made T w5)))
  go_wp2_with fail
  refine Calls.mono hc.out ?_
  rintro e w6 ⟨xa, xk, G, rfl, how, hnd, hfr, hbj⟩
  obtain ⟨⟨po, pc, rfl⟩, qo, qc, rfl⟩ := how.forms
  have HOWG := hide how
  clear how hnd hfr hc d0 d1 d2 d3 d4 d5 d6 d7
  have hal := (Below.refl w6.heap.size w6).alloc (Nat.le_refl _) (.cells #[.int .u8 T.d.kd, S T.d.sp, S T.d.nm, .slice po T.d.ats.length pc, S T.d.tx, S T.d.pb, S T.d.sy, .slice qo T.ks.length qc] 26)
  have hbx := Box.new w6 T.d (.slice po T.d.ats.length pc) (.slice qo T.ks.length qc)
  go_upto_region 9 with (fail)
  generalize hgen : w6.alloc (.cells #[.int .u8 T.d.kd, S T.d.sp, S T.d.nm, .slice po T.d.ats.length pc, S T.d.tx, S T.d.pb, S T.d.sy, .slice qo T.ks.length qc] 26) = w7 at hal hbx ⊢
  have HSTw7 := hide (hbj.trans (hal.mono hbj.size))
  have HALw7 := hide hal
  have HY := hide hbx
  clear hgen hal hbx hbj
  have HB7 := hide (HB5.out.trans (HSTw7.out.mono HB5.out.size))
  have HRY := hide ((OwT.rd T _ _ _ HOWG.out).below HALw7.out)
  have HRX7 := hide (HRX.out.below HSTw7.out)
  have HX7 := hide (HX.out.below HSTw7.out HX.out.lt)
  have HB_7 := hide (HB.out.below HB7.out HB.out.lt)
  have HRD7 := hide (HRD.out.below HB7.out)
  have HT7 := hide (HT.out.below HB7.out)
  clear HOWF HOWG HSTw5 HSTw7 HALw5 HALw7 HX HRX HB HRD HT h1 h2 HB2 HB3 HB5
  obtain ⟨d0, d1, d2, d3, d4, d5, d6, d7⟩ := (HX7.out).cells
  obtain ⟨e0, e1, e2, e3, e4, e5, e6, e7⟩ := (HY.out).cells
  have hc := sameNode 140737488355328 (by omega) T T _ _ _ _ w7 HRX7.out HRY.out HLT.out
  rw [T.same_self] at hc
  have HCC := hide hc
  clear hc
  go_wp2_with fail
  refine Calls.mono HCC.out ?_
  rintro e w8 ⟨rfl, hb8⟩
  have H8 := hide hb8
  clear hb8 HCC d0 d1 d2 d3 d4 d5 d6 d7 e0 e1 e2 e3 e4 e5 e6 e7
  obtain ⟨p, hp⟩ : ∃ p, t.may = p := ⟨_, rfl⟩
  obtain ⟨q, hq⟩ : ∃ q, T.same t = q := ⟨_, rfl⟩
  obtain ⟨r, hr⟩ : ∃ r, t.sole = r := ⟨_, rfl⟩
  have HPQ := hide (show p = true → q = true by
    intro h
    rw [← hq, ← HTT.out, Dm.tidy_may t (hp.trans h)]
    exact t.same_self)
  have HTX := hide (show r = true → T.texts = t.texts by
    intro h
    rw [← HTT.out]
    exact (Dm.tidy_texts t (hr.trans h)).1)
  obtain ⟨d0, d1, d2, d3, d4, d5, d6, d7⟩ := (HB_7.out.below H8.out HB_7.out.lt).cells
  have hc := check t _ _ w8 (HT7.out.below H8.out) (HRD7.out.below H8.out) hlim (by omega)
  rw [hp] at hc
  have HCC := hide hc
  clear hc hp
  obtain ⟨ev, hev⟩ : ∃ ev : Int, errOf p = ev := ⟨_, rfl⟩
  rw [hev] at HCC
  have HEV := hide hev
  clear hev
  go_wp2_with fail
  refine Calls.mono HCC.out ?_
  rintro e w9 ⟨rfl, hb9⟩
  have H9 := hide (H8.out.trans (hb9.mono H8.out.size))
  clear hb9 HCC d0 d1 d2 d3 d4 d5 d6 d7
  obtain ⟨d0, d1, d2, d3, d4, d5, d6, d7⟩ := (HX7.out.below H9.out HX7.out.lt).cells
  obtain ⟨e0, e1, e2, e3, e4, e5, e6, e7⟩ := (HB_7.out.below H9.out HB_7.out.lt).cells
  have hc := sameNode 140737488355328 (by omega) T t _ _ _ _ w9 (HRX7.out.below H9.out) (HRD7.out.below H9.out) HLT.out
  rw [hq] at hc
  have HCC := hide hc
  clear hc hq
  go_wp2_with fail
  refine Calls.mono HCC.out ?_
  rintro e w10 ⟨rfl, hb10⟩
  have H10 := hide (H9.out.trans (hb10.mono H9.out.size))
  clear hb10 HCC d0 d1 d2 d3 d4 d5 d6 d7 e0 e1 e2 e3 e4 e5 e6 e7
  obtain ⟨d0, d1, d2, d3, d4, d5, d6, d7⟩ := (HB_7.out.below H10.out HB_7.out.lt).cells
  have hc := sole_ t _ _ w10 (HRD7.out.below H10.out) (by omega)
  rw [hr] at hc
  have HCC := hide hc
  clear hc hr
  go_wp2_with fail
  refine Calls.mono HCC.out ?_
  rintro e w11 ⟨rfl, hb11⟩
  have H11 := hide (H10.out.trans (hb11.mono H10.out.size))
  have HW11 := hide (HW.out.trans ((HB7.out.trans (H11.out.mono HB7.out.size)).mono HW.out.size))
  clear hb11 HCC d0 d1 d2 d3 d4 d5 d6 d7 H8 H9 H10
  go_wp2_with fail
  have HALL : Hid (∀ W, Below w11.heap.size w11 W → W.cell? ⟨w4.heap.size, 0, none⟩ = some (.int .u8 T.d.kd) ∧ W.cell? ⟨w4.heap.size, 1, none⟩ = some (S T.d.sp) ∧ W.cell? ⟨w4.heap.size, 2, none⟩ = some (S T.d.nm) ∧ W.cell? ⟨w4.heap.size, 3, none⟩ = some (.slice xo T.d.ats.length xc) ∧ W.cell? ⟨w4.heap.size, 4, none⟩ = some (S T.d.tx) ∧ W.cell? ⟨w4.heap.size, 5, none⟩ = some (S T.d.pb) ∧ W.cell? ⟨w4.heap.size, 6, none⟩ = some (S T.d.sy) ∧ W.cell? ⟨w4.heap.size, 7, none⟩ = some (.slice yo T.ks.length yc) ∧ W.cell? ⟨w.heap.size, 0, none⟩ = some (.int .u8 t.d.kd) ∧ W.cell? ⟨w.heap.size, 1, none⟩ = some (S t.d.sp) ∧ W.cell? ⟨w.heap.size, 2, none⟩ = some (S t.d.nm) ∧ W.cell? ⟨w.heap.size, 3, none⟩ = some (.slice aa t.d.ats.length ac) ∧ W.cell? ⟨w.heap.size, 4, none⟩ = some (S t.d.tx) ∧ W.cell? ⟨w.heap.size, 5, none⟩ = some (S t.d.pb) ∧ W.cell? ⟨w.heap.size, 6, none⟩ = some (S t.d.sy) ∧ W.cell? ⟨w.heap.size, 7, none⟩ = some (.slice ka t.ks.length kc)) := fun W hW => by
    obtain ⟨d0, d1, d2, d3, d4, d5, d6, d7⟩ := ((HX7.out.below (H11.out.trans (hW.mono H11.out.size)) HX7.out.lt)).cells
    obtain ⟨e0, e1, e2, e3, e4, e5, e6, e7⟩ := ((HB_7.out.below (H11.out.trans (hW.mono H11.out.size)) HB_7.out.lt)).cells
    exact ⟨d0, d1, d2, d3, d4, d5, d6, d7, e0, e1, e2, e3, e4, e5, e6, e7⟩
  have HRA : Hid (∀ W, Below w11.heap.size w11 W → RdT W T (.slice xo T.d.ats.length xc) (.slice yo T.ks.length yc)) := fun W hW => HRX7.out.below (H11.out.trans (hW.mono H11.out.size))
  have HRB : Hid (∀ W, Below w11.heap.size w11 W → RdT W t (.slice aa t.d.ats.length ac) (.slice ka t.ks.length kc)) := fun W hW => HRD7.out.below (H11.out.trans (hW.mono H11.out.size))
  have htw : T.wt ≤ 1048576 := by have := HTW.out; omega
  have hw3 : t.wt ≤ 1048576 := by omega
  have hlT := HLT.out
  clear HRX7 HRD7 HRY HY HT7 HTT HTI HTW HLT hwt
  have hep : ev = 0 ∧ q = true ∨ ev = 30 := by
    cases p with
    | true => exact .inl ⟨HEV.out.symm, HPQ.out rfl⟩
    | false => exact .inr HEV.out.symm
  clear HEV HPQ
  obtain ⟨d0, d1, d2, d3, d4, d5, d6, d7, e0, e1, e2, e3, e4, e5, e6, e7⟩ := HALL.out w11 (Below.refl _ _)
  have hfin : Hid (∀ W, Below w11.heap.size w11 W → Below w.heap.size w W) := fun W hW => HW11.out.trans (hW.mono HW11.out.size)
  clear HX7 HB_7 HW11 H11
  cases r with
  | false =>
    clear HTX
    rcases hep with ⟨rfl, rfl⟩ | rfl
    all_goals
      go_quiet (fail)
      all_goals
        clear HALL HRA HRB
        go_wp2_with fail
        go_ret
        exact ⟨rfl, hfin.out _ (by first | exact Below.refl _ _ | exact (Below.refl _ _).drew | exact below_drewN (Below.refl _ _) _ | assumption)⟩
  | true =>
    have hbt : (T.texts == t.texts) = true := by rw [HTX.out rfl]; exact beq_self_eq_true _
    clear HTX
    rcases hep with ⟨rfl, rfl⟩ | rfl
    · go_region_held3 (fun w' => w'.cell? ⟨w4.heap.size, 0, none⟩ = some (.int .u8 T.d.kd) ∧ w'.cell? ⟨w4.heap.size, 1, none⟩ = some (S T.d.sp) ∧ w'.cell? ⟨w4.heap.size, 2, none⟩ = some (S T.d.nm) ∧ w'.cell? ⟨w4.heap.size, 3, none⟩ = some (.slice xo T.d.ats.length xc) ∧ w'.cell? ⟨w4.heap.size, 4, none⟩ = some (S T.d.tx) ∧ w'.cell? ⟨w4.heap.size, 5, none⟩ = some (S T.d.pb) ∧ w'.cell? ⟨w4.heap.size, 6, none⟩ = some (S T.d.sy) ∧ w'.cell? ⟨w4.heap.size, 7, none⟩ = some (.slice yo T.ks.length yc) ∧ w'.cell? ⟨w.heap.size, 0, none⟩ = some (.int .u8 t.d.kd) ∧ w'.cell? ⟨w.heap.size, 1, none⟩ = some (S t.d.sp) ∧ w'.cell? ⟨w.heap.size, 2, none⟩ = some (S t.d.nm) ∧ w'.cell? ⟨w.heap.size, 3, none⟩ = some (.slice aa t.d.ats.length ac) ∧ w'.cell? ⟨w.heap.size, 4, none⟩ = some (S t.d.tx) ∧ w'.cell? ⟨w.heap.size, 5, none⟩ = some (S t.d.pb) ∧ w'.cell? ⟨w.heap.size, 6, none⟩ = some (S t.d.sy) ∧ w'.cell? ⟨w.heap.size, 7, none⟩ = some (.slice ka t.ks.length kc)) (first | exact HALL.out _ (Below.refl _ _) | exact HALL.out _ (Below.refl _ _).drew | exact HALL.out _ (by assumption) | assumption) (first | (go_at_call 24; refine Calls.mono (texts_ _ _ _ _ (by first | exact HRA.out _ (by first | assumption | exact (Below.refl _ _).drew) | exact HRB.out _ (by first | assumption | exact (Below.refl _ _).drew)) (by assumption) (by assumption)) ?_; rintro e w12 ⟨rfl, hb12⟩; have hz12 : Below w11.heap.size w11 w12 := by first | exact below_d hb12 | exact below_two (by assumption) hb12))
      all_goals
        clear HALL HRA HRB
        go_wp2_with fail
        go_ret
        exact ⟨by first | rfl | simp [hbt], hfin.out _ (by assumption)⟩
    · refine wp_region_noPanic ?_
      refine wp_region_held_drew (S := fun w' : World => w'.cell? ⟨w4.heap.size, 0, none⟩ = some (.int .u8 T.d.kd) ∧ w'.cell? ⟨w4.heap.size, 1, none⟩ = some (S T.d.sp) ∧ w'.cell? ⟨w4.heap.size, 2, none⟩ = some (S T.d.nm) ∧ w'.cell? ⟨w4.heap.size, 3, none⟩ = some (.slice xo T.d.ats.length xc) ∧ w'.cell? ⟨w4.heap.size, 4, none⟩ = some (S T.d.tx) ∧ w'.cell? ⟨w4.heap.size, 5, none⟩ = some (S T.d.pb) ∧ w'.cell? ⟨w4.heap.size, 6, none⟩ = some (S T.d.sy) ∧ w'.cell? ⟨w4.heap.size, 7, none⟩ = some (.slice yo T.ks.length yc) ∧ w'.cell? ⟨w.heap.size, 0, none⟩ = some (.int .u8 t.d.kd) ∧ w'.cell? ⟨w.heap.size, 1, none⟩ = some (S t.d.sp) ∧ w'.cell? ⟨w.heap.size, 2, none⟩ = some (S t.d.nm) ∧ w'.cell? ⟨w.heap.size, 3, none⟩ = some (.slice aa t.d.ats.length ac) ∧ w'.cell? ⟨w.heap.size, 4, none⟩ = some (S t.d.tx) ∧ w'.cell? ⟨w.heap.size, 5, none⟩ = some (S t.d.pb) ∧ w'.cell? ⟨w.heap.size, 6, none⟩ = some (S t.d.sy) ∧ w'.cell? ⟨w.heap.size, 7, none⟩ = some (.slice ka t.ks.length kc)) (by kernel_rfl) (HALL.out w11 (Below.refl _ _)) (fun hHeld => ?_)
      refine wpAnyH_take (i := 0) (oi := ?o_1) (v := ?v_1) ?hi_1 (by kernel_rfl) (by kernel_rfl) (by kernel_rfl) (fun _ _ _ h => h) (Or.inl ⟨?hw_1, ?hy_1⟩) (by assumption) ?rest_1
      case hi_1 => (simp only [List.getElem?_toArray, List.getElem?_cons_zero]; rfl)
      case hw_1 => rfl
      case hy_1 => (intro w hSw; (try dsimp only at hSw); go_simp; try with_reducible rfl)
      simp only [Act.put, List.setIfInBounds_toArray, List.set_cons_zero, List.set_cons_succ]
      refine wpAnyH_take (i := 1) (oi := ?o_2) (v := ?v_2) ?hi_2 (by kernel_rfl) (by kernel_rfl) (by kernel_rfl) (fun _ _ _ h => h) (Or.inl ⟨?hw_2, ?hy_2⟩) (by assumption) ?rest_2
      case hi_2 => (simp only [List.getElem?_toArray, List.getElem?_cons_succ, List.getElem?_cons_zero]; rfl)
      case hw_2 => rfl
      case hy_2 => (intro w hSw; (try dsimp only at hSw); go_simp; try with_reducible rfl)
      simp only [Act.put, List.setIfInBounds_toArray, List.set_cons_zero, List.set_cons_succ]
      refine wpAnyH_take (i := 2) (oi := ?o_3) (v := ?v_3) ?hi_3 (by kernel_rfl) (by kernel_rfl) (by kernel_rfl) (fun _ _ _ h => h) (Or.inl ⟨?hw_3, ?hy_3⟩) (by assumption) ?rest_3
      case hi_3 => (simp only [List.getElem?_toArray, List.getElem?_cons_succ, List.getElem?_cons_zero]; rfl)
      case hw_3 => rfl
      case hy_3 => (intro w hSw; (try dsimp only at hSw); go_simp; try with_reducible rfl)
      simp only [Act.put, List.setIfInBounds_toArray, List.set_cons_zero, List.set_cons_succ]
      refine wpAnyH_take (i := 3) (oi := ?o_4) (v := ?v_4) ?hi_4 (by kernel_rfl) (by kernel_rfl) (by kernel_rfl) (fun _ _ _ h => h) (Or.inl ⟨?hw_4, ?hy_4⟩) (by assumption) ?rest_4
      case hi_4 => (simp only [List.getElem?_toArray, List.getElem?_cons_succ, List.getElem?_cons_zero]; rfl)
      case hw_4 => rfl
      case hy_4 => (intro w hSw; (try dsimp only at hSw); go_simp; try with_reducible rfl)
      simp only [Act.put, List.setIfInBounds_toArray, List.set_cons_zero, List.set_cons_succ]
      refine wpAnyH_take (i := 4) (oi := ?o_5) (v := ?v_5) ?hi_5 (by kernel_rfl) (by kernel_rfl) (by kernel_rfl) (fun _ _ _ h => h) (Or.inl ⟨?hw_5, ?hy_5⟩) (by assumption) ?rest_5
      case hi_5 => (simp only [List.getElem?_toArray, List.getElem?_cons_succ, List.getElem?_cons_zero]; rfl)
      case hw_5 => rfl
      case hy_5 => (intro w hSw; (try dsimp only at hSw); go_simp; try with_reducible rfl)
      simp only [Act.put, List.setIfInBounds_toArray, List.set_cons_zero, List.set_cons_succ]
      refine wpAnyH_take (i := 5) (oi := ?o_6) (v := ?v_6) ?hi_6 (by kernel_rfl) (by kernel_rfl) (by kernel_rfl) (fun _ _ _ h => h) (Or.inl ⟨?hw_6, ?hy_6⟩) (by assumption) ?rest_6
      case hi_6 => (simp only [List.getElem?_toArray, List.getElem?_cons_succ, List.getElem?_cons_zero]; rfl)
      case hw_6 => rfl
      case hy_6 => (intro w hSw; (try dsimp only at hSw); go_simp; try with_reducible rfl)
      simp only [Act.put, List.setIfInBounds_toArray, List.set_cons_zero, List.set_cons_succ]
      refine wpAnyH_take (i := 6) (oi := ?o_7) (v := ?v_7) ?hi_7 (by kernel_rfl) (by kernel_rfl) (by kernel_rfl) (fun _ _ _ h => h) (Or.inl ⟨?hw_7, ?hy_7⟩) (by assumption) ?rest_7
      case hi_7 => (simp only [List.getElem?_toArray, List.getElem?_cons_succ, List.getElem?_cons_zero]; rfl)
      case hw_7 => rfl
      case hy_7 => (intro w hSw; (try dsimp only at hSw); go_simp; try with_reducible rfl)
      simp only [Act.put, List.setIfInBounds_toArray, List.set_cons_zero, List.set_cons_succ]
      refine wpAnyH_take (i := 7) (oi := ?o_8) (v := ?v_8) ?hi_8 (by kernel_rfl) (by kernel_rfl) (by kernel_rfl) (fun _ _ _ h => h) (Or.inl ⟨?hw_8, ?hy_8⟩) (by assumption) ?rest_8
      case hi_8 => (simp only [List.getElem?_toArray, List.getElem?_cons_succ, List.getElem?_cons_zero]; rfl)
      case hw_8 => rfl
      case hy_8 => (intro w hSw; (try dsimp only at hSw); go_simp; try with_reducible rfl)
      simp only [Act.put, List.setIfInBounds_toArray, List.set_cons_zero, List.set_cons_succ]
      refine wpAnyH_take (i := 8) (oi := ?o_9) (v := ?v_9) ?hi_9 (by kernel_rfl) (by kernel_rfl) (by kernel_rfl) (fun _ _ _ h => h) (Or.inl ⟨?hw_9, ?hy_9⟩) (by assumption) ?rest_9
      case hi_9 => (simp only [List.getElem?_toArray, List.getElem?_cons_succ, List.getElem?_cons_zero]; rfl)
      case hw_9 => rfl
      case hy_9 => (intro w hSw; (try dsimp only at hSw); go_simp; try with_reducible rfl)
      simp only [Act.put, List.setIfInBounds_toArray, List.set_cons_zero, List.set_cons_succ]
      refine wpAnyH_take (i := 10) (oi := ?o_10) (v := ?v_10) ?hi_10 (by kernel_rfl) (by kernel_rfl) (by kernel_rfl) (fun _ _ _ h => h) (Or.inl ⟨?hw_10, ?hy_10⟩) (by assumption) ?rest_10
      case hi_10 => (simp only [List.getElem?_toArray, List.getElem?_cons_succ, List.getElem?_cons_zero]; rfl)
      case hw_10 => rfl
      case hy_10 => (intro w hSw; (try dsimp only at hSw); go_simp; try with_reducible rfl)
      simp only [Act.put, List.setIfInBounds_toArray, List.set_cons_zero, List.set_cons_succ]
      refine wpAnyH_ready (rs := [9]) (by kernel_rfl) (by simp) ?_
      refine AllReadyH.cons (o := ?o_11) ?hi_11 (fun K hK => ?step_11) ?more_11
      case hi_11 => (simp only [List.getElem?_toArray, List.getElem?_cons_succ, List.getElem?_cons_zero]; rfl)
      case step_11 =>
        go_simp
        refine Calls.mono (texts_ _ _ _ _ (by first | exact HRA.out _ (by first | assumption | exact (Below.refl _ _).drew) | exact HRB.out _ (by first | assumption | exact (Below.refl _ _).drew)) (by assumption) (by assumption)) ?_
        rintro e w29 ⟨rfl, hb29⟩
        have hz29 : Below w11.heap.size w11 w29 := by first | exact below_d hb29 | exact below_two (by assumption) hb29
        refine hK.out _ _ (HALL.out _ hz29) (fun hHeld2 => ?_)
        clear hK K hHeld
        have hHeld := hHeld2
        clear hHeld2
        try simp only [Act.put, List.setIfInBounds_toArray, List.set_cons_zero, List.set_cons_succ]
        refine wpAnyH_ready (rs := [11]) (by kernel_rfl) (by simp) ?_
        refine AllReadyH.cons (o := ?o_12) ?hi_12 (fun K hK => ?step_12) ?more_12
        case hi_12 => (simp only [List.getElem?_toArray, List.getElem?_cons_succ, List.getElem?_cons_zero]; rfl)
        case step_12 =>
          go_simp
          refine Calls.mono (texts_ _ _ _ _ (by first | exact HRA.out _ (by first | assumption | exact (Below.refl _ _).drew) | exact HRB.out _ (by first | assumption | exact (Below.refl _ _).drew)) (by assumption) (by assumption)) ?_
          rintro e w31 ⟨rfl, hb31⟩
          have hz31 : Below w11.heap.size w11 w31 := by first | exact below_d hb31 | exact below_two (by assumption) hb31
          refine hK.out _ _ (HALL.out _ hz31) (fun hHeld2 => ?_)
          clear hK K hHeld
          have hHeld := hHeld2
          clear hHeld2
          try simp only [Act.put, List.setIfInBounds_toArray, List.set_cons_zero, List.set_cons_succ]
          refine wpAnyH_take (i := 12) (oi := ?o_13) (v := ?v_13) ?hi_13 (by kernel_rfl) (by kernel_rfl) (by kernel_rfl) (fun _ _ _ h => h) (Or.inl ⟨?hw_13, ?hy_13⟩) (by assumption) ?rest_13
          case hi_13 => (simp only [List.getElem?_toArray, List.getElem?_cons_succ, List.getElem?_cons_zero]; rfl)
          case hw_13 => rfl
          case hy_13 => (intro w hSw; (try dsimp only at hSw); go_simp; try with_reducible rfl)
          simp only [Act.put, List.setIfInBounds_toArray, List.set_cons_zero, List.set_cons_succ]
          refine wpAnyH_take (i := 13) (oi := ?o_14) (v := ?v_14) ?hi_14 (by kernel_rfl) (by kernel_rfl) (by kernel_rfl) (fun _ _ _ h => h) (Or.inl ⟨?hw_14, ?hy_14⟩) (by assumption) ?rest_14
          case hi_14 => (simp only [List.getElem?_toArray, List.getElem?_cons_succ, List.getElem?_cons_zero]; rfl)
          case hw_14 => rfl
          case hy_14 => (intro w hSw; (try dsimp only at hSw); go_simp; try with_reducible rfl)
          simp only [Act.put, List.setIfInBounds_toArray, List.set_cons_zero, List.set_cons_succ]
          refine wpAnyH_take (i := 14) (oi := ?o_15) (v := ?v_15) ?hi_15 (by kernel_rfl) (by kernel_rfl) (by kernel_rfl) (fun _ _ _ h => h) (Or.inl ⟨?hw_15, ?hy_15⟩) (by assumption) ?rest_15
          case hi_15 => (simp only [List.getElem?_toArray, List.getElem?_cons_succ, List.getElem?_cons_zero]; rfl)
          case hw_15 => rfl
          case hy_15 => (intro w hSw; (try dsimp only at hSw); go_simp; try with_reducible rfl)
          simp only [Act.put, List.setIfInBounds_toArray, List.set_cons_zero, List.set_cons_succ]
          refine wpAnyH_take (i := 15) (oi := ?o_16) (v := ?v_16) ?hi_16 (by kernel_rfl) (by kernel_rfl) (by kernel_rfl) (fun _ _ _ h => h) (Or.inl ⟨?hw_16, ?hy_16⟩) (by assumption) ?rest_16
          case hi_16 => (simp only [List.getElem?_toArray, List.getElem?_cons_succ, List.getElem?_cons_zero]; rfl)
          case hw_16 => rfl
          case hy_16 => (intro w hSw; (try dsimp only at hSw); go_simp; try with_reducible rfl)
          simp only [Act.put, List.setIfInBounds_toArray, List.set_cons_zero, List.set_cons_succ]
          refine wpAnyH_take (i := 16) (oi := ?o_17) (v := ?v_17) ?hi_17 (by kernel_rfl) (by kernel_rfl) (by kernel_rfl) (fun _ _ _ h => h) (Or.inl ⟨?hw_17, ?hy_17⟩) (by assumption) ?rest_17
          case hi_17 => (simp only [List.getElem?_toArray, List.getElem?_cons_succ, List.getElem?_cons_zero]; rfl)
          case hw_17 => rfl
          case hy_17 => (intro w hSw; (try dsimp only at hSw); go_simp; try with_reducible rfl)
          simp only [Act.put, List.setIfInBounds_toArray, List.set_cons_zero, List.set_cons_succ]
          refine wpAnyH_take (i := 17) (oi := ?o_18) (v := ?v_18) ?hi_18 (by kernel_rfl) (by kernel_rfl) (by kernel_rfl) (fun _ _ _ h => h) (Or.inl ⟨?hw_18, ?hy_18⟩) (by assumption) ?rest_18
          case hi_18 => (simp only [List.getElem?_toArray, List.getElem?_cons_succ, List.getElem?_cons_zero]; rfl)
          case hw_18 => rfl
          case hy_18 => (intro w hSw; (try dsimp only at hSw); go_simp; try with_reducible rfl)
          simp only [Act.put, List.setIfInBounds_toArray, List.set_cons_zero, List.set_cons_succ]
          refine wpAnyH_take (i := 18) (oi := ?o_19) (v := ?v_19) ?hi_19 (by kernel_rfl) (by kernel_rfl) (by kernel_rfl) (fun _ _ _ h => h) (Or.inl ⟨?hw_19, ?hy_19⟩) (by assumption) ?rest_19
          case hi_19 => (simp only [List.getElem?_toArray, List.getElem?_cons_succ, List.getElem?_cons_zero]; rfl)
          case hw_19 => rfl
          case hy_19 => (intro w hSw; (try dsimp only at hSw); go_simp; try with_reducible rfl)
          simp only [Act.put, List.setIfInBounds_toArray, List.set_cons_zero, List.set_cons_succ]
          refine wpAnyH_take (i := 19) (oi := ?o_20) (v := undef) ?hi_20 (by kernel_rfl) (by kernel_rfl) (by kernel_rfl) (fun _ _ _ h => h) (Or.inr ⟨?hw_20, rfl⟩) (by assumption) ?rest_20
          case hi_20 => (simp only [List.getElem?_toArray, List.getElem?_cons_succ, List.getElem?_cons_zero]; rfl)
          case hw_20 => rfl
          simp only [Act.put, List.setIfInBounds_toArray, List.set_cons_zero, List.set_cons_succ]
          refine wpAnyH_take (i := 20) (oi := ?o_21) (v := ?v_21) ?hi_21 (by kernel_rfl) (by kernel_rfl) (by kernel_rfl) (fun _ _ _ h => h) (Or.inl ⟨?hw_21, ?hy_21⟩) (by assumption) ?rest_21
          case hi_21 => (simp only [List.getElem?_toArray, List.getElem?_cons_succ, List.getElem?_cons_zero]; rfl)
          case hw_21 => rfl
          case hy_21 => (intro w hSw; (try dsimp only at hSw); go_simp; try with_reducible rfl)
          simp only [Act.put, List.setIfInBounds_toArray, List.set_cons_zero, List.set_cons_succ]
          refine wpAnyH_take (i := 21) (oi := ?o_22) (v := ?v_22) ?hi_22 (by kernel_rfl) (by kernel_rfl) (by kernel_rfl) (fun _ _ _ h => h) (Or.inl ⟨?hw_22, ?hy_22⟩) (by assumption) ?rest_22
          case hi_22 => (simp only [List.getElem?_toArray, List.getElem?_cons_succ, List.getElem?_cons_zero]; rfl)
          case hw_22 => rfl
          case hy_22 => (intro w hSw; (try dsimp only at hSw); go_simp; try with_reducible rfl)
          simp only [Act.put, List.setIfInBounds_toArray, List.set_cons_zero, List.set_cons_succ]
          refine wpAnyH_take (i := 22) (oi := ?o_23) (v := ?v_23) ?hi_23 (by kernel_rfl) (by kernel_rfl) (by kernel_rfl) (fun _ _ _ h => h) (Or.inl ⟨?hw_23, ?hy_23⟩) (by assumption) ?rest_23
          case hi_23 => (simp only [List.getElem?_toArray, List.getElem?_cons_succ, List.getElem?_cons_zero]; rfl)
          case hw_23 => rfl
          case hy_23 => (intro w hSw; (try dsimp only at hSw); go_simp; try with_reducible rfl)
          simp only [Act.put, List.setIfInBounds_toArray, List.set_cons_zero, List.set_cons_succ]
          refine wpAnyH_done (by kernel_rfl) ?_ _
          refine NoPanic.normal ?_
          clear HALL HRA HRB hHeld
          go_wp2_with fail
          go_ret
          exact ⟨by first | rfl | simp [hbt], hfin.out _ (by assumption)⟩
        case more_12 =>
          exact AllReadyH.nil
      case more_11 =>
        exact AllReadyH.nil
end Go.Proofs.YtagkdmolgmhmdaaGreatDoor
