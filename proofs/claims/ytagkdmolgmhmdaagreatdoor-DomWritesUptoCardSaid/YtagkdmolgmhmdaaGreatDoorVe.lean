/- The law DomWrites, walked. (Printed by genVe.py.) -/
import Derived.Test.YtagkdmolgmhmdaaGreatDoorVc
import Derived.Test.YtagkdmolgmhmdaaGreatDoorVd
import Derived.Test.YtagkdmolgmhmdaaGreatDoorUe
import Derived.Test.YtagkdmolgmhmdaaGreatDoorUc
import Derived.Test.YtagkdmolgmhmdaaGreatDoorSq
import Derived.Test.YtagkdmolgmhmdaaGreatDoorWk
import Derived.Test.YtagkdmolgmhmdaaGreatDoorDg
import Derived.Test.YtagkdmolgmhmdaaGreatDoorPb
namespace Go.Proofs.YtagkdmolgmhmdaaGreatDoor
open Go.RowKit

set_option maxRecDepth 100000 in
set_option maxHeartbeats 8000000 in
theorem law_writes (t : Dm.T) (av kv : Value) (w : World) (htab : Tab w) (hs : RdT w t av kv) (htot : t.tot ≤ 1048576) :
    Calls Tryz.prog 6 #[NV t.d av kv] w (Fresh (.bool true) w) := by
  obtain ⟨⟨aa, ac, rfl⟩, ka, kc, rfl⟩ := (⟨(hs.eta).1.length, (hs.eta).2.length⟩ : (∃ ao c, av = .slice ao t.d.ats.length c) ∧ ∃ ko c, kv = .slice ko t.ks.length c)
  have HLIM := hide (p := t.Lim 1048576) (lim_of _ t htot)
  have HLIM2 := hide (p := t.Lim 140737488355328) (lim_of _ t (by omega))
  have HTOT := hide htot
  have hw1 := (Below.refl w.heap.size w).alloc (Nat.le_refl _) (.cells #[.int .u8 t.d.kd, S t.d.sp, S t.d.nm, .slice aa t.d.ats.length ac, S t.d.tx, S t.d.pb, S t.d.sy, .slice ka t.ks.length kc] 26)
  have b1 := Box.new w t.d (.slice aa t.d.ats.length ac) (.slice ka t.ks.length kc)
  have HT := hide (htab.below hw1)
  have HRD := hide (hs.below hw1)
  clear htab hs htot
  go_enter Tryz.func6, Tryz.ntmps6
  go_upto_region 1 with (fail)
  generalize hgen : (w.alloc (.cells #[.int .u8 t.d.kd, S t.d.sp, S t.d.nm, .slice aa t.d.ats.length ac, S t.d.tx, S t.d.pb, S t.d.sy, .slice ka t.ks.length kc] 26)) = w1 at b1 hw1 HT HRD ⊢
  clear hgen
  have HW := hide hw1
  have HB := hide b1
  have h1 := hide (works w1 HT.out)
  clear hw1 b1
  go_wp2_with fail
  refine Calls.mono h1.out ?_
  rintro e w2 ⟨rfl, hb2⟩
  have HB2 := hide hb2
  obtain ⟨d0, d1, d2, d3, d4, d5, d6, d7⟩ := (HB.out.below hb2 HB.out.lt).cells
  have h2 := hide (far t _ _ w2 (HRD.out.below hb2) HLIM2.out)
  clear hb2
  go_wp2_with fail
  refine Calls.mono h2.out ?_
  rintro e w3 ⟨z, rfl, hz, hb3⟩
  have HB3 := hide (HB2.out.trans (hb3.mono HB2.out.size))
  clear hb3 d0 d1 d2 d3 d4 d5 d6 d7
  cases z with
  | true =>
    go_wp2_with fail
    go_ret
    exact ⟨rfl, HW.out.trans (HB3.out.mono HW.out.size)⟩
  | false =>
  have hwt := hz rfl
  clear hz
  obtain ⟨d0, d1, d2, d3, d4, d5, d6, d7⟩ := (HB.out.below HB3.out HB.out.lt).cells
  have hc := hide (copyNode t _ _ w3 (HRD.out.below HB3.out) (by omega))
  go_wp2_with fail
  refine Calls.mono hc.out ?_
  rintro e w4 ⟨xa, xk, F, rfl, how, -, -, hbj⟩
  obtain ⟨⟨xo, xc, rfl⟩, yo, yc, rfl⟩ := how.forms
  have hal := (Below.refl w4.heap.size w4).alloc (Nat.le_refl _) (.cells #[.int .u8 t.d.kd, S t.d.sp, S t.d.nm, .slice xo t.d.ats.length xc, S t.d.tx, S t.d.pb, S t.d.sy, .slice yo t.ks.length yc] 26)
  have hbx := Box.new w4 t.d (.slice xo t.d.ats.length xc) (.slice yo t.ks.length yc)
  have hrx := (OwT.rd t _ _ _ how).below hal
  clear how hc d0 d1 d2 d3 d4 d5 d6 d7
  go_upto_region 8 with (fail)
  generalize hgen : w4.alloc (.cells #[.int .u8 t.d.kd, S t.d.sp, S t.d.nm, .slice xo t.d.ats.length xc, S t.d.tx, S t.d.pb, S t.d.sy, .slice yo t.ks.length yc] 26) = w5 at hal hbx hrx ⊢
  have HST := hide (hbj.trans (hal.mono hbj.size))
  have HX := hide hbx
  have HRX := hide hrx
  clear hgen hal hbx hrx hbj
  have HB5 := hide (HB3.out.trans (HST.out.mono HB3.out.size))
  have HB_5 := hide (HB.out.below HB5.out HB.out.lt)
  have HRD5 := hide (HRD.out.below HB5.out)
  have HT5 := hide (HT.out.below HB5.out)
  have HW5 := hide (HW.out.trans (HB5.out.mono HW.out.size))
  clear HB HRD HT h1 h2 HB2 HB3 HB5 HST HW
  obtain ⟨hh, hhh⟩ : ∃ x, htmlT t = x := ⟨_, rfl⟩
  obtain ⟨ss, hss⟩ : ∃ x, showT [] t = x := ⟨_, rfl⟩
  obtain ⟨tt, htt⟩ : ∃ x, t.texts = x := ⟨_, rfl⟩
  have HHH := hide hhh
  have HSS := hide hss
  have HTT := hide htt
  clear hhh hss htt
  have H5 := hide (Below.refl w5.heap.size w5)
  obtain ⟨d0, d1, d2, d3, d4, d5, d6, d7⟩ := (HX.out.below H5.out HX.out.lt).cells
  have HCC := hide (show Calls Tryz.prog 23 #[NV t.d (.slice xo t.d.ats.length xc) (.slice yo t.ks.length yc)] w5 (Fresh (S hh) w5) from by rw [← HHH.out]; exact html t _ _ w5 HT5.out HRX.out HLIM2.out (by omega) (by have := htmlT_len t; have := HTOT.out; omega))
  go_wp2_with fail
  refine Calls.mono HCC.out ?_
  rintro e w6 ⟨rfl, hb6⟩
  have H6 := hide (H5.out.trans (hb6.mono H5.out.size))
  clear hb6 HCC d0 d1 d2 d3 d4 d5 d6 d7
  obtain ⟨d0, d1, d2, d3, d4, d5, d6, d7⟩ := (HX.out.below H6.out HX.out.lt).cells
  have HCC := hide (show Calls Tryz.prog 20 #[NV t.d (.slice xo t.d.ats.length xc) (.slice yo t.ks.length yc)] w6 (Fresh (S ss) w6) from by rw [← HSS.out]; exact shown t _ _ w6 (HRX.out.below H6.out) HLIM.out (show_fits HTOT.out))
  go_wp2_with fail
  refine Calls.mono HCC.out ?_
  rintro e w7 ⟨rfl, hb7⟩
  have H7 := hide (H6.out.trans (hb7.mono H6.out.size))
  clear hb7 HCC d0 d1 d2 d3 d4 d5 d6 d7
  obtain ⟨d0, d1, d2, d3, d4, d5, d6, d7⟩ := (HX.out.below H7.out HX.out.lt).cells
  have HCC := hide (show Calls Tryz.prog 24 #[NV t.d (.slice xo t.d.ats.length xc) (.slice yo t.ks.length yc)] w7 (Fresh (S tt) w7) from by rw [← HTT.out]; exact texts_ t _ _ w7 (HRX.out.below H7.out) HLIM2.out (by omega))
  go_wp2_with fail
  refine Calls.mono HCC.out ?_
  rintro e w8 ⟨rfl, hb8⟩
  have H8 := hide (H7.out.trans (hb8.mono H7.out.size))
  clear hb8 HCC d0 d1 d2 d3 d4 d5 d6 d7
  obtain ⟨d0, d1, d2, d3, d4, d5, d6, d7⟩ := (HX.out.below H8.out HX.out.lt).cells
  obtain ⟨e0, e1, e2, e3, e4, e5, e6, e7⟩ := (HB_5.out.below H8.out HB_5.out.lt).cells
  have HCC := hide (show Calls Tryz.prog 14 #[NV t.d (.slice xo t.d.ats.length xc) (.slice yo t.ks.length yc), NV t.d (.slice aa t.d.ats.length ac) (.slice ka t.ks.length kc)] w8 (Fresh (.bool true) w8) from by have := sameNode 140737488355328 (by omega) t t _ _ _ _ w8 (HRX.out.below H8.out) (HRD5.out.below H8.out) HLIM2.out; rw [t.same_self] at this; exact this)
  go_wp2_with fail
  refine Calls.mono HCC.out ?_
  rintro e w9 ⟨rfl, hb9⟩
  have H9 := hide (H8.out.trans (hb9.mono H8.out.size))
  clear hb9 HCC d0 d1 d2 d3 d4 d5 d6 d7 e0 e1 e2 e3 e4 e5 e6 e7
  obtain ⟨d0, d1, d2, d3, d4, d5, d6, d7⟩ := (HB_5.out.below H9.out HB_5.out.lt).cells
  have HCC := hide (show Calls Tryz.prog 25 #[NV t.d (.slice aa t.d.ats.length ac) (.slice ka t.ks.length kc)] w9 (Fresh (S hh) w9) from by rw [← HHH.out]; exact rHtml t _ _ w9 (HRD5.out.below H9.out) HTOT.out)
  go_wp2_with fail
  refine Calls.mono HCC.out ?_
  rintro e w10 ⟨rfl, hb10⟩
  have H10 := hide (H9.out.trans (hb10.mono H9.out.size))
  clear hb10 HCC d0 d1 d2 d3 d4 d5 d6 d7
  obtain ⟨d0, d1, d2, d3, d4, d5, d6, d7⟩ := (HB_5.out.below H10.out HB_5.out.lt).cells
  have HCC := hide (show Calls Tryz.prog 26 #[NV t.d (.slice aa t.d.ats.length ac) (.slice ka t.ks.length kc)] w10 (Fresh (S ss) w10) from by rw [← HSS.out]; exact rShow t _ _ w10 (HRD5.out.below H10.out) HTOT.out)
  go_wp2_with fail
  refine Calls.mono HCC.out ?_
  rintro e w11 ⟨rfl, hb11⟩
  have H11 := hide (H10.out.trans (hb11.mono H10.out.size))
  clear hb11 HCC d0 d1 d2 d3 d4 d5 d6 d7
  obtain ⟨d0, d1, d2, d3, d4, d5, d6, d7⟩ := (HB_5.out.below H11.out HB_5.out.lt).cells
  have HCC := hide (show Calls Tryz.prog 27 #[NV t.d (.slice aa t.d.ats.length ac) (.slice ka t.ks.length kc)] w11 (Fresh (S tt) w11) from by rw [← HTT.out]; exact rTexts t _ _ w11 (HRD5.out.below H11.out) (by omega))
  go_wp2_with fail
  refine Calls.mono HCC.out ?_
  rintro e w12 ⟨rfl, hb12⟩
  have H12 := hide (H11.out.trans (hb12.mono H11.out.size))
  clear hb12 HCC d0 d1 d2 d3 d4 d5 d6 d7
  go_wp2_with fail
  go_ret
  exact ⟨by simp, HW5.out.trans (H12.out.mono HW5.out.size)⟩
end Go.Proofs.YtagkdmolgmhmdaaGreatDoor
