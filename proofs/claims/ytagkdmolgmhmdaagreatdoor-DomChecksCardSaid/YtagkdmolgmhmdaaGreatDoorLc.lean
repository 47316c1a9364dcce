/- The law DomChecks. -/
import Derived.Test.YtagkdmolgmhmdaaGreatDoorFc
import Derived.Test.YtagkdmolgmhmdaaGreatDoorDg
namespace Go.Proofs.YtagkdmolgmhmdaaGreatDoor
open Go.RowKit

set_option maxRecDepth 100000 in
set_option maxHeartbeats 4000000 in
theorem rCheck (t : Dm.T) (av kv : Value) (w : World) (hs : RdT w t av kv) (hwt : t.wt ≤ 1048576) :
    Calls Tryz.prog 15 #[NV t.d av kv] w (Fresh (.int .i64 (errOf t.may)) w) := by
  obtain ⟨⟨aa, ac, rfl⟩, ka, kc, rfl⟩ := (⟨(hs.eta).1.length, (hs.eta).2.length⟩ : (∃ ao c, av = .slice ao t.d.ats.length c) ∧ ∃ ko c, kv = .slice ko t.ks.length c)
  have hw1 := ((Below.refl w.heap.size w).alloc (Nat.le_refl _) (.cells #[.int .u8 t.d.kd, S t.d.sp, S t.d.nm, .slice aa t.d.ats.length ac, S t.d.tx, S t.d.pb, S t.d.sy, .slice ka t.ks.length kc] 26))
  have hc := hide (rMay t _ _ _ (hs.below hw1) hwt)
  have HW := hide hw1
  obtain ⟨q, hq⟩ : ∃ q, t.may = q := ⟨_, rfl⟩
  rw [hq] at hc ⊢
  clear hs hw1 hq
  go_enter Tryz.func15, Tryz.ntmps15
  go_wp2_with fail
  refine Calls.mono hc.out ?_
  rintro e w2 ⟨rfl, hb⟩
  have HB := hide hb
  clear hb
  cases q
  all_goals
    go_wp2_with fail
    go_ret
    exact ⟨rfl, HW.out.trans (HB.out.mono HW.out.size)⟩

set_option maxRecDepth 100000 in
set_option maxHeartbeats 8000000 in
theorem law_checks (t : Dm.T) (s : List UInt8) (av kv : Value) (w : World) (htab : Tab w) (hs : RdT w t av kv) (hlim : t.Lim 140737488355328) (hsl : s.length ≤ 9223372036854775807) :
    Calls Tryz.prog 3 #[NV t.d av kv, S s] w (Fresh (.bool true) w) := by
  obtain ⟨⟨aa, ac, rfl⟩, ka, kc, rfl⟩ := (⟨(hs.eta).1.length, (hs.eta).2.length⟩ : (∃ ao c, av = .slice ao t.d.ats.length c) ∧ ∃ ko c, kv = .slice ko t.ks.length c)
  have hw1 := ((Below.refl w.heap.size w).alloc (Nat.le_refl _) (.cells #[.int .u8 t.d.kd, S t.d.sp, S t.d.nm, .slice aa t.d.ats.length ac, S t.d.tx, S t.d.pb, S t.d.sy, .slice ka t.ks.length kc] 26))
  have b1 := Box.new w t.d (.slice aa t.d.ats.length ac) (.slice ka t.ks.length kc)
  have HT := hide (htab.below hw1)
  have HRD := hide (hs.below hw1)
  clear htab hs
  go_enter Tryz.func3, Tryz.ntmps3
  go_upto_region 1 with (fail)
  generalize hgen : (w.alloc (.cells #[.int .u8 t.d.kd, S t.d.sp, S t.d.nm, .slice aa t.d.ats.length ac, S t.d.tx, S t.d.pb, S t.d.sy, .slice ka t.ks.length kc] 26)) = w1 at b1 hw1 HT HRD ⊢
  clear hgen
  have HW := hide hw1
  have HB := hide b1
  have h1 := hide (works w1 HT.out)
  clear hw1 b1
  go_wp2_with fail
  refine Calls.mono h1.out ?_
  rintro e w2 ⟨rfl, hb2⟩
  have HB2 := hide hb2
  obtain ⟨d0, d1, d2, d3, d4, d5, d6, d7⟩ := (HB.out.below hb2 HB.out.lt).cells
  have h2 := hide (far t _ _ w2 (HRD.out.below hb2) hlim)
  clear hb2
  go_wp2_with fail
  refine Calls.mono h2.out ?_
  rintro e w3 ⟨z, rfl, hz, hb3⟩
  have HB3 := hide (HB2.out.trans (hb3.mono HB2.out.size))
  clear hb3 d0 d1 d2 d3 d4 d5 d6 d7
  cases z with
  | true =>
    go_wp2_with fail
    go_ret
    exact ⟨rfl, HW.out.trans (HB3.out.mono HW.out.size)⟩
  | false =>
    have hwt := hz rfl
    obtain ⟨d0, d1, d2, d3, d4, d5, d6, d7⟩ := (HB.out.below HB3.out HB.out.lt).cells
    have h3 := hide (copyNode t _ _ w3 (HRD.out.below HB3.out) (by omega))
    clear hz
    go_wp2_with fail
    refine Calls.mono h3.out ?_
    rintro e w4 ⟨xa, xk, F, rfl, how, -, -, hb4⟩
    obtain ⟨⟨xo, xc, rfl⟩, yo, yc, rfl⟩ := how.forms
    have HB4 := hide (HB3.out.trans (hb4.mono HB3.out.size))
    have hal := (Below.refl w4.heap.size w4).alloc (Nat.le_refl _) (.cells #[.int .u8 t.d.kd, S t.d.sp, S t.d.nm, .slice xo t.d.ats.length xc, S t.d.tx, S t.d.pb, S t.d.sy, .slice yo t.ks.length yc] 26)
    have b4 := Box.new w4 t.d (.slice xo t.d.ats.length xc) (.slice yo t.ks.length yc)
    have HX := hide ((OwT.rd t _ _ _ how).below hal)
    clear d0 d1 d2 d3 d4 d5 d6 d7 hb4 how
    go_upto_region 8 with (fail)
    generalize hgen : w4.alloc (.cells #[.int .u8 t.d.kd, S t.d.sp, S t.d.nm, .slice xo t.d.ats.length xc, S t.d.tx, S t.d.pb, S t.d.sy, .slice yo t.ks.length yc] 26) = w5 at hal b4 HX ⊢
    have HB5 := hide (HB4.out.trans (hal.mono HB4.out.size))
    have HXB := hide b4
    clear hgen hal
    obtain ⟨d0, d1, d2, d3, d4, d5, d6, d7⟩ := b4.cells
    have h5 := hide (check t _ _ w5 (HT.out.below HB5.out) HX.out hlim (by omega))
    clear b4
    go_wp2_with fail
    refine Calls.mono h5.out ?_
    rintro e w6 ⟨rfl, hb6⟩
    have HB56 := hide hb6
    have HB6 := hide (HB5.out.trans (hb6.mono HB5.out.size))
    clear d0 d1 d2 d3 d4 d5 d6 d7
    obtain ⟨d0, d1, d2, d3, d4, d5, d6, d7⟩ := (HXB.out.below hb6 HXB.out.lt).cells
    obtain ⟨e0, e1, e2, e3, e4, e5, e6, e7⟩ := (HB.out.below HB6.out HB.out.lt).cells
    have h6 := sameNode 140737488355328 (by omega) t t _ _ _ _ w6 (HX.out.below hb6) (HRD.out.below HB6.out) hlim
    rw [t.same_self] at h6
    have H6 := hide h6
    clear hb6 h6
    go_wp2_with fail
    refine Calls.mono H6.out ?_
    rintro e w7 ⟨rfl, hb7⟩
    have HB7 := hide (HB6.out.trans (hb7.mono HB6.out.size))
    clear d0 d1 d2 d3 d4 d5 d6 d7 e0 e1 e2 e3 e4 e5 e6 e7 hb7
    obtain ⟨d0, d1, d2, d3, d4, d5, d6, d7⟩ := (HB.out.below HB7.out HB.out.lt).cells
    have h7 := hide (rCheck t _ _ w7 (HRD.out.below HB7.out) (by omega))
    obtain ⟨E, hE⟩ : ∃ E : Int, errOf t.may = E := ⟨_, rfl⟩
    rw [hE] at h7 ⊢
    clear hE
    go_wp2_with fail
    refine Calls.mono h7.out ?_
    rintro e w8 ⟨rfl, hb8⟩
    have HB8 := hide (HB7.out.trans (hb8.mono HB7.out.size))
    clear d0 d1 d2 d3 d4 d5 d6 d7 hb8
    have h8 := hide (void_ s w8 (HT.out.below HB8.out) hsl)
    obtain ⟨p, hp⟩ : ∃ p, voids.contains s = p := ⟨_, rfl⟩
    have h9 : Hid (∀ W, Calls Tryz.prog 17 #[S s] W (Fresh (.bool p) W)) := fun W => by rw [← hp]; exact rVoid s W
    rw [hp] at h8
    clear hp
    go_wp2_with fail
    refine Calls.mono h8.out ?_
    rintro e w9 ⟨rfl, hb9⟩
    have HB9 := hide (HB8.out.trans (hb9.mono HB8.out.size))
    clear hb9
    go_wp2_with fail
    refine Calls.mono (h9.out _) ?_
    rintro e w10 ⟨rfl, hb10⟩
    have HB10 := hide (HB9.out.trans (hb10.mono HB9.out.size))
    clear hb10
    obtain ⟨p2, hp2⟩ : ∃ p, raws.contains s = p := ⟨_, rfl⟩
    have h10 := raw_ s w10 (HT.out.below HB10.out) hsl
    have h11 : Hid (∀ W, Calls Tryz.prog 19 #[S s] W (Fresh (.bool p2) W)) := fun W => by rw [← hp2]; exact rRaw s W
    rw [hp2] at h10
    have H10 := hide h10
    clear hp2 h10
    cases p
    all_goals
      go_wp2_with fail
      refine Calls.mono H10.out ?_
      rintro e w11 ⟨rfl, hb11⟩
      have HB11 := hide (HB10.out.trans (hb11.mono HB10.out.size))
      clear hb11
      go_wp2_with fail
      refine Calls.mono (h11.out _) ?_
      rintro e w12 ⟨rfl, hb12⟩
      have HB12 := hide (HB11.out.trans (hb12.mono HB11.out.size))
      clear hb12
      cases p2
      all_goals
        go_wp2_with fail
        go_ret
        exact ⟨rfl, HW.out.trans (HB12.out.mono HW.out.size)⟩
end Go.Proofs.YtagkdmolgmhmdaaGreatDoor
