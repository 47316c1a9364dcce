/- The law DomUnlike, walked. -/
import Derived.Test.YtagkdmolgmhmdaaGreatDoorWk
import Derived.Test.YtagkdmolgmhmdaaGreatDoorSk
import Derived.Test.YtagkdmolgmhmdaaGreatDoorSq
import Derived.Test.YtagkdmolgmhmdaaGreatDoorPv
import Derived.Test.YtagkdmolgmhmdaaGreatDoorPb
import Derived.Deep.RegionHeld3
namespace Go.Proofs.YtagkdmolgmhmdaaGreatDoor
open Go.RowKit

set_option maxRecDepth 100000 in
set_option maxHeartbeats 8000000 in
theorem law_unlike (t u : Dm.T) (av kv bv lv : Value) (w : World) (htab : Tab w) (hs : RdT w t av kv) (hu : RdT w u bv lv) (hlim : t.tot ≤ 1048576) (hlimu : u.tot ≤ 1048576) :
    Calls Tryz.prog 4 #[NV t.d av kv, NV u.d bv lv] w (Fresh (.bool true) w) := by
  obtain ⟨⟨aa, ac, rfl⟩, ka, kc, rfl⟩ := (⟨(hs.eta).1.length, (hs.eta).2.length⟩ : (∃ ao c, av = .slice ao t.d.ats.length c) ∧ ∃ ko c, kv = .slice ko t.ks.length c)
  obtain ⟨⟨ba, bc, rfl⟩, la, lc, rfl⟩ := (⟨(hu.eta).1.length, (hu.eta).2.length⟩ : (∃ ao c, bv = .slice ao u.d.ats.length c) ∧ ∃ ko c, lv = .slice ko u.ks.length c)
  have hw1 := ((Below.refl w.heap.size w).alloc (Nat.le_refl _) (.cells #[.int .u8 t.d.kd, S t.d.sp, S t.d.nm, .slice aa t.d.ats.length ac, S t.d.tx, S t.d.pb, S t.d.sy, .slice ka t.ks.length kc] 26)).alloc (by simp) (.cells #[.int .u8 u.d.kd, S u.d.sp, S u.d.nm, .slice ba u.d.ats.length bc, S u.d.tx, S u.d.pb, S u.d.sy, .slice la u.ks.length lc] 26)
  have b1 := (Box.new w t.d (.slice aa t.d.ats.length ac) (.slice ka t.ks.length kc)).alloc (.cells #[.int .u8 u.d.kd, S u.d.sp, S u.d.nm, .slice ba u.d.ats.length bc, S u.d.tx, S u.d.pb, S u.d.sy, .slice la u.ks.length lc] 26)
  have b2 := Box.new (w.alloc (.cells #[.int .u8 t.d.kd, S t.d.sp, S t.d.nm, .slice aa t.d.ats.length ac, S t.d.tx, S t.d.pb, S t.d.sy, .slice ka t.ks.length kc] 26)) u.d (.slice ba u.d.ats.length bc) (.slice la u.ks.length lc)
  rw [World.size_alloc] at b2
  have HT := hide (htab.below hw1)
  have HRD := hide (hs.below hw1)
  have HRU := hide (hu.below hw1)
  clear htab hs hu
  go_enter Tryz.func4, Tryz.ntmps4
  go_upto_region 1 with (fail)
  generalize hgen : ((w.alloc (.cells #[.int .u8 t.d.kd, S t.d.sp, S t.d.nm, .slice aa t.d.ats.length ac, S t.d.tx, S t.d.pb, S t.d.sy, .slice ka t.ks.length kc] 26)).alloc (.cells #[.int .u8 u.d.kd, S u.d.sp, S u.d.nm, .slice ba u.d.ats.length bc, S u.d.tx, S u.d.pb, S u.d.sy, .slice la u.ks.length lc] 26)) = w1 at b1 b2 hw1 HT HRD HRU ⊢
  clear hgen
  have HW := hide hw1
  have HB := hide b1
  have HC := hide b2
  have h1 := hide (works w1 HT.out)
  clear hw1 b1 b2
  go_wp2_with fail
  refine Calls.mono h1.out ?_
  rintro e w2 ⟨rfl, hb2⟩
  have HB2 := hide hb2
  obtain ⟨d0, d1, d2, d3, d4, d5, d6, d7⟩ := (HB.out.below hb2 HB.out.lt).cells
  have h2 := hide (far t _ _ w2 (HRD.out.below hb2) (lim_of _ t (by omega)))
  clear hb2
  go_wp2_with fail
  refine Calls.mono h2.out ?_
  rintro e w3 ⟨z, rfl, hz, hb3⟩
  have HB3 := hide (HB2.out.trans (hb3.mono HB2.out.size))
  clear hb3 d0 d1 d2 d3 d4 d5 d6 d7
  obtain ⟨d0, d1, d2, d3, d4, d5, d6, d7⟩ := (HC.out.below HB3.out HC.out.lt).cells
  have h3 := hide (far u _ _ w3 (HRU.out.below HB3.out) (lim_of _ u (by omega)))
  go_wp2_with fail
  refine Calls.mono h3.out ?_
  rintro e w4 ⟨z2, rfl, hz2, hb4⟩
  have HB4 := hide (HB3.out.trans (hb4.mono HB3.out.size))
  clear hb4 d0 d1 d2 d3 d4 d5 d6 d7
  cases z with
  | true =>
    go_wp2_with fail
    go_ret
    exact ⟨rfl, HW.out.trans (HB4.out.mono HW.out.size)⟩
  | false =>
    cases z2 with
    | true =>
      go_wp2_with fail
      go_ret
      exact ⟨rfl, HW.out.trans (HB4.out.mono HW.out.size)⟩
    | false =>
      have hwt := hz rfl
      have hwu := hz2 rfl
      obtain ⟨d0, d1, d2, d3, d4, d5, d6, d7⟩ := (HB.out.below HB4.out HB.out.lt).cells
      obtain ⟨e0, e1, e2, e3, e4, e5, e6, e7⟩ := (HC.out.below HB4.out HC.out.lt).cells
      have h4 := check t _ _ w4 (HT.out.below HB4.out) (HRD.out.below HB4.out) (lim_of _ t (by omega)) (by omega)
      obtain ⟨p, hp⟩ : ∃ p, t.may = p := ⟨_, rfl⟩
      have HP := hide hp
      rw [hp] at h4
      have H4 := hide h4
      clear hz hz2 h4 hp
      cases p with
      | false =>
        go_wp2_with fail
        refine Calls.mono H4.out ?_
        rintro e w5 ⟨rfl, hb5⟩
        have HB5 := hide (HB4.out.trans (hb5.mono HB4.out.size))
        clear hb5
        go_wp2_with fail
        go_ret
        exact ⟨rfl, HW.out.trans (HB5.out.mono HW.out.size)⟩
      | true =>
        go_wp2_with fail
        refine Calls.mono H4.out ?_
        rintro e w5 ⟨rfl, hb5⟩
        have HB5 := hide (HB4.out.trans (hb5.mono HB4.out.size))
        clear hb5 d0 d1 d2 d3 d4 d5 d6 d7 e0 e1 e2 e3 e4 e5 e6 e7
        obtain ⟨e0, e1, e2, e3, e4, e5, e6, e7⟩ := (HC.out.below HB5.out HC.out.lt).cells
        have h5 := check u _ _ w5 (HT.out.below HB5.out) (HRU.out.below HB5.out) (lim_of _ u (by omega)) (by omega)
        obtain ⟨q, hq⟩ : ∃ q, u.may = q := ⟨_, rfl⟩
        have HQ := hide hq
        rw [hq] at h5
        have H5 := hide h5
        clear h5 hq
        cases q with
        | false =>
          go_wp2_with fail
          refine Calls.mono H5.out ?_
          rintro e w6 ⟨rfl, hb6⟩
          have HB6 := hide (HB5.out.trans (hb6.mono HB5.out.size))
          clear hb6
          go_wp2_with fail
          go_ret
          exact ⟨rfl, HW.out.trans (HB6.out.mono HW.out.size)⟩
        | true =>
          go_wp2_with fail
          refine Calls.mono H5.out ?_
          rintro e w6 ⟨rfl, hb6⟩
          have HB6 := hide (HB5.out.trans (hb6.mono HB5.out.size))
          clear hb6 e0 e1 e2 e3 e4 e5 e6 e7
          go_wp2_with fail
          have HALL : Hid (∀ W, Below w6.heap.size w6 W → W.cell? ⟨w.heap.size, 0, none⟩ = some (.int .u8 t.d.kd) ∧ W.cell? ⟨w.heap.size, 1, none⟩ = some (S t.d.sp) ∧ W.cell? ⟨w.heap.size, 2, none⟩ = some (S t.d.nm) ∧ W.cell? ⟨w.heap.size, 3, none⟩ = some (.slice aa t.d.ats.length ac) ∧ W.cell? ⟨w.heap.size, 4, none⟩ = some (S t.d.tx) ∧ W.cell? ⟨w.heap.size, 5, none⟩ = some (S t.d.pb) ∧ W.cell? ⟨w.heap.size, 6, none⟩ = some (S t.d.sy) ∧ W.cell? ⟨w.heap.size, 7, none⟩ = some (.slice ka t.ks.length kc) ∧ W.cell? ⟨w.heap.size + 1, 0, none⟩ = some (.int .u8 u.d.kd) ∧ W.cell? ⟨w.heap.size + 1, 1, none⟩ = some (S u.d.sp) ∧ W.cell? ⟨w.heap.size + 1, 2, none⟩ = some (S u.d.nm) ∧ W.cell? ⟨w.heap.size + 1, 3, none⟩ = some (.slice ba u.d.ats.length bc) ∧ W.cell? ⟨w.heap.size + 1, 4, none⟩ = some (S u.d.tx) ∧ W.cell? ⟨w.heap.size + 1, 5, none⟩ = some (S u.d.pb) ∧ W.cell? ⟨w.heap.size + 1, 6, none⟩ = some (S u.d.sy) ∧ W.cell? ⟨w.heap.size + 1, 7, none⟩ = some (.slice la u.ks.length lc)) := fun W hW => by
            obtain ⟨d0, d1, d2, d3, d4, d5, d6, d7⟩ := ((HB.out.below HB6.out HB.out.lt).below hW (HB.out.below HB6.out HB.out.lt).lt).cells
            obtain ⟨e0, e1, e2, e3, e4, e5, e6, e7⟩ := ((HC.out.below HB6.out HC.out.lt).below hW (HC.out.below HB6.out HC.out.lt).lt).cells
            exact ⟨d0, d1, d2, d3, d4, d5, d6, d7, e0, e1, e2, e3, e4, e5, e6, e7⟩
          have hx := unlike HP.out HQ.out
          have HS : Hid (∀ W, Below w6.heap.size w6 W → Calls Tryz.prog 20 #[NV t.d (.slice aa t.d.ats.length ac) (.slice ka t.ks.length kc)] W (Fresh (S (showT [] t)) W)) := fun W hW => shown t _ _ W ((HRD.out.below HB6.out).below hW) (lim_of _ t hlim) (show_fits hlim)
          have HS2 : Hid (∀ W, Below w6.heap.size w6 W → Calls Tryz.prog 20 #[NV u.d (.slice ba u.d.ats.length bc) (.slice la u.ks.length lc)] W (Fresh (S (showT [] u)) W)) := fun W hW => shown u _ _ W ((HRU.out.below HB6.out).below hW) (lim_of _ u hlimu) (show_fits hlimu)
          have HSN : Hid (∀ W, Below w6.heap.size w6 W → Calls Tryz.prog 14 #[NV t.d (.slice aa t.d.ats.length ac) (.slice ka t.ks.length kc), NV u.d (.slice ba u.d.ats.length bc) (.slice la u.ks.length lc)] W (Fresh (.bool (t.same u)) W)) := fun W hW => sameNode 1048576 (by omega) t u _ _ _ _ W ((HRD.out.below HB6.out).below hW) ((HRU.out.below HB6.out).below hW) (lim_of _ t hlim)
          generalize showT [] t = M at hx HS
          generalize showT [] u = K at hx HS2
          generalize t.same u = X at hx HSN
          have HX := hide hx
          clear hx HP HQ
          obtain ⟨d0, d1, d2, d3, d4, d5, d6, d7, e0, e1, e2, e3, e4, e5, e6, e7⟩ := HALL.out w6 (Below.refl _ _)
          go_region_held3 (fun w' => w'.cell? ⟨w.heap.size, 0, none⟩ = some (.int .u8 t.d.kd) ∧ w'.cell? ⟨w.heap.size, 1, none⟩ = some (S t.d.sp) ∧ w'.cell? ⟨w.heap.size, 2, none⟩ = some (S t.d.nm) ∧ w'.cell? ⟨w.heap.size, 3, none⟩ = some (.slice aa t.d.ats.length ac) ∧ w'.cell? ⟨w.heap.size, 4, none⟩ = some (S t.d.tx) ∧ w'.cell? ⟨w.heap.size, 5, none⟩ = some (S t.d.pb) ∧ w'.cell? ⟨w.heap.size, 6, none⟩ = some (S t.d.sy) ∧ w'.cell? ⟨w.heap.size, 7, none⟩ = some (.slice ka t.ks.length kc) ∧ w'.cell? ⟨w.heap.size + 1, 0, none⟩ = some (.int .u8 u.d.kd) ∧ w'.cell? ⟨w.heap.size + 1, 1, none⟩ = some (S u.d.sp) ∧ w'.cell? ⟨w.heap.size + 1, 2, none⟩ = some (S u.d.nm) ∧ w'.cell? ⟨w.heap.size + 1, 3, none⟩ = some (.slice ba u.d.ats.length bc) ∧ w'.cell? ⟨w.heap.size + 1, 4, none⟩ = some (S u.d.tx) ∧ w'.cell? ⟨w.heap.size + 1, 5, none⟩ = some (S u.d.pb) ∧ w'.cell? ⟨w.heap.size + 1, 6, none⟩ = some (S u.d.sy) ∧ w'.cell? ⟨w.heap.size + 1, 7, none⟩ = some (.slice la u.ks.length lc)) (first | exact HALL.out _ (Below.refl _ _) | exact HALL.out _ (Below.refl _ _).drew | exact HALL.out _ (by assumption) | assumption) (first | (go_at_call 20; refine Calls.mono (HS.out _ (by first | assumption | exact (Below.refl _ _).drew)) ?_; rintro e w7 ⟨rfl, hb7⟩; have hz7 : Below w6.heap.size w6 w7 := by first | exact below_d hb7 | exact below_two (by assumption) hb7) | (go_at_call 20; refine Calls.mono (HS2.out _ (by first | assumption | exact (Below.refl _ _).drew)) ?_; rintro e w8 ⟨rfl, hb8⟩; have hz8 : Below w6.heap.size w6 w8 := by first | exact below_d hb8 | exact below_two (by assumption) hb8) | (go_at_call 14; refine Calls.mono (HSN.out _ (by first | assumption | exact (Below.refl _ _).drew)) ?_; rintro e w9 ⟨rfl, hb9⟩; have hz9 : Below w6.heap.size w6 w9 := by first | exact below_d hb9 | exact below_two (by assumption) hb9))
          all_goals
            clear HALL HS HS2 HSN
            go_wp2_with fail
            go_ret
            exact ⟨by show Ending.returned (Value.bool ((M == K) == X)) = Ending.returned (Value.bool true); rw [HX.out, beq_self_eq_true], HW.out.trans ((HB6.out.trans (hz9.mono HB6.out.size)).mono HW.out.size)⟩
end Go.Proofs.YtagkdmolgmhmdaaGreatDoor
