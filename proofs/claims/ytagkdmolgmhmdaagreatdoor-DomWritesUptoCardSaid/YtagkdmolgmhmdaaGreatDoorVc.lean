/- The reference's Html and one, walked. -/
import Derived.Test.YtagkdmolgmhmdaaGreatDoorVb
import Derived.Test.YtagkdmolgmhmdaaGreatDoorSn
import Derived.Deep.RegionHeld3
namespace Go.Proofs.YtagkdmolgmhmdaaGreatDoor
open Go.RowKit

/-- what the reference's Html gives -/
def RHtml (s : Dm.T) : Prop := ∀ (av kv : Value) (w : World), RdT w s av kv → s.tot ≤ 1048576 → Calls Tryz.prog 25 #[NV s.d av kv] w (Fresh (S (htmlT s)) w)
def ROne (s : Dm.T) : Prop := ∀ (av kv : Value) (raw : Bool) (w : World), RdT w s av kv → s.tot ≤ 1048576 → Calls Tryz.prog 47 #[NV s.d av kv, .bool raw] w (Fresh (S (oneH raw s)) w)

set_option maxRecDepth 100000 in
set_option maxHeartbeats 4000000 in
theorem rHtml_of (d : Dm.D) (ks : List Dm.T) (ih : ∀ t ∈ ks, ROne t) : RHtml (.mk d ks) := by
  intro av kv w hs htot
  obtain ⟨ha, hk⟩ := RdT.mk_iff.1 hs
  obtain ⟨ka, kc, rfl⟩ := hk.length
  obtain ⟨aa, ac, rfl⟩ := ha.length
  have hkt : Dm.totK ks ≤ 1048576 := by simp only [Dm.T.tot] at htot; omega
  have l2 : ks.length ≤ 1048576 := by have := totK_len ks; omega
  have lnm : d.nm.length ≤ 1048576 := by simp only [Dm.T.tot, Dm.D.tot] at htot; omega
  have HTO := hide (p := ∀ t ∈ ks, t.tot ≤ 1048576) (fun t ht => by have := totK_mem ht; omega)
  obtain ⟨r, hr⟩ : ∃ r, rawOf d = r := ⟨_, rfl⟩
  have hM : htmlT (.mk d ks) = htmlK r ks := by rw [← hr]; rfl
  rw [hM]
  have hlen : (htmlK r ks).length ≤ 16777216 := by have := htmlK_len r ks; omega
  have HL := hide hlen
  have HR := hide hr
  have b1 := Box.new w d (.slice aa d.ats.length ac) (.slice ka ks.length kc)
  have hal := (Below.refl w.heap.size w).alloc (Nat.le_refl _) (.cells #[.int .u8 d.kd, S d.sp, S d.nm, .slice aa d.ats.length ac, S d.tx, S d.pb, S d.sy, .slice ka ks.length kc] 26)
  have HK := hide (hk.below hal)
  clear hs ha hk hM htot hkt hlen hr
  show Calls Tryz.prog 25 #[NV d (.slice aa d.ats.length ac) (.slice ka ks.length kc)] w _
  go_enter Tryz.func25, Tryz.ntmps25
  go_upto_region 1 with (fail)
  generalize hgen : (w.alloc (.cells #[.int .u8 d.kd, S d.sp, S d.nm, .slice aa d.ats.length ac, S d.tx, S d.pb, S d.sy, .slice ka ks.length kc] 26)) = w1 at b1 hal HK ⊢
  clear hgen
  obtain ⟨d0, d1, d2, d3, d4, d5, d6, d7⟩ := b1.cells
  have HB := hide b1
  have HAL := hide hal
  have HI := hide ih
  clear b1 hal ih
  go_cut [3] from 6 (fun s3 wx => s3 = .bool r ∧ Below w1.heap.size w1 wx)
  case first =>
    have hrw := HR.out
    unfold rawOf at hrw
    by_cases k3 : d.kd = 3
    · have q3 : ((d.kd : Int) == 3) = true := by simp [k3]
      rw [q3, Bool.true_and] at hrw
      clear k3
      by_cases ksp : d.sp = Dm.wHtml
      · rw [ksp] at hrw
        have hrw2 : raws.contains d.nm = r := by rw [← hrw]; rfl
        have hc := hide (rRaw d.nm w1)
        rw [hrw2] at hc
        rw [ksp] at d1
        clear hrw hrw2 ksp
        go_wp2_with fail
        refine hc.out.mono ?_
        rintro e w2 ⟨rfl, hb⟩
        go_wp2_with fail
        go_meet
        case rel => exact ⟨rfl, hb⟩
      · have e : (d.sp == Dm.wHtml) = false := by simpa using ksp
        rw [e, Bool.false_and] at hrw
        subst hrw
        have e2 : (d.sp == [104, 116, 109, 108]) = false := e
        have e3 : ¬ d.sp = [104, 116, 109, 108] := ksp
        clear ksp e
        go_wp2_with fail
        go_meet
        case rel => exact ⟨rfl, Below.refl _ _⟩
    · have q3 : ((d.kd : Int) == 3) = false := by simp; omega
      rw [q3, Bool.false_and, Bool.false_and] at hrw
      subst hrw
      clear k3
      go_wp2_with fail
      go_meet
      case rel => exact ⟨rfl, Below.refl _ _⟩
  case rest =>
    obtain ⟨rfl, hbc⟩ := hcut
    clear d0 d1 d2 d3 d4 d5 d6 d7
    go_wp2_with fail
    go_loopg [4, 5] ks.length (fun g s4 s5 wx => ∃ (i : Nat) (z : List UInt8), i + g = ks.length ∧ s5 = .int .i64 i ∧ s4 = S z ∧ Hid (z = htmlK r (ks.take i)) ∧ Below w1.heap.size w1 wx)
    case atStart => exact ⟨0, [], by omega, rfl, rfl, by simp [Hid, htmlK], hbc⟩
    case round =>
      obtain ⟨i, z, hi, rfl, rfl, hz, hbx⟩ := hrel
      have f7 := (HB.out.below hbx HB.out.lt).cells.2.2.2.2.2.2.2
      by_cases hlt : i < ks.length
      · obtain ⟨t, ht⟩ : ∃ t, ks[i]? = some t := ⟨ks[i], List.getElem?_eq_getElem hlt⟩
        obtain ⟨b, o, av, kv, rfl, ⟨m0, m1, m2, m3, m4, m5, m6, m7⟩, hrt⟩ := (HK.out.below hbx).at ht
        have hmem := List.mem_of_getElem? ht
        have hcall := hide (HI.out t hmem av kv r wr hrt (HTO.out t hmem))
        have htk := htmlK_take r ks i t ht
        have hle := htmlK_le r ks (i + 1)
        rw [htk, List.length_append] at hle
        have hzl : z.length + (oneH r t).length ≤ 16777216 := by
          have h1 := HL.out
          rw [hz.out]
          omega
        have HTK := hide htk
        generalize hx : oneH r t = x at hcall hzl HTK
        clear ht hrt hmem htk hle hx
        have g1 : ¬ 9223372036854775807 < z.length + x.length := by omega
        go_wp2_with fail
        refine hcall.out.mono ?_
        rintro e w2 ⟨rfl, hb2⟩
        have hb3 := hide (hbx.trans (hb2.mono hbx.size))
        clear hb2 m0 m1 m2 m3 m4 m5 m6 m7 f7
        go_wp2_with fail
        go_roundg (gk - 1)
        case measure => omega
        case rel => exact ⟨i + 1, z ++ x, by omega, by go_num, rfl, by unfold Hid; rw [HTK.out, hz.out], hb3.out⟩
      · obtain rfl : i = ks.length := by omega
        have hz2 := hz.out
        rw [List.take_of_length_le (Nat.le_refl _)] at hz2
        have HZ := hide hz2
        clear hz2
        go_wp2_with fail
        go_ret
        exact ⟨by rw [← HZ.out]; rfl, HAL.out.trans (hbx.mono HAL.out.size)⟩

set_option maxRecDepth 100000 in
set_option maxHeartbeats 4000000 in
theorem rOne_of (s : Dm.T) (hh : RHtml s) : ROne s := by
  intro av kv raw w hs htot
  obtain ⟨⟨aa, ac, rfl⟩, ka, kc, rfl⟩ := (⟨(hs.eta).1.length, (hs.eta).2.length⟩ : (∃ ao c, av = .slice ao s.d.ats.length c) ∧ ∃ ko c, kv = .slice ko s.ks.length c)
  have hlen := oneH_len s raw
  obtain ⟨R, hR⟩ : ∃ R, oneH raw s = R := ⟨_, rfl⟩
  rw [hR] at hlen ⊢
  have HTOT := hide htot
  have hlim := lim_of _ s htot
  have HRR := hide hR
  have hw1 := ((Below.refl w.heap.size w).alloc (Nat.le_refl _) (.cells #[.int .u8 s.d.kd, S s.d.sp, S s.d.nm, .slice aa s.d.ats.length ac, S s.d.tx, S s.d.pb, S s.d.sy, .slice ka s.ks.length kc] 26))
  have b1 := Box.new w s.d (.slice aa s.d.ats.length ac) (.slice ka s.ks.length kc)
  have HRD := hide (hs.below hw1)
  have y : s.d.Lim 1048576 := by
    cases s with
    | mk d ks => simp only [Dm.T.Lim] at hlim; exact hlim.1
  obtain ⟨y1, y2, y3, y4, y5, y6, y7⟩ := y
  have HLA := hide y7
  clear hs hR htot hlim y7
  go_enter Tryz.func47, Tryz.ntmps47
  go_upto_region 1 with (fail)
  generalize hgen : (w.alloc (.cells #[.int .u8 s.d.kd, S s.d.sp, S s.d.nm, .slice aa s.d.ats.length ac, S s.d.tx, S s.d.pb, S s.d.sy, .slice ka s.ks.length kc] 26)) = w1 at b1 hw1 HRD ⊢
  clear hgen
  obtain ⟨d0, d1, d2, d3, d4, d5, d6, d7⟩ := b1.cells
  have HB := hide b1
  have HW := hide hw1
  have HHC := hide (hh _ _ w1 HRD.out HTOT.out)
  have HHG : Hid (∀ W, Below w1.heap.size w1 W → Calls Tryz.prog 25 #[NV s.d (.slice aa s.d.ats.length ac) (.slice ka s.ks.length kc)] W (Fresh (S (htmlT s)) W)) := fun W hW => hh _ _ W (HRD.out.below hW) HTOT.out
  clear b1 hw1
  by_cases k4 : s.d.kd = 4
  · have hE := HRR.out
    rw [oneH_text k4] at hE
    rw [k4] at d0
    clear k4
    cases raw with
    | true =>
      have hE2 : s.d.tx = R := hE
      clear hE
      go_wp2_with fail
      go_ret
      exact ⟨by rw [← hE2]; rfl, HW.out⟩
    | false =>
      have hE2 : escV false s.d.tx = R := hE
      have hc := hide (rEscaped s.d.tx false w1 (by assumption))
      rw [hE2] at hc
      clear hE hE2
      go_wp2_with fail
      refine hc.out.mono ?_
      rintro e w2 ⟨rfl, hb⟩
      go_wp2_with fail
      go_ret
      exact ⟨rfl, HW.out.trans (hb.mono HW.out.size)⟩
  by_cases k5 : s.d.kd = 5
  · have hE := HRR.out
    rw [oneH_comment k5] at hE
    rw [k5] at d0
    have g1 : ¬ 9223372036854775807 < 4 + s.d.tx.length := by omega
    have g2 : ¬ 9223372036854775807 < s.d.tx.length + 1 + 1 + 1 + 1 + 3 := by omega
    clear k4 k5
    go_wp2_with fail
    go_ret
    exact ⟨by rw [← hE]; rfl, HW.out⟩
  by_cases k2 : s.d.kd = 2
  · have hE := HRR.out
    rw [oneH_type k2] at hE
    rw [k2] at d0
    clear k4 k5 k2
    go_wp2_with fail
    go_ret
    exact ⟨by rw [← hE]; rfl, HW.out⟩
  by_cases k1 : s.d.kd = 1
  · have hE := HRR.out
    rw [oneH_doc k1] at hE
    have h0 : w1.cell? ⟨w.heap.size, 0, none⟩ = some (.int .u8 s.d.kd) := d0
    have q4 : ((s.d.kd : Int) == 4) = false := by simp [k1]
    have q5 : ((s.d.kd : Int) == 5) = false := by simp [k1]
    have q2 : ((s.d.kd : Int) == 2) = false := by simp [k1]
    have q1 : ((s.d.kd : Int) == 1) = true := by simp [k1]
    rw [hE] at HHC
    clear k4 k5 k2 k1 h0 hE
    go_wp2_with fail
    refine HHC.out.mono ?_
    rintro e w2 ⟨rfl, hb⟩
    go_wp2_with fail
    go_ret
    exact ⟨rfl, HW.out.trans (hb.mono HW.out.size)⟩
  have q4 : ((s.d.kd : Int) == 4) = false := by simpa using k4
  have q5 : ((s.d.kd : Int) == 5) = false := by simpa using k5
  have q2 : ((s.d.kd : Int) == 2) = false := by simpa using k2
  have q1 : ((s.d.kd : Int) == 1) = false := by simpa using k1
  by_cases k3 : s.d.kd = 3
  · have hE := HRR.out
    rw [oneH_elem k3, elemH] at hE
    have q3 : ((s.d.kd : Int) == 3) = true := by simp [k3]
    have HEE := hide hE
    have HAS := hide (RdT.eta HRD.out).1
    have HLE : Hid (∀ i, ([60] ++ s.d.nm ++ atsH (s.d.ats.take i)).length ≤ R.length) := fun i => by
      have h1 := atsH_le s.d.ats i
      rw [← HEE.out]
      simp only [List.length_append] at h1 ⊢
      omega
    have hRl : R.length ≤ 16777216 := by have := HTOT.out; omega
    clear k1 k2 k3 k4 k5 hE d0 d1 d3 d4 d5 d6 d7 HRD hh hlen
    have d0 := HB.out.cells.1
    go_wp2_with fail
    clear d0 d2
    go_loopg [5, 6, 7] s.d.ats.length (fun g s5 s6 s7 wx => ∃ (i : Nat) (z : List UInt8), i + g = s.d.ats.length ∧ s6 = .int .i64 i ∧ s5 = S z ∧ Hid (z = [60] ++ s.d.nm ++ atsH (s.d.ats.take i)) ∧ Below w1.heap.size w1 wx)
    case atStart => exact ⟨0, _, by omega, rfl, rfl, by simp [Hid, atsH], Below.refl _ _⟩
    case round =>
      obtain ⟨i, z, hi, rfl, rfl, hz, hbx⟩ := hrel
      obtain ⟨d0, d1, d2, d3, d4, d5, d6, d7⟩ := (HB.out.below hbx HB.out.lt).cells
      have hzl := HLE.out i
      rw [← hz.out] at hzl
      by_cases hlt : i < s.d.ats.length
      · obtain ⟨a, hx⟩ : ∃ a, s.d.ats[i]? = some a := ⟨s.d.ats[i], List.getElem?_eq_getElem hlt⟩
        obtain ⟨b', o, rfl, m0, m1, m2⟩ := (HAS.out.below hbx).at hx
        obtain ⟨z1, z2, z3⟩ := HLA.out a (List.mem_of_getElem? hx)
        have htk := atsH_take s.d.ats i a hx
        have hst := HLE.out (i + 1)
        rw [htk, ← List.append_assoc, ← hz.out] at hst
        rw [List.length_append, atH] at hst
        have HTK := hide htk
        rw [atH] at htk
        obtain ⟨u, hu⟩ : ∃ u, escV true a.vl = u := ⟨_, rfl⟩
        rw [hu] at hst
        have HTK2 := HTK.out
        rw [atH, hu] at HTK2
        have HT3 := hide HTK2
        have HCU : Hid (∀ W, Calls Tryz.prog 65 #[S a.vl, .bool true] W (Fresh (S u) W)) := fun W => by rw [← hu]; exact rEscaped a.vl true W z3
        have HST := hide hst
        obtain ⟨sp', nm', vl⟩ := a
        simp only at m0 m1 m2 z1 z2 z3 hst
        clear hx htk HTK HTK2 hu
        by_cases hsp : sp' = []
        · subst hsp
          simp only [if_true, List.length_append, List.length_cons, List.length_nil] at hst
          go_upto_region 21 with (fail)
          have hal : Below wr.heap.size wr (wr.alloc (.cells #[S [], S nm', S vl] 43)) := (Below.refl _ wr).alloc (Nat.le_refl _) _
          have hX : (wr.alloc (.cells #[S [], S nm', S vl] 43)).heap[wr.heap.size]? = some (.cells #[S [], S nm', S vl] 43 (0, 0)) := heap_alloc_last _ _
          generalize hgen : wr.alloc (.cells #[S [], S nm', S vl] 43) = wA at hal hX ⊢
          clear hgen m0 m1 m2 d0 d1 d2 d3 d4 d5 d6 d7
          have HBA := hide (hbx.trans (hal.mono hbx.size))
          have HALL : Hid (∀ W, Below wA.heap.size wA W → W.cell? ⟨wr.heap.size, 1, none⟩ = some (S nm') ∧ W.cell? ⟨wr.heap.size, 2, none⟩ = some (S vl)) := fun W hW => by
            have h := (hW.block _ (heap_lt hX)).trans hX
            refine ⟨?_, ?_⟩ <;> rw [Lib.cell_of_heap h] <;> rfl
          obtain ⟨e1, e2⟩ := HALL.out wA (Below.refl _ _)
          clear hal hX
          have hs0 : ¬ 9223372036854775807 < z.length + 1 + nm'.length := by omega
          have hs1 : ¬ 9223372036854775807 < z.length + (nm'.length + 1) + 2 := by omega
          have hs2 : ¬ 9223372036854775807 < z.length + (nm'.length + 2 + 1) + u.length := by omega
          have hs3 : ¬ 9223372036854775807 < z.length + (nm'.length + 3) + u.length := by omega
          have hs4 : ¬ 9223372036854775807 < z.length + (nm'.length + (u.length + 1 + 1) + 1) + 1 := by omega
          have hs5 : ¬ 9223372036854775807 < z.length + (nm'.length + (u.length + 2) + 1) + 1 := by omega
          go_region_held3 (fun w' => w'.cell? ⟨wr.heap.size, 1, none⟩ = some (S nm') ∧ w'.cell? ⟨wr.heap.size, 2, none⟩ = some (S vl)) (first | exact HALL.out _ (Below.refl _ _) | exact HALL.out _ (Below.refl _ _).drew | exact HALL.out _ (by assumption) | assumption) (first | (go_at_call 65; refine Calls.mono (HCU.out _) ?_; rintro e w5 ⟨rfl, hb5⟩; have hz5 : Below wA.heap.size wA w5 := by first | exact below_d hb5 | exact below_two (by assumption) hb5))
          all_goals
            clear HALL
            go_wp2_with fail
            go_roundg (gk - 1)
            (case measure => omega)
            (case rel => exact ⟨i + 1, z ++ 32 :: (nm' ++ 61 :: 34 :: (u ++ [34])), by omega, by go_num, rfl, by unfold Hid; rw [HT3.out, hz.out]; simp, HBA.out.trans (hz5.mono HBA.out.size)⟩)
        · have hne : sp'.isEmpty = false := by simpa using hsp
          simp only [if_neg hsp, List.length_append, List.length_cons, List.length_nil] at hst
          go_upto_region 21 with (fail)
          have hal : Below wr.heap.size wr (wr.alloc (.cells #[S sp', S nm', S vl] 43)) := (Below.refl _ wr).alloc (Nat.le_refl _) _
          have hX : (wr.alloc (.cells #[S sp', S nm', S vl] 43)).heap[wr.heap.size]? = some (.cells #[S sp', S nm', S vl] 43 (0, 0)) := heap_alloc_last _ _
          generalize hgen : wr.alloc (.cells #[S sp', S nm', S vl] 43) = wA at hal hX ⊢
          clear hgen m0 m1 m2 d0 d1 d2 d3 d4 d5 d6 d7
          have HBA := hide (hbx.trans (hal.mono hbx.size))
          have HALL : Hid (∀ W, Below wA.heap.size wA W → W.cell? ⟨wr.heap.size, 1, none⟩ = some (S nm') ∧ W.cell? ⟨wr.heap.size, 2, none⟩ = some (S vl)) := fun W hW => by
            have h := (hW.block _ (heap_lt hX)).trans hX
            refine ⟨?_, ?_⟩ <;> rw [Lib.cell_of_heap h] <;> rfl
          obtain ⟨e1, e2⟩ := HALL.out wA (Below.refl _ _)
          clear hal hX
          have hs0 : ¬ 9223372036854775807 < z.length + (sp'.length + 1 + 1) + nm'.length := by omega
          have hs1 : ¬ 9223372036854775807 < z.length + (sp'.length + 2) + nm'.length := by omega
          have hs2 : ¬ 9223372036854775807 < z.length + (sp'.length + (nm'.length + 1) + 1) + 2 := by omega
          have hs3 : ¬ 9223372036854775807 < z.length + (sp'.length + (nm'.length + 2 + 1) + 1) + u.length := by omega
          have hs4 : ¬ 9223372036854775807 < z.length + (sp'.length + (nm'.length + 3) + 1) + u.length := by omega
          have hs5 : ¬ 9223372036854775807 < z.length + (sp'.length + (nm'.length + (u.length + 1 + 1) + 1) + 1) + 1 := by omega
          have hs6 : ¬ 9223372036854775807 < z.length + (sp'.length + (nm'.length + (u.length + 2) + 1) + 1) + 1 := by omega
          go_region_held3 (fun w' => w'.cell? ⟨wr.heap.size, 1, none⟩ = some (S nm') ∧ w'.cell? ⟨wr.heap.size, 2, none⟩ = some (S vl)) (first | exact HALL.out _ (Below.refl _ _) | exact HALL.out _ (Below.refl _ _).drew | exact HALL.out _ (by assumption) | assumption) (first | (go_at_call 65; refine Calls.mono (HCU.out _) ?_; rintro e w5 ⟨rfl, hb5⟩; have hz5 : Below wA.heap.size wA w5 := by first | exact below_d hb5 | exact below_two (by assumption) hb5))
          all_goals
            clear HALL
            go_wp2_with fail
            go_roundg (gk - 1)
            (case measure => omega)
            (case rel => exact ⟨i + 1, z ++ 32 :: (sp' ++ 58 :: (nm' ++ 61 :: 34 :: (u ++ [34]))), by omega, by go_num, rfl, by unfold Hid; rw [HT3.out, hz.out]; simp [hsp], HBA.out.trans (hz5.mono HBA.out.size)⟩)
      · obtain rfl : i = s.d.ats.length := by omega
        have hz2 := hz.out
        rw [List.take_of_length_le (Nat.le_refl _)] at hz2
        have hE := HEE.out
        rw [← hz2] at hE
        obtain ⟨q, hq⟩ : ∃ q, endless s.d = q := ⟨_, rfl⟩
        rw [hq] at hE
        have hq2 := hq
        unfold endless at hq2
        obtain ⟨m, hm⟩ : ∃ m, htmlT s = m := ⟨_, rfl⟩
        have hml : m.length ≤ 16777216 := by
          have h1 := htmlT_len s
          have h2 := HTOT.out
          rw [hm] at h1
          omega
        rw [hm] at hE
        have HZ := hide hE
        have HHA : Hid (∀ W, Below w1.heap.size w1 W → Calls Tryz.prog 25 #[NV s.d (.slice aa s.d.ats.length ac) (.slice ka s.ks.length kc)] W (Fresh (S m) W)) := fun W hW => by
          rw [← hm]
          exact HHG.out W hW
        clear hz hz2 HEE HLE HAS hq hE hm
        have HBX := hide hbx
        by_cases ksp : s.d.sp = Dm.wHtml
        · rw [ksp] at d1 hq2
          have hq3 : voids.contains s.d.nm = q := by rw [← hq2]; rfl
          have hc := hide (rVoid s.d.nm wr)
          rw [hq3] at hc
          have ksp2 := hide ksp
          clear hq2 hq3 ksp hbx
          go_wp2_with fail
          refine hc.out.mono ?_
          rintro e w2 ⟨rfl, hb2⟩
          have hb3 := HBX.out.trans (hb2.mono HBX.out.size)
          have HB3 := hide hb3
          clear hb2 d0 d1 d2 d3 d4 d5 d6 d7
          cases q with
          | true =>
            have hE2 := HZ.out
            rw [if_pos rfl, List.append_nil] at hE2
            have HE2 := hide hE2
            clear hE2 hb3
            go_wp2_with fail
            go_ret
            exact ⟨by rw [← HE2.out]; rfl, HW.out.trans (HB3.out.mono HW.out.size)⟩
          | false =>
            have hE2 := HZ.out
            rw [if_neg (by simp)] at hE2
            have HE2 := hide hE2
            clear hE2 hb3
            go_upto_region 25 with (fail)
            have HALL : Hid (∀ X, Below w2.heap.size w2 X → X.cell? ⟨w.heap.size, 0, none⟩ = some (.int .u8 s.d.kd) ∧ X.cell? ⟨w.heap.size, 1, none⟩ = some (S s.d.sp) ∧ X.cell? ⟨w.heap.size, 2, none⟩ = some (S s.d.nm) ∧ X.cell? ⟨w.heap.size, 3, none⟩ = some (.slice aa s.d.ats.length ac) ∧ X.cell? ⟨w.heap.size, 4, none⟩ = some (S s.d.tx) ∧ X.cell? ⟨w.heap.size, 5, none⟩ = some (S s.d.pb) ∧ X.cell? ⟨w.heap.size, 6, none⟩ = some (S s.d.sy) ∧ X.cell? ⟨w.heap.size, 7, none⟩ = some (.slice ka s.ks.length kc)) := fun X hX => (HB.out.below (HB3.out.trans (hX.mono HB3.out.size)) HB.out.lt).cells
            have HHX : Hid (∀ X, Below w2.heap.size w2 X → Calls Tryz.prog 25 #[NV s.d (.slice aa s.d.ats.length ac) (.slice ka s.ks.length kc)] X (Fresh (S m) X)) := fun X hX => HHA.out X (HB3.out.trans (hX.mono HB3.out.size))
            obtain ⟨d0, d1, d2, d3, d4, d5, d6, d7⟩ := HALL.out w2 (Below.refl _ _)
            have hs0 : ¬ 9223372036854775807 < z.length + 1 + m.length := by omega
            have hs1 : ¬ 9223372036854775807 < z.length + (m.length + 1) + 2 := by omega
            have hs2 : ¬ 9223372036854775807 < z.length + (m.length + 2 + 1) + s.d.nm.length := by omega
            have hs3 : ¬ 9223372036854775807 < z.length + (m.length + 3) + s.d.nm.length := by omega
            have hs4 : ¬ 9223372036854775807 < z.length + (m.length + (s.d.nm.length + 1 + 1) + 1) + 1 := by omega
            have hs5 : ¬ 9223372036854775807 < z.length + (m.length + (s.d.nm.length + 2) + 1) + 1 := by omega
            go_region_held3 (fun w' => w'.cell? ⟨w.heap.size, 0, none⟩ = some (.int .u8 s.d.kd) ∧ w'.cell? ⟨w.heap.size, 1, none⟩ = some (S s.d.sp) ∧ w'.cell? ⟨w.heap.size, 2, none⟩ = some (S s.d.nm) ∧ w'.cell? ⟨w.heap.size, 3, none⟩ = some (.slice aa s.d.ats.length ac) ∧ w'.cell? ⟨w.heap.size, 4, none⟩ = some (S s.d.tx) ∧ w'.cell? ⟨w.heap.size, 5, none⟩ = some (S s.d.pb) ∧ w'.cell? ⟨w.heap.size, 6, none⟩ = some (S s.d.sy) ∧ w'.cell? ⟨w.heap.size, 7, none⟩ = some (.slice ka s.ks.length kc)) (first | exact HALL.out _ (Below.refl _ _) | exact HALL.out _ (Below.refl _ _).drew | exact HALL.out _ (by assumption) | assumption) (first | (go_at_call 25; refine Calls.mono (HHX.out _ (by first | assumption | exact (Below.refl _ _).drew)) ?_; rintro e w5 ⟨rfl, hb5⟩; have hz5 : Below w2.heap.size w2 w5 := by first | exact below_d hb5 | exact below_two (by assumption) hb5))
            all_goals
              clear HALL HHX HHA
              go_wp2_with fail
              go_ret
              exact ⟨by rw [← HE2.out]; simp, HW.out.trans ((HB3.out.trans (hz5.mono HB3.out.size)).mono HW.out.size)⟩
        · have e : (s.d.sp == Dm.wHtml) = false := by simpa using ksp
          rw [e, Bool.false_and] at hq2
          subst hq2
          have e2 : (s.d.sp == [104, 116, 109, 108]) = false := e
          have e3 : ¬ s.d.sp = [104, 116, 109, 108] := ksp
          have hE2 := HZ.out
          rw [if_neg (by simp)] at hE2
          have HE2 := hide hE2
          have hx0 := hide d0
          clear hE2 e ksp hbx
          go_upto_region 25 with (fail)
          clear e2 e3
          have HALL : Hid (∀ X, Below wr.heap.size wr X → X.cell? ⟨w.heap.size, 0, none⟩ = some (.int .u8 s.d.kd) ∧ X.cell? ⟨w.heap.size, 1, none⟩ = some (S s.d.sp) ∧ X.cell? ⟨w.heap.size, 2, none⟩ = some (S s.d.nm) ∧ X.cell? ⟨w.heap.size, 3, none⟩ = some (.slice aa s.d.ats.length ac) ∧ X.cell? ⟨w.heap.size, 4, none⟩ = some (S s.d.tx) ∧ X.cell? ⟨w.heap.size, 5, none⟩ = some (S s.d.pb) ∧ X.cell? ⟨w.heap.size, 6, none⟩ = some (S s.d.sy) ∧ X.cell? ⟨w.heap.size, 7, none⟩ = some (.slice ka s.ks.length kc)) := fun X hX => (HB.out.below (HBX.out.trans (hX.mono HBX.out.size)) HB.out.lt).cells
          have HHX : Hid (∀ X, Below wr.heap.size wr X → Calls Tryz.prog 25 #[NV s.d (.slice aa s.d.ats.length ac) (.slice ka s.ks.length kc)] X (Fresh (S m) X)) := fun X hX => HHA.out X (HBX.out.trans (hX.mono HBX.out.size))
          clear d0 d1 d2 d3 d4 d5 d6 d7
          obtain ⟨d0, d1, d2, d3, d4, d5, d6, d7⟩ := HALL.out wr (Below.refl _ _)
          have hs0 : ¬ 9223372036854775807 < z.length + 1 + m.length := by omega
          have hs1 : ¬ 9223372036854775807 < z.length + (m.length + 1) + 2 := by omega
          have hs2 : ¬ 9223372036854775807 < z.length + (m.length + 2 + 1) + s.d.nm.length := by omega
          have hs3 : ¬ 9223372036854775807 < z.length + (m.length + 3) + s.d.nm.length := by omega
          have hs4 : ¬ 9223372036854775807 < z.length + (m.length + (s.d.nm.length + 1 + 1) + 1) + 1 := by omega
          have hs5 : ¬ 9223372036854775807 < z.length + (m.length + (s.d.nm.length + 2) + 1) + 1 := by omega
          go_region_held3 (fun w' => w'.cell? ⟨w.heap.size, 0, none⟩ = some (.int .u8 s.d.kd) ∧ w'.cell? ⟨w.heap.size, 1, none⟩ = some (S s.d.sp) ∧ w'.cell? ⟨w.heap.size, 2, none⟩ = some (S s.d.nm) ∧ w'.cell? ⟨w.heap.size, 3, none⟩ = some (.slice aa s.d.ats.length ac) ∧ w'.cell? ⟨w.heap.size, 4, none⟩ = some (S s.d.tx) ∧ w'.cell? ⟨w.heap.size, 5, none⟩ = some (S s.d.pb) ∧ w'.cell? ⟨w.heap.size, 6, none⟩ = some (S s.d.sy) ∧ w'.cell? ⟨w.heap.size, 7, none⟩ = some (.slice ka s.ks.length kc)) (first | exact HALL.out _ (Below.refl _ _) | exact HALL.out _ (Below.refl _ _).drew | exact HALL.out _ (by assumption) | assumption) (first | (go_at_call 25; refine Calls.mono (HHX.out _ (by first | assumption | exact (Below.refl _ _).drew)) ?_; rintro e w5 ⟨rfl, hb5⟩; have hz5 : Below wr.heap.size wr w5 := by first | exact below_d hb5 | exact below_two (by assumption) hb5))
          all_goals
            clear HALL HHX HHA
            go_wp2_with fail
            go_ret
            exact ⟨by rw [← HE2.out]; simp, HW.out.trans ((HBX.out.trans (hz5.mono HBX.out.size)).mono HW.out.size)⟩
  · have q3 : ((s.d.kd : Int) == 3) = false := by simpa using k3
    have hE := HRR.out
    rw [oneH_else k1 k2 k3 k4 k5] at hE
    clear k1 k2 k3 k4 k5
    go_wp2_with fail
    go_ret
    exact ⟨by rw [← hE]; rfl, HW.out⟩
theorem rBoth (t : Dm.T) : RHtml t ∧ ROne t := Dm.T.induct (C := fun t => RHtml t ∧ ROne t) (fun d ks ih => have h := rHtml_of d ks fun t ht => (ih t ht).2; ⟨h, rOne_of _ h⟩) t
theorem rHtml (t : Dm.T) (av kv : Value) (w : World) (hs : RdT w t av kv) (htot : t.tot ≤ 1048576) :
    Calls Tryz.prog 25 #[NV t.d av kv] w (Fresh (S (htmlT t)) w) := (rBoth t).1 av kv w hs htot
end Go.Proofs.YtagkdmolgmhmdaaGreatDoor
