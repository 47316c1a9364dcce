/- Whether a tree may be. -/
import Derived.Test.YtagkdmolgmhmdaaGreatDoorSj
namespace Go.Proofs.YtagkdmolgmhmdaaGreatDoor
open Go.RowKit

theorem plain_head (d : Dm.D) (n : Nat) : plainOk d n = Dm.headOk d n := by
  obtain ⟨kd, sp, nm, ats, tx, pb, sy⟩ := d
  rw [Bool.eq_iff_iff]
  by_cases k1 : kd = 1
  · subst k1
    simp [plainOk, Dm.headOk, Dm.fieldsOk]
    constructor
    · intro h; simp_all [Dm.attrsOk]
    · rintro h; simp_all
  by_cases k2 : kd = 2
  · subst k2
    simp [plainOk, Dm.headOk, Dm.fieldsOk]
    constructor
    · intro h; simp_all [Dm.attrsOk]
    · rintro h; simp_all
  by_cases k3 : kd = 3
  · subst k3
    simp [plainOk, Dm.headOk, Dm.fieldsOk]
    constructor
    · intro h; simp_all
    · rintro h; simp_all
  by_cases k4 : kd = 4
  · subst k4
    simp [plainOk, Dm.headOk, Dm.fieldsOk]
    constructor
    · intro h; simp_all [Dm.attrsOk]
    · rintro h; simp_all
  by_cases k5 : kd = 5
  · subst k5
    simp [plainOk, Dm.headOk, Dm.fieldsOk]
    constructor
    · intro h; simp_all [Dm.attrsOk]
    · rintro h; simp_all
  simp [plainOk, Dm.headOk, Dm.fieldsOk, k1, k2, k3, k4, k5]

abbrev errOf (b : Bool) : Int := if b then 0 else 30
set_option maxRecDepth 100000 in
set_option maxHeartbeats 4000000 in
theorem check (s : Dm.T) : ∀ (av kv : Value) (w : World), Tab w → RdT w s av kv → s.Lim 140737488355328 → s.wt ≤ 1048576 →
    Calls Tryz.prog 13 #[NV s.d av kv] w (Fresh (.int .i64 (errOf s.may)) w) := by
  refine Dm.T.induct (C := fun s => ∀ (av kv : Value) (w : World), Tab w → RdT w s av kv → s.Lim 140737488355328 → s.wt ≤ 1048576 →
    Calls Tryz.prog 13 #[NV s.d av kv] w (Fresh (.int .i64 (errOf s.may)) w)) (fun d ks ih av kv w ht hs hlim hwt => ?_) s
  obtain ⟨ha, hk⟩ := RdT.mk_iff.1 hs
  obtain ⟨ka, kc, rfl⟩ := hk.length
  obtain ⟨aa, ac, rfl⟩ := ha.length
  have hrd := hide hs
  have hlim' := hlim
  simp only [Dm.T.Lim] at hlim'
  obtain ⟨hld, hlk, hlK⟩ := hlim'
  have l1 : d.ats.length ≤ 1048576 := by simp only [Dm.T.wt, Dm.D.own] at hwt; omega
  have HIH := hide (p := ∀ t ∈ ks, t.Lim 140737488355328 ∧ t.wt ≤ 1048576) (fun t ht => ⟨hlK.mem ht, by have := Dm.wtK_mem ht; simp only [Dm.T.wt, Dm.D.own] at hwt; omega⟩)
  have HLD := hide hld
  have HT := hide ht
  clear hlim hlK hld hs hwt ha ht
  show Calls Tryz.prog 13 #[NV d (.slice aa d.ats.length ac) (.slice ka ks.length kc)] w _
  obtain ⟨R, hR⟩ : ∃ R, Dm.T.may (.mk d ks) = R := ⟨_, rfl⟩
  rw [hR]
  have HR : Hid (R = (Dm.headOk d ks.length && Dm.kidsOk (d.kd == 1) 0 ks && Dm.mayK ks)) := by unfold Hid; rw [← hR, Dm.T.may]
  clear hR
  have b1 := (Box.new w d (.slice aa d.ats.length ac) (.slice ka ks.length kc))
  have hw1 := ((Below.refl w.heap.size w).alloc (Nat.le_refl _) (.cells #[.int .u8 d.kd, S d.sp, S d.nm, .slice aa d.ats.length ac, S d.tx, S d.pb, S d.sy, .slice ka ks.length kc] 26))
  go_enter Tryz.func13, Tryz.ntmps13
  go_upto_region 1 with (fail)
  generalize hgen : (w.alloc (.cells #[.int .u8 d.kd, S d.sp, S d.nm, .slice aa d.ats.length ac, S d.tx, S d.pb, S d.sy, .slice ka ks.length kc] 26)) = w1 at b1 hw1 ⊢
  clear hgen
  obtain ⟨d0, d1, d2, d3, d4, d5, d6, d7⟩ := b1.cells
  have hKs := hide hk
  have hW := hide hw1
  have hB1 := hide b1
  have H1 := hide (plain d ks (.slice aa d.ats.length ac) (.slice ka ks.length kc) w1 (HT.out.below hw1) (hrd.out.below hw1) HLD.out hlk l1)
  have H2 : Hid (∀ W, Below w1.heap.size w1 W → Calls Tryz.prog 36 #[NV d (.slice aa d.ats.length ac) (.slice ka ks.length kc)] W (Fresh (.bool (Dm.kidsOk (d.kd == 1) 0 ks)) W)) := fun W hW' =>
    kids d ks _ _ W (hrd.out.below (hw1.trans (hW'.mono hw1.size))) (by omega)
  obtain ⟨q1, hq1⟩ : ∃ q, plainOk d ks.length = q := ⟨_, rfl⟩
  rw [hq1] at H1
  rw [plain_head] at hq1
  obtain ⟨q2, hq2⟩ : ∃ q, Dm.kidsOk (d.kd == 1) 0 ks = q := ⟨_, rfl⟩
  rw [hq2] at H2
  rw [hq1, hq2] at HR
  clear hk b1 hq1 hq2 hw1
  go_wp2_with fail
  refine Calls.mono H1.out ?_
  rintro e w2 ⟨rfl, hb2⟩
  cases q1 with
  | false =>
    have HE : Hid (R = false) := HR.out.trans rfl
    clear d0 d1 d2 d3 d4 d5 d6 d7
    go_wp2_with fail
    go_ret
    exact ⟨by rw [HE.out]; rfl, hW.out.trans (hb2.mono hW.out.size)⟩
  | true =>
    have st := Stay.of_below hb2
    replace d0 := st _ _ _ d0
    replace d1 := st _ _ _ d1
    replace d2 := st _ _ _ d2
    replace d3 := st _ _ _ d3
    replace d4 := st _ _ _ d4
    replace d5 := st _ _ _ d5
    replace d6 := st _ _ _ d6
    replace d7 := st _ _ _ d7
    have HST := hide st
    clear st
    go_wp2_with fail
    refine Calls.mono (H2.out _ hb2) ?_
    rintro e w3 ⟨rfl, hb3'⟩
    have hb3 := hb2.trans (hb3'.mono hb2.size)
    clear d0 d1 d2 d3 d4 d5 d6 d7 hb2 hb3'
    have d7 := (hB1.out.below hb3 hB1.out.lt).cells.2.2.2.2.2.2.2
    cases q2 with
    | false =>
      have HE : Hid (R = false) := HR.out.trans rfl
      go_wp2_with fail
      go_ret
      exact ⟨by rw [HE.out]; rfl, hW.out.trans (hb3.mono hW.out.size)⟩
    | true =>
      have HB3 := hide hb3
      clear hb3
      go_wp2_with fail
      go_loopg [16] ks.length (fun g s16 wx => ∃ i : Nat, i + g = ks.length ∧ s16 = .int .i64 i ∧ Hid (Dm.mayK (ks.take i) = true) ∧ Below w1.heap.size w1 wx)
      case atStart => exact ⟨0, by omega, rfl, rfl, HB3.out⟩
      case round =>
        obtain ⟨i, hi, rfl, hm, hbx⟩ := hrel
        have hwx : Below w.heap.size w wr := hW.out.trans (hbx.mono hW.out.size)
        have hsx := hbx.size
        by_cases hlt : i < ks.length
        · obtain ⟨t, ht⟩ : ∃ t, ks[i]? = some t := ⟨ks[i], List.getElem?_eq_getElem hlt⟩
          obtain ⟨b, o, av, kv, rfl, ⟨m0, m1, m2, m3, m4, m5, m6, m7⟩, hrt⟩ := (hKs.out.below hwx).at ht
          obtain ⟨⟨aa2, ac2, rfl⟩, ka2, kc2, rfl⟩ := (⟨(hrt.eta).1.length, (hrt.eta).2.length⟩ : (∃ ao c, av = .slice ao t.d.ats.length c) ∧ ∃ ko c, kv = .slice ko t.ks.length c)
          have hmem := List.mem_of_getElem? ht
          have HTT := hide (p := ks[i]? = some t) ht
          have hal := (Below.refl wr.heap.size wr).alloc (Nat.le_refl _) (.cells #[.int .u8 t.d.kd, S t.d.sp, S t.d.nm, .slice aa2 t.d.ats.length ac2, S t.d.tx, S t.d.pb, S t.d.sy, .slice ka2 t.ks.length kc2] 26)
          have hcall := hide (ih t hmem _ _ _ ((HT.out.below hwx).below hal) (hrt.below hal) (HIH.out t hmem).1 (HIH.out t hmem).2)
          have HAL := hide hal
          have HI := hide ih
          clear ih ht hrt hmem hKs hal d7
          go_wp2_with fail
          refine Calls.mono hcall.out ?_
          rintro e w4 ⟨rfl, hb4⟩
          have hb5 := hbx.trans ((HAL.out.trans (hb4.mono HAL.out.size)).mono hsx)
          cases hmay : t.may with
          | true =>
            go_wp2_with fail
            go_roundg (gk - 1)
            case measure => omega
            case rel =>
              refine ⟨i + 1, by omega, by go_num, ?_, hb5⟩
              unfold Hid
              rw [List.take_add_one, HTT.out, Dm.mayK_append, hm.out]
              simp [Dm.mayK, hmay]
          | false =>
            have HE : Hid (R = false) := by
              unfold Hid
              rw [HR.out]
              have : Dm.mayK ks = false := by
                rw [← List.take_append_drop i ks, drop_cons HTT.out, Dm.mayK_append, Dm.mayK, hmay]
                simp
              rw [this]; rfl
            go_wp2_with fail
            go_ret
            exact ⟨by rw [HE.out]; rfl, hW.out.trans (hb5.mono hW.out.size)⟩
        · have HE : Hid (R = true) := by
            unfold Hid
            have h1 := hm.out
            rw [List.take_of_length_le (by omega)] at h1
            rw [HR.out, h1]; rfl
          clear ih
          go_wp2_with fail
          go_ret
          exact ⟨by rw [HE.out]; rfl, hwx⟩
end Go.Proofs.YtagkdmolgmhmdaaGreatDoor
