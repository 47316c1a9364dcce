/- The document's answer: may a tree be? -/
import Derived.Test.YtagkdmolgmhmdaaGreatDoorFa
import Derived.Test.YtagkdmolgmhmdaaGreatDoorFb
namespace Go.Proofs.YtagkdmolgmhmdaaGreatDoor
open Go.RowKit

set_option maxRecDepth 100000 in
set_option maxHeartbeats 16000000 in
theorem rMay (s : Dm.T) : ∀ (av kv : Value) (w : World), RdT w s av kv → s.wt ≤ 1048576 →
    Calls Tryz.prog 38 #[NV s.d av kv] w (Fresh (.bool s.may) w) := by
  refine Dm.T.induct (C := fun s => ∀ (av kv : Value) (w : World), RdT w s av kv → s.wt ≤ 1048576 →
    Calls Tryz.prog 38 #[NV s.d av kv] w (Fresh (.bool s.may) w)) (fun d ks ih av kv w hs hwt => ?_) s
  obtain ⟨ha, hk⟩ := RdT.mk_iff.1 hs
  obtain ⟨ka, kc, rfl⟩ := hk.length
  obtain ⟨aa, ac, rfl⟩ := ha.length
  have l1 : d.ats.length ≤ 1048576 := by simp only [Dm.T.wt, Dm.D.own] at hwt; omega
  have l2 : ks.length ≤ 1048576 := by have := Dm.wtK_len ks; simp only [Dm.T.wt] at hwt; omega
  have HIH := hide (p := ∀ t ∈ ks, t.wt ≤ 1048576) (fun t ht => by have := Dm.wtK_mem ht; simp only [Dm.T.wt, Dm.D.own] at hwt; omega)
  have HA := hide ha
  have HKS := hide hk
  have HI := hide ih
  clear hs hwt ha hk ih
  show Calls Tryz.prog 38 #[NV d (.slice aa d.ats.length ac) (.slice ka ks.length kc)] w _
  obtain ⟨R, hR⟩ : ∃ R, Dm.T.may (.mk d ks) = R := ⟨_, rfl⟩
  rw [hR]
  obtain ⟨H, hH⟩ : ∃ H, Dm.headOk d ks.length = H := ⟨_, rfl⟩
  have HR : Hid (R = (H && Dm.kidsOk (d.kd == 1) 0 ks && Dm.mayK ks)) := by unfold Hid; rw [← hR, Dm.T.may, hH]
  have HH : Hid (H = ((Dm.fieldsOk d ks.length && Dm.attrsOk [] d.ats) && !(d.kd == 4 && d.tx == []) && !(d.kd == 3 && (d.nm == [] || !Dm.spaces.contains d.sp)))) := by unfold Hid; rw [← hH, Dm.headOk]
  clear hR hH
  have hw1 := ((Below.refl w.heap.size w).alloc (Nat.le_refl _) (.cells #[.int .u8 d.kd, S d.sp, S d.nm, .slice aa d.ats.length ac, S d.tx, S d.pb, S d.sy, .slice ka ks.length kc] 26))
  have b1 := Box.new w d (.slice aa d.ats.length ac) (.slice ka ks.length kc)
  go_enter Tryz.func38, Tryz.ntmps38
  go_upto_region 1 with (fail)
  generalize hgen : (w.alloc (.cells #[.int .u8 d.kd, S d.sp, S d.nm, .slice aa d.ats.length ac, S d.tx, S d.pb, S d.sy, .slice ka ks.length kc] 26)) = w1 at b1 hw1 ⊢
  clear hgen
  have h1 := hide (fields d ks.length aa ka ac kc w1)
  have h2 : Hid (∀ W, Below w1.heap.size w1 W → Calls Tryz.prog 56 #[.slice aa d.ats.length ac] W (Fresh (.bool (Dm.attrsOk [] d.ats)) W)) := fun W hW => rAttrs _ _ W (HA.out.below (hw1.trans (hW.mono hw1.size))) l1
  obtain ⟨q1, e1⟩ : ∃ q, Dm.fieldsOk d ks.length = q := ⟨_, rfl⟩
  obtain ⟨q2, e2⟩ : ∃ q, Dm.attrsOk [] d.ats = q := ⟨_, rfl⟩
  rw [e1] at h1 HH
  rw [e2] at h2 HH
  clear e1 e2
  obtain ⟨kd, sp, nm, ats, tx, pb, sy⟩ := d
  obtain ⟨d0, d1, d2, d3, d4, d5, d6, d7⟩ := b1.cells
  simp only at d0 d1 d2 d3 d4 d5 d6 d7 l1 HA HH HR
  have HW := hide hw1
  have HB1 := hide b1
  clear b1 hw1
  go_cut [3] from 7 (fun s3 wx => s3 = .bool (q1 && q2) ∧ Below w1.heap.size w1 wx)
  case first =>
    go_wp2_with fail
    refine Calls.mono h1.out ?_
    rintro e w2 ⟨rfl, hb2⟩
    have HB2 := hide hb2
    have c3 := (HB1.out.below hb2 HB1.out.lt).cells.2.2.2.1
    clear hb2 d0 d1 d2 d3 d4 d5 d6 d7
    cases q1 with
    | false =>
      go_wp2_with fail
      go_meet
      case rel => exact ⟨rfl, HB2.out⟩
    | true =>
      go_wp2_with fail
      refine Calls.mono (h2.out _ HB2.out) ?_
      rintro e w3 ⟨rfl, hb3⟩
      have HB3 := hide (HB2.out.trans (hb3.mono HB2.out.size))
      clear hb3 c3
      go_wp2_with fail
      go_meet
      case rel => exact ⟨rfl, HB3.out⟩
  case rest =>
    obtain ⟨rfl, hbc⟩ := hcut
    have HBC := hide hbc
    clear d0 d1 d2 d3 d4 d5 d6 d7 h1 h2 hbc
    obtain ⟨q, hq⟩ : ∃ q, (q1 && q2) = q := ⟨_, rfl⟩
    rw [hq] at HH ⊢
    clear hq
    obtain ⟨d0, d1, d2, d3, d4, d5, d6, d7⟩ := (HB1.out.below HBC.out HB1.out.lt).cells
    simp only at d0 d1 d2 d3 d4 d5 d6 d7
    go_upto_region 2 with (fail)
    go_cut [42] from 14 (fun s42 wx => s42 = .bool (!H) ∧ Below w1.heap.size w1 wx)
    case first =>
      cases q with
      | false =>
        have HE : Hid (H = false) := HH.out.trans rfl
        go_wp2_with fail
        go_meet
        case rel => exact ⟨by rw [HE.out]; rfl, HBC.out⟩
      | true =>
        by_cases k4 : kd = 4
        · subst k4
          by_cases ht : tx = []
          · have HE : Hid (H = false) := by unfold Hid; rw [HH.out, ht]; rfl
            subst ht
            go_wp2_with fail
            go_meet
            case rel => exact ⟨by rw [HE.out]; rfl, HBC.out⟩
          · have HE : Hid (H = true) := by unfold Hid; rw [HH.out]; simp [ht]
            have htb : (tx == []) = false := by simpa using ht
            go_wp2_with fail
            go_meet
            case rel => exact ⟨by rw [HE.out]; rfl, HBC.out⟩
        have k4b : (kd == 4) = false := by simpa using k4
        by_cases k3 : kd = 3
        · subst k3
          by_cases hn : nm = []
          · have HE : Hid (H = false) := by unfold Hid; rw [HH.out, hn]; rfl
            subst hn
            go_wp2_with fail
            go_meet
            case rel => exact ⟨by rw [HE.out]; rfl, HBC.out⟩
          · have hnb : (nm == []) = false := by simpa using hn
            obtain ⟨z, hz⟩ : ∃ z, Dm.spaces.contains sp = z := ⟨_, rfl⟩
            have HE : Hid (H = z) := by unfold Hid; rw [HH.out, hz]; simp [hn]
            have hcall := hide (among sp Dm.spaces wc.heap.size 3 3 (wc.alloc (.cells (Dm.spaces.map S).toArray 9)) rfl (by decide) (words_new wc Dm.spaces 9))
            rw [hz] at hcall
            have hal := hide (HBC.out.alloc HBC.out.size (.cells (Dm.spaces.map S).toArray 9))
            clear hz hn
            cases z
            all_goals
              go_wp2_with fail
              refine Calls.mono hcall.out ?_
              rintro e w3 ⟨rfl, rfl⟩
              go_wp2_with fail
              go_meet
              case rel => exact ⟨by rw [HE.out]; rfl, hal.out⟩
        · have k3b : (kd == 3) = false := by simpa using k3
          have HE : Hid (H = true) := by unfold Hid; rw [HH.out, k4b, k3b]; rfl
          go_wp2_with fail
          go_meet
          case rel => exact ⟨by rw [HE.out]; rfl, HBC.out⟩
    case rest =>
      obtain ⟨rfl, hbc2⟩ := hcut
      cases H with
      | false =>
        have HE : Hid (R = false) := HR.out.trans rfl
        clear d0 d1 d2 d3 d4 d5 d6 d7
        go_wp2_with fail
        go_ret
        exact ⟨by rw [HE.out]; rfl, HW.out.trans (hbc2.mono HW.out.size)⟩
      | true =>
        have HB2 := hide hbc2
        clear d0 d1 d2 d3 d4 d5 d6 d7 hbc2
        obtain ⟨q', hq'⟩ : ∃ q', (kd == 1) = q' := ⟨_, rfl⟩
        rw [hq'] at HR
        go_wp2_with fail
        go_loopg [4] ks.length (fun g s4 wx => ∃ (i : Nat) (la : Int), i + g = ks.length ∧ s4 = .int .i64 i ∧ Hid (R = (Dm.kidsOk q' la (ks.drop i) && Dm.mayK (ks.drop i))) ∧ Hid ((i = 0 → la = 0) ∧ ∀ j t, i = j + 1 → ks[j]? = some t → la = t.d.kd) ∧ Below w1.heap.size w1 wx)
        case atStart => exact ⟨0, 0, by omega, rfl, HR.out.trans (by simp), ⟨fun _ => rfl, fun j t h => by omega⟩, HB2.out⟩
        case round =>
          obtain ⟨i, la, hi, rfl, hres, hla, hbx⟩ := hrel
          have hwx : Below w.heap.size w wr := HW.out.trans (hbx.mono HW.out.size)
          have hsx := hbx.size
          have f0 := (HB1.out.below hbx HB1.out.lt).cells.1
          have f7 := (HB1.out.below hbx HB1.out.lt).cells.2.2.2.2.2.2.2
          simp only at f0
          by_cases hlt : i < ks.length
          · obtain ⟨t, ht⟩ : ∃ t, ks[i]? = some t := ⟨ks[i], List.getElem?_eq_getElem hlt⟩
            obtain ⟨b, o, av, kv, rfl, ⟨m0, m1, m2, m3, m4, m5, m6, m7⟩, hrt⟩ := (HKS.out.below hwx).at ht
            have hmem := List.mem_of_getElem? ht
            have HT := hide ht
            have HSTEP : Hid (R = (t.d.kd != 1 && !(t.d.kd == 2 && !q') && !(t.d.kd == 4 && (q' || la == 4)) && Dm.kidsOk q' t.d.kd (ks.drop (i + 1)) && (t.may && Dm.mayK (ks.drop (i + 1))))) := by
              unfold Hid
              rw [hres.out, drop_cons ht, Dm.kidsOk, Dm.mayK]
            have hcall := hide (HI.out t hmem av kv wr hrt (HIH.out t hmem))
            have HNEXT : Hid ((i + 1 = 0 → t.d.kd = 0) ∧ ∀ j u, i + 1 = j + 1 → ks[j]? = some u → t.d.kd = u.d.kd) := ⟨fun h => by omega, fun j u h hu => by
              obtain rfl : i = j := by omega
              rw [ht] at hu
              injection hu with hu
              rw [hu]⟩
            have HRT := hide hrt
            obtain ⟨kk, hkk⟩ : ∃ kk, t.d.kd = kk := ⟨_, rfl⟩
            rw [hkk] at m0 HSTEP HNEXT
            rw [NV, hkk] at hcall
            clear ht hres hrt hmem hkk
            by_cases k1 : kk = 1
            · have HE : Hid (R = false) := by unfold Hid; rw [HSTEP.out, k1]; rfl
              subst k1
              go_wp2_with fail
              go_ret
              exact ⟨by rw [HE.out]; rfl, hwx⟩
            have k1b : (kk == 1) = false := by simpa using k1
            have hne : (kk != 1) = true := by rw [bne, k1b]; rfl
            by_cases k2 : kk = 2
            · subst k2
              cases q' with
              | false =>
                have hkd : (kd != 1) = true := by rw [bne, hq']; rfl
                have HE : Hid (R = false) := by unfold Hid; rw [HSTEP.out]; rfl
                go_wp2_with fail
                go_ret
                exact ⟨by rw [HE.out]; rfl, hwx⟩
              | true =>
                obtain rfl : kd = 1 := by simpa using hq'
                by_cases hi0 : 0 < i
                · skip
                  have HC : Hid (R = (Dm.kidsOk true 2 (ks.drop (i + 1)) && (t.may && Dm.mayK (ks.drop (i + 1))))) := by
                    unfold Hid
                    rw [HSTEP.out]
                    simp
                  go_wp2_with fail
                  refine Calls.mono hcall.out ?_
                  rintro e w4 ⟨rfl, hb4⟩
                  have hb5 := hide (hbx.trans (hb4.mono hsx))
                  clear hb4
                  cases hmay : t.may with
                  | true =>
                    rw [hmay] at HC
                    have HC2 := hide HC.out
                    clear hmay
                    go_wp2_with fail
                    go_roundg (gk - 1)
                    case measure => omega
                    case rel => exact ⟨i + 1, 2, by omega, by go_num, by unfold Hid; rw [HC2.out, Bool.true_and], HNEXT, hb5.out⟩
                  | false =>
                    have HE : Hid (R = false) := by unfold Hid; rw [HC.out, hmay, Bool.false_and, Bool.and_false]
                    clear hmay
                    go_wp2_with fail
                    go_ret
                    exact ⟨by rw [HE.out]; rfl, HW.out.trans (hb5.out.mono HW.out.size)⟩
                · have hip : decide (0 < i) = false := by rw [decide_eq_false_iff_not]; omega
                  clear hi0
                  have HC : Hid (R = (Dm.kidsOk true 2 (ks.drop (i + 1)) && (t.may && Dm.mayK (ks.drop (i + 1))))) := by
                    unfold Hid
                    rw [HSTEP.out]
                    simp
                  go_wp2_with fail
                  refine Calls.mono hcall.out ?_
                  rintro e w4 ⟨rfl, hb4⟩
                  have hb5 := hide (hbx.trans (hb4.mono hsx))
                  clear hb4
                  cases hmay : t.may with
                  | true =>
                    rw [hmay] at HC
                    have HC2 := hide HC.out
                    clear hmay
                    go_wp2_with fail
                    go_roundg (gk - 1)
                    case measure => omega
                    case rel => exact ⟨i + 1, 2, by omega, by go_num, by unfold Hid; rw [HC2.out, Bool.true_and], HNEXT, hb5.out⟩
                  | false =>
                    have HE : Hid (R = false) := by unfold Hid; rw [HC.out, hmay, Bool.false_and, Bool.and_false]
                    clear hmay
                    go_wp2_with fail
                    go_ret
                    exact ⟨by rw [HE.out]; rfl, HW.out.trans (hb5.out.mono HW.out.size)⟩
            have k2b : (kk == 2) = false := by simpa using k2
            by_cases k4 : kk = 4
            · subst k4
              cases q' with
              | true =>
                obtain rfl : kd = 1 := by simpa using hq'
                have HE : Hid (R = false) := by unfold Hid; rw [HSTEP.out]; rfl
                go_wp2_with fail
                go_ret
                exact ⟨by rw [HE.out]; rfl, hwx⟩
              | false =>
                by_cases hi0 : i = 0
                · have hl0 : la = 0 := hla.out.1 hi0
                  subst hl0
                  have hip : decide (0 < i) = false := by rw [decide_eq_false_iff_not]; omega
                  clear hi0
                  have HC : Hid (R = (Dm.kidsOk false 4 (ks.drop (i + 1)) && (t.may && Dm.mayK (ks.drop (i + 1))))) := by
                    unfold Hid
                    rw [HSTEP.out]
                    simp
                  go_wp2_with fail
                  refine Calls.mono hcall.out ?_
                  rintro e w4 ⟨rfl, hb4⟩
                  have hb5 := hide (hbx.trans (hb4.mono hsx))
                  clear hb4
                  cases hmay : t.may with
                  | true =>
                    rw [hmay] at HC
                    have HC2 := hide HC.out
                    clear hmay
                    go_wp2_with fail
                    go_roundg (gk - 1)
                    case measure => omega
                    case rel => exact ⟨i + 1, 4, by omega, by go_num, by unfold Hid; rw [HC2.out, Bool.true_and], HNEXT, hb5.out⟩
                  | false =>
                    have HE : Hid (R = false) := by unfold Hid; rw [HC.out, hmay, Bool.false_and, Bool.and_false]
                    clear hmay
                    go_wp2_with fail
                    go_ret
                    exact ⟨by rw [HE.out]; rfl, HW.out.trans (hb5.out.mono HW.out.size)⟩
                · obtain ⟨j, rfl⟩ : ∃ j, i = j + 1 := ⟨i - 1, by omega⟩
                  obtain ⟨u, hu⟩ : ∃ u, ks[j]? = some u := ⟨ks[j], List.getElem?_eq_getElem (by omega)⟩
                  obtain ⟨b2, o2, av2, kv2, e2, ⟨n0, -⟩, -⟩ := (HKS.out.below hwx).at hu
                  injection e2 with e2
                  injection e2 with e2 e3
                  subst e2; subst e3
                  have hlu : la = u.d.kd := hla.out.2 j u rfl hu
                  rw [← hlu] at n0
                  have hj1 : (j : Int) < (ks.length : Int) := by omega
                  clear hu hlu
                  by_cases l4 : la = 4
                  · have HE : Hid (R = false) := by unfold Hid; rw [HSTEP.out, l4]; simp
                    subst l4
                    go_wp2_with fail
                    go_ret
                    exact ⟨by rw [HE.out]; rfl, hwx⟩
                  · have l4b : (la == 4) = false := by simpa using l4
                    have HC : Hid (R = (Dm.kidsOk false 4 (ks.drop ((j + 1) + 1)) && (t.may && Dm.mayK (ks.drop ((j + 1) + 1))))) := by
                      unfold Hid
                      rw [HSTEP.out]
                      rw [l4b]; simp
                    go_wp2_with fail
                    refine Calls.mono hcall.out ?_
                    rintro e w4 ⟨rfl, hb4⟩
                    have hb5 := hide (hbx.trans (hb4.mono hsx))
                    clear hb4
                    cases hmay : t.may with
                    | true =>
                      rw [hmay] at HC
                      have HC2 := hide HC.out
                      clear hmay
                      go_wp2_with fail
                      go_roundg (gk - 1)
                      case measure => omega
                      case rel => exact ⟨(j + 1) + 1, 4, by omega, by go_num, by unfold Hid; rw [HC2.out, Bool.true_and], HNEXT, hb5.out⟩
                    | false =>
                      have HE : Hid (R = false) := by unfold Hid; rw [HC.out, hmay, Bool.false_and, Bool.and_false]
                      clear hmay
                      go_wp2_with fail
                      go_ret
                      exact ⟨by rw [HE.out]; rfl, HW.out.trans (hb5.out.mono HW.out.size)⟩
            have k4b : (kk == 4) = false := by simpa using k4
            by_cases hi0 : i = 0
            · have hip : decide (0 < i) = false := by rw [decide_eq_false_iff_not]; omega
              clear hi0
              have HC : Hid (R = (Dm.kidsOk q' kk (ks.drop (i + 1)) && (t.may && Dm.mayK (ks.drop (i + 1))))) := by
                unfold Hid
                rw [HSTEP.out]
                rw [hne, k2b, k4b]; simp
              go_wp2_with fail
              refine Calls.mono hcall.out ?_
              rintro e w4 ⟨rfl, hb4⟩
              have hb5 := hide (hbx.trans (hb4.mono hsx))
              clear hb4
              cases hmay : t.may with
              | true =>
                rw [hmay] at HC
                have HC2 := hide HC.out
                clear hmay
                go_wp2_with fail
                go_roundg (gk - 1)
                case measure => omega
                case rel => exact ⟨i + 1, kk, by omega, by go_num, by unfold Hid; rw [HC2.out, Bool.true_and], HNEXT, hb5.out⟩
              | false =>
                have HE : Hid (R = false) := by unfold Hid; rw [HC.out, hmay, Bool.false_and, Bool.and_false]
                clear hmay
                go_wp2_with fail
                go_ret
                exact ⟨by rw [HE.out]; rfl, HW.out.trans (hb5.out.mono HW.out.size)⟩
            · have hip : 0 < i := by omega
              have HC : Hid (R = (Dm.kidsOk q' kk (ks.drop (i + 1)) && (t.may && Dm.mayK (ks.drop (i + 1))))) := by
                unfold Hid
                rw [HSTEP.out]
                rw [hne, k2b, k4b]; simp
              go_wp2_with fail
              refine Calls.mono hcall.out ?_
              rintro e w4 ⟨rfl, hb4⟩
              have hb5 := hide (hbx.trans (hb4.mono hsx))
              clear hb4
              cases hmay : t.may with
              | true =>
                rw [hmay] at HC
                have HC2 := hide HC.out
                clear hmay
                go_wp2_with fail
                go_roundg (gk - 1)
                case measure => omega
                case rel => exact ⟨i + 1, kk, by omega, by go_num, by unfold Hid; rw [HC2.out, Bool.true_and], HNEXT, hb5.out⟩
              | false =>
                have HE : Hid (R = false) := by unfold Hid; rw [HC.out, hmay, Bool.false_and, Bool.and_false]
                clear hmay
                go_wp2_with fail
                go_ret
                exact ⟨by rw [HE.out]; rfl, HW.out.trans (hb5.out.mono HW.out.size)⟩
          · have HE : Hid (R = true) := by
              unfold Hid
              rw [hres.out, List.drop_eq_nil_of_le (by omega)]
              rfl
            go_wp2_with fail
            go_ret
            exact ⟨by rw [HE.out]; rfl, hwx⟩
end Go.Proofs.YtagkdmolgmhmdaaGreatDoor
