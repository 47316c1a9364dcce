/- Whether a node's kids may be its kids. -/
import Derived.Test.YtagkdmolgmhmdaaGreatDoorDc
import Derived.IntWalk
namespace Go.Proofs.YtagkdmolgmhmdaaGreatDoor
open Go.RowKit

theorem bool_of_not {b : Bool} (h : ¬ b = true) : b = false := by simpa using h
theorem drop_cons {α : Type} {l : List α} {i : Nat} {x : α} (h : l[i]? = some x) : l.drop i = x :: l.drop (i + 1) := by
  have hlt := (List.getElem?_eq_some_iff.1 h).1
  rw [List.drop_eq_getElem_cons hlt]
  congr 1
  exact (List.getElem?_eq_some_iff.1 h).2

set_option maxRecDepth 100000 in
set_option maxHeartbeats 4000000 in
theorem kids (d : Dm.D) (ks : List Dm.T) (av kv : Value) (w : World) (hs : RdT w (.mk d ks) av kv) (hl : ks.length ≤ 9223372036854775807) :
    Calls Tryz.prog 36 #[NV d av kv] w (Fresh (.bool (Dm.kidsOk (d.kd == 1) 0 ks)) w) := by
  obtain ⟨ha, hk⟩ := RdT.mk_iff.1 hs
  obtain ⟨ka, kc, rfl⟩ := hk.length
  obtain ⟨aa, ac, rfl⟩ := ha.length
  clear hs ha
  obtain ⟨q, hq⟩ : ∃ q, (d.kd == 1) = q := ⟨_, rfl⟩
  rw [hq]
  obtain ⟨R, hR⟩ : ∃ R, Dm.kidsOk q 0 ks = R := ⟨_, rfl⟩
  rw [hR]
  have HR := hide hR
  clear hR
  have b1 := (Box.new w d (.slice aa d.ats.length ac) (.slice ka ks.length kc))
  have hw1 := ((Below.refl w.heap.size w).alloc (Nat.le_refl _) (.cells #[.int .u8 d.kd, S d.sp, S d.nm, .slice aa d.ats.length ac, S d.tx, S d.pb, S d.sy, .slice ka ks.length kc] 26))
  go_enter Tryz.func36, Tryz.ntmps36
  go_upto_region 1 with (fail)
  generalize hgen : (w.alloc (.cells #[.int .u8 d.kd, S d.sp, S d.nm, .slice aa d.ats.length ac, S d.tx, S d.pb, S d.sy, .slice ka ks.length kc] 26)) = w1 at b1 hw1 ⊢
  clear hgen
  obtain ⟨kd, sp, nm, ats, tx, pb, sy⟩ := d
  obtain ⟨d0, d1, d2, d3, d4, d5, d6, d7⟩ := b1.cells
  simp only at hq d0 d7
  clear d1 d2 d3 d4 d5 d6
  have hKs := hide hk
  have hW := hide hw1
  clear hk b1 hw1
  cases q
  all_goals
    go_wp2_with fail
    go_loopg [4, 13] ks.length (fun g s4 s13 wx => ∃ (i : Nat) (la : Int), i + g = ks.length ∧ s13 = .int .i64 i ∧ s4 = .int .u8 la ∧ Below w1.heap.size w1 wx ∧ Hid (R = Dm.kidsOk _ la (ks.drop i)))
    case atStart => exact ⟨0, 0, by omega, rfl, rfl, Below.refl _ _, HR.out.symm⟩
    case round =>
      obtain ⟨i, la, hi, rfl, rfl, hbx, hres⟩ := hrel
      have hwx : Below w.heap.size w wr := hW.out.trans (hbx.mono hW.out.size)
      have hsx := hbx.size
      by_cases hlt : i < ks.length
      · obtain ⟨t, ht⟩ : ∃ t, ks[i]? = some t := ⟨ks[i], List.getElem?_eq_getElem hlt⟩
        obtain ⟨b, o, av, kv, rfl, ⟨m0, m1, m2, m3, m4, m5, m6, m7⟩, hrt⟩ := (hKs.out.below hwx).at ht
        obtain ⟨⟨aa2, ac2, rfl⟩, ka2, kc2, rfl⟩ := (⟨(hrt.eta).1.length, (hrt.eta).2.length⟩ : (∃ ao c, av = .slice ao t.d.ats.length c) ∧ ∃ ko c, kv = .slice ko t.ks.length c)
        have HD := hide (drop_cons ht)
        obtain ⟨kk, hkk⟩ : ∃ kk, t.d.kd = kk := ⟨_, rfl⟩
        rw [hkk] at m0
        have HK := hide hkk
        have HB := hide (hbx.alloc hsx (.cells #[.int .u8 kk, S t.d.sp, S t.d.nm, .slice aa2 t.d.ats.length ac2, S t.d.tx, S t.d.pb, S t.d.sy, .slice ka2 t.ks.length kc2] 26))
        clear hkk ht hrt
        by_cases k1 : kk = 1
        · have HE : Hid (R = false) := by
            unfold Hid
            rw [hres.out, HD.out, Dm.kidsOk, HK.out, k1]; simp
          subst k1
          go_wp2_with fail
          go_ret
          exact ⟨by rw [HE.out]; rfl, hW.out.trans (HB.out.mono hW.out.size)⟩
        have k1b : (kk == 1) = false := by simpa using k1
        by_cases k2 : kk = 2
        · subst k2
          first
            | (have HE : Hid (R = false) := by
                 unfold Hid
                 rw [hres.out, HD.out, Dm.kidsOk, HK.out]; simp; done
               go_wp2_with fail
               go_ret
               exact ⟨by rw [HE.out]; rfl, hW.out.trans (HB.out.mono hW.out.size)⟩)
            | (go_wp2_with fail
               go_roundg (gk - 1)
               (case measure => omega)
               (case rel => exact ⟨i + 1, 2, by omega, by go_num, rfl, HB.out, by unfold Hid; rw [hres.out, HD.out, Dm.kidsOk, HK.out]; simp⟩))
        have k2b : (kk == 2) = false := by simpa using k2
        by_cases k4 : kk = 4
        · subst k4
          by_cases l4 : la = 4
          · have HE : Hid (R = false) := by
              unfold Hid
              rw [hres.out, HD.out, Dm.kidsOk, HK.out, l4]; simp
            subst l4
            go_wp2_with fail
            go_ret
            exact ⟨by rw [HE.out]; rfl, hW.out.trans (HB.out.mono hW.out.size)⟩
          have l4b : (la == 4) = false := by simpa using l4
          first
            | (have HE : Hid (R = false) := by
                 unfold Hid
                 rw [hres.out, HD.out, Dm.kidsOk, HK.out]; simp; done
               go_wp2_with fail
               go_ret
               exact ⟨by rw [HE.out]; rfl, hW.out.trans (HB.out.mono hW.out.size)⟩)
            | (go_wp2_with fail
               go_roundg (gk - 1)
               (case measure => omega)
               (case rel => exact ⟨i + 1, 4, by omega, by go_num, rfl, HB.out, by unfold Hid; rw [hres.out, HD.out, Dm.kidsOk, HK.out, l4b]; simp⟩))
        have k4b : (kk == 4) = false := by simpa using k4
        go_wp2_with fail
        go_roundg (gk - 1)
        case measure => omega
        case rel => exact ⟨i + 1, kk, by omega, by go_num, rfl, HB.out, by unfold Hid; rw [hres.out, HD.out, Dm.kidsOk, HK.out, bne, k1b, k2b, k4b]; simp⟩
      · have HE : Hid (R = true) := by
          unfold Hid
          rw [hres.out, List.drop_eq_nil_of_le (by omega)]
          rfl
        go_wp2_with fail
        go_ret
        exact ⟨by rw [HE.out]; rfl, hwx⟩
end Go.Proofs.YtagkdmolgmhmdaaGreatDoor
