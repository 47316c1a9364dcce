/- bad: the rest of a URL that is none. -/
import Derived.Test.YtojgcangnkjmjaaGreatDoorM
namespace Go.Proofs.YtojgcangnkjmjaaGreatDoor
open Go.RowKit

theorem trimD (l : List UInt8) (w : World) : Calls Tryz.prog 67 #[S l, S [41]] w (Ret (S (Lib.trimPrefix l [41])) w) :=
  (Tryz.strings_TrimPrefix ⟨l.toArray⟩ ⟨([41] : List UInt8).toArray⟩ w).mono fun _ _ h => ⟨h.1, h.2.symm⟩
set_option maxRecDepth 100000 in
set_option maxHeartbeats 8000000 in
theorem bad_ (s t : List UInt8) (b : Nat) (o : Bool) (w : World) (h : Lx w b s false o t) (hl : s.length ≤ 1048576) :
    Calls Tryz.prog 137 #[.pointer (some ⟨b, 0, none⟩)] w (TokP ⟨Cssp.tk 9 [], (Cssp.bad s).1, (Cssp.bad s).2.1, (Cssp.bad s).2.2, 0⟩ s w b) := by
  obtain ⟨X, hX⟩ : ∃ X, Cssp.bad s = X := ⟨_, rfl⟩
  rw [hX]
  have HX := hide hX
  clear hX
  have hz := Zt.new w
  have hal := (Below.refl w.heap.size w).alloc (Nat.le_refl _) (.cells #[.int .u8 0, S [], S [], .bool false] 27)
  have hx := h.below hal
  have hlt := h.lt
  go_enter Tryz.func137, Tryz.ntmps137
  go_wp2_with fail
  change Code.wp _ _ _ _ (w.alloc (.cells #[.int .u8 0, S [], S [], .bool false] 27))
  obtain ⟨w1, hw1⟩ : ∃ x, x = w.alloc (.cells #[.int .u8 0, S [], S [], .bool false] 27) := ⟨_, rfl⟩
  rw [← hw1] at hz hal hx ⊢
  clear hw1 h
  have HX1 := hide hx
  have HZ1 := hide hz
  have HU1 := hide (p := Upto b w w1) (Upto.of_below hal)
  clear hz hal hx
  go_loopg [3] s.length (fun g _ wx => ∃ (l tt : List UInt8) (oo : Bool) (k : Nat), l.length ≤ g ∧ g ≤ s.length ∧ Hid (Lx wx b l false oo tt) ∧ Hid (Upto b w wx) ∧ Hid (Zt wx w.heap.size) ∧ Hid (s.drop k = l ∧ X = (k + (Cssp.bad l).1, (Cssp.bad l).2)))
  case atStart => exact ⟨s, t, o, 0, by omega, Nat.le_refl _, HX1.out, HU1.out, HZ1.out, rfl, by rw [HX.out]; simp⟩
  case round =>
    obtain ⟨l, tt, oo, k, hlg, hgs, hLx, hUp, hZ, hSt⟩ := hrel
    have hll : l.length ≤ 1048576 := by omega
    have HW := hide (whileBad l tt b false oo wr hLx.out (by omega))
    obtain ⟨n, hn⟩ : ∃ n, Cssp.run Cssp.badC l = n := ⟨_, rfl⟩
    have hnl2 := Cssp.run_le Cssp.badC l
    have hstop := Cssp.run_drop Cssp.badC l
    have hrun := Cssp.bad_run l
    rw [hn] at HW hnl2 hstop hrun
    obtain ⟨m, hm⟩ : ∃ m, l.drop n = m := ⟨_, rfl⟩
    rw [hm] at HW hrun
    have hml : m.length + n = l.length := by rw [← hm, List.length_drop]; omega
    have hm0 : Hid (∀ c r, m = c :: r → Cssp.badC c = false) := by
      unfold Hid
      intro c r e
      have hh := hstop
      unfold Cssp.isAt at hh
      have hg : l[n]? = some c := by
        have : (l.drop n)[0]? = some c := by rw [hm, e]; rfl
        rwa [List.getElem?_drop, Nat.add_zero] at this
      rw [hg] at hh
      exact hh
    have hSt2 : Hid (s.drop (k + n) = m ∧ X = (k + n + (Cssp.bad m).1, (Cssp.bad m).2)) := by
      unfold Hid
      refine ⟨by rw [← List.drop_drop, hSt.out.1, hm], ?_⟩
      rw [hSt.out.2, hrun]
      congr 1
      show k + (n + _) = _
      omega
    clear hstop hrun hm hn
    go_wp2_with fail
    refine HW.out.mono ?_
    rintro e w2 ⟨rfl, hx, hu⟩
    have hz2 := hZ.out.upto hu (by omega)
    have hu2 := (hUp.out.trans hu).setCell 2 (.bool false)
    have hx2 := hx.set2 false
    have hz3 := hz2.upto ((Upto.refl b w2).setCell 2 (.bool false)) (by omega)
    obtain ⟨c0, c1, c2, c3⟩ := hx.cells
    have f2 := hx.frozen 2
    clear HW
    go_upto_region 3 with (fail)
    change Code.wp _ _ _ _ (w2.setCell ⟨b, 2, none⟩ (.bool false))
    generalize hgen : w2.setCell ⟨b, 2, none⟩ (.bool false) = w3 at hu2 hx2 hz3 ⊢
    clear hgen c0 c1 c2 c3 f2 hx hu hz2
    have HLX3 := hide hx2
    have HUP3 := hide hu2
    have HZ3 := hide hz3
    obtain ⟨c0, c1, c2, c3⟩ := hx2.cells
    have f0 := hx2.frozen 0
    have f1 := hx2.frozen 1
    clear hu2 hx2 hz3
    cases m with
    | nil =>
      have hx4 := HLX3.out.set1 true
      have hu4 := HUP3.out.setCell 1 (.bool true)
      have hz4 := HZ3.out.upto ((Upto.refl b w3).setCell 1 (.bool true)) (by omega)
      go_upto_region 7 with (fail)
      change Code.wp _ _ _ _ (w3.setCell ⟨b, 1, none⟩ (.bool true))
      generalize hgen : w3.setCell ⟨b, 1, none⟩ (.bool true) = w4 at hx4 hu4 hz4 ⊢
      clear hgen c0 c1 c2 c3 f0 f1
      have HL0 := hide hx4
      have HU0 := hide hu4
      have HZ0 := hide hz4
      obtain ⟨c0, c1, c2, c3⟩ := hx4.cells
      have f0 := hx4.frozen 0
      clear hx4 hu4 hz4
      have HTR := hide (trimD (([] : List UInt8)) w4)
      go_wp2_with fail
      refine HTR.out.mono ?_
      rintro e w5 ⟨rfl, rfl⟩
      rw [show Lib.trimPrefix (([] : List UInt8)) [41] = ([] : List UInt8) by exact trim_nil 41]
      have hx5 := HL0.out.set0 (([] : List UInt8))
      have hu5 := HU0.out.setCell 0 (S (([] : List UInt8)))
      have hz5 := HZ0.out.upto ((Upto.refl b w4).setCell 0 (S (([] : List UInt8)))) (by omega)
      go_upto_region 8 with (fail)
      change Code.wp _ _ _ _ (w4.setCell ⟨b, 0, none⟩ (S (([] : List UInt8))))
      generalize hgen : w4.setCell ⟨b, 0, none⟩ (S (([] : List UInt8))) = w6 at hx5 hu5 hz5 ⊢
      clear hgen c0 c1 c2 c3 f0 HTR
      have HXE := hide hx5
      have HUE := hide hu5
      have HZE := hide hz5
      clear hx5 hu5 hz5
      go_wp2_with fail
      refine (token_ 9 [] w6 (by decide)).mono ?_
      rintro e wz ⟨rfl, hbz⟩
      have hzz := HZE.out.below hbz
      have HXZ := hide (HXE.out.below hbz)
      have HUZ := hide (HUE.out.trans (Upto.of_below hbz))
      obtain ⟨z0, z1, z2, z3⟩ := hzz.cells
      have g0 := hzz.frozen 0
      have g1 := hzz.frozen 1
      have g2 := hzz.frozen 2
      have g3 := hzz.frozen 3
      have HZZ := hide hzz
      clear hbz hzz
      go_wp2_with fail
      change bodyPost _ _ _ _ ⟨_, _⟩ (putT wz w.heap.size (Cssp.tk 9 []))
      obtain ⟨q0, q1, q2, q3⟩ := putT_cells HZZ.out (Cssp.tk 9 [])
      obtain ⟨e1, e2⟩ := putT_keep HUZ.out HXZ.out hlt (Nat.le_refl _) (Cssp.tk 9 [])
      refine bodyPost_ret (v := TV (Cssp.tk 9 [])) (by simp [results, Tryz.results137, go_sem, q0, q1, q2, q3]) rfl ?_
      have hXX : X = (k + n, false, true) := by rw [hSt2.out.2]; rfl
      refine ⟨tt, ⟨by rw [hXX], ?_, e2⟩, fun _ h => by rw [hXX] at h; cases h⟩
      rw [hXX]
      show Lx _ _ (s.drop (k + n)) true false _
      rw [hSt2.out.1]
      exact e1
    | cons c r =>
      have hcb : Cssp.badC c = false := hm0.out c r rfl
      have hcu := u8_lt c
      by_cases hc : c = 41
      · have e1 : ((c.toNat : Int) == 41) = true := u8t hc
        have HC := hide hc
        clear hc hcb
        have HL0 := HLX3
        have HU0 := HUP3
        have HZ0 := HZ3
        go_upto_region 7 with (fail)
        have HTR := hide (trimD (c :: r) w3)
        go_wp2_with fail
        refine HTR.out.mono ?_
        rintro e w5 ⟨rfl, rfl⟩
        rw [show Lib.trimPrefix (c :: r) [41] = r by rw [HC.out]; exact trim_cons 41 r]
        have hx5 := HL0.out.set0 (r)
        have hu5 := HU0.out.setCell 0 (S (r))
        have hz5 := HZ0.out.upto ((Upto.refl b w3).setCell 0 (S (r))) (by omega)
        go_upto_region 8 with (fail)
        change Code.wp _ _ _ _ (w3.setCell ⟨b, 0, none⟩ (S (r)))
        generalize hgen : w3.setCell ⟨b, 0, none⟩ (S (r)) = w6 at hx5 hu5 hz5 ⊢
        clear hgen c0 c1 c2 c3 f0 HTR
        have HXE := hide hx5
        have HUE := hide hu5
        have HZE := hide hz5
        clear hx5 hu5 hz5
        go_wp2_with fail
        refine (token_ 9 [] w6 (by decide)).mono ?_
        rintro e wz ⟨rfl, hbz⟩
        have hzz := HZE.out.below hbz
        have HXZ := hide (HXE.out.below hbz)
        have HUZ := hide (HUE.out.trans (Upto.of_below hbz))
        obtain ⟨z0, z1, z2, z3⟩ := hzz.cells
        have g0 := hzz.frozen 0
        have g1 := hzz.frozen 1
        have g2 := hzz.frozen 2
        have g3 := hzz.frozen 3
        have HZZ := hide hzz
        clear hbz hzz
        go_wp2_with fail
        change bodyPost _ _ _ _ ⟨_, _⟩ (putT wz w.heap.size (Cssp.tk 9 []))
        obtain ⟨q0, q1, q2, q3⟩ := putT_cells HZZ.out (Cssp.tk 9 [])
        obtain ⟨e1, e2⟩ := putT_keep HUZ.out HXZ.out hlt (Nat.le_refl _) (Cssp.tk 9 [])
        refine bodyPost_ret (v := TV (Cssp.tk 9 [])) (by simp [results, Tryz.results137, go_sem, q0, q1, q2, q3]) rfl ?_
        have hXX : X = (k + n + 1, false, false) := by rw [hSt2.out.2, Cssp.bad_cons, if_pos HC.out]
        refine ⟨tt, ⟨by rw [hXX], ?_, e2⟩, fun h => by rw [hXX] at h; cases h⟩
        rw [hXX]
        show Lx _ _ (s.drop (k + n + 1)) false false _
        rw [← List.drop_drop, hSt2.out.1]
        exact e1
      · have e1 : ((c.toNat : Int) == 41) = false := u8f hc
        have HC := hide hc
        have hc92 : c = 92 := by
          have hh := hcb
          simp only [Cssp.badC, bne_iff_ne.2 hc, Bool.true_and] at hh
          exact (bne_eq_false_iff_eq).1 hh
        have HC92 := hide hc92
        clear hc hc92 hcb
        have hlen := hml
        simp only [List.length_cons] at hlen
        have HEA := hide (escapeAt (c :: r) tt b 0 false false w3 HLX3.out (by simp only [List.length_cons]; omega))
        have HX2 := hSt2.out.2
        rw [Cssp.bad_cons, if_neg HC.out] at HX2
        have HX2' := hide HX2
        clear HX2 hml
        go_wp2_with fail
        refine HEA.out.mono ?_
        rintro e w' ⟨rfl, rfl⟩
        clear HEA
        cases hes : Cssp.escAt (c :: r) 0 with
        | false =>
          have HT := hide (take_ (c :: r) tt b 1 false false w3 HLX3.out (by simp))
          have HXX : Hid (X = (k + n + 1 + (Cssp.bad r).1, (Cssp.bad r).2)) := by
            unfold Hid
            rw [HX2'.out, hes, if_neg (by decide)]
            congr 1
            show k + n + (_ + 1) = _
            omega
          clear hes HX2'
          go_wp2_with fail
          refine HT.out.mono ?_
          rintro e w4 ⟨rfl, hx, hu⟩
          have hx2 := hide hx
          have hu2 := hide (HUP3.out.trans hu)
          have hz2 := hide (HZ3.out.upto hu (by omega))
          clear HT hx hu
          go_wp2_with fail
          go_roundg (gk - 1)
          case measure => omega
          case rel => exact ⟨r, tt, false, k + n + 1, by omega, by omega, hx2.out, hu2.out, hz2.out, by rw [← List.drop_drop, hSt2.out.1]; rfl, HXX.out⟩
        | true =>
          have HT := hide (escape_ (c :: r) tt b false false w3 HLX3.out (by simp) (by simp only [List.length_cons]; omega))
          have hek := Cssp.esc_pos (c :: r)
          have hel2 := (Cssp.esc_len (c :: r)).2 (by simp)
          have HXX0 := HX2'.out
          rw [hes, if_pos rfl] at HXX0
          obtain ⟨E, hE⟩ : ∃ E, Cssp.esc (c :: r) = E := ⟨_, rfl⟩
          rw [hE] at HT hek hel2 HXX0
          have HXX := hide HXX0
          clear HXX0
          simp only [List.length_cons] at hel2
          clear hes HX2' hE
          go_wp2_with fail
          refine HT.out.mono ?_
          rintro e w4 ⟨rfl, hx, hu⟩
          have hx2 := hide hx
          have hu2 := hide (HUP3.out.trans hu)
          have hz2 := hide (HZ3.out.upto hu (by omega))
          clear HT c0 c1 c2 c3 f0 f1 hu
          obtain ⟨c0, c1, c2, c3⟩ := hx.cells
          have f1 := hx.frozen 1
          cases ho : E.o with
          | false =>
            rw [ho] at c2
            have HX5 : Hid (X = (k + n + E.k + (Cssp.bad ((c :: r).drop E.k)).1, (Cssp.bad ((c :: r).drop E.k)).2)) := by
              unfold Hid
              rw [HXX.out, if_neg (by rw [ho]; decide)]
              congr 1
              show k + n + (E.k + _) = _
              omega
            rw [ho] at hx2
            clear HXX hx ho
            go_wp2_with fail
            go_roundg (gk - 1)
            case measure => omega
            case rel => exact ⟨(c :: r).drop E.k, c :: r, false, k + n + E.k, by rw [List.length_drop]; simp only [List.length_cons]; omega, by omega, hx2.out, hu2.out, hz2.out, by rw [← List.drop_drop, hSt2.out.1], HX5.out⟩
          | true =>
            rw [ho] at c2 hx
            have hx4 := hx.set1 true
            have hu4 := hu2.out.setCell 1 (.bool true)
            have hz4 := hz2.out.upto ((Upto.refl b w4).setCell 1 (.bool true)) (by omega)
            have HO := hide ho
            clear hx
            go_upto_region 12 with (fail)
            change Code.wp _ _ _ _ (w4.setCell ⟨b, 1, none⟩ (.bool true))
            generalize hgen : w4.setCell ⟨b, 1, none⟩ (.bool true) = w5 at hx4 hu4 hz4 ⊢
            clear hgen c0 c1 c2 c3 f1
            have HXE := hide hx4
            have HUE := hide hu4
            have HZE := hide hz4
            clear hx4 hu4 hz4
            go_wp2_with fail
            refine (token_ 9 [] w5 (by decide)).mono ?_
            rintro e wz ⟨rfl, hbz⟩
            have hzz := HZE.out.below hbz
            have HXZ := hide (HXE.out.below hbz)
            have HUZ := hide (HUE.out.trans (Upto.of_below hbz))
            obtain ⟨z0, z1, z2, z3⟩ := hzz.cells
            have g0 := hzz.frozen 0
            have g1 := hzz.frozen 1
            have g2 := hzz.frozen 2
            have g3 := hzz.frozen 3
            have HZZ := hide hzz
            clear hbz hzz
            go_wp2_with fail
            change bodyPost _ _ _ _ ⟨_, _⟩ (putT wz w.heap.size (Cssp.tk 9 []))
            obtain ⟨q0, q1, q2, q3⟩ := putT_cells HZZ.out (Cssp.tk 9 [])
            obtain ⟨e1, e2⟩ := putT_keep HUZ.out HXZ.out hlt (Nat.le_refl _) (Cssp.tk 9 [])
            refine bodyPost_ret (v := TV (Cssp.tk 9 [])) (by simp [results, Tryz.results137, go_sem, q0, q1, q2, q3]) rfl ?_
            have hXX : X = (k + n + E.k, true, true) := by rw [HXX.out, if_pos ho]
            refine ⟨c :: r, ⟨by rw [hXX], ?_, e2⟩, fun _ _ hk => by cases hk⟩
            rw [hXX]
            show Lx _ _ (s.drop (k + n + E.k)) true true _
            rw [← List.drop_drop, hSt2.out.1]
            exact e1
end Go.Proofs.YtojgcangnkjmjaaGreatDoor
