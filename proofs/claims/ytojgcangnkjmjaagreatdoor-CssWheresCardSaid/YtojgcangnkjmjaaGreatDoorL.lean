/- hash. (Printed by genCssL.py.) -/
import Derived.Test.YtojgcangnkjmjaaGreatDoorK
namespace Go.Proofs.YtojgcangnkjmjaaGreatDoor
open Go.RowKit

set_option maxRecDepth 100000 in
set_option maxHeartbeats 2000000 in
theorem hash_no (s t : List UInt8) (b : Nat) (w : World) (h : Lx w b s false false t) (h1 : 1 ≤ s.length) (hl : s.length ≤ 1048576) (hno : (Cssp.isAt Cssp.goesOn s 1 || Cssp.escAt s 1) = false) :
    Calls Tryz.prog 39 #[.pointer (some ⟨b, 0, none⟩)] w (TokP ⟨Cssp.tk 10 (s.take 1), 1, false, false, 0⟩ s w b) := by
  have hE : Cssp.escAt s 1 = false := by
    cases h' : Cssp.escAt s 1
    · rfl
    · rw [h', Bool.or_true] at hno; cases hno
  have HG : Hid (∀ y, s[1]? = some y → Cssp.goesOn y = false) := by
    unfold Hid
    intro y hy
    rw [isAt_get hy, hE, Bool.or_false] at hno
    exact hno
  clear hno
  have HE := hide hE
  clear hE
  have hz := Zt.new w
  have hal := (Below.refl w.heap.size w).alloc (Nat.le_refl _) (.cells #[.int .u8 0, S [], S [], .bool false] 27)
  have hx := h.below hal
  have hlt := h.lt
  go_enter Tryz.func39, Tryz.ntmps39
  go_upto_region 1 with (fail)
  change Code.wp _ _ _ _ (w.alloc (.cells #[.int .u8 0, S [], S [], .bool false] 27))
  obtain ⟨w1, hw1⟩ : ∃ x, x = w.alloc (.cells #[.int .u8 0, S [], S [], .bool false] 27) := ⟨_, rfl⟩
  rw [← hw1] at hz hal hx ⊢
  clear hw1 h
  have HX1 := hide hx
  have HZ1 := hide hz
  have HU1 := hide (p := Upto b w w1) (Upto.of_below hal)
  clear hz hal hx
  obtain ⟨c0, c1, c2, c3⟩ := HX1.out.cells
  by_cases h2 : 1 < s.length
  · have b1 : (1 : Int) < (s.length : Int) := by omega
    obtain ⟨y, hy⟩ : ∃ y, s[1] = y := ⟨_, rfl⟩
    have hg := HG.out y (by rw [List.getElem?_eq_getElem h2, hy])
    have hc := cGoesOn y w1
    rw [hg] at hc
    clear hg
    have HT := hide (hc)
    go_wp2_with fail
    refine HT.out.mono ?_
    rintro e w' ⟨rfl, rfl⟩
    clear HT
    clear hc
    have HT0 := escapeAt s t b 1 false false w1 HX1.out (by omega)
    rw [HE.out] at HT0
    have HT := hide (HT0)
    go_wp2_with fail
    refine HT.out.mono ?_
    rintro e w' ⟨rfl, rfl⟩
    clear HT
    clear HT0
    have HT := hide (delim_ s t b w1 HX1.out h1)
    go_wp2_with fail
    refine HT.out.mono ?_
    rintro e w2 ⟨t2, ⟨rfl, hx, hu⟩, -⟩
    have HX2 := hide hx
    have HU2 := hide (HU1.out.trans hu)
    have HZ2 := hide (HZ1.out.upto hu (by omega))
    clear HT hx hu
    clear c0 c1 c2 c3
    obtain ⟨z0, z1, z2, z3⟩ := HZ2.out.cells
    have g0 := HZ2.out.frozen 0
    have g1 := HZ2.out.frozen 1
    have g2 := HZ2.out.frozen 2
    have g3 := HZ2.out.frozen 3
    go_wp2_with fail
    change bodyPost _ _ _ _ ⟨_, _⟩ (putT w2 w.heap.size (Cssp.tk 10 (s.take 1)))
    obtain ⟨q0, q1, q2, q3⟩ := putT_cells HZ2.out (Cssp.tk 10 (s.take 1))
    obtain ⟨e1, e2⟩ := putT_keep HU2.out HX2.out hlt (Nat.le_refl _) (Cssp.tk 10 (s.take 1))
    refine bodyPost_ret (v := TV (Cssp.tk 10 (s.take 1))) (by simp [results, Tryz.results39, go_sem, q0, q1, q2, q3]) rfl ?_
    exact ⟨t2, ⟨rfl, e1, e2⟩, fun h => by cases h⟩
  · have b1 : ¬ (1 : Int) < (s.length : Int) := by omega
    have d1 : decide ((1 : Int) < (s.length : Int)) = false := by simp; omega
    have HT0 := escapeAt s t b 1 false false w1 HX1.out (by omega)
    rw [HE.out] at HT0
    have HT := hide (HT0)
    go_wp2_with fail
    refine HT.out.mono ?_
    rintro e w' ⟨rfl, rfl⟩
    clear HT
    clear HT0
    have HT := hide (delim_ s t b w1 HX1.out h1)
    go_wp2_with fail
    refine HT.out.mono ?_
    rintro e w2 ⟨t2, ⟨rfl, hx, hu⟩, -⟩
    have HX2 := hide hx
    have HU2 := hide (HU1.out.trans hu)
    have HZ2 := hide (HZ1.out.upto hu (by omega))
    clear HT hx hu
    clear c0 c1 c2 c3
    obtain ⟨z0, z1, z2, z3⟩ := HZ2.out.cells
    have g0 := HZ2.out.frozen 0
    have g1 := HZ2.out.frozen 1
    have g2 := HZ2.out.frozen 2
    have g3 := HZ2.out.frozen 3
    go_wp2_with fail
    change bodyPost _ _ _ _ ⟨_, _⟩ (putT w2 w.heap.size (Cssp.tk 10 (s.take 1)))
    obtain ⟨q0, q1, q2, q3⟩ := putT_cells HZ2.out (Cssp.tk 10 (s.take 1))
    obtain ⟨e1, e2⟩ := putT_keep HU2.out HX2.out hlt (Nat.le_refl _) (Cssp.tk 10 (s.take 1))
    refine bodyPost_ret (v := TV (Cssp.tk 10 (s.take 1))) (by simp [results, Tryz.results39, go_sem, q0, q1, q2, q3]) rfl ?_
    exact ⟨t2, ⟨rfl, e1, e2⟩, fun h => by cases h⟩
set_option maxRecDepth 100000 in
set_option maxHeartbeats 2000000 in
theorem hash_yes (s t : List UInt8) (b : Nat) (w : World) (h : Lx w b s false false t) (h1 : 1 ≤ s.length) (hl : s.length ≤ 1048576) (hyes : (Cssp.isAt Cssp.goesOn s 1 || Cssp.escAt s 1) = true) :
    Calls Tryz.prog 39 #[.pointer (some ⟨b, 0, none⟩)] w (TokP ⟨⟨5, (Cssp.name (s.drop 1)).t, [], Cssp.identAt s 1⟩, (Cssp.name (s.drop 1)).k + 1, (Cssp.name (s.drop 1)).o, false, 0⟩ s w b) := by
  obtain ⟨r, hr⟩ : ∃ r, s.drop 1 = r := ⟨_, rfl⟩
  rw [hr]
  have hrl : r.length ≤ 1048576 := by rw [← hr, List.length_drop]; omega
  obtain ⟨N, hN⟩ : ∃ N, Cssp.name r = N := ⟨_, rfl⟩
  rw [hN]
  have hdd : Hid (r.drop N.k = s.drop (N.k + 1)) := by unfold Hid; rw [← hr, List.drop_drop, Nat.add_comm]
  have HR := hide hr
  have HN := hide hN
  clear hr hN
  obtain ⟨fl, hfl⟩ : ∃ fl, Cssp.identAt s 1 = fl := ⟨_, rfl⟩
  rw [hfl]
  have HFL := hide hfl
  clear hfl
  have hz := Zt.new w
  have hal := (Below.refl w.heap.size w).alloc (Nat.le_refl _) (.cells #[.int .u8 0, S [], S [], .bool false] 27)
  have hx := h.below hal
  have hlt := h.lt
  go_enter Tryz.func39, Tryz.ntmps39
  go_upto_region 1 with (fail)
  change Code.wp _ _ _ _ (w.alloc (.cells #[.int .u8 0, S [], S [], .bool false] 27))
  obtain ⟨w1, hw1⟩ : ∃ x, x = w.alloc (.cells #[.int .u8 0, S [], S [], .bool false] 27) := ⟨_, rfl⟩
  rw [← hw1] at hz hal hx ⊢
  clear hw1 h
  have HX1 := hide hx
  have HZ1 := hide hz
  have HU1 := hide (p := Upto b w w1) (Upto.of_below hal)
  clear hz hal hx
  obtain ⟨c0, c1, c2, c3⟩ := HX1.out.cells
  by_cases h2 : 1 < s.length
  · have b1 : (1 : Int) < (s.length : Int) := by omega
    obtain ⟨y, hy⟩ : ∃ y, s[1] = y := ⟨_, rfl⟩
    have hg : Cssp.isAt Cssp.goesOn s 1 = Cssp.goesOn y := isAt_get (by rw [List.getElem?_eq_getElem h2, hy])
    have hc := cGoesOn y w1
    have HT := hide (hc)
    go_wp2_with fail
    refine HT.out.mono ?_
    rintro e w' ⟨rfl, rfl⟩
    clear HT
    clear hc
    cases hgy : Cssp.goesOn y with
    | true =>
      clear hyes hg hgy
      clear c0 c1 c2 c3
      have HT0 := identAt s t b 1 false false w1 HX1.out (by omega) (by decide)
      rw [HFL.out] at HT0
      have HT := hide (HT0)
      go_wp2_with fail
      refine HT.out.mono ?_
      rintro e w' ⟨rfl, rfl⟩
      clear HT
      clear HT0
      have HT1 := take_ s t b 1 false false w1 HX1.out h1
      rw [HR.out] at HT1
      have HT := hide (HT1)
      go_wp2_with fail
      refine HT.out.mono ?_
      rintro e w2 ⟨rfl, hx, hu⟩
      have HX2 := hide hx
      have HU2 := hide (HU1.out.trans hu)
      have HZ2 := hide (HZ1.out.upto hu (by omega))
      have hs2 := hu.size
      clear HT hx hu
      clear HT1
      have HT1 := name_ r t b false false w2 HX2.out hrl
      rw [HN.out, hdd.out, Bool.false_or] at HT1
      have HT := hide (HT1)
      go_wp2_with fail
      refine HT.out.mono ?_
      rintro e w3 ⟨t3, rfl, hx, hu⟩
      have HX3 := hide hx
      have HU3 := hide (HU2.out.trans hu)
      have HZ3 := hide (HZ2.out.upto hu (by omega))
      have hs3 := hu.size
      clear HT hx hu
      clear HT1
      have HT := hide (token_ 5 N.t w3 (by decide))
      go_wp2_with fail
      refine HT.out.mono ?_
      rintro e w4 ⟨rfl, hb⟩
      have HX4 := hide (HX3.out.below hb)
      have HU4 := hide (HU3.out.trans (Upto.of_below hb))
      have HZ4 := hide (HZ3.out.below hb)
      have hs4 := hb.size
      clear HT hb
      go_upto_region 7 with (fail)
      change Code.wp _ _ _ _ (w4.alloc (.cells (cellsT (⟨5, N.t, [], fl⟩)) 27))
      have hxt := Xt.new w4 (⟨5, N.t, [], fl⟩)
      have hal := (Below.refl w4.heap.size w4).alloc (Nat.le_refl _) (.cells (cellsT (⟨5, N.t, [], fl⟩)) 27)
      generalize hgen : w4.alloc (.cells (cellsT (⟨5, N.t, [], fl⟩)) 27) = w5 at hxt hal ⊢
      clear hgen
      have HX5 := hide (HX4.out.below hal)
      have HU5 := hide (HU4.out.trans (Upto.of_below hal))
      have HZ5 := hide (HZ4.out.below hal)
      have HT5 := hide hxt
      have hs5 := hal.size
      clear hal hxt
      obtain ⟨y0, y1, y2, y3⟩ := HT5.out.cells
      obtain ⟨z0, z1, z2, z3⟩ := HZ5.out.cells
      have g0 := HZ5.out.frozen 0
      have g1 := HZ5.out.frozen 1
      have g2 := HZ5.out.frozen 2
      have g3 := HZ5.out.frozen 3
      go_wp2_with fail
      change bodyPost _ _ _ _ ⟨_, _⟩ (putT w5 w.heap.size (⟨5, N.t, [], fl⟩))
      obtain ⟨q0, q1, q2, q3⟩ := putT_cells HZ5.out (⟨5, N.t, [], fl⟩)
      obtain ⟨e1, e2⟩ := putT_keep HU5.out HX5.out hlt (Nat.le_refl _) (⟨5, N.t, [], fl⟩)
      refine bodyPost_ret (v := TV (⟨5, N.t, [], fl⟩)) (by simp [results, Tryz.results39, go_sem, q0, q1, q2, q3]) rfl ?_
      exact ⟨t3, ⟨rfl, e1, e2⟩, fun h => by cases h⟩
    | false =>
      have hE : Cssp.escAt s 1 = true := by rw [hg, hgy, Bool.false_or] at hyes; exact hyes
      clear hyes hg hgy
      have HE := hide hE
      clear hE
      have HT0 := escapeAt s t b 1 false false w1 HX1.out (by omega)
      rw [HE.out] at HT0
      have HT := hide (HT0)
      go_wp2_with fail
      refine HT.out.mono ?_
      rintro e w' ⟨rfl, rfl⟩
      clear HT
      clear HT0
      clear c0 c1 c2 c3
      have HT0 := identAt s t b 1 false false w1 HX1.out (by omega) (by decide)
      rw [HFL.out] at HT0
      have HT := hide (HT0)
      go_wp2_with fail
      refine HT.out.mono ?_
      rintro e w' ⟨rfl, rfl⟩
      clear HT
      clear HT0
      have HT1 := take_ s t b 1 false false w1 HX1.out h1
      rw [HR.out] at HT1
      have HT := hide (HT1)
      go_wp2_with fail
      refine HT.out.mono ?_
      rintro e w2 ⟨rfl, hx, hu⟩
      have HX2 := hide hx
      have HU2 := hide (HU1.out.trans hu)
      have HZ2 := hide (HZ1.out.upto hu (by omega))
      have hs2 := hu.size
      clear HT hx hu
      clear HT1
      have HT1 := name_ r t b false false w2 HX2.out hrl
      rw [HN.out, hdd.out, Bool.false_or] at HT1
      have HT := hide (HT1)
      go_wp2_with fail
      refine HT.out.mono ?_
      rintro e w3 ⟨t3, rfl, hx, hu⟩
      have HX3 := hide hx
      have HU3 := hide (HU2.out.trans hu)
      have HZ3 := hide (HZ2.out.upto hu (by omega))
      have hs3 := hu.size
      clear HT hx hu
      clear HT1
      have HT := hide (token_ 5 N.t w3 (by decide))
      go_wp2_with fail
      refine HT.out.mono ?_
      rintro e w4 ⟨rfl, hb⟩
      have HX4 := hide (HX3.out.below hb)
      have HU4 := hide (HU3.out.trans (Upto.of_below hb))
      have HZ4 := hide (HZ3.out.below hb)
      have hs4 := hb.size
      clear HT hb
      go_upto_region 7 with (fail)
      change Code.wp _ _ _ _ (w4.alloc (.cells (cellsT (⟨5, N.t, [], fl⟩)) 27))
      have hxt := Xt.new w4 (⟨5, N.t, [], fl⟩)
      have hal := (Below.refl w4.heap.size w4).alloc (Nat.le_refl _) (.cells (cellsT (⟨5, N.t, [], fl⟩)) 27)
      generalize hgen : w4.alloc (.cells (cellsT (⟨5, N.t, [], fl⟩)) 27) = w5 at hxt hal ⊢
      clear hgen
      have HX5 := hide (HX4.out.below hal)
      have HU5 := hide (HU4.out.trans (Upto.of_below hal))
      have HZ5 := hide (HZ4.out.below hal)
      have HT5 := hide hxt
      have hs5 := hal.size
      clear hal hxt
      obtain ⟨y0, y1, y2, y3⟩ := HT5.out.cells
      obtain ⟨z0, z1, z2, z3⟩ := HZ5.out.cells
      have g0 := HZ5.out.frozen 0
      have g1 := HZ5.out.frozen 1
      have g2 := HZ5.out.frozen 2
      have g3 := HZ5.out.frozen 3
      go_wp2_with fail
      change bodyPost _ _ _ _ ⟨_, _⟩ (putT w5 w.heap.size (⟨5, N.t, [], fl⟩))
      obtain ⟨q0, q1, q2, q3⟩ := putT_cells HZ5.out (⟨5, N.t, [], fl⟩)
      obtain ⟨e1, e2⟩ := putT_keep HU5.out HX5.out hlt (Nat.le_refl _) (⟨5, N.t, [], fl⟩)
      refine bodyPost_ret (v := TV (⟨5, N.t, [], fl⟩)) (by simp [results, Tryz.results39, go_sem, q0, q1, q2, q3]) rfl ?_
      exact ⟨t3, ⟨rfl, e1, e2⟩, fun h => by cases h⟩
  · exfalso
    rw [isAt_none h2, esc_no h2] at hyes
    cases hyes
end Go.Proofs.YtojgcangnkjmjaaGreatDoor
