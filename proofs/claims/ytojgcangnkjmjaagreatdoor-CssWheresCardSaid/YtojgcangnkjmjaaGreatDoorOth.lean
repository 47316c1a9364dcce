/- other. (Printed by genCssG2.py.) -/
import Derived.Test.YtojgcangnkjmjaaGreatDoorR
import Derived.Test.YtojgcangnkjmjaaGreatDoorSte
namespace Go.Proofs.YtojgcangnkjmjaaGreatDoor
open Go.RowKit

/-- the token that stands at the beginning, where no byte tells it by itself -/
def Cssp.other (s : List UInt8) : Cssp.Th :=
  if Cssp.numberAt s 0 = true then Cssp.numeric s
  else if Cssp.wClose.isPrefixOf s = true then ⟨Cssp.tk 15 [], 3, false, false, 0⟩
  else if Cssp.wOpen.isPrefixOf s = true then ⟨Cssp.tk 14 [], 4, false, false, 0⟩
  else if Cssp.identAt s 0 = true then Cssp.word s
  else Cssp.delimT s
theorem hasP (l p : List UInt8) (w : World) : Calls Tryz.prog 80 #[S l, S p] w (Ret (.bool (p.isPrefixOf l)) w) :=
  (Tryz.strings_HasPrefix ⟨l.toArray⟩ ⟨p.toArray⟩ w).mono fun _ _ h => ⟨h.1, h.2.symm⟩
set_option maxRecDepth 100000 in
set_option maxHeartbeats 2000000 in
theorem other_ (s t : List UInt8) (b : Nat) (w : World) (h : Lx w b s false false t) (h1 : 1 ≤ s.length) (hl : s.length ≤ 1048576) :
    Calls Tryz.prog 45 #[.pointer (some ⟨b, 0, none⟩)] w (TokP (Cssp.other s) s w b) := by
  have hop : Cssp.other s = if Cssp.numberAt s 0 = true then Cssp.numeric s else if Cssp.wClose.isPrefixOf s = true then ⟨Cssp.tk 15 [], 3, false, false, 0⟩ else if Cssp.wOpen.isPrefixOf s = true then ⟨Cssp.tk 14 [], 4, false, false, 0⟩ else if Cssp.identAt s 0 = true then Cssp.word s else Cssp.delimT s := rfl
  have HOP := hide hop
  clear hop
  have hz := Zt.new w
  have hal := (Below.refl w.heap.size w).alloc (Nat.le_refl _) (.cells #[.int .u8 0, S [], S [], .bool false] 27)
  have hx := h.below hal
  have hlt := h.lt
  go_enter Tryz.func45, Tryz.ntmps45
  go_upto_region 1 with (fail)
  change Code.wp _ _ _ _ (w.alloc (.cells #[.int .u8 0, S [], S [], .bool false] 27))
  obtain ⟨w1, hw1⟩ : ∃ x, x = w.alloc (.cells #[.int .u8 0, S [], S [], .bool false] 27) := ⟨_, rfl⟩
  rw [← hw1] at hz hal hx ⊢
  clear hw1 h
  have HX1 := hide hx
  have HZ1 := hide hz
  have HU1 := hide (p := Upto b w w1) (Upto.of_below hal)
  clear hz hal hx
  have HT := hide (numberAt s t b false false w1 HX1.out)
  go_wp2_with fail
  refine HT.out.mono ?_
  rintro e w' ⟨rfl, rfl⟩
  clear HT
  cases hn : Cssp.numberAt s 0 with
  | true =>
    have hop : Cssp.other s = Cssp.numeric s := by rw [HOP.out, if_pos hn]
    have HOPE := hide hop
    clear HOP hop hn
    have HT := hide (numeric_ s t b w1 HX1.out h1 hl)
    obtain ⟨X, hX⟩ : ∃ X, Cssp.numeric s = X := ⟨_, rfl⟩
    rw [hX] at HT
    obtain ⟨xx, uk, uo, ui, ue⟩ := X
    have HXX := hide hX
    clear hX
    go_wp2_with fail
    refine HT.out.mono ?_
    rintro e w2 ⟨tz, ⟨rfl, hx, hu⟩, htl⟩
    have HX2 := hide hx
    have HU2 := hide (HU1.out.trans hu)
    have HZ2 := hide (HZ1.out.upto hu (by omega))
    have HTL := hide htl
    clear HT hx hu htl
    obtain ⟨z0, z1, z2, z3⟩ := HZ2.out.cells
    have g0 := HZ2.out.frozen 0
    have g1 := HZ2.out.frozen 1
    have g2 := HZ2.out.frozen 2
    have g3 := HZ2.out.frozen 3
    go_wp2_with fail
    change bodyPost _ _ _ _ ⟨_, _⟩ (putT w2 w.heap.size xx)
    obtain ⟨q0, q1, q2, q3⟩ := putT_cells HZ2.out xx
    obtain ⟨e1, e2⟩ := putT_keep HU2.out HX2.out hlt (Nat.le_refl _) xx
    refine bodyPost_ret (v := TV xx) (by simp [results, Tryz.results45, go_sem, q0, q1, q2, q3]) rfl ?_
    rw [HOPE.out, HXX.out]
    exact ⟨tz, ⟨rfl, e1, e2⟩, HTL.out⟩
  | false =>
    have hop := HOP.out
    rw [if_neg (by rw [hn]; decide)] at hop
    have HOP := hide hop
    clear hop hn
    obtain ⟨c0, c1, c2, c3⟩ := HX1.out.cells
    have HT := hide (hasP s [45, 45, 62] w1)
    go_wp2_with fail
    refine HT.out.mono ?_
    rintro e w' ⟨rfl, rfl⟩
    clear HT
    cases hp : ([45, 45, 62] : List UInt8).isPrefixOf s with
    | true =>
      have hop : Cssp.other s = ⟨Cssp.tk 15 [], 3, false, false, 0⟩ := by rw [HOP.out, if_pos (show Cssp.wClose.isPrefixOf s = true from hp)]
      have HOPE := hide hop
      clear HOP hop c0 c1 c2 c3
      have hk := List.IsPrefix.length_le (List.isPrefixOf_iff_prefix.1 hp)
      have HT := hide (take_ s t b 3 false false w1 HX1.out hk)
      clear hk hp
      go_wp2_with fail
      refine HT.out.mono ?_
      rintro e w2 ⟨rfl, hx, hu⟩
      have HX2 := hide hx
      have HU2 := hide (HU1.out.trans hu)
      have HZ2 := hide (HZ1.out.upto hu (by omega))
      have hs2 := hu.size
      clear HT hx hu
      have HT := hide (token_ 15 [] w2 (by decide))
      go_wp2_with fail
      refine HT.out.mono ?_
      rintro e w3 ⟨rfl, hb⟩
      have HX3 := hide (HX2.out.below hb)
      have HU3 := hide (HU2.out.trans (Upto.of_below hb))
      have HZ3 := hide (HZ2.out.below hb)
      clear HT hb
      obtain ⟨z0, z1, z2, z3⟩ := HZ3.out.cells
      have g0 := HZ3.out.frozen 0
      have g1 := HZ3.out.frozen 1
      have g2 := HZ3.out.frozen 2
      have g3 := HZ3.out.frozen 3
      go_wp2_with fail
      change bodyPost _ _ _ _ ⟨_, _⟩ (putT w3 w.heap.size (Cssp.tk 15 []))
      obtain ⟨q0, q1, q2, q3⟩ := putT_cells HZ3.out (Cssp.tk 15 [])
      obtain ⟨e1, e2⟩ := putT_keep HU3.out HX3.out hlt (Nat.le_refl _) (Cssp.tk 15 [])
      refine bodyPost_ret (v := TV (Cssp.tk 15 [])) (by simp [results, Tryz.results45, go_sem, q0, q1, q2, q3]) rfl ?_
      rw [HOPE.out]
      exact ⟨t, ⟨rfl, e1, e2⟩, fun h => by cases h⟩
    | false =>
      have hop := HOP.out
      rw [if_neg (show ¬ Cssp.wClose.isPrefixOf s = true by rw [show Cssp.wClose.isPrefixOf s = false from hp]; decide)] at hop
      have HOP := hide hop
      clear hop hp
      have HT := hide (hasP s [60, 33, 45, 45] w1)
      go_wp2_with fail
      refine HT.out.mono ?_
      rintro e w' ⟨rfl, rfl⟩
      clear HT
      cases hp : ([60, 33, 45, 45] : List UInt8).isPrefixOf s with
      | true =>
        have hop : Cssp.other s = ⟨Cssp.tk 14 [], 4, false, false, 0⟩ := by rw [HOP.out, if_pos (show Cssp.wOpen.isPrefixOf s = true from hp)]
        have HOPE := hide hop
        clear HOP hop c0 c1 c2 c3
        have hk := List.IsPrefix.length_le (List.isPrefixOf_iff_prefix.1 hp)
        have HT := hide (take_ s t b 4 false false w1 HX1.out hk)
        clear hk hp
        go_wp2_with fail
        refine HT.out.mono ?_
        rintro e w2 ⟨rfl, hx, hu⟩
        have HX2 := hide hx
        have HU2 := hide (HU1.out.trans hu)
        have HZ2 := hide (HZ1.out.upto hu (by omega))
        have hs2 := hu.size
        clear HT hx hu
        have HT := hide (token_ 14 [] w2 (by decide))
        go_wp2_with fail
        refine HT.out.mono ?_
        rintro e w3 ⟨rfl, hb⟩
        have HX3 := hide (HX2.out.below hb)
        have HU3 := hide (HU2.out.trans (Upto.of_below hb))
        have HZ3 := hide (HZ2.out.below hb)
        clear HT hb
        obtain ⟨z0, z1, z2, z3⟩ := HZ3.out.cells
        have g0 := HZ3.out.frozen 0
        have g1 := HZ3.out.frozen 1
        have g2 := HZ3.out.frozen 2
        have g3 := HZ3.out.frozen 3
        go_wp2_with fail
        change bodyPost _ _ _ _ ⟨_, _⟩ (putT w3 w.heap.size (Cssp.tk 14 []))
        obtain ⟨q0, q1, q2, q3⟩ := putT_cells HZ3.out (Cssp.tk 14 [])
        obtain ⟨e1, e2⟩ := putT_keep HU3.out HX3.out hlt (Nat.le_refl _) (Cssp.tk 14 [])
        refine bodyPost_ret (v := TV (Cssp.tk 14 [])) (by simp [results, Tryz.results45, go_sem, q0, q1, q2, q3]) rfl ?_
        rw [HOPE.out]
        exact ⟨t, ⟨rfl, e1, e2⟩, fun h => by cases h⟩
      | false =>
        have hop := HOP.out
        rw [if_neg (show ¬ Cssp.wOpen.isPrefixOf s = true by rw [show Cssp.wOpen.isPrefixOf s = false from hp]; decide)] at hop
        have HOP := hide hop
        clear hop hp c0 c1 c2 c3
        have HT := hide (identAt s t b 0 false false w1 HX1.out (by omega) (by omega))
        go_wp2_with fail
        refine HT.out.mono ?_
        rintro e w' ⟨rfl, rfl⟩
        clear HT
        cases hi : Cssp.identAt s 0 with
        | true =>
          have hop : Cssp.other s = Cssp.word s := by rw [HOP.out, if_pos hi]
          have HOPE := hide hop
          clear HOP hop hi
          have HT := hide (word_ s t b w1 HX1.out hl)
          obtain ⟨X, hX⟩ : ∃ X, Cssp.word s = X := ⟨_, rfl⟩
          rw [hX] at HT
          obtain ⟨xx, uk, uo, ui, ue⟩ := X
          have HXX := hide hX
          clear hX
          go_wp2_with fail
          refine HT.out.mono ?_
          rintro e w2 ⟨tz, ⟨rfl, hx, hu⟩, htl⟩
          have HX2 := hide hx
          have HU2 := hide (HU1.out.trans hu)
          have HZ2 := hide (HZ1.out.upto hu (by omega))
          have HTL := hide htl
          clear HT hx hu htl
          obtain ⟨z0, z1, z2, z3⟩ := HZ2.out.cells
          have g0 := HZ2.out.frozen 0
          have g1 := HZ2.out.frozen 1
          have g2 := HZ2.out.frozen 2
          have g3 := HZ2.out.frozen 3
          go_wp2_with fail
          change bodyPost _ _ _ _ ⟨_, _⟩ (putT w2 w.heap.size xx)
          obtain ⟨q0, q1, q2, q3⟩ := putT_cells HZ2.out xx
          obtain ⟨e1, e2⟩ := putT_keep HU2.out HX2.out hlt (Nat.le_refl _) xx
          refine bodyPost_ret (v := TV xx) (by simp [results, Tryz.results45, go_sem, q0, q1, q2, q3]) rfl ?_
          rw [HOPE.out, HXX.out]
          exact ⟨tz, ⟨rfl, e1, e2⟩, HTL.out⟩
        | false =>
          have hop : Cssp.other s = Cssp.delimT s := by rw [HOP.out, if_neg (by rw [hi]; decide)]
          have HOPE := hide hop
          clear HOP hop hi
          have HT := hide ((show Calls Tryz.prog 72 #[.pointer (some ⟨b, 0, none⟩)] w1 (TokP (Cssp.delimT s) s w1 b) from delim_ s t b w1 HX1.out h1))
          obtain ⟨X, hX⟩ : ∃ X, Cssp.delimT s = X := ⟨_, rfl⟩
          rw [hX] at HT
          obtain ⟨xx, uk, uo, ui, ue⟩ := X
          have HXX := hide hX
          clear hX
          go_wp2_with fail
          refine HT.out.mono ?_
          rintro e w2 ⟨tz, ⟨rfl, hx, hu⟩, htl⟩
          have HX2 := hide hx
          have HU2 := hide (HU1.out.trans hu)
          have HZ2 := hide (HZ1.out.upto hu (by omega))
          have HTL := hide htl
          clear HT hx hu htl
          obtain ⟨z0, z1, z2, z3⟩ := HZ2.out.cells
          have g0 := HZ2.out.frozen 0
          have g1 := HZ2.out.frozen 1
          have g2 := HZ2.out.frozen 2
          have g3 := HZ2.out.frozen 3
          go_wp2_with fail
          change bodyPost _ _ _ _ ⟨_, _⟩ (putT w2 w.heap.size xx)
          obtain ⟨q0, q1, q2, q3⟩ := putT_cells HZ2.out xx
          obtain ⟨e1, e2⟩ := putT_keep HU2.out HX2.out hlt (Nat.le_refl _) xx
          refine bodyPost_ret (v := TV xx) (by simp [results, Tryz.results45, go_sem, q0, q1, q2, q3]) rfl ?_
          rw [HOPE.out, HXX.out]
          exact ⟨tz, ⟨rfl, e1, e2⟩, HTL.out⟩
end Go.Proofs.YtojgcangnkjmjaaGreatDoor
