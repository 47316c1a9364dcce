/- text.Decode; newLexer. -/
import Derived.Test.YtojgcangnkjmjaaGreatDoorPd
import Derived.Test.YtojgcangnkjmjaaGreatDoorF
import Derived.Test.YtojgcangnkjmjaaGreatDoorJ
namespace Go.Proofs.YtojgcangnkjmjaaGreatDoor
open Go.RowKit Go.Shelf
attribute [local go_sem] Oper.semAt_some

theorem cells_stay {W W' : World} {row : Option Nat} (hg : W.grownBy W' row) (hr : ∀ r, row = some r → ∃ o : Obj, W.heap[r]? = some o ∧ o.isCells = false) {k : Nat} {cs : Array Value} {ty : TypeId} {f : Nat × Nat} (h : W.heap[k]? = some (.cells cs ty f)) : W'.heap[k]? = some (.cells cs ty f) :=
  (hg.block k (heap_lt h) (fun e => by
    obtain ⟨o, ho, hc⟩ := hr k e.symm
    rw [h] at ho
    injection ho with ho
    rw [← ho] at hc
    cases hc)).trans h
theorem bld_own {β : Type} (K B b : Nat) (f : β → List UInt8) : OwnFrom K (fun (s : β) W => Bld B b (f s) W) := fun s W W' row hs hg hr => by
  have hr' := fun r e => (hr r e).2
  rcases hs with ⟨hB, v, hb, hown, hne⟩ | ⟨hB, v, hb, hown, hne⟩
  · refine .inl ⟨hB, v, cells_stay hg hr' hb, owns_of_block hown fun g e => ?_, hne⟩
    obtain ⟨c, hc⟩ := ownsRow_kind hown g e
    rw [cells_stay hg hr' hc, hc]
  · refine .inr ⟨hB, v, cells_stay hg hr' hb, owns_of_block hown fun g e => ?_, hne⟩
    obtain ⟨c, hc⟩ := ownsRow_kind hown g e
    rw [cells_stay hg hr' hc, hc]
theorem keep_put {B : Nat} {w : World} (hB : B ≤ w.heap.size) (W : World) (l : Nat) (o o' : Obj) (hl : w.heap.size ≤ l) (h : W.heap[l]? = some o) (hc : o.isCells = false) (hw : o.isWalk = false) : Keep B W (W.putObj l o') :=
  ⟨belowK_b hB W l o o' hl h hc hw, fun k cs ty f hk _ _ => by
    rw [World.putObj_heap_other (fun e => by
      subst e
      rw [hk] at h
      injection h with h
      rw [← h] at hc
      cases hc)]
    exact hk⟩
theorem txR_snoc (l : List (Nat × Nat)) (x : Nat × Nat) : Cssp.txR (l ++ [x]) = Cssp.txR l ++ Lib.encodeRune (Cssp.capR x.2 : Int) := by simp [Cssp.txR]
theorem txR_len (l : List (Nat × Nat)) : (Cssp.txR l).length ≤ 4 * l.length := by
  induction l with
  | nil => exact Nat.le_refl _
  | cons a r ih =>
    have e : Cssp.txR (a :: r) = Lib.encodeRune (Cssp.capR a.2 : Int) ++ Cssp.txR r := by simp [Cssp.txR]
    have h4 := Lib.runeCells_le (Cssp.capR a.2 : Int)
    rw [Lib.runeCells_length] at h4
    rw [e, List.length_append, List.length_cons]
    omega
set_option maxRecDepth 100000 in
set_option maxHeartbeats 4000000 in
theorem tDecode (s : List UInt8) (w : World) (ht : Tab w) (hl : s.length ≤ 1073741824) : Calls Tryz.prog 37 #[S s] w (Fresh (S (Cssp.decode s)) w) := by
  have hB := bld_new w
  have hb1 : Below w.heap.size w (w.alloc (.cells #[.pointer none, .slice none 0 0] 99)) := (Below.refl _ w).alloc (Nat.le_refl _) _
  have hlt := ht.lt
  refine (callsIn_wide (n := 5)).1 ?_
  refine callsIn_of_wp_marks Tryz.func37 rfl trivial ?_ rfl
  refine wpIn_wide.2 ?_
  simp only [Tryz.ntmps37, List.size_toArray, List.length_cons, List.length_nil, Nat.reduceAdd, Nat.reduceSub, Array.replicate_succ, Array.replicate_zero, List.push_toArray, List.append_toArray, List.nil_append, List.cons_append]
  go_upto_region 2 with (fail)
  generalize hgen : w.alloc (.cells #[.pointer none, .slice none 0 0] 99) = w1 at hB hb1 ⊢
  clear hgen
  have hcall := hide (tPoints s w1)
  have HB := hide hB
  have HB1 := hide hb1
  have hsz1 := hb1.size
  clear hB hb1
  go_wp2_with fail
  refine hcall.out.mono ?_
  rintro e w2 ⟨rfl, hw2⟩
  have hbc : Below w1.heap.size w1 w2 := by rw [← hw2]; exact (Below.refl _ w1).alloc (Nat.le_refl _) _
  have hbx : w2.heap[w1.heap.size]? = some (.cells #[S s] 9 (0, 0)) := by rw [← hw2]; exact heap_alloc_last _ _
  have hb2 : Below w.heap.size w w2 := HB1.out.trans (hbc.mono hsz1)
  have hbl : Bld w.heap.size w.heap.size [] w2 := bld_below HB.out hbc
  have ht2 : Tab w2 := ht.below (by omega) hb2
  have hsz2 := hb2.size
  clear hcall hw2 hbc HB
  go_wp2_with fail
  refine (wpIn_wide (n := 5)).1 ?_
  refine wpIn_rangeFunc_ownH rfl (by omega) (gf := 92) (lb := #[.pointer (some ⟨w1.heap.size, 0, none⟩)]) rfl trivial (enters_of Tryz.func92 (by kernel_rfl) rfl)
    (points_stops (5 - 1) (by omega) w1.heap.size w.heap.size s w2 (by omega) hsz2 (by omega) hbx ht2) (fun h k => h.trans k) (keep_put hsz2) (Below.refl _ _) (fun _ => rfl)
    (fun pre W => Bld w.heap.size w.heap.size (Cssp.txR pre) W ∧ Below w.heap.size w W) (fun _ _ _ => False)
    (OwnFrom.and (bld_own _ _ _ _) (ownFrom_below (Nat.le_refl _) hsz2)) (fun _ _ _ _ _ hs _ _ => hs) ⟨hbl, hb2⟩
    (fun x a' _ => a' = { tmps := #[S s, undef, .string { data := #[] }, .pointer (some ⟨w.heap.size, 0, none⟩), undef, .int .i32 (Cssp.capR x.2 : Int), S s, .func (.func 92) #[] #[.pointer (some ⟨w1.heap.size, 0, none⟩)], .int .i64 (x.1 : Int), .int .i32 (Cssp.capR x.2 : Int), undef, undef, undef], defers := [] })
    (fun x a' s W W' row hs hg hr => hs) ?assign ?body ?done ?stop
  case assign =>
    rintro l pre x W K hI hK
    unfold encR
    gi_wp2
    exact hK _ _ (KeepsFrom.refl _ _) (Keep.refl _ W) hI rfl
  case body =>
    rintro l pre x a' W hl' ⟨r, hlr⟩ ⟨hI1, hI2⟩ rfl hpl
    have hsn := txR_snoc pre x
    have hlen := txR_len pre
    obtain ⟨xa, xr⟩ := x
    simp only at hsn
    have hxr := Cssp.capR_le xr
    gi_wp2
    refine ⟨trivial, CallsIn.inRound l (callsIn_wide.2 ?_)⟩
    refine (writeRuneO w.heap.size w.heap.size (Cssp.txR pre) (Cssp.capR xr) W hI1 hI2.size (by omega) (by omega) (by omega)).mono ?_
    rintro e w5 ⟨⟨u, rfl⟩, hb5, hk5, ho5⟩
    gi_wp2
    exact ⟨ho5.from _, hk5, by rw [hsn]; exact .inr hb5, hI2.trans hk5.below⟩
  case done =>
    rintro D ys W hD hys ⟨hI1, hI2⟩ hK
    have htx : Cssp.txR ys = Cssp.decode s := by rw [hys, Cssp.txR_pts _ _ _ (Nat.le_refl _)]
    rw [htx] at hI1
    go_wp2_with fail
    refine (stringO w.heap.size w.heap.size (Cssp.decode s) _ hI1 hI2.size).mono ?_
    rintro e w3 ⟨rfl, hb3, ho3⟩
    go_wp2_with fail
    have hK3 : w3.heap[D]? = some (.deferred (some [])) := ho3.same D _ hK rfl
    refine ⟨by simp, .inl ⟨_, _, rfl, run_takeDeferred hK3, ?_⟩⟩
    refine ⟨_, results_tmp rfl _ _ _, rfl, ?_⟩
    exact (hI2.trans hb3).trans (belowK_b (w := w2) hsz2 _ _ _ _ hD hK3 rfl rfl)
  case stop =>
    rintro D c pre W _ _ h _
    exact h.elim

set_option maxRecDepth 100000 in
set_option maxHeartbeats 4000000 in
theorem newLexer_ (s : List UInt8) (w : World) (ht : Tab w) (hl : s.length ≤ 116000) : Calls Tryz.prog 22 #[S s] w fun e w' => ∃ b, e = .returned (.pointer (some ⟨b, 0, none⟩)) ∧ w.heap.size ≤ b ∧ Lx w' b (Cssp.clean (Cssp.decode s)) false false [] ∧ Below w.heap.size w w' := by
  have hd := Cssp.decode_len _ s (Nat.le_refl _)
  have hc := cleanC_len false (Cssp.decode s)
  obtain ⟨D, hD⟩ : ∃ D, Cssp.decode s = D := ⟨_, rfl⟩
  have hDec := fun W (hT : Tab W) => tDecode s W hT (by omega)
  rw [hD] at hd hc hDec ⊢
  obtain ⟨C, hC⟩ : ∃ C, Cssp.clean D = C := ⟨_, rfl⟩
  have hcl : C.length ≤ 3 * D.length := by rw [← hC]; exact hc
  rw [hC]
  have HC : Hid (esc pC D = C) := by unfold Hid; rw [escC, hC]
  clear hD hC hc
  have hlt := ht.lt
  have hb1 : Below w.heap.size w (w.alloc (.cells ((pC.flatMap fun x => [x.1, x.2]).map S).toArray 9)) := (Below.refl _ w).alloc (Nat.le_refl _) _
  have hcells : ∀ (j : Nat) t, (pC.flatMap fun x => [x.1, x.2])[j]? = some t → (w.alloc (.cells ((pC.flatMap fun x => [x.1, x.2]).map S).toArray 9)).cell? ⟨w.heap.size, j, none⟩ = some (S t) := fun j t h => by
    rw [Lib.cell_of_heap (heap_alloc_last _ _)]
    simp [List.getElem?_map, h]
  have hN := newReplacer (pC.flatMap fun x => [x.1, x.2]) 4 w.heap.size 8 (w.alloc (.cells ((pC.flatMap fun x => [x.1, x.2]).map S).toArray 9)) (hide hcells) rfl (by decide) (by decide)
  have HN := hide hN
  have HB1 := hide hb1
  have HD := fun W hT => hide (hDec W hT)
  clear hN hb1 hcells hDec
  go_enter Tryz.func22, Tryz.ntmps22
  go_wp2_with fail
  refine Calls.mono HN.out ?_
  rintro e w2 ⟨⟨Q, b2, cap2, rfl, hQ, hbQ, hRep, hcl2⟩, hb2⟩
  have hQ' : w.heap.size ≤ Q := Nat.le_trans (by simp) hQ
  have hbw2 := HB1.out.trans (hb2.mono (by simp))
  have HRep := hide hRep
  have HCL := hide hcl2
  have HBW2 := hide hbw2
  clear HN HB1 hQ hRep hcl2 hb2 hbw2
  have hDw := (HD w2 (ht.below (by omega) HBW2.out)).out
  have hDW := hide hDw
  clear hDw HD
  go_wp2_with fail
  refine hDW.out.mono ?_
  rintro e w3 ⟨rfl, hb3⟩
  have hRep3 : RepAt w3 Q 0 0 0 .nilIface (.slice (some ⟨b2, 0, none⟩) (2 * 4) cap2) := (hb3.block Q (heap_lt HRep.out)).trans HRep.out
  have hP3 : PairsAt w3 b2 pC := pairs_of pC w3 b2 fun j t h => cell_below (HCL.out j t h) hb3
  have hU := useOnce pC 0 okC Q b2 cap2 w.heap.size D C w3 hRep3 hP3 hbQ hQ' (by omega) (by omega) HC
  have HBW3 := hide (HBW2.out.trans (hb3.mono HBW2.out.size))
  have HUu := hide hU
  clear hU hP3 hRep3 hb3 hDW HRep HCL HBW2
  go_wp2_with fail
  refine HUu.out.mono ?_
  rintro e w4 ⟨rfl, hb4⟩
  have HBW4 := hide (HBW3.out.trans hb4)
  have hlx : Lx (w4.alloc (.cells #[S C, .bool false, .bool false, S []] 50)) w4.heap.size C false false [] := by
    show (w4.heap.push _)[w4.heap.size]? = _
    simp
  have hal := HBW4.out.alloc HBW4.out.size (.cells #[S C, .bool false, .bool false, S []] 50)
  have HLX := hide hlx
  have HAL := hide hal
  clear hlx hal hb4 HUu HBW3
  go_wp2_with fail
  go_ret
  exact ⟨w4.heap.size, rfl, HBW4.out.size, HLX.out, HAL.out⟩
end Go.Proofs.YtojgcangnkjmjaaGreatDoor
