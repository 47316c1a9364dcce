/- ends: where a text ends behind a token. (Printed by genCssO.py.) -/
import Derived.Test.YtojgcangnkjmjaaGreatDoorN
namespace Go.Proofs.YtojgcangnkjmjaaGreatDoor
open Go.RowKit

abbrev WV (x : Cssp.Wh) : Value := .agg #[.int .u8 x.state, .int .u8 x.quote.toNat]
theorem names_all : ∀ n : Fin 256, decide (0 ≤ Lib.indexByte Cssp.names (UInt8.ofNat n.val)) = Cssp.names.contains (UInt8.ofNat n.val) := by decide +kernel
theorem names_at (c : UInt8) : decide (0 ≤ Lib.indexByte Cssp.names c) = Cssp.names.contains c := by
  have := names_all ⟨c.toNat, c.toNat_lt⟩
  simpa using this
theorem indexN (c : UInt8) (w : World) : Calls Tryz.prog 46 #[S [35, 64, 43, 45, 46, 60, 47, 92, 33], .int .u8 c.toNat] w (Ret (.int .i64 (Lib.indexByte Cssp.names c)) w) :=
  (Tryz.strings_IndexByte ⟨Cssp.names.toArray⟩ (c.toNat : Int) w).mono fun _ _ h => ⟨by rw [h.1]; simp, h.2.symm⟩
/-- a Where's box -/
def Wx (w : World) (B : Nat) (a q : Int) : Prop := w.heap[B]? = some (.cells #[.int .u8 a, .int .u8 q] 36 (0, 0))
theorem Wx.new (w : World) (a q : Int) : Wx (w.alloc (.cells #[.int .u8 a, .int .u8 q] 36)) w.heap.size a q := by
  show (w.heap.push _)[w.heap.size]? = _
  simp
theorem Wx.cells {w : World} {B : Nat} {a q : Int} (h : Wx w B a q) : w.cell? ⟨B, 0, none⟩ = some (.int .u8 a) ∧ w.cell? ⟨B, 1, none⟩ = some (.int .u8 q) := by
  have h' : w.heap[B]? = _ := h
  refine ⟨?_, ?_⟩ <;> simp [World.cell?, h']
theorem Wx.frozen {w : World} {B : Nat} {a q : Int} (h : Wx w B a q) (k : Nat) : w.frozen? ⟨B, k, none⟩ = false := by
  have h' : w.heap[B]? = _ := h
  simp [World.frozen?, h']
theorem Wx.below {w w' : World} {B : Nat} {a q : Int} (h : Wx w B a q) (hb : Below w.heap.size w w') : Wx w' B a q := (hb.block B (heap_lt h)).trans h
def putW (w : World) (B : Nat) (a q : Int) : World := (w.setCell ⟨B, 0, none⟩ (.int .u8 a)).setCell ⟨B, 1, none⟩ (.int .u8 q)
theorem putW_cells {w : World} {B : Nat} {a q a' q' : Int} (h : Wx w B a q) : (putW w B a' q').cell? ⟨B, 0, none⟩ = some (.int .u8 a') ∧ (putW w B a' q').cell? ⟨B, 1, none⟩ = some (.int .u8 q') := by
  have h' : w.heap[B]? = _ := h
  refine ⟨?_, ?_⟩ <;> simp [putW, World.cell?, World.setCell, Array.getElem?_modify, h']
theorem putW_below {w0 w : World} {B : Nat} {a q : Int} (h : Below w0.heap.size w0 w) (hB : w0.heap.size ≤ B) : Below w0.heap.size w0 (putW w B a q) :=
  (h.setCell (p := ⟨B, 0, none⟩) hB _).setCell (p := ⟨B, 1, none⟩) hB _
set_option maxRecDepth 100000 in
set_option maxHeartbeats 4000000 in
theorem ends_ (x : Cssp.Tk) (kk ee : Nat) (first : UInt8) (s t : List UInt8) (b : Nat) (i o : Bool) (w : World) (h : Lx w b s i o t) (hk : x.kind < 256) :
    Calls Tryz.prog 27 #[.pointer (some ⟨b, 0, none⟩), TV x, .int .u8 first.toNat] w (Fresh (WV (Cssp.ends ⟨x, kk, o, i, ee⟩ first)) w) := by
  obtain ⟨W, hW⟩ : ∃ W, Cssp.ends ⟨x, kk, o, i, ee⟩ first = W := ⟨_, rfl⟩
  rw [hW]
  have HW := hide hW
  have hfb := u8_lt first
  clear hW
  have hx := Xt.new w x
  have hal := (Below.refl w.heap.size w).alloc (Nat.le_refl _) (.cells (cellsT x) 27)
  obtain ⟨x0, x1, x2, x3⟩ := x
  go_enter Tryz.func27, Tryz.ntmps27
  go_upto_region 1 with (fail)
  change Code.wp _ _ _ _ ((w.alloc (.cells (cellsT ⟨x0, x1, x2, x3⟩) 27)).alloc (.cells #[.int .u8 0, .int .u8 0] 36))
  have hal2 := hal.trans (((Below.refl _ (w.alloc (.cells (cellsT ⟨x0, x1, x2, x3⟩) 27))).alloc (Nat.le_refl _) (.cells #[.int .u8 0, .int .u8 0] 36)).mono hal.size)
  have hx2 := hx.below ((Below.refl _ _).alloc (Nat.le_refl _) (.cells #[.int .u8 0, .int .u8 0] 36))
  have hw2 := Wx.new (w.alloc (.cells (cellsT ⟨x0, x1, x2, x3⟩) 27)) 0 0
  rw [World.size_alloc] at hw2
  have hsz : ((w.alloc (.cells (cellsT ⟨x0, x1, x2, x3⟩) 27)).alloc (.cells #[.int .u8 0, .int .u8 0] 36)).heap.size = w.heap.size + 2 := by simp
  generalize (w.alloc (.cells (cellsT ⟨x0, x1, x2, x3⟩) 27)).alloc (.cells #[.int .u8 0, .int .u8 0] 36) = w2 at hal2 hx2 hw2 hsz ⊢
  have hl2 := h.below hal2
  go_upto_region 2 with (fail)
  change Code.wp _ _ _ _ (w2.alloc (.cells #[.int .u8 1, .int .u8 0] 36))
  have hal3 := (Below.refl _ w2).alloc (Nat.le_refl _) (.cells #[.int .u8 1, .int .u8 0] 36)
  have hv3 := Wx.new w2 1 0
  generalize w2.alloc (.cells #[.int .u8 1, .int .u8 0] 36) = w3 at hal3 hv3 ⊢
  have HB3 := hide (hal2.trans (hal3.mono hal2.size))
  have HX3 := hide (hx2.below hal3)
  have HR3 := hide (hw2.below hal3)
  have HL3 := hide (hl2.below hal3)
  have HV3 := hide hv3
  rw [hsz] at HV3
  obtain ⟨y0, y1, y2, y3⟩ := HX3.out.cells
  obtain ⟨c0, c1, c2, c3⟩ := HL3.out.cells
  have g0 := HV3.out.frozen 0
  have g1 := HV3.out.frozen 1
  obtain ⟨v0, v1⟩ := HV3.out.cells
  clear h hal hx hal2 hx2 hw2 hl2 hal3 hv3 hk hsz
  cases i with
  | true =>
    by_cases h6 : x0 = 6
    · have k6 : ((x0 : Int) == 6) = true := by rw [beq_iff_eq]; omega
      have H6 := hide h6
      clear h6
      cases o with
      | true =>
        go_upto_region 18 with (fail)
        change Code.wp _ _ _ _ (((w3.setCell ⟨w.heap.size + 2, 0, none⟩ (.int .u8 3)).setCell ⟨w.heap.size + 2, 1, none⟩ (.int .u8 (first.toNat : Int))).setCell ⟨w.heap.size + 2, 0, none⟩ (.int .u8 6))
        have hv4 : Wx (((w3.setCell ⟨w.heap.size + 2, 0, none⟩ (.int .u8 3)).setCell ⟨w.heap.size + 2, 1, none⟩ (.int .u8 (first.toNat : Int))).setCell ⟨w.heap.size + 2, 0, none⟩ (.int .u8 6)) (w.heap.size + 2) (6) ((first.toNat : Int)) := by
          have h' : w3.heap[w.heap.size + 2]? = _ := HV3.out
          simp [Wx, World.setCell, Array.getElem?_modify, h']
        have hr4 : Wx (((w3.setCell ⟨w.heap.size + 2, 0, none⟩ (.int .u8 3)).setCell ⟨w.heap.size + 2, 1, none⟩ (.int .u8 (first.toNat : Int))).setCell ⟨w.heap.size + 2, 0, none⟩ (.int .u8 6)) (w.heap.size + 1) 0 0 := by
          have h' : w3.heap[w.heap.size + 1]? = _ := HR3.out
          simp [Wx, World.setCell, Array.getElem?_modify, h']
        have hb4 : Below w.heap.size w (((w3.setCell ⟨w.heap.size + 2, 0, none⟩ (.int .u8 3)).setCell ⟨w.heap.size + 2, 1, none⟩ (.int .u8 (first.toNat : Int))).setCell ⟨w.heap.size + 2, 0, none⟩ (.int .u8 6)) := (((HB3.out.setCell (p := ⟨w.heap.size + 2, 0, none⟩) (by show w.heap.size ≤ w.heap.size + 2; omega) _).setCell (p := ⟨w.heap.size + 2, 1, none⟩) (by show w.heap.size ≤ w.heap.size + 2; omega) _).setCell (p := ⟨w.heap.size + 2, 0, none⟩) (by show w.heap.size ≤ w.heap.size + 2; omega) _)
        generalize (((w3.setCell ⟨w.heap.size + 2, 0, none⟩ (.int .u8 3)).setCell ⟨w.heap.size + 2, 1, none⟩ (.int .u8 (first.toNat : Int))).setCell ⟨w.heap.size + 2, 0, none⟩ (.int .u8 6)) = w4 at hv4 hr4 hb4 ⊢
        clear y0 y1 y2 y3 c0 c1 c2 c3 g0 g1 v0 v1
        obtain ⟨v0, v1⟩ := hv4.cells
        obtain ⟨r0, r1⟩ := hr4.cells
        have g0 := hr4.frozen 0
        have g1 := hr4.frozen 1
        have HR4 := hide hr4
        have HB4 := hide hb4
        clear hr4 hb4 hv4
        go_wp2_with fail
        change bodyPost _ _ _ _ ⟨_, _⟩ (putW w4 (w.heap.size + 1) (6) ((first.toNat : Int)))
        obtain ⟨q0, q1⟩ := putW_cells (a' := 6) (q' := (first.toNat : Int)) HR4.out
        refine bodyPost_ret (v := .agg #[.int .u8 (6), .int .u8 ((first.toNat : Int))]) (by simp [results, Tryz.results27, go_sem, q0, q1]) rfl ?_
        exact ⟨by rw [← HW.out]; simp [Cssp.ends, H6.out], putW_below HB4.out (by omega)⟩
      | false =>
        go_upto_region 18 with (fail)
        change Code.wp _ _ _ _ ((w3.setCell ⟨w.heap.size + 2, 0, none⟩ (.int .u8 3)).setCell ⟨w.heap.size + 2, 1, none⟩ (.int .u8 (first.toNat : Int)))
        have hv4 : Wx ((w3.setCell ⟨w.heap.size + 2, 0, none⟩ (.int .u8 3)).setCell ⟨w.heap.size + 2, 1, none⟩ (.int .u8 (first.toNat : Int))) (w.heap.size + 2) (3) ((first.toNat : Int)) := by
          have h' : w3.heap[w.heap.size + 2]? = _ := HV3.out
          simp [Wx, World.setCell, Array.getElem?_modify, h']
        have hr4 : Wx ((w3.setCell ⟨w.heap.size + 2, 0, none⟩ (.int .u8 3)).setCell ⟨w.heap.size + 2, 1, none⟩ (.int .u8 (first.toNat : Int))) (w.heap.size + 1) 0 0 := by
          have h' : w3.heap[w.heap.size + 1]? = _ := HR3.out
          simp [Wx, World.setCell, Array.getElem?_modify, h']
        have hb4 : Below w.heap.size w ((w3.setCell ⟨w.heap.size + 2, 0, none⟩ (.int .u8 3)).setCell ⟨w.heap.size + 2, 1, none⟩ (.int .u8 (first.toNat : Int))) := ((HB3.out.setCell (p := ⟨w.heap.size + 2, 0, none⟩) (by show w.heap.size ≤ w.heap.size + 2; omega) _).setCell (p := ⟨w.heap.size + 2, 1, none⟩) (by show w.heap.size ≤ w.heap.size + 2; omega) _)
        generalize ((w3.setCell ⟨w.heap.size + 2, 0, none⟩ (.int .u8 3)).setCell ⟨w.heap.size + 2, 1, none⟩ (.int .u8 (first.toNat : Int))) = w4 at hv4 hr4 hb4 ⊢
        clear y0 y1 y2 y3 c0 c1 c2 c3 g0 g1 v0 v1
        obtain ⟨v0, v1⟩ := hv4.cells
        obtain ⟨r0, r1⟩ := hr4.cells
        have g0 := hr4.frozen 0
        have g1 := hr4.frozen 1
        have HR4 := hide hr4
        have HB4 := hide hb4
        clear hr4 hb4 hv4
        go_wp2_with fail
        change bodyPost _ _ _ _ ⟨_, _⟩ (putW w4 (w.heap.size + 1) (3) ((first.toNat : Int)))
        obtain ⟨q0, q1⟩ := putW_cells (a' := 3) (q' := (first.toNat : Int)) HR4.out
        refine bodyPost_ret (v := .agg #[.int .u8 (3), .int .u8 ((first.toNat : Int))]) (by simp [results, Tryz.results27, go_sem, q0, q1]) rfl ?_
        exact ⟨by rw [← HW.out]; simp [Cssp.ends, H6.out], putW_below HB4.out (by omega)⟩
    · have k6 : ((x0 : Int) == 6) = false := by rw [beq_eq_false_iff_ne]; omega
      have H6 := hide h6
      clear h6
      cases o with
      | true =>
        go_upto_region 18 with (fail)
        change Code.wp _ _ _ _ (w3.setCell ⟨w.heap.size + 2, 0, none⟩ (.int .u8 6))
        have hv4 : Wx (w3.setCell ⟨w.heap.size + 2, 0, none⟩ (.int .u8 6)) (w.heap.size + 2) (6) (0) := by
          have h' : w3.heap[w.heap.size + 2]? = _ := HV3.out
          simp [Wx, World.setCell, Array.getElem?_modify, h']
        have hr4 : Wx (w3.setCell ⟨w.heap.size + 2, 0, none⟩ (.int .u8 6)) (w.heap.size + 1) 0 0 := by
          have h' : w3.heap[w.heap.size + 1]? = _ := HR3.out
          simp [Wx, World.setCell, Array.getElem?_modify, h']
        have hb4 : Below w.heap.size w (w3.setCell ⟨w.heap.size + 2, 0, none⟩ (.int .u8 6)) := (HB3.out.setCell (p := ⟨w.heap.size + 2, 0, none⟩) (by show w.heap.size ≤ w.heap.size + 2; omega) _)
        generalize (w3.setCell ⟨w.heap.size + 2, 0, none⟩ (.int .u8 6)) = w4 at hv4 hr4 hb4 ⊢
        clear y0 y1 y2 y3 c0 c1 c2 c3 g0 g1 v0 v1
        obtain ⟨v0, v1⟩ := hv4.cells
        obtain ⟨r0, r1⟩ := hr4.cells
        have g0 := hr4.frozen 0
        have g1 := hr4.frozen 1
        have HR4 := hide hr4
        have HB4 := hide hb4
        clear hr4 hb4 hv4
        go_wp2_with fail
        change bodyPost _ _ _ _ ⟨_, _⟩ (putW w4 (w.heap.size + 1) (6) (0))
        obtain ⟨q0, q1⟩ := putW_cells (a' := 6) (q' := 0) HR4.out
        refine bodyPost_ret (v := .agg #[.int .u8 (6), .int .u8 (0)]) (by simp [results, Tryz.results27, go_sem, q0, q1]) rfl ?_
        exact ⟨by rw [← HW.out]; simp [Cssp.ends, H6.out], putW_below HB4.out (by omega)⟩
      | false =>
        go_upto_region 18 with (fail)
        change Code.wp _ _ _ _ (w3.setCell ⟨w.heap.size + 2, 0, none⟩ (.int .u8 4))
        have hv4 : Wx (w3.setCell ⟨w.heap.size + 2, 0, none⟩ (.int .u8 4)) (w.heap.size + 2) (4) (0) := by
          have h' : w3.heap[w.heap.size + 2]? = _ := HV3.out
          simp [Wx, World.setCell, Array.getElem?_modify, h']
        have hr4 : Wx (w3.setCell ⟨w.heap.size + 2, 0, none⟩ (.int .u8 4)) (w.heap.size + 1) 0 0 := by
          have h' : w3.heap[w.heap.size + 1]? = _ := HR3.out
          simp [Wx, World.setCell, Array.getElem?_modify, h']
        have hb4 : Below w.heap.size w (w3.setCell ⟨w.heap.size + 2, 0, none⟩ (.int .u8 4)) := (HB3.out.setCell (p := ⟨w.heap.size + 2, 0, none⟩) (by show w.heap.size ≤ w.heap.size + 2; omega) _)
        generalize (w3.setCell ⟨w.heap.size + 2, 0, none⟩ (.int .u8 4)) = w4 at hv4 hr4 hb4 ⊢
        clear y0 y1 y2 y3 c0 c1 c2 c3 g0 g1 v0 v1
        obtain ⟨v0, v1⟩ := hv4.cells
        obtain ⟨r0, r1⟩ := hr4.cells
        have g0 := hr4.frozen 0
        have g1 := hr4.frozen 1
        have HR4 := hide hr4
        have HB4 := hide hb4
        clear hr4 hb4 hv4
        go_wp2_with fail
        change bodyPost _ _ _ _ ⟨_, _⟩ (putW w4 (w.heap.size + 1) (4) (0))
        obtain ⟨q0, q1⟩ := putW_cells (a' := 4) (q' := 0) HR4.out
        refine bodyPost_ret (v := .agg #[.int .u8 (4), .int .u8 (0)]) (by simp [results, Tryz.results27, go_sem, q0, q1]) rfl ?_
        exact ⟨by rw [← HW.out]; simp [Cssp.ends, H6.out], putW_below HB4.out (by omega)⟩
  | false =>
    cases o with
    | true =>
      go_upto_region 18 with (fail)
      change Code.wp _ _ _ _ (w3.setCell ⟨w.heap.size + 2, 0, none⟩ (.int .u8 6))
      have hv4 : Wx (w3.setCell ⟨w.heap.size + 2, 0, none⟩ (.int .u8 6)) (w.heap.size + 2) (6) (0) := by
        have h' : w3.heap[w.heap.size + 2]? = _ := HV3.out
        simp [Wx, World.setCell, Array.getElem?_modify, h']
      have hr4 : Wx (w3.setCell ⟨w.heap.size + 2, 0, none⟩ (.int .u8 6)) (w.heap.size + 1) 0 0 := by
        have h' : w3.heap[w.heap.size + 1]? = _ := HR3.out
        simp [Wx, World.setCell, Array.getElem?_modify, h']
      have hb4 : Below w.heap.size w (w3.setCell ⟨w.heap.size + 2, 0, none⟩ (.int .u8 6)) := (HB3.out.setCell (p := ⟨w.heap.size + 2, 0, none⟩) (by show w.heap.size ≤ w.heap.size + 2; omega) _)
      generalize (w3.setCell ⟨w.heap.size + 2, 0, none⟩ (.int .u8 6)) = w4 at hv4 hr4 hb4 ⊢
      clear y0 y1 y2 y3 c0 c1 c2 c3 g0 g1 v0 v1
      obtain ⟨v0, v1⟩ := hv4.cells
      obtain ⟨r0, r1⟩ := hr4.cells
      have g0 := hr4.frozen 0
      have g1 := hr4.frozen 1
      have HR4 := hide hr4
      have HB4 := hide hb4
      clear hr4 hb4 hv4
      go_wp2_with fail
      change bodyPost _ _ _ _ ⟨_, _⟩ (putW w4 (w.heap.size + 1) (6) (0))
      obtain ⟨q0, q1⟩ := putW_cells (a' := 6) (q' := 0) HR4.out
      refine bodyPost_ret (v := .agg #[.int .u8 (6), .int .u8 (0)]) (by simp [results, Tryz.results27, go_sem, q0, q1]) rfl ?_
      exact ⟨by rw [← HW.out]; simp [Cssp.ends], putW_below HB4.out (by omega)⟩
    | false =>
      by_cases h2 : x0 = 2
      · have k2 : ((x0 : Int) == 2) = true := by rw [beq_iff_eq]; omega
        have H2 := hide h2
        clear h2
        go_upto_region 18 with (fail)
        change Code.wp _ _ _ _ (w3.setCell ⟨w.heap.size + 2, 0, none⟩ (.int .u8 2))
        have hv4 : Wx (w3.setCell ⟨w.heap.size + 2, 0, none⟩ (.int .u8 2)) (w.heap.size + 2) (2) (0) := by
          have h' : w3.heap[w.heap.size + 2]? = _ := HV3.out
          simp [Wx, World.setCell, Array.getElem?_modify, h']
        have hr4 : Wx (w3.setCell ⟨w.heap.size + 2, 0, none⟩ (.int .u8 2)) (w.heap.size + 1) 0 0 := by
          have h' : w3.heap[w.heap.size + 1]? = _ := HR3.out
          simp [Wx, World.setCell, Array.getElem?_modify, h']
        have hb4 : Below w.heap.size w (w3.setCell ⟨w.heap.size + 2, 0, none⟩ (.int .u8 2)) := (HB3.out.setCell (p := ⟨w.heap.size + 2, 0, none⟩) (by show w.heap.size ≤ w.heap.size + 2; omega) _)
        generalize (w3.setCell ⟨w.heap.size + 2, 0, none⟩ (.int .u8 2)) = w4 at hv4 hr4 hb4 ⊢
        clear y0 y1 y2 y3 c0 c1 c2 c3 g0 g1 v0 v1
        obtain ⟨v0, v1⟩ := hv4.cells
        obtain ⟨r0, r1⟩ := hr4.cells
        have g0 := hr4.frozen 0
        have g1 := hr4.frozen 1
        have HR4 := hide hr4
        have HB4 := hide hb4
        clear hr4 hb4 hv4
        go_wp2_with fail
        change bodyPost _ _ _ _ ⟨_, _⟩ (putW w4 (w.heap.size + 1) (2) (0))
        obtain ⟨q0, q1⟩ := putW_cells (a' := 2) (q' := 0) HR4.out
        refine bodyPost_ret (v := .agg #[.int .u8 (2), .int .u8 (0)]) (by simp [results, Tryz.results27, go_sem, q0, q1]) rfl ?_
        exact ⟨by rw [← HW.out]; simp [Cssp.ends, H2.out], putW_below HB4.out (by omega)⟩
      have k2 : ((x0 : Int) == 2) = false := by rw [beq_eq_false_iff_ne]; omega
      have H2 := hide h2
      clear h2
      by_cases h4 : x0 = 4
      · have k4 : ((x0 : Int) == 4) = true := by rw [beq_iff_eq]; omega
        have H4 := hide h4
        clear h4
        go_upto_region 18 with (fail)
        change Code.wp _ _ _ _ (w3.setCell ⟨w.heap.size + 2, 0, none⟩ (.int .u8 2))
        have hv4 : Wx (w3.setCell ⟨w.heap.size + 2, 0, none⟩ (.int .u8 2)) (w.heap.size + 2) (2) (0) := by
          have h' : w3.heap[w.heap.size + 2]? = _ := HV3.out
          simp [Wx, World.setCell, Array.getElem?_modify, h']
        have hr4 : Wx (w3.setCell ⟨w.heap.size + 2, 0, none⟩ (.int .u8 2)) (w.heap.size + 1) 0 0 := by
          have h' : w3.heap[w.heap.size + 1]? = _ := HR3.out
          simp [Wx, World.setCell, Array.getElem?_modify, h']
        have hb4 : Below w.heap.size w (w3.setCell ⟨w.heap.size + 2, 0, none⟩ (.int .u8 2)) := (HB3.out.setCell (p := ⟨w.heap.size + 2, 0, none⟩) (by show w.heap.size ≤ w.heap.size + 2; omega) _)
        generalize (w3.setCell ⟨w.heap.size + 2, 0, none⟩ (.int .u8 2)) = w4 at hv4 hr4 hb4 ⊢
        clear y0 y1 y2 y3 c0 c1 c2 c3 g0 g1 v0 v1
        obtain ⟨v0, v1⟩ := hv4.cells
        obtain ⟨r0, r1⟩ := hr4.cells
        have g0 := hr4.frozen 0
        have g1 := hr4.frozen 1
        have HR4 := hide hr4
        have HB4 := hide hb4
        clear hr4 hb4 hv4
        go_wp2_with fail
        change bodyPost _ _ _ _ ⟨_, _⟩ (putW w4 (w.heap.size + 1) (2) (0))
        obtain ⟨q0, q1⟩ := putW_cells (a' := 2) (q' := 0) HR4.out
        refine bodyPost_ret (v := .agg #[.int .u8 (2), .int .u8 (0)]) (by simp [results, Tryz.results27, go_sem, q0, q1]) rfl ?_
        exact ⟨by rw [← HW.out]; simp [Cssp.ends, H4.out], putW_below HB4.out (by omega)⟩
      have k4 : ((x0 : Int) == 4) = false := by rw [beq_eq_false_iff_ne]; omega
      have H4 := hide h4
      clear h4
      by_cases h5 : x0 = 5
      · have k5 : ((x0 : Int) == 5) = true := by rw [beq_iff_eq]; omega
        have H5 := hide h5
        clear h5
        go_upto_region 18 with (fail)
        change Code.wp _ _ _ _ (w3.setCell ⟨w.heap.size + 2, 0, none⟩ (.int .u8 2))
        have hv4 : Wx (w3.setCell ⟨w.heap.size + 2, 0, none⟩ (.int .u8 2)) (w.heap.size + 2) (2) (0) := by
          have h' : w3.heap[w.heap.size + 2]? = _ := HV3.out
          simp [Wx, World.setCell, Array.getElem?_modify, h']
        have hr4 : Wx (w3.setCell ⟨w.heap.size + 2, 0, none⟩ (.int .u8 2)) (w.heap.size + 1) 0 0 := by
          have h' : w3.heap[w.heap.size + 1]? = _ := HR3.out
          simp [Wx, World.setCell, Array.getElem?_modify, h']
        have hb4 : Below w.heap.size w (w3.setCell ⟨w.heap.size + 2, 0, none⟩ (.int .u8 2)) := (HB3.out.setCell (p := ⟨w.heap.size + 2, 0, none⟩) (by show w.heap.size ≤ w.heap.size + 2; omega) _)
        generalize (w3.setCell ⟨w.heap.size + 2, 0, none⟩ (.int .u8 2)) = w4 at hv4 hr4 hb4 ⊢
        clear y0 y1 y2 y3 c0 c1 c2 c3 g0 g1 v0 v1
        obtain ⟨v0, v1⟩ := hv4.cells
        obtain ⟨r0, r1⟩ := hr4.cells
        have g0 := hr4.frozen 0
        have g1 := hr4.frozen 1
        have HR4 := hide hr4
        have HB4 := hide hb4
        clear hr4 hb4 hv4
        go_wp2_with fail
        change bodyPost _ _ _ _ ⟨_, _⟩ (putW w4 (w.heap.size + 1) (2) (0))
        obtain ⟨q0, q1⟩ := putW_cells (a' := 2) (q' := 0) HR4.out
        refine bodyPost_ret (v := .agg #[.int .u8 (2), .int .u8 (0)]) (by simp [results, Tryz.results27, go_sem, q0, q1]) rfl ?_
        exact ⟨by rw [← HW.out]; simp [Cssp.ends, H5.out], putW_below HB4.out (by omega)⟩
      have k5 : ((x0 : Int) == 5) = false := by rw [beq_eq_false_iff_ne]; omega
      have H5 := hide h5
      clear h5
      by_cases h11 : x0 = 11
      · have k11 : ((x0 : Int) == 11) = true := by rw [beq_iff_eq]; omega
        have H11 := hide h11
        clear h11
        go_upto_region 18 with (fail)
        change Code.wp _ _ _ _ (w3.setCell ⟨w.heap.size + 2, 0, none⟩ (.int .u8 2))
        have hv4 : Wx (w3.setCell ⟨w.heap.size + 2, 0, none⟩ (.int .u8 2)) (w.heap.size + 2) (2) (0) := by
          have h' : w3.heap[w.heap.size + 2]? = _ := HV3.out
          simp [Wx, World.setCell, Array.getElem?_modify, h']
        have hr4 : Wx (w3.setCell ⟨w.heap.size + 2, 0, none⟩ (.int .u8 2)) (w.heap.size + 1) 0 0 := by
          have h' : w3.heap[w.heap.size + 1]? = _ := HR3.out
          simp [Wx, World.setCell, Array.getElem?_modify, h']
        have hb4 : Below w.heap.size w (w3.setCell ⟨w.heap.size + 2, 0, none⟩ (.int .u8 2)) := (HB3.out.setCell (p := ⟨w.heap.size + 2, 0, none⟩) (by show w.heap.size ≤ w.heap.size + 2; omega) _)
        generalize (w3.setCell ⟨w.heap.size + 2, 0, none⟩ (.int .u8 2)) = w4 at hv4 hr4 hb4 ⊢
        clear y0 y1 y2 y3 c0 c1 c2 c3 g0 g1 v0 v1
        obtain ⟨v0, v1⟩ := hv4.cells
        obtain ⟨r0, r1⟩ := hr4.cells
        have g0 := hr4.frozen 0
        have g1 := hr4.frozen 1
        have HR4 := hide hr4
        have HB4 := hide hb4
        clear hr4 hb4 hv4
        go_wp2_with fail
        change bodyPost _ _ _ _ ⟨_, _⟩ (putW w4 (w.heap.size + 1) (2) (0))
        obtain ⟨q0, q1⟩ := putW_cells (a' := 2) (q' := 0) HR4.out
        refine bodyPost_ret (v := .agg #[.int .u8 (2), .int .u8 (0)]) (by simp [results, Tryz.results27, go_sem, q0, q1]) rfl ?_
        exact ⟨by rw [← HW.out]; simp [Cssp.ends, H11.out], putW_below HB4.out (by omega)⟩
      have k11 : ((x0 : Int) == 11) = false := by rw [beq_eq_false_iff_ne]; omega
      have H11 := hide h11
      clear h11
      by_cases h13 : x0 = 13
      · have k13 : ((x0 : Int) == 13) = true := by rw [beq_iff_eq]; omega
        have H13 := hide h13
        clear h13
        go_upto_region 18 with (fail)
        change Code.wp _ _ _ _ (w3.setCell ⟨w.heap.size + 2, 0, none⟩ (.int .u8 2))
        have hv4 : Wx (w3.setCell ⟨w.heap.size + 2, 0, none⟩ (.int .u8 2)) (w.heap.size + 2) (2) (0) := by
          have h' : w3.heap[w.heap.size + 2]? = _ := HV3.out
          simp [Wx, World.setCell, Array.getElem?_modify, h']
        have hr4 : Wx (w3.setCell ⟨w.heap.size + 2, 0, none⟩ (.int .u8 2)) (w.heap.size + 1) 0 0 := by
          have h' : w3.heap[w.heap.size + 1]? = _ := HR3.out
          simp [Wx, World.setCell, Array.getElem?_modify, h']
        have hb4 : Below w.heap.size w (w3.setCell ⟨w.heap.size + 2, 0, none⟩ (.int .u8 2)) := (HB3.out.setCell (p := ⟨w.heap.size + 2, 0, none⟩) (by show w.heap.size ≤ w.heap.size + 2; omega) _)
        generalize (w3.setCell ⟨w.heap.size + 2, 0, none⟩ (.int .u8 2)) = w4 at hv4 hr4 hb4 ⊢
        clear y0 y1 y2 y3 c0 c1 c2 c3 g0 g1 v0 v1
        obtain ⟨v0, v1⟩ := hv4.cells
        obtain ⟨r0, r1⟩ := hr4.cells
        have g0 := hr4.frozen 0
        have g1 := hr4.frozen 1
        have HR4 := hide hr4
        have HB4 := hide hb4
        clear hr4 hb4 hv4
        go_wp2_with fail
        change bodyPost _ _ _ _ ⟨_, _⟩ (putW w4 (w.heap.size + 1) (2) (0))
        obtain ⟨q0, q1⟩ := putW_cells (a' := 2) (q' := 0) HR4.out
        refine bodyPost_ret (v := .agg #[.int .u8 (2), .int .u8 (0)]) (by simp [results, Tryz.results27, go_sem, q0, q1]) rfl ?_
        exact ⟨by rw [← HW.out]; simp [Cssp.ends, H13.out], putW_below HB4.out (by omega)⟩
      have k13 : ((x0 : Int) == 13) = false := by rw [beq_eq_false_iff_ne]; omega
      have H13 := hide h13
      clear h13
      by_cases h7 : x0 = 7
      · have k7 : ((x0 : Int) == 7) = true := by rw [beq_iff_eq]; omega
        have H7 := hide h7
        clear h7
        go_upto_region 18 with (fail)
        change Code.wp _ _ _ _ (w3.setCell ⟨w.heap.size + 2, 0, none⟩ (.int .u8 2))
        have hv4 : Wx (w3.setCell ⟨w.heap.size + 2, 0, none⟩ (.int .u8 2)) (w.heap.size + 2) (2) (0) := by
          have h' : w3.heap[w.heap.size + 2]? = _ := HV3.out
          simp [Wx, World.setCell, Array.getElem?_modify, h']
        have hr4 : Wx (w3.setCell ⟨w.heap.size + 2, 0, none⟩ (.int .u8 2)) (w.heap.size + 1) 0 0 := by
          have h' : w3.heap[w.heap.size + 1]? = _ := HR3.out
          simp [Wx, World.setCell, Array.getElem?_modify, h']
        have hb4 : Below w.heap.size w (w3.setCell ⟨w.heap.size + 2, 0, none⟩ (.int .u8 2)) := (HB3.out.setCell (p := ⟨w.heap.size + 2, 0, none⟩) (by show w.heap.size ≤ w.heap.size + 2; omega) _)
        generalize (w3.setCell ⟨w.heap.size + 2, 0, none⟩ (.int .u8 2)) = w4 at hv4 hr4 hb4 ⊢
        clear y0 y1 y2 y3 c0 c1 c2 c3 g0 g1 v0 v1
        obtain ⟨v0, v1⟩ := hv4.cells
        obtain ⟨r0, r1⟩ := hr4.cells
        have g0 := hr4.frozen 0
        have g1 := hr4.frozen 1
        have HR4 := hide hr4
        have HB4 := hide hb4
        clear hr4 hb4 hv4
        go_wp2_with fail
        change bodyPost _ _ _ _ ⟨_, _⟩ (putW w4 (w.heap.size + 1) (2) (0))
        obtain ⟨q0, q1⟩ := putW_cells (a' := 2) (q' := 0) HR4.out
        refine bodyPost_ret (v := .agg #[.int .u8 (2), .int .u8 (0)]) (by simp [results, Tryz.results27, go_sem, q0, q1]) rfl ?_
        exact ⟨by rw [← HW.out]; simp [Cssp.ends, H7.out], putW_below HB4.out (by omega)⟩
      have k7 : ((x0 : Int) == 7) = false := by rw [beq_eq_false_iff_ne]; omega
      have H7 := hide h7
      clear h7
      by_cases h10 : x0 = 10
      · have k10 : ((x0 : Int) == 10) = true := by rw [beq_iff_eq]; omega
        have H10 := hide h10
        clear h10
        have HI := hide (indexN first w3)
        have hna := names_at first
        cases hn : Cssp.names.contains first with
        | true =>
          rw [hn] at hna
          have HN := hide (show first ∈ Cssp.names from List.contains_iff_mem.1 hn)
          clear hn
          go_upto_region 18 with (refine HI.out.mono ?_; rintro e w' ⟨rfl, rfl⟩)
          change Code.wp _ _ _ _ (w3.setCell ⟨w.heap.size + 2, 0, none⟩ (.int .u8 2))
          have hv4 : Wx (w3.setCell ⟨w.heap.size + 2, 0, none⟩ (.int .u8 2)) (w.heap.size + 2) (2) (0) := by
            have h' : w3.heap[w.heap.size + 2]? = _ := HV3.out
            simp [Wx, World.setCell, Array.getElem?_modify, h']
          have hr4 : Wx (w3.setCell ⟨w.heap.size + 2, 0, none⟩ (.int .u8 2)) (w.heap.size + 1) 0 0 := by
            have h' : w3.heap[w.heap.size + 1]? = _ := HR3.out
            simp [Wx, World.setCell, Array.getElem?_modify, h']
          have hb4 : Below w.heap.size w (w3.setCell ⟨w.heap.size + 2, 0, none⟩ (.int .u8 2)) := (HB3.out.setCell (p := ⟨w.heap.size + 2, 0, none⟩) (by show w.heap.size ≤ w.heap.size + 2; omega) _)
          generalize (w3.setCell ⟨w.heap.size + 2, 0, none⟩ (.int .u8 2)) = w4 at hv4 hr4 hb4 ⊢
          clear y0 y1 y2 y3 c0 c1 c2 c3 g0 g1 v0 v1
          obtain ⟨v0, v1⟩ := hv4.cells
          obtain ⟨r0, r1⟩ := hr4.cells
          have g0 := hr4.frozen 0
          have g1 := hr4.frozen 1
          have HR4 := hide hr4
          have HB4 := hide hb4
          clear hr4 hb4 hv4
          go_wp2_with fail
          change bodyPost _ _ _ _ ⟨_, _⟩ (putW w4 (w.heap.size + 1) (2) (0))
          obtain ⟨q0, q1⟩ := putW_cells (a' := 2) (q' := 0) HR4.out
          refine bodyPost_ret (v := .agg #[.int .u8 (2), .int .u8 (0)]) (by simp [results, Tryz.results27, go_sem, q0, q1]) rfl ?_
          exact ⟨by rw [← HW.out]; simp [Cssp.ends, H10.out, HN.out], putW_below HB4.out (by omega)⟩
        | false =>
          rw [hn] at hna
          have HN := hide (show ¬ first ∈ Cssp.names from fun hm => by rw [List.contains_iff_mem.2 hm] at hn; exact Bool.noConfusion hn)
          clear hn
          go_upto_region 18 with (refine HI.out.mono ?_; rintro e w' ⟨rfl, rfl⟩)
          have hv4 := HV3.out
          have hr4 := HR3.out
          have hb4 := HB3.out
          generalize w3 = w4 at hv4 hr4 hb4 ⊢
          clear y0 y1 y2 y3 c0 c1 c2 c3 g0 g1 v0 v1
          obtain ⟨v0, v1⟩ := hv4.cells
          obtain ⟨r0, r1⟩ := hr4.cells
          have g0 := hr4.frozen 0
          have g1 := hr4.frozen 1
          have HR4 := hide hr4
          have HB4 := hide hb4
          clear hr4 hb4 hv4
          go_wp2_with fail
          change bodyPost _ _ _ _ ⟨_, _⟩ (putW w4 (w.heap.size + 1) (1) (0))
          obtain ⟨q0, q1⟩ := putW_cells (a' := 1) (q' := 0) HR4.out
          refine bodyPost_ret (v := .agg #[.int .u8 (1), .int .u8 (0)]) (by simp [results, Tryz.results27, go_sem, q0, q1]) rfl ?_
          exact ⟨by rw [← HW.out]; simp [Cssp.ends, H10.out, HN.out], putW_below HB4.out (by omega)⟩
      have k10 : ((x0 : Int) == 10) = false := by rw [beq_eq_false_iff_ne]; omega
      have H10 := hide h10
      clear h10
      go_upto_region 18 with (fail)
      have hv4 := HV3.out
      have hr4 := HR3.out
      have hb4 := HB3.out
      generalize w3 = w4 at hv4 hr4 hb4 ⊢
      clear y0 y1 y2 y3 c0 c1 c2 c3 g0 g1 v0 v1
      obtain ⟨v0, v1⟩ := hv4.cells
      obtain ⟨r0, r1⟩ := hr4.cells
      have g0 := hr4.frozen 0
      have g1 := hr4.frozen 1
      have HR4 := hide hr4
      have HB4 := hide hb4
      clear hr4 hb4 hv4
      go_wp2_with fail
      change bodyPost _ _ _ _ ⟨_, _⟩ (putW w4 (w.heap.size + 1) (1) (0))
      obtain ⟨q0, q1⟩ := putW_cells (a' := 1) (q' := 0) HR4.out
      refine bodyPost_ret (v := .agg #[.int .u8 (1), .int .u8 (0)]) (by simp [results, Tryz.results27, go_sem, q0, q1]) rfl ?_
      exact ⟨by rw [← HW.out]; simp [Cssp.ends, H2.out, H4.out, H5.out, H11.out, H13.out, H7.out, H10.out], putW_below HB4.out (by omega)⟩
end Go.Proofs.YtojgcangnkjmjaaGreatDoor
