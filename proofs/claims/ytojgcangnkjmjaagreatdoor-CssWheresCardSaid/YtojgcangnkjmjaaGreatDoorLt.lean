/- The document's answer: where a text ends behind a token. (Printed by genCssXo.py.) -/
import Derived.Test.YtojgcangnkjmjaaGreatDoorXi
import Derived.Test.YtojgcangnkjmjaaGreatDoorO
import Derived.Test.YtojgcangnkjmjaaGreatDoorXn
import Derived.Test.YtojgcangnkjmjaaGreatDoorXs
import Derived.Test.YtojgcangnkjmjaaGreatDoorWk
namespace Go.Proofs.YtojgcangnkjmjaaGreatDoor
open Go.RowKit

/-- a thing in a box of the walk's own -/
abbrev cellsH (x : Cssp.Tk) (t : Int) (o n : Bool) : Array Value := #[.int .u8 x.kind, S x.t, S x.u, .bool x.flag, .int .i64 t, .bool o, .bool n]
def Xh (w : World) (B : Nat) (x : Cssp.Tk) (t : Int) (o n : Bool) : Prop := w.heap[B]? = some (.cells (cellsH x t o n) 59 (0, 0))
theorem Xh.new (w : World) (x : Cssp.Tk) (t : Int) (o n : Bool) : Xh (w.alloc (.cells (cellsH x t o n) 59)) w.heap.size x t o n := by
  show (w.heap.push _)[w.heap.size]? = _
  simp
theorem Xh.cells {w : World} {B : Nat} {x : Cssp.Tk} {t : Int} {o n : Bool} (h : Xh w B x t o n) : w.cell? ⟨B, 0, none⟩ = some (.int .u8 x.kind) ∧ w.cell? ⟨B, 1, none⟩ = some (S x.t) ∧ w.cell? ⟨B, 2, none⟩ = some (S x.u) ∧ w.cell? ⟨B, 3, none⟩ = some (.bool x.flag) ∧
    w.cell? ⟨B, 4, none⟩ = some (.int .i64 t) ∧ w.cell? ⟨B, 5, none⟩ = some (.bool o) ∧ w.cell? ⟨B, 6, none⟩ = some (.bool n) := by
  have h' : w.heap[B]? = _ := h
  refine ⟨?_, ?_, ?_, ?_, ?_, ?_, ?_⟩ <;> simp [World.cell?, h']
theorem Xh.frozen {w : World} {B : Nat} {x : Cssp.Tk} {t : Int} {o n : Bool} (h : Xh w B x t o n) (k : Nat) : w.frozen? ⟨B, k, none⟩ = false := by
  have h' : w.heap[B]? = _ := h
  simp [World.frozen?, h']
theorem Xh.below {w w' : World} {B : Nat} {x : Cssp.Tk} {t : Int} {o n : Bool} (h : Xh w B x t o n) (hb : Below w.heap.size w w') : Xh w' B x t o n := (hb.block B (heap_lt h)).trans h
set_option maxRecDepth 100000 in
set_option maxHeartbeats 8000000 in
theorem rEnds (x : Cssp.Tk) (t : Int) (o n : Bool) (c : UInt8) (k e : Nat) (w : World) :
    Calls Tryz.prog 31 #[HV x t o n, .int .u8 c.toNat] w (Fresh (WV (Cssp.ends ⟨x, k, o, n, e⟩ c)) w) := by
  obtain ⟨W, hW⟩ : ∃ W, Cssp.ends ⟨x, k, o, n, e⟩ c = W := ⟨_, rfl⟩
  rw [hW]
  have HW := hide hW
  have hfb := u8_lt c
  clear hW
  obtain ⟨kd, x1, x2, x3⟩ := x
  have hx := Xh.new w ⟨kd, x1, x2, x3⟩ t o n
  have hal := (Below.refl w.heap.size w).alloc (Nat.le_refl _) (.cells (cellsH ⟨kd, x1, x2, x3⟩ t o n) 59)
  go_enter Tryz.func31, Tryz.ntmps31
  go_upto_region 1 with (fail)
  change Code.wp _ _ _ _ ((w.alloc (.cells (cellsH ⟨kd, x1, x2, x3⟩ t o n) 59)).alloc (.cells #[.int .u8 0, .int .u8 0] 36))
  have hal2 := hal.trans (((Below.refl _ (w.alloc (.cells (cellsH ⟨kd, x1, x2, x3⟩ t o n) 59))).alloc (Nat.le_refl _) (.cells #[.int .u8 0, .int .u8 0] 36)).mono hal.size)
  have hx2 := hx.below ((Below.refl _ _).alloc (Nat.le_refl _) (.cells #[.int .u8 0, .int .u8 0] 36))
  have hw2 := Wx.new (w.alloc (.cells (cellsH ⟨kd, x1, x2, x3⟩ t o n) 59)) 0 0
  rw [World.size_alloc] at hw2
  generalize (w.alloc (.cells (cellsH ⟨kd, x1, x2, x3⟩ t o n) 59)).alloc (.cells #[.int .u8 0, .int .u8 0] 36) = w2 at hal2 hx2 hw2 ⊢
  have HB2 := hide hal2
  have HX2 := hide hx2
  have HR2 := hide hw2
  obtain ⟨y0, y1, y2, y3, y4, y5, y6⟩ := HX2.out.cells
  simp only at y0 y1 y2 y3
  have g0 := HR2.out.frozen 0
  have g1 := HR2.out.frozen 1
  obtain ⟨v0, v1⟩ := HR2.out.cells
  clear hal hx hal2 hx2 hw2
  cases o with
  | true =>
    cases n with
    | true =>
      by_cases h6 : kd = 6
      · have k6 : ((kd : Int) == 6) = true := by rw [beq_iff_eq]; omega
        have H6 := hide h6
        clear h6
        go_wp2_with fail
        change bodyPost _ _ _ _ ⟨_, _⟩ (putW w2 (w.heap.size + 1) (6) ((c.toNat : Int)))
        obtain ⟨q0, q1⟩ := putW_cells (a' := 6) (q' := (c.toNat : Int)) HR2.out
        refine bodyPost_ret (v := .agg #[.int .u8 (6), .int .u8 ((c.toNat : Int))]) (by simp [results, Tryz.results31, go_sem, q0, q1]) rfl ?_
        exact ⟨by rw [← HW.out]; simp [Cssp.ends, H6.out], putW_below HB2.out (by omega)⟩
      · have k6 : ((kd : Int) == 6) = false := by rw [beq_eq_false_iff_ne]; omega
        have H6 := hide h6
        clear h6
        go_wp2_with fail
        change bodyPost _ _ _ _ ⟨_, _⟩ (putW w2 (w.heap.size + 1) (6) (0))
        obtain ⟨q0, q1⟩ := putW_cells (a' := 6) (q' := 0) HR2.out
        refine bodyPost_ret (v := .agg #[.int .u8 (6), .int .u8 (0)]) (by simp [results, Tryz.results31, go_sem, q0, q1]) rfl ?_
        exact ⟨by rw [← HW.out]; simp [Cssp.ends, H6.out], putW_below HB2.out (by omega)⟩
    | false =>
      go_wp2_with fail
      change bodyPost _ _ _ _ ⟨_, _⟩ (putW w2 (w.heap.size + 1) (6) (0))
      obtain ⟨q0, q1⟩ := putW_cells (a' := 6) (q' := 0) HR2.out
      refine bodyPost_ret (v := .agg #[.int .u8 (6), .int .u8 (0)]) (by simp [results, Tryz.results31, go_sem, q0, q1]) rfl ?_
      exact ⟨by rw [← HW.out]; simp [Cssp.ends], putW_below HB2.out (by omega)⟩
  | false =>
    cases n with
    | true =>
      by_cases h6 : kd = 6
      · have k6 : ((kd : Int) == 6) = true := by rw [beq_iff_eq]; omega
        have H6 := hide h6
        clear h6
        go_wp2_with fail
        change bodyPost _ _ _ _ ⟨_, _⟩ (putW w2 (w.heap.size + 1) (3) ((c.toNat : Int)))
        obtain ⟨q0, q1⟩ := putW_cells (a' := 3) (q' := (c.toNat : Int)) HR2.out
        refine bodyPost_ret (v := .agg #[.int .u8 (3), .int .u8 ((c.toNat : Int))]) (by simp [results, Tryz.results31, go_sem, q0, q1]) rfl ?_
        exact ⟨by rw [← HW.out]; simp [Cssp.ends, H6.out], putW_below HB2.out (by omega)⟩
      · have k6 : ((kd : Int) == 6) = false := by rw [beq_eq_false_iff_ne]; omega
        have H6 := hide h6
        clear h6
        go_wp2_with fail
        change bodyPost _ _ _ _ ⟨_, _⟩ (putW w2 (w.heap.size + 1) (4) (0))
        obtain ⟨q0, q1⟩ := putW_cells (a' := 4) (q' := 0) HR2.out
        refine bodyPost_ret (v := .agg #[.int .u8 (4), .int .u8 (0)]) (by simp [results, Tryz.results31, go_sem, q0, q1]) rfl ?_
        exact ⟨by rw [← HW.out]; simp [Cssp.ends, H6.out], putW_below HB2.out (by omega)⟩
    | false =>
      by_cases h2 : kd = 2
      · have k2 : ((kd : Int) == 2) = true := by rw [beq_iff_eq]; omega
        have K2 := hide h2
        clear h2
        go_wp2_with fail
        change bodyPost _ _ _ _ ⟨_, _⟩ (putW w2 (w.heap.size + 1) (2) (0))
        obtain ⟨q0, q1⟩ := putW_cells (a' := 2) (q' := 0) HR2.out
        refine bodyPost_ret (v := .agg #[.int .u8 (2), .int .u8 (0)]) (by simp [results, Tryz.results31, go_sem, q0, q1]) rfl ?_
        exact ⟨by rw [← HW.out]; simp [Cssp.ends, K2.out], putW_below HB2.out (by omega)⟩
      · have k2 : ((kd : Int) == 2) = false := by rw [beq_eq_false_iff_ne]; omega
        have K2 := hide h2
        clear h2
        by_cases h4 : kd = 4
        · have k4 : ((kd : Int) == 4) = true := by rw [beq_iff_eq]; omega
          have K4 := hide h4
          clear h4
          go_wp2_with fail
          change bodyPost _ _ _ _ ⟨_, _⟩ (putW w2 (w.heap.size + 1) (2) (0))
          obtain ⟨q0, q1⟩ := putW_cells (a' := 2) (q' := 0) HR2.out
          refine bodyPost_ret (v := .agg #[.int .u8 (2), .int .u8 (0)]) (by simp [results, Tryz.results31, go_sem, q0, q1]) rfl ?_
          exact ⟨by rw [← HW.out]; simp [Cssp.ends, K4.out], putW_below HB2.out (by omega)⟩
        · have k4 : ((kd : Int) == 4) = false := by rw [beq_eq_false_iff_ne]; omega
          have K4 := hide h4
          clear h4
          by_cases h5 : kd = 5
          · have k5 : ((kd : Int) == 5) = true := by rw [beq_iff_eq]; omega
            have K5 := hide h5
            clear h5
            go_wp2_with fail
            change bodyPost _ _ _ _ ⟨_, _⟩ (putW w2 (w.heap.size + 1) (2) (0))
            obtain ⟨q0, q1⟩ := putW_cells (a' := 2) (q' := 0) HR2.out
            refine bodyPost_ret (v := .agg #[.int .u8 (2), .int .u8 (0)]) (by simp [results, Tryz.results31, go_sem, q0, q1]) rfl ?_
            exact ⟨by rw [← HW.out]; simp [Cssp.ends, K5.out], putW_below HB2.out (by omega)⟩
          · have k5 : ((kd : Int) == 5) = false := by rw [beq_eq_false_iff_ne]; omega
            have K5 := hide h5
            clear h5
            by_cases h11 : kd = 11
            · have k11 : ((kd : Int) == 11) = true := by rw [beq_iff_eq]; omega
              have K11 := hide h11
              clear h11
              go_wp2_with fail
              change bodyPost _ _ _ _ ⟨_, _⟩ (putW w2 (w.heap.size + 1) (2) (0))
              obtain ⟨q0, q1⟩ := putW_cells (a' := 2) (q' := 0) HR2.out
              refine bodyPost_ret (v := .agg #[.int .u8 (2), .int .u8 (0)]) (by simp [results, Tryz.results31, go_sem, q0, q1]) rfl ?_
              exact ⟨by rw [← HW.out]; simp [Cssp.ends, K11.out], putW_below HB2.out (by omega)⟩
            · have k11 : ((kd : Int) == 11) = false := by rw [beq_eq_false_iff_ne]; omega
              have K11 := hide h11
              clear h11
              by_cases h13 : kd = 13
              · have k13 : ((kd : Int) == 13) = true := by rw [beq_iff_eq]; omega
                have K13 := hide h13
                clear h13
                go_wp2_with fail
                change bodyPost _ _ _ _ ⟨_, _⟩ (putW w2 (w.heap.size + 1) (2) (0))
                obtain ⟨q0, q1⟩ := putW_cells (a' := 2) (q' := 0) HR2.out
                refine bodyPost_ret (v := .agg #[.int .u8 (2), .int .u8 (0)]) (by simp [results, Tryz.results31, go_sem, q0, q1]) rfl ?_
                exact ⟨by rw [← HW.out]; simp [Cssp.ends, K13.out], putW_below HB2.out (by omega)⟩
              · have k13 : ((kd : Int) == 13) = false := by rw [beq_eq_false_iff_ne]; omega
                have K13 := hide h13
                clear h13
                by_cases h7 : kd = 7
                · have k7 : ((kd : Int) == 7) = true := by rw [beq_iff_eq]; omega
                  have K7 := hide h7
                  clear h7
                  go_wp2_with fail
                  change bodyPost _ _ _ _ ⟨_, _⟩ (putW w2 (w.heap.size + 1) (2) (0))
                  obtain ⟨q0, q1⟩ := putW_cells (a' := 2) (q' := 0) HR2.out
                  refine bodyPost_ret (v := .agg #[.int .u8 (2), .int .u8 (0)]) (by simp [results, Tryz.results31, go_sem, q0, q1]) rfl ?_
                  exact ⟨by rw [← HW.out]; simp [Cssp.ends, K7.out], putW_below HB2.out (by omega)⟩
                · have k7 : ((kd : Int) == 7) = false := by rw [beq_eq_false_iff_ne]; omega
                  have K7 := hide h7
                  clear h7
                  by_cases h10 : kd = 10
                  · have k10 : ((kd : Int) == 10) = true := by rw [beq_iff_eq]; omega
                    have K10 := hide h10
                    clear h10
                    by_cases n35 : c = 35
                    · have q35 : ((c.toNat : Int) == 35) = true := u8t n35
                      have hn : c ∈ Cssp.names := by rw [n35]; decide
                      have HN := hide hn
                      clear hn n35
                      go_wp2_with fail
                      change bodyPost _ _ _ _ ⟨_, _⟩ (putW w2 (w.heap.size + 1) (2) (0))
                      obtain ⟨q0, q1⟩ := putW_cells (a' := 2) (q' := 0) HR2.out
                      refine bodyPost_ret (v := .agg #[.int .u8 (2), .int .u8 (0)]) (by simp [results, Tryz.results31, go_sem, q0, q1]) rfl ?_
                      exact ⟨by rw [← HW.out]; simp [Cssp.ends, HN.out, K10.out], putW_below HB2.out (by omega)⟩
                    · have q35 : ((c.toNat : Int) == 35) = false := u8f n35
                      by_cases n64 : c = 64
                      · have q64 : ((c.toNat : Int) == 64) = true := u8t n64
                        have hn : c ∈ Cssp.names := by rw [n64]; decide
                        have HN := hide hn
                        clear hn n35 n64
                        go_wp2_with fail
                        change bodyPost _ _ _ _ ⟨_, _⟩ (putW w2 (w.heap.size + 1) (2) (0))
                        obtain ⟨q0, q1⟩ := putW_cells (a' := 2) (q' := 0) HR2.out
                        refine bodyPost_ret (v := .agg #[.int .u8 (2), .int .u8 (0)]) (by simp [results, Tryz.results31, go_sem, q0, q1]) rfl ?_
                        exact ⟨by rw [← HW.out]; simp [Cssp.ends, HN.out, K10.out], putW_below HB2.out (by omega)⟩
                      · have q64 : ((c.toNat : Int) == 64) = false := u8f n64
                        by_cases n43 : c = 43
                        · have q43 : ((c.toNat : Int) == 43) = true := u8t n43
                          have hn : c ∈ Cssp.names := by rw [n43]; decide
                          have HN := hide hn
                          clear hn n35 n64 n43
                          go_wp2_with fail
                          change bodyPost _ _ _ _ ⟨_, _⟩ (putW w2 (w.heap.size + 1) (2) (0))
                          obtain ⟨q0, q1⟩ := putW_cells (a' := 2) (q' := 0) HR2.out
                          refine bodyPost_ret (v := .agg #[.int .u8 (2), .int .u8 (0)]) (by simp [results, Tryz.results31, go_sem, q0, q1]) rfl ?_
                          exact ⟨by rw [← HW.out]; simp [Cssp.ends, HN.out, K10.out], putW_below HB2.out (by omega)⟩
                        · have q43 : ((c.toNat : Int) == 43) = false := u8f n43
                          by_cases n45 : c = 45
                          · have q45 : ((c.toNat : Int) == 45) = true := u8t n45
                            have hn : c ∈ Cssp.names := by rw [n45]; decide
                            have HN := hide hn
                            clear hn n35 n64 n43 n45
                            go_wp2_with fail
                            change bodyPost _ _ _ _ ⟨_, _⟩ (putW w2 (w.heap.size + 1) (2) (0))
                            obtain ⟨q0, q1⟩ := putW_cells (a' := 2) (q' := 0) HR2.out
                            refine bodyPost_ret (v := .agg #[.int .u8 (2), .int .u8 (0)]) (by simp [results, Tryz.results31, go_sem, q0, q1]) rfl ?_
                            exact ⟨by rw [← HW.out]; simp [Cssp.ends, HN.out, K10.out], putW_below HB2.out (by omega)⟩
                          · have q45 : ((c.toNat : Int) == 45) = false := u8f n45
                            by_cases n46 : c = 46
                            · have q46 : ((c.toNat : Int) == 46) = true := u8t n46
                              have hn : c ∈ Cssp.names := by rw [n46]; decide
                              have HN := hide hn
                              clear hn n35 n64 n43 n45 n46
                              go_wp2_with fail
                              change bodyPost _ _ _ _ ⟨_, _⟩ (putW w2 (w.heap.size + 1) (2) (0))
                              obtain ⟨q0, q1⟩ := putW_cells (a' := 2) (q' := 0) HR2.out
                              refine bodyPost_ret (v := .agg #[.int .u8 (2), .int .u8 (0)]) (by simp [results, Tryz.results31, go_sem, q0, q1]) rfl ?_
                              exact ⟨by rw [← HW.out]; simp [Cssp.ends, HN.out, K10.out], putW_below HB2.out (by omega)⟩
                            · have q46 : ((c.toNat : Int) == 46) = false := u8f n46
                              by_cases n60 : c = 60
                              · have q60 : ((c.toNat : Int) == 60) = true := u8t n60
                                have hn : c ∈ Cssp.names := by rw [n60]; decide
                                have HN := hide hn
                                clear hn n35 n64 n43 n45 n46 n60
                                go_wp2_with fail
                                change bodyPost _ _ _ _ ⟨_, _⟩ (putW w2 (w.heap.size + 1) (2) (0))
                                obtain ⟨q0, q1⟩ := putW_cells (a' := 2) (q' := 0) HR2.out
                                refine bodyPost_ret (v := .agg #[.int .u8 (2), .int .u8 (0)]) (by simp [results, Tryz.results31, go_sem, q0, q1]) rfl ?_
                                exact ⟨by rw [← HW.out]; simp [Cssp.ends, HN.out, K10.out], putW_below HB2.out (by omega)⟩
                              · have q60 : ((c.toNat : Int) == 60) = false := u8f n60
                                by_cases n47 : c = 47
                                · have q47 : ((c.toNat : Int) == 47) = true := u8t n47
                                  have hn : c ∈ Cssp.names := by rw [n47]; decide
                                  have HN := hide hn
                                  clear hn n35 n64 n43 n45 n46 n60 n47
                                  go_wp2_with fail
                                  change bodyPost _ _ _ _ ⟨_, _⟩ (putW w2 (w.heap.size + 1) (2) (0))
                                  obtain ⟨q0, q1⟩ := putW_cells (a' := 2) (q' := 0) HR2.out
                                  refine bodyPost_ret (v := .agg #[.int .u8 (2), .int .u8 (0)]) (by simp [results, Tryz.results31, go_sem, q0, q1]) rfl ?_
                                  exact ⟨by rw [← HW.out]; simp [Cssp.ends, HN.out, K10.out], putW_below HB2.out (by omega)⟩
                                · have q47 : ((c.toNat : Int) == 47) = false := u8f n47
                                  by_cases n92 : c = 92
                                  · have q92 : ((c.toNat : Int) == 92) = true := u8t n92
                                    have hn : c ∈ Cssp.names := by rw [n92]; decide
                                    have HN := hide hn
                                    clear hn n35 n64 n43 n45 n46 n60 n47 n92
                                    go_wp2_with fail
                                    change bodyPost _ _ _ _ ⟨_, _⟩ (putW w2 (w.heap.size + 1) (2) (0))
                                    obtain ⟨q0, q1⟩ := putW_cells (a' := 2) (q' := 0) HR2.out
                                    refine bodyPost_ret (v := .agg #[.int .u8 (2), .int .u8 (0)]) (by simp [results, Tryz.results31, go_sem, q0, q1]) rfl ?_
                                    exact ⟨by rw [← HW.out]; simp [Cssp.ends, HN.out, K10.out], putW_below HB2.out (by omega)⟩
                                  · have q92 : ((c.toNat : Int) == 92) = false := u8f n92
                                    by_cases n33 : c = 33
                                    · have q33 : ((c.toNat : Int) == 33) = true := u8t n33
                                      have hn : c ∈ Cssp.names := by rw [n33]; decide
                                      have HN := hide hn
                                      clear hn n35 n64 n43 n45 n46 n60 n47 n92 n33
                                      go_wp2_with fail
                                      change bodyPost _ _ _ _ ⟨_, _⟩ (putW w2 (w.heap.size + 1) (2) (0))
                                      obtain ⟨q0, q1⟩ := putW_cells (a' := 2) (q' := 0) HR2.out
                                      refine bodyPost_ret (v := .agg #[.int .u8 (2), .int .u8 (0)]) (by simp [results, Tryz.results31, go_sem, q0, q1]) rfl ?_
                                      exact ⟨by rw [← HW.out]; simp [Cssp.ends, HN.out, K10.out], putW_below HB2.out (by omega)⟩
                                    · have q33 : ((c.toNat : Int) == 33) = false := u8f n33
                                      have hn : ¬ c ∈ Cssp.names := by
                                        intro h
                                        simp only [Cssp.names, List.mem_cons, List.not_mem_nil, or_false] at h
                                        rcases h with h | h | h | h | h | h | h | h | h <;> contradiction
                                      have HN := hide hn
                                      clear hn n35 n64 n43 n45 n46 n60 n47 n92 n33
                                      go_wp2_with fail
                                      change bodyPost _ _ _ _ ⟨_, _⟩ (putW w2 (w.heap.size + 1) (1) (0))
                                      obtain ⟨q0, q1⟩ := putW_cells (a' := 1) (q' := 0) HR2.out
                                      refine bodyPost_ret (v := .agg #[.int .u8 (1), .int .u8 (0)]) (by simp [results, Tryz.results31, go_sem, q0, q1]) rfl ?_
                                      exact ⟨by rw [← HW.out]; simp [Cssp.ends, HN.out, K10.out], putW_below HB2.out (by omega)⟩
                  · have k10 : ((kd : Int) == 10) = false := by rw [beq_eq_false_iff_ne]; omega
                    have K10 := hide h10
                    clear h10
                    go_wp2_with fail
                    change bodyPost _ _ _ _ ⟨_, _⟩ (putW w2 (w.heap.size + 1) (1) (0))
                    obtain ⟨q0, q1⟩ := putW_cells (a' := 1) (q' := 0) HR2.out
                    refine bodyPost_ret (v := .agg #[.int .u8 (1), .int .u8 (0)]) (by simp [results, Tryz.results31, go_sem, q0, q1]) rfl ?_
                    exact ⟨by rw [← HW.out]; simp [Cssp.ends, K2.out, K4.out, K5.out, K11.out, K13.out, K7.out, K10.out], putW_below HB2.out (by omega)⟩
end Go.Proofs.YtojgcangnkjmjaaGreatDoor
namespace Go.Proofs.YtojgcangnkjmjaaGreatDoor
open Go.RowKit

/-- behind a string that has not ended: where its last escape stands, if that could go on -/
def TailP (C : List UInt8) (f : Nat) (W : Cssp.Wh) (tl : List UInt8) : Prop :=
  W.quote ≠ 0 → W.state = 3 ∨ (W.state = 6 ∧ ∃ q, (Cssp.textX q (C.drop (f + 1))).o = true ∧ tl = C.drop (f + 1 + (Cssp.textX q (C.drop (f + 1))).e))
theorem TailP.one (C : List UInt8) (i : Nat) (hi : i < C.length) : TailP C i (Cssp.ends (Cssp.one (C.drop i)) (Cssp.at_ (C.drop i) 0)) ((C.drop i).drop (Cssp.one (C.drop i)).e) := by
  intro hq
  obtain ⟨h1, h2⟩ := Cssp.ends_quote hq
  have hne : C.drop i ≠ [] := fun e => by have := congrArg List.length e; rw [List.length_drop, List.length_nil] at this; omega
  have ht := ((Cssp.one_le (C.drop i) hne).2.2.2 h1 h2).1
  unfold Cssp.ends
  rw [if_pos ⟨h1, h2⟩]
  have hx := Cssp.text_at (C.drop i) hne
  rw [ht, List.drop_drop] at hx
  cases ho : (Cssp.one (C.drop i)).o with
  | true =>
    refine .inr ⟨rfl, Cssp.at_ (C.drop i) 0, ?_, ?_⟩
    · rw [hx] at ho; exact ho
    · rw [hx, List.drop_drop]
      congr 1
      show i + (_ + 1) = _
      omega
  | false => exact .inl rfl
set_option maxRecDepth 100000 in
set_option maxHeartbeats 8000000 in
theorem rWhole (b : List UInt8) (w : World) (hl : b.length ≤ 116000) : Calls Tryz.prog 20 #[S b] w (AllP (Cssp.read b) w) := by
  obtain ⟨i0, hi, hz0, hz1, hz2⟩ := info_parts info_tok
  have hd := Cssp.decode_len _ b (Nat.le_refl _)
  have hc := cleanC_len false (Cssp.decode b)
  obtain ⟨C, hC⟩ : ∃ C, Cssp.clean (Cssp.decode b) = C := ⟨_, rfl⟩
  have hcl : C.length ≤ 3 * (Cssp.decode b).length := by rw [← hC]; exact hc
  have hcl2 : C.length ≤ 1048576 := by omega
  have hno := hide (Cssp.clean_no (Cssp.decode b))
  have hCl := fun W => rClean b W hl
  rw [hC] at hCl hno
  obtain ⟨A, hA⟩ : ∃ A, Cssp.read b = A := ⟨_, rfl⟩
  rw [hA]
  unfold Cssp.read at hA
  rw [hC, Cssp.all_done] at hA
  have HA := hide hA
  have hWx := Wx.new w 0 0
  have hal := (Below.refl w.heap.size w).alloc (Nat.le_refl _) (.cells #[.int .u8 0, .int .u8 0] 36)
  clear hC hd hc hcl hA
  go_enter Tryz.func20, Tryz.ntmps20
  go_upto_region 1 with (fail)
  generalize hgen : w.alloc (.cells #[.int .u8 0, .int .u8 0] 36) = w1 at hWx hal ⊢
  clear hgen
  have HCl := hide (hCl w1)
  have HW1 := hide hWx
  have HB1 := hide hal
  have hs1 := hal.size
  clear hWx hal hCl
  go_wp2_with fail
  refine HCl.out.mono ?_
  rintro e w2 ⟨rfl, hb2⟩
  have hr2 := HW1.out.below hb2
  have hbb2 := HB1.out.trans (hb2.mono hs1)
  have hs2 := hbb2.size
  have hr2l : w.heap.size < w2.heap.size := heap_lt hr2
  clear HCl hb2 HW1 HB1
  go_upto_block 0 with fail
  change Code.wp _ _ _ _ (w2.alloc (.cells #[.int .u8 1, .int .u8 0] 36))
  have hal := (Below.refl w2.heap.size w2).alloc (Nat.le_refl _) (.cells #[.int .u8 1, .int .u8 0] 36)
  have hw3 := Wx.new w2 1 0
  obtain ⟨Bw, hBw⟩ : ∃ B, w2.heap.size = B := ⟨_, rfl⟩
  generalize hgen : w2.alloc (.cells #[.int .u8 1, .int .u8 0] 36) = w3 at hal hw3 ⊢
  clear hgen
  have HR3 := hide (hr2.below hal)
  have HB3 := hide (hbb2.trans (hal.mono hs2))
  rw [hBw] at hw3 hr2l hs2 ⊢
  have HW3 := hide (p := WB w3 Bw ⟨1, 0⟩) hw3
  clear hal hw3 hr2 hbb2 hBw hs1
  go_wp2_with fail
  go_loopg [6, 8, 9, 10] C.length (fun g s6 s8 s9 s10 wr => ∃ (l : List Cssp.Tk) (p r f : Nat) (tl : List UInt8) (W : Cssp.Wh), p + g = C.length ∧ r ≤ C.length ∧ l.length ≤ p ∧ f ≤ C.length ∧ s8 = .int .i64 p ∧ s9 = .int .i64 r ∧ s10 = .int .i64 f ∧
    wr.ownsRow w.heap.size 27 4 s6 l.length (tokCells l) ∧ Hid (WB wr Bw W) ∧ Hid (Wx wr w.heap.size 0 0) ∧ Hid (Below w.heap.size w wr) ∧ Hid (Cssp.done l (Cssp.lp (C.drop p) W tl) (C.drop r) = A) ∧ Hid (TailP C f W tl))
  case atStart => exact ⟨[], 0, 0, 0, [], ⟨1, 0⟩, by omega, by omega, by simp, by omega, rfl, rfl, rfl, World.ownsRow_nil _ _ _ _, HW3.out, HR3.out, HB3.out, by rw [List.drop_zero]; exact HA.out, fun h => absurd rfl h⟩
  case round =>
    obtain ⟨l, p, r, f, tl, W, hpg, hrl, hll, hfl, rfl, rfl, rfl, hown, hWB, hR, hBl, hSt, hTl⟩ := hrel
    clear HW3 HR3 HB3 HA
    obtain ⟨WS, WQ⟩ := W
    obtain ⟨ao, cap, rfl⟩ : ∃ ao cap, u6 = .slice ao l.length cap := by
      rcases hown.2 with ⟨hv, h0⟩ | ⟨g, cap, cur, hv, _⟩
      · exact ⟨none, 0, by rw [hv, h0]⟩
      · exact ⟨_, _, hv⟩
    obtain ⟨y0, y1⟩ := hWB.out.cells
    have g0 := hWB.out.frozen 0
    have g1 := hWB.out.frozen 1
    obtain ⟨v0, v1⟩ := hR.out.cells
    have f0 := hR.out.frozen 0
    have f1 := hR.out.frozen 1
    simp only at y0 y1
    have r0 : (0 : Int) ≤ (r : Int) := by omega
    have r1 : (r : Int) ≤ (C.length : Int) := by omega
    have hbs : w.heap.size ≤ wr.heap.size := hBl.out.size
    have hwbl : Bw < wr.heap.size := heap_lt hWB.out
    have hr0l : w.heap.size < wr.heap.size := heap_lt hR.out
    by_cases hp : p < C.length
    · have b1 : (p : Int) < (C.length : Int) := by omega
      have b0 : (0 : Int) ≤ (p : Int) := by omega
      have hne : C.drop p ≠ [] := fun e => by have := congrArg List.length e; rw [List.length_drop, List.length_nil] at this; omega
      cases hcm : ([47, 42] : List UInt8).isPrefixOf (C.drop p) with
      | true =>
        have hst := hSt.out
        have htk2 : (C.drop p).take 2 = [47, 42] := by
          have := List.prefix_iff_eq_take.1 (List.isPrefixOf_iff_prefix.1 hcm)
          exact this.symm
        have hp2 : p + 2 ≤ C.length := by
          have := List.IsPrefix.length_le (List.isPrefixOf_iff_prefix.1 hcm)
          rw [List.length_drop] at this
          simp only [List.length_cons, List.length_nil] at this
          omega
        obtain ⟨Z, hZ⟩ : ∃ Z, shutC C (p + 2) = Z := ⟨_, rfl⟩
        have hCM := hide (rComment C p wr hcl2 hp2 htk2 Z hZ)
        unfold shutC at hZ
        cases hsh : Cssp.shut (C.drop (p + 2)) with
        | none =>
          rw [hsh] at hZ
          subst hZ
          rw [Cssp.done_open _ _ _ _ _ hcm (by rw [List.drop_drop]; exact hsh)] at hst
          have HA := hide hst
          clear hst hSt hTl hsh htk2 hcm hne y0 y1 g0 g1
          go_wp2_with fail
          refine hCM.out.mono ?_
          rintro e w' ⟨rfl, rfl⟩
          go_wp2_with fail
          go_region
          have hpa := put_all hR.out hown hBl.out (Nat.le_refl _) (5) (0)
          generalize hgen : ((wr.setCell ⟨w.heap.size, 0, none⟩ (.int .u8 (5))).setCell ⟨w.heap.size, 1, none⟩ (.int .u8 (0))).drew = wz at hpa ⊢
          clear hgen
          obtain ⟨hwz, hoz, hbz⟩ := hpa
          obtain ⟨z0, z1⟩ := hwz.cells
          have HOZ := hide hoz
          have HBZ := hide hbz
          clear hoz hbz hwz
          go_wp2_with fail
          refine bodyPost_ret (v := .tuple #[.slice ao l.length cap, WV ⟨5, 0⟩, S (C.drop r)]) (by simp [results, Tryz.results20, go_sem, z0, z1]) rfl ?_
          rw [← HA.out]
          exact ⟨.slice ao l.length cap, rfl, HOZ.out, HBZ.out⟩
        | some k =>
          rw [hsh] at hZ
          have hZ : ((p + 2 + k + 2 : Nat) : Int) = Z := hZ
          rw [Cssp.done_shut _ _ _ _ _ k hcm (by rw [List.drop_drop]; exact hsh), List.drop_drop, List.drop_drop] at hst
          have hkl := (Cssp.shut_app _ [] k hsh).2
          rw [List.length_drop] at hkl
          obtain ⟨E, hE⟩ : ∃ E, p + 2 + k + 2 = E := ⟨_, rfl⟩
          rw [show p + (2 + (k + 2)) = E by omega] at hst
          rw [hE] at hZ
          have hEl : E ≤ C.length := by omega
          have hpE : p + 4 ≤ E := by omega
          have HST := hide hst
          subst hZ
          have e1 : ((E : Int) == -1) = false := by rw [beq_eq_false_iff_ne]; omega
          have e2 : (0 : Int) ≤ (E : Int) := by omega
          have hw6 := (hWB.out.set0 1).set1 0
          have hu6 := ((Upto.refl Bw wr).setCell 0 (.int .u8 1)).setCell 1 (.int .u8 0)
          have ho6 := owns_upto hown hu6 (show wr.heap[Bw]? = _ from hWB.out) (by decide)
          have hr6 := (hu6.2 w.heap.size hr0l (by omega)).trans (show wr.heap[w.heap.size]? = _ from hR.out)
          have hbl6 := (hBl.out.setCell (p := ⟨Bw, 0, none⟩) (show w.heap.size ≤ Bw by omega) (.int .u8 1)).setCell (p := ⟨Bw, 1, none⟩) (show w.heap.size ≤ Bw by omega) (.int .u8 0)
          have HW6 := hide (p := WB _ Bw ⟨1, 0⟩) hw6
          have HO6 := hide ho6
          have HR6 := hide (p := Wx _ w.heap.size 0 0) hr6
          have HB6 := hide hbl6
          clear hst hSt hTl hsh htk2 hcm hne hw6 hu6 ho6 hr6 hbl6 hkl hE
          go_wp2_with fail
          refine hCM.out.mono ?_
          rintro e w' ⟨rfl, rfl⟩
          go_wp2_with fail
          go_roundg (gk - (E - p))
          case measure => omega
          case rel => exact ⟨l, E, E, f, tl, ⟨1, 0⟩, by omega, hEl, by omega, hfl, rfl, rfl, rfl, HO6.out, HW6, HR6, HB6, HST, fun h => absurd rfl h⟩
      | false =>
        have hst := hSt.out
        rw [Cssp.done_one _ _ _ _ _ hne hcm] at hst
        have hle := Cssp.one_le (C.drop p) hne
        have hNC := hide (rNoComment C p wr hcl2 (by omega) (fun e => by
          have h2 : ([47, 42] : List UInt8).isPrefixOf (C.drop p) = true := List.isPrefixOf_iff_prefix.2 (List.prefix_iff_eq_take.2 e.symm)
          rw [h2] at hcm; cases hcm))
        obtain ⟨c, hc⟩ : ∃ c, C[p] = c := ⟨_, rfl⟩
        have hac : Cssp.at_ (C.drop p) 0 = c := by rw [Cssp.at_drop, Nat.add_zero, Cssp.at_, List.getD_eq_getElem?_getD, List.getElem?_eq_getElem hp, hc]; rfl
        have htp := TailP.one C p hp
        rw [hac] at hst htp
        obtain ⟨X, hX⟩ : ∃ X, Cssp.one (C.drop p) = X := ⟨_, rfl⟩
        have hON := hide (rOne C p wr hcl2 hp hno X hX)
        rw [hX] at hst hle htp
        rw [List.length_drop] at hle
        obtain ⟨hk1, hk2, -⟩ := hle
        obtain ⟨W2, hW2⟩ : ∃ W2, Cssp.ends X c = W2 := ⟨_, rfl⟩
        have HEN := fun W => hide (rEnds X.x ((p + X.k : Nat) : Int) X.o X.i c X.k X.e W)
        have eX : (⟨X.x, X.k, X.o, X.i, X.e⟩ : Cssp.Th) = X := rfl
        rw [eX, hW2] at HEN
        rw [hW2] at hst htp
        rw [List.drop_drop] at hst htp
        obtain ⟨tl2, htl2⟩ : ∃ t, C.drop (p + X.e) = t := ⟨_, rfl⟩
        rw [List.drop_drop, htl2] at hst
        rw [htl2] at htp
        have HST := hide hst
        have HTP := hide htp
        obtain ⟨xx, xk, xo, xi, xe⟩ := X
        obtain ⟨WS', WQ'⟩ := W2
        simp only at hk1 hk2 hON HEN HST
        obtain ⟨P, hP⟩ : ∃ P, p + xk = P := ⟨_, rfl⟩
        rw [hP] at hON HEN
        have HST2 : Hid (Cssp.done (l ++ [xx]) (Cssp.lp (C.drop P) ⟨WS', WQ'⟩ tl2) (if WS' = 1 then C.drop P else C.drop r) = A) := by
          unfold Hid
          rw [← hP]
          exact HST.out
        have hPl : P ≤ C.length := by omega
        have hpP : p + 1 ≤ P := by omega
        clear hst htp hac hX hW2 eX htl2 hSt hTl hcm hne HST hk1 hk2 hP
        go_wp2_with fail
        refine hNC.out.mono ?_
        rintro e w' ⟨rfl, rfl⟩
        clear hNC
        go_wp2_with fail
        refine hON.out.mono ?_
        rintro e w5 ⟨rfl, hb5⟩
        have hw5 := Wx.below hWB.out hb5
        have hr5 := hR.out.below hb5
        have ho5 := ownsRow_below hown hb5
        have hbl5 := hBl.out.trans (hb5.mono hbs)
        have hs5 := hb5.size
        clear hON hb5 hown hWB hR hBl y0 y1 g0 g1 v0 v1 f0 f1
        -- the thing in its box
        have hxh := Xh.new w5 xx (P : Int) xo xi
        have hal5 := (Below.refl w5.heap.size w5).alloc (Nat.le_refl _) (.cells (cellsH xx (P : Int) xo xi) 59)
        go_upto_region 16 with (fail)
        change Code.wp _ _ _ _ (w5.alloc (.cells (cellsH xx (P : Int) xo xi) 59))
        generalize hgen : w5.alloc (.cells (cellsH xx (P : Int) xo xi) 59) = w6 at hxh hal5 ⊢
        clear hgen
        have hw6 := hw5.below hal5
        have hr6 := hr5.below hal5
        have ho6 := ownsRow_below ho5 hal5
        have hbl6 := hbl5.trans (hal5.mono (by omega))
        have hs6 := hal5.size
        have hrl := fun k hk => (ho5.lt k hk).2
        obtain ⟨B12, hB12⟩ : ∃ B, w5.heap.size = B := ⟨_, rfl⟩
        rw [hB12] at hxh hrl ⊢
        obtain ⟨x0, x1, x2, x3⟩ := xx
        obtain ⟨t0, t1, t2, t3, t4, t5, t6⟩ := hxh.cells
        simp only at t0 t1 t2 t3
        have HW6 := hide hw6
        have HR6 := hide hr6
        have HB6 := hide hbl6
        have HXH := hide hxh
        have hxtl := heap_lt hxh
        clear hw5 hr5 ho5 hbl5 hal5 hw6 hr6 hbl6 hxh hB12
        go_wp2_with (at_builtin; refine wpList_append_own _ rfl _ _ 23 rfl w.heap.size 27 i0 (.agg #[.int .u8 0, .string .empty, .string .empty, .bool false]) 4 48 Tryz.underlying23 hi hz0 hz1 hz2 rfl (by decide) _ _ _ rfl (ho6.alloc _) ⟨w6.heap.size, 0, none⟩ 1 1 [.int .u8 x0, S x1, S x2, .bool x3] rfl rfl (cell_four w6 27 (.int .u8 x0) (S x1) (S x2) (.bool x3)) ?c2 ?c3 ?c4 ?c5 ?_)
        case c2 =>
          intro u hu
          simp only [List.mem_cons, List.not_mem_nil, or_false] at hu
          rcases hu with rfl | rfl | rfl | rfl <;> rfl
        case c3 => unfold maxLen; omega
        case c4 => omega
        case c5 => have := HB6.out.size; simp; omega
        intro v' w8 hown' hgrow _
        have hn : ∀ k, k < w6.heap.size → (Value.slice ao l.length cap).ownBlock ≠ some k → w8.heap[k]? = w6.heap[k]? := fun k hk hne => (hgrow.block k (by simp; omega) (fun e => hne e.symm)).trans (Below.heap_alloc _ _ _ hk)
        have hnt : ∀ (k : Nat) (cs : Array Value) (ty : TypeId) (f : Nat × Nat), w6.heap[k]? = some (Obj.cells cs ty f) → ty ≠ 27 → w8.heap[k]? = w6.heap[k]? := fun k cs ty f hk hty => hn k (heap_lt hk) (fun e => by
          obtain ⟨c', hc'⟩ := ownsRow_kind ho6 k e
          rw [hk] at hc'
          injection hc' with hc'
          injection hc' with _ hc' _
          exact hty hc')
        have hw8 : Wx w8 Bw (WS : Int) (WQ.toNat : Int) := (hnt _ _ _ _ (show w6.heap[Bw]? = some (Obj.cells #[.int .u8 (WS : Int), .int .u8 (WQ.toNat : Int)] 36 (0, 0)) from HW6.out) (by decide)).trans HW6.out
        have hr8 : Wx w8 w.heap.size 0 0 := (hnt _ _ _ _ (show w6.heap[w.heap.size]? = some (Obj.cells #[.int .u8 0, .int .u8 0] 36 (0, 0)) from HR6.out) (by decide)).trans HR6.out
        have hxh8 : Xh w8 B12 ⟨x0, x1, x2, x3⟩ (P : Int) xo xi := (hn _ hxtl (fun e => absurd (hrl _ e) (Nat.lt_irrefl _))).trans HXH.out
        have hbl8 : Below w.heap.size w w8 := (HB6.out.alloc HB6.out.size _).grown hgrow (by have := HB6.out.size; simp; omega) (fun k hk => (ho6.lt k hk).1)
        have ho8 : w8.ownsRow w.heap.size 27 4 v' (l ++ [(⟨x0, x1, x2, x3⟩ : Cssp.Tk)]).length (tokCells (l ++ [(⟨x0, x1, x2, x3⟩ : Cssp.Tk)])) := by rw [tokCells_append, tokCells_one]; simpa using hown'
        clear hn hnt hown' hgrow ho6 hrl t0 t1 t2 t3 t4 t5 t6 HW6 HR6 HB6 HXH hxtl
        obtain ⟨t0, t1, t2, t3, t4, t5, t6⟩ := hxh8.cells
        simp only at t0 t1 t2 t3
        have HW8 := hide hw8
        have HR8 := hide hr8
        have HB8 := hide hbl8
        have HO8 := hide ho8
        have HX8 := hide hxh8
        have hs8 := hbl8.size
        have hw8l := heap_lt hw8
        have hr8l := heap_lt hr8
        have hx8l := heap_lt hxh8
        have hBne : Bw ≠ B12 := fun e => by
          have h1 : w8.heap[Bw]? = _ := hw8
          have h2 : w8.heap[B12]? = _ := hxh8
          rw [← e, h1] at h2
          injection h2 with h2
          injection h2 with _ h2 _
          exact absurd h2 (by decide)
        clear hw8 hr8 hbl8 ho8 hxh8
        go_upto_region 17 with (fail)
        have HFIN : ∀ w9, Below w8.heap.size w8 w9 → Hid (Wx ((w9.setCell ⟨Bw, 0, none⟩ (.int .u8 WS')).setCell ⟨Bw, 1, none⟩ (.int .u8 WQ'.toNat)) Bw (WS' : Int) (WQ'.toNat : Int) ∧ Wx ((w9.setCell ⟨Bw, 0, none⟩ (.int .u8 WS')).setCell ⟨Bw, 1, none⟩ (.int .u8 WQ'.toNat)) w.heap.size 0 0 ∧
            ((w9.setCell ⟨Bw, 0, none⟩ (.int .u8 WS')).setCell ⟨Bw, 1, none⟩ (.int .u8 WQ'.toNat)).ownsRow w.heap.size 27 4 v' (l ++ [(⟨x0, x1, x2, x3⟩ : Cssp.Tk)]).length (tokCells (l ++ [(⟨x0, x1, x2, x3⟩ : Cssp.Tk)])) ∧
            Below w.heap.size w ((w9.setCell ⟨Bw, 0, none⟩ (.int .u8 WS')).setCell ⟨Bw, 1, none⟩ (.int .u8 WQ'.toNat)) ∧ Xh ((w9.setCell ⟨Bw, 0, none⟩ (.int .u8 WS')).setCell ⟨Bw, 1, none⟩ (.int .u8 WQ'.toNat)) B12 ⟨x0, x1, x2, x3⟩ (P : Int) xo xi) := fun w9 hb9 => by
          have hw9 := HW8.out.below hb9
          have hr9 := HR8.out.below hb9
          have ho9 := ownsRow_below HO8.out hb9
          have hx9 := HX8.out.below hb9
          have hbl9 := HB8.out.trans (hb9.mono hs8)
          have hu := ((Upto.refl Bw w9).setCell 0 (.int .u8 WS')).setCell 1 (.int .u8 WQ'.toNat)
          refine ⟨(hw9.set0 _).set1 _, ?_, owns_upto ho9 hu (show w9.heap[Bw]? = _ from hw9) (by decide), (hbl9.setCell (p := ⟨Bw, 0, none⟩) (show w.heap.size ≤ Bw by omega) _).setCell (p := ⟨Bw, 1, none⟩) (show w.heap.size ≤ Bw by omega) _, ?_⟩
          · exact (hu.2 w.heap.size (heap_lt hr9) (by omega)).trans (show w9.heap[w.heap.size]? = _ from hr9)
          · exact (hu.2 B12 (heap_lt hx9) (Ne.symm hBne)).trans (show w9.heap[B12]? = _ from hx9)
        go_cut [] from 21 to 59 (fun wx => Hid (Wx wx Bw (WS' : Int) (WQ'.toNat : Int) ∧ Wx wx w.heap.size 0 0 ∧ wx.ownsRow w.heap.size 27 4 v' (l ++ [(⟨x0, x1, x2, x3⟩ : Cssp.Tk)]).length (tokCells (l ++ [(⟨x0, x1, x2, x3⟩ : Cssp.Tk)])) ∧ Below w.heap.size w wx ∧ Xh wx B12 ⟨x0, x1, x2, x3⟩ (P : Int) xo xi))
        case first =>
          have HCEL : ∀ w9, Below w8.heap.size w8 w9 → w9.cell? ⟨Bw, 0, none⟩ = some (.int .u8 (WS : Int)) ∧ w9.cell? ⟨Bw, 1, none⟩ = some (.int .u8 (WQ.toNat : Int)) ∧ w9.frozen? ⟨Bw, 0, none⟩ = false ∧ w9.frozen? ⟨Bw, 1, none⟩ = false := fun w9 hb9 => by
            have hw9 := HW8.out.below hb9
            exact ⟨hw9.cells.1, hw9.cells.2, hw9.frozen 0, hw9.frozen 1⟩
          go_region_with (((with_reducible refine (HEN _).out.mono ?_); rintro e w9 ⟨rfl, hb9⟩; have hb9' : Below w8.heap.size w8 w9 := Below.trans (by (repeat (first | (with_reducible exact Below.refl _ _) | (with_reducible assumption) | (with_reducible refine Below.drew ?_) | ((with_reducible refine Below.setCell ?_ ?_ _); rotate_left; (focus (first | omega | (simp; done) | (simp; omega)))) | ((with_reducible refine Below.alloc ?_ ?_ _); rotate_left; (focus (first | omega | (simp; done) | (simp; omega))))))) hb9; obtain ⟨y0, y1, g0, g1⟩ := HCEL w9 hb9'))
          all_goals
            go_wp2_with fail
            go_meet
            case rel => exact HFIN _ hb9'
        case rest =>
          have hcut2 := hcut
          unfold Hid at hcut2
          obtain ⟨p1, p2, p3, p4, p5⟩ := hcut2
          have P1 := hide (p := WB wc Bw ⟨WS', WQ'⟩) p1
          have P2 := hide p2
          have P3 := hide p3
          have P4 := hide p4
          obtain ⟨y0, y1⟩ := p1.cells
          obtain ⟨t0, t1, t2, t3, t4, t5, t6⟩ := p5.cells
          simp only at t0 t1 t2 t3
          have hll2 : (l ++ [(⟨x0, x1, x2, x3⟩ : Cssp.Tk)]).length ≤ P := by rw [List.length_append]; simp only [List.length_cons, List.length_nil]; omega
          clear hcut p1 p2 p3 p4 p5 HFIN HEN HW8 HR8 HB8 HO8 HX8
          by_cases hs1 : WS' = 1
          · have q1 : ((WS' : Int) == 1) = true := by rw [beq_iff_eq]; omega
            have hst := HST2.out
            rw [if_pos hs1] at hst
            have HST3 := hide hst
            clear hst HST2 hs1
            go_wp2_with fail
            go_roundg (gk - (P - p))
            case measure => omega
            case rel => exact ⟨l ++ [(⟨x0, x1, x2, x3⟩ : Cssp.Tk)], P, P, p, tl2, ⟨WS', WQ'⟩, by omega, hPl, hll2, by omega, rfl, rfl, rfl, P3.out, P1, P2, P4, HST3, HTP⟩
          · have q1 : ((WS' : Int) == 1) = false := by rw [beq_eq_false_iff_ne]; omega
            have hst := HST2.out
            rw [if_neg hs1] at hst
            have HST3 := hide hst
            clear hst HST2 hs1
            go_wp2_with fail
            go_roundg (gk - (P - p))
            case measure => omega
            case rel => exact ⟨l ++ [(⟨x0, x1, x2, x3⟩ : Cssp.Tk)], P, r, p, tl2, ⟨WS', WQ'⟩, by omega, hrl, hll2, by omega, rfl, rfl, rfl, P3.out, P1, P2, P4, HST3, HTP⟩
    · have b1 : ¬ (p : Int) < (C.length : Int) := by omega
      have hpl : p = C.length := by omega
      have hA := hSt.out
      rw [List.drop_eq_nil_of_le (show C.length ≤ p by omega), Cssp.done_nil] at hA
      by_cases hq : WQ = 0
      · have q1 : ((WQ.toNat : Int) == 0) = true := u8t hq
        rw [if_pos hq] at hA
        have HA := hide hA
        clear hA hSt hTl hq hpl
        go_wp2_with fail
        go_region
        have hpa := put_all hR.out hown hBl.out (Nat.le_refl _) ((WS : Int)) ((WQ.toNat : Int))
        generalize hgen : ((wr.setCell ⟨w.heap.size, 0, none⟩ (.int .u8 ((WS : Int)))).setCell ⟨w.heap.size, 1, none⟩ (.int .u8 ((WQ.toNat : Int)))).drew = wz at hpa ⊢
        clear hgen
        obtain ⟨hwz, hoz, hbz⟩ := hpa
        obtain ⟨z0, z1⟩ := hwz.cells
        have HOZ := hide hoz
        have HBZ := hide hbz
        clear hoz hbz hwz
        go_wp2_with fail
        refine bodyPost_ret (v := .tuple #[.slice ao l.length cap, WV ⟨WS, WQ⟩, S (C.drop r)]) (by simp [results, Tryz.results20, go_sem, z0, z1]) rfl ?_
        rw [← HA.out]
        exact ⟨.slice ao l.length cap, rfl, HOZ.out, HBZ.out⟩
      · have q1 : ((WQ.toNat : Int) == 0) = false := u8f hq
        rw [if_neg hq] at hA
        rcases hTl.out hq with h3 | ⟨h6, q, ho, htl⟩
        · obtain rfl : WS = 3 := h3
          have q2 : (((3 : Nat) : Int) == 3) = true := rfl
          rw [if_neg (show ¬ (3 : Nat) = 6 by decide)] at hA
          have HA := hide hA
          clear hA hSt hTl hq hpl
          go_wp2_with fail
          go_region
          have hpa := put_all hR.out hown hBl.out (Nat.le_refl _) (3) ((WQ.toNat : Int))
          generalize hgen : ((wr.setCell ⟨w.heap.size, 0, none⟩ (.int .u8 (3))).setCell ⟨w.heap.size, 1, none⟩ (.int .u8 ((WQ.toNat : Int)))).drew = wz at hpa ⊢
          clear hgen
          obtain ⟨hwz, hoz, hbz⟩ := hpa
          obtain ⟨z0, z1⟩ := hwz.cells
          have HOZ := hide hoz
          have HBZ := hide hbz
          clear hoz hbz hwz
          go_wp2_with fail
          refine bodyPost_ret (v := .tuple #[.slice ao l.length cap, WV ⟨3, WQ⟩, S ([])]) (by simp [results, Tryz.results20, go_sem, z0, z1]) rfl ?_
          rw [← HA.out]
          exact ⟨.slice ao l.length cap, rfl, HOZ.out, HBZ.out⟩
        · obtain rfl : WS = 6 := h6
          have q2 : (((6 : Nat) : Int) == 3) = false := rfl
          rw [if_pos rfl] at hA
          have HA := hide hA
          have HS := hide (And.intro ho htl)
          have hf1 : f + 1 ≤ C.length := by
            rcases Nat.lt_or_ge (f + 1) C.length with h | h
            · omega
            · rw [List.drop_eq_nil_of_le h] at ho; cases ho
          clear hA hSt hTl hq hpl ho htl
          go_wp2_with fail
          clear y0 y1 g0 g1 v0 v1 f0 f1
          go_loopg [13] (C.length - (f + 1)) (fun g s13 wx => ∃ k : Nat, s13 = .int .i64 k ∧ g + k = C.length ∧ wx.ownsRow w.heap.size 27 4 (.slice ao l.length cap) l.length (tokCells l) ∧ Hid (WB wx Bw ⟨6, WQ⟩) ∧ Hid (Wx wx w.heap.size 0 0) ∧ Hid (Below w.heap.size w wx) ∧
            Hid ((Cssp.textX q (C.drop k)).o = true ∧ tl = C.drop (k + (Cssp.textX q (C.drop k)).e)))
          case atStart => exact ⟨f + 1, by go_num, by omega, hown, hWB.out, hR.out, hBl.out, HS.out⟩
          case round =>
            obtain ⟨k, rfl, hgk, hown, hWB, hR, hBl, HS⟩ := hrel
            obtain ⟨ho, htl⟩ := HS.out
            have hk := Cssp.scan_end q C k ho
            have hst := Cssp.scan_step q C k ho
            have b1 : (k : Int) < (C.length : Int) := by omega
            have b0 : (0 : Int) ≤ (k : Int) := by omega
            have b2 : (k : Int) ≤ (C.length : Int) := by omega
            have hbs : w.heap.size ≤ wr.heap.size := hBl.out.size
            have HE := hide (rEscape C k wr (by omega) (by omega))
            obtain ⟨y0, y1⟩ := hWB.out.cells
            obtain ⟨v0, v1⟩ := hR.out.cells
            have f0 := hR.out.frozen 0
            have f1 := hR.out.frozen 1
            simp only at y0 y1
            cases he : Cssp.escAt C k with
            | true =>
              rw [he] at HE
              rw [he, if_pos rfl] at hst
              by_cases hl1 : k + 1 = C.length
              · have q3 : ((k : Int) + 1 == (C.length : Int)) = true := by rw [beq_iff_eq]; omega
                rw [if_pos hl1] at hst
                have htl2 : tl = C.drop k := by rw [htl, hst, Nat.add_zero]
                subst htl2
                clear hst ho htl he hl1 HS
                go_wp2_with fail
                refine HE.out.mono ?_
                rintro e w' ⟨rfl, rfl⟩
                go_wp2_with fail
                go_region
                have hpa := put_all hR.out hown hBl.out (Nat.le_refl _) (6) ((WQ.toNat : Int))
                generalize hgen : ((wr.setCell ⟨w.heap.size, 0, none⟩ (.int .u8 (6))).setCell ⟨w.heap.size, 1, none⟩ (.int .u8 ((WQ.toNat : Int)))).drew = wz at hpa ⊢
                clear hgen
                obtain ⟨hwz, hoz, hbz⟩ := hpa
                obtain ⟨z0, z1⟩ := hwz.cells
                have HOZ := hide hoz
                have HBZ := hide hbz
                clear hoz hbz hwz
                go_wp2_with fail
                refine bodyPost_ret (v := .tuple #[.slice ao l.length cap, WV ⟨6, WQ⟩, S (C.drop k)]) (by simp [results, Tryz.results20, go_sem, z0, z1]) rfl ?_
                rw [← HA.out]
                exact ⟨.slice ao l.length cap, rfl, HOZ.out, HBZ.out⟩
              · have q3 : ((k : Int) + 1 == (C.length : Int)) = false := by rw [beq_eq_false_iff_ne]; omega
                rw [if_neg hl1] at hst
                obtain ⟨E, hE⟩ : ∃ E, Cssp.esc (C.drop k) = E := ⟨_, rfl⟩
                have hEs := hide (rEscaped C k wr hcl2 hk E hE)
                have hE1 := Cssp.esc_pos (C.drop k)
                have hE2 := (Cssp.esc_len (C.drop k)).2 (by rw [List.length_drop]; omega)
                rw [hE] at hst hE1 hE2
                rw [List.length_drop] at hE2
                have hEk : k + E.k ≤ C.length := by omega
                obtain ⟨Et, Ek, Eo⟩ := E
                simp only at hst hE1 hEk hEs
                cases Eo with
                | true =>
                  rw [if_pos rfl] at hst
                  have htl2 : tl = C.drop k := by rw [htl, hst, Nat.add_zero]
                  subst htl2
                  clear hst ho htl he hl1 HS hE hE2 y0 y1 v0 v1 f0 f1
                  go_wp2_with fail
                  refine HE.out.mono ?_
                  rintro e w' ⟨rfl, rfl⟩
                  go_wp2_with fail
                  refine hEs.out.mono ?_
                  rintro e w5 ⟨rfl, hb5⟩
                  have hown5 := ownsRow_below hown hb5
                  have HWB5 := hide (p := Wx w5 Bw 6 (WQ.toNat : Int)) (Wx.below hWB.out hb5)
                  have HR5 := hide (hR.out.below hb5)
                  have HBl5 := hide (hBl.out.trans (hb5.mono hbs))
                  clear hb5 hown hWB hR hBl
                  obtain ⟨y0, y1⟩ := HWB5.out.cells
                  obtain ⟨v0, v1⟩ := HR5.out.cells
                  have f0 := HR5.out.frozen 0
                  have f1 := HR5.out.frozen 1
                  go_wp2_with fail
                  go_region
                  have hpa := put_all HR5.out hown5 HBl5.out (Nat.le_refl _) (6) ((WQ.toNat : Int))
                  generalize hgen : ((w5.setCell ⟨w.heap.size, 0, none⟩ (.int .u8 (6))).setCell ⟨w.heap.size, 1, none⟩ (.int .u8 ((WQ.toNat : Int)))).drew = wz at hpa ⊢
                  clear hgen
                  obtain ⟨hwz, hoz, hbz⟩ := hpa
                  obtain ⟨z0, z1⟩ := hwz.cells
                  have HOZ := hide hoz
                  have HBZ := hide hbz
                  clear hoz hbz hwz
                  go_wp2_with fail
                  refine bodyPost_ret (v := .tuple #[.slice ao l.length cap, WV ⟨6, WQ⟩, S (C.drop k)]) (by simp [results, Tryz.results20, go_sem, z0, z1]) rfl ?_
                  rw [← HA.out]
                  exact ⟨.slice ao l.length cap, rfl, HOZ.out, HBZ.out⟩
                | false =>
                  rw [if_neg (by decide)] at hst
                  have HS2 : Hid ((Cssp.textX q (C.drop (k + Ek))).o = true ∧ tl = C.drop (k + Ek + (Cssp.textX q (C.drop (k + Ek))).e)) := ⟨hst.1, by rw [htl, hst.2]; congr 1; omega⟩
                  clear hst ho htl he hl1 HS hE hE2 y0 y1 v0 v1 f0 f1
                  go_wp2_with fail
                  refine HE.out.mono ?_
                  rintro e w' ⟨rfl, rfl⟩
                  go_wp2_with fail
                  refine hEs.out.mono ?_
                  rintro e w5 ⟨rfl, hb5⟩
                  have hown5 := ownsRow_below hown hb5
                  have HWB5 := hide (p := Wx w5 Bw 6 (WQ.toNat : Int)) (Wx.below hWB.out hb5)
                  have HR5 := hide (hR.out.below hb5)
                  have HBl5 := hide (hBl.out.trans (hb5.mono hbs))
                  clear hb5 hown hWB hR hBl
                  go_wp2_with fail
                  go_roundg (gk - Ek)
                  case measure => omega
                  case rel => exact ⟨k + Ek, rfl, by omega, hown5, HWB5, HR5, HBl5, HS2⟩
            | false =>
              rw [he] at HE
              rw [he, if_neg (by decide)] at hst
              obtain ⟨c, hc⟩ : ∃ c, C[k] = c := ⟨_, rfl⟩
              have hac : Cssp.at_ C k = c := by rw [Cssp.at_, List.getD_eq_getElem?_getD, List.getElem?_eq_getElem hk, hc]; rfl
              rw [hac] at hst
              by_cases h92 : c = 92
              · have q3 : ((c.toNat : Int) == 92) = true := u8t h92
                rw [if_pos h92] at hst
                have HS2 : Hid ((Cssp.textX q (C.drop (k + 2))).o = true ∧ tl = C.drop (k + 2 + (Cssp.textX q (C.drop (k + 2))).e)) := ⟨hst.1, by rw [htl, hst.2]; congr 1; omega⟩
                have hk2 := Cssp.scan_end q C (k + 2) hst.1
                clear hst ho htl he HS hac h92
                go_wp2_with fail
                refine HE.out.mono ?_
                rintro e w' ⟨rfl, rfl⟩
                go_wp2_with fail
                go_roundg (gk - 2)
                case measure => omega
                case rel => exact ⟨k + 2, by go_num, by omega, hown, hWB, hR, hBl, HS2⟩
              · have q3 : ((c.toNat : Int) == 92) = false := u8f h92
                rw [if_neg h92] at hst
                have HS2 : Hid ((Cssp.textX q (C.drop (k + 1))).o = true ∧ tl = C.drop (k + 1 + (Cssp.textX q (C.drop (k + 1))).e)) := ⟨hst.1, by rw [htl, hst.2]; congr 1; omega⟩
                clear hst ho htl he HS hac h92
                go_wp2_with fail
                refine HE.out.mono ?_
                rintro e w' ⟨rfl, rfl⟩
                go_wp2_with fail
                go_roundg (gk - 1)
                case measure => omega
                case rel => exact ⟨k + 1, by go_num, by omega, hown, hWB, hR, hBl, HS2⟩
def AllQ (A : Cssp.Al) (w : World) (e : Ending) (w' : World) : Prop := ∃ v, e = .returned (.tuple #[v, WV A.w]) ∧ w'.ownsRow w.heap.size 27 4 v A.l.length (tokCells A.l) ∧ Below w.heap.size w w'
set_option maxRecDepth 100000 in
set_option maxHeartbeats 4000000 in
theorem rAll (s : List UInt8) (w : World) (hl : s.length ≤ 116000) : Calls Tryz.prog 19 #[S s] w (AllQ (Cssp.read s) w) := by
  have hal := (Below.refl w.heap.size w).alloc (Nat.le_refl _) (.cells #[.int .u8 0, .int .u8 0] 36)
  have hwx := Wx.new w 0 0
  have HT := hide (rWhole s (w.alloc (.cells #[.int .u8 0, .int .u8 0] 36)) hl)
  obtain ⟨A, hA⟩ : ∃ A, Cssp.read s = A := ⟨_, rfl⟩
  rw [hA] at HT
  rw [hA]
  clear hA
  obtain ⟨L, ⟨WS, WQ⟩, R⟩ := A
  go_enter Tryz.func19, Tryz.ntmps19
  go_wp2_with fail
  refine HT.out.mono ?_
  rintro e w1 ⟨v, rfl, ho, hb⟩
  have HW1 := hide (hwx.below hb)
  have HB1 := hide (hal.trans (hb.mono hal.size))
  obtain ⟨ao, cap, rfl⟩ : ∃ ao cap, v = .slice ao L.length cap := slice_of ho
  have hw2 := HW1.out.below ((Below.refl _ w1).alloc (Nat.le_refl _) (.cells #[.int .u8 WS, .int .u8 WQ.toNat] 36))
  have hb2 := HB1.out.alloc HB1.out.size (.cells #[.int .u8 WS, .int .u8 WQ.toNat] 36)
  have ho2 := ownsRow_base (ownsRow_below ho ((Below.refl _ w1).alloc (Nat.le_refl _) (.cells #[.int .u8 WS, .int .u8 WQ.toNat] 36))) hal.size
  have hn2 := Wx.new w1 (WS : Int) (WQ.toNat : Int)
  clear ho hb HT hal hwx HW1 HB1
  go_upto_region 2 with (fail)
  change Code.wp _ _ _ _ (w1.alloc (.cells #[.int .u8 WS, .int .u8 WQ.toNat] 36))
  generalize hgen : w1.alloc (.cells #[.int .u8 WS, .int .u8 WQ.toNat] 36) = w2 at hw2 hb2 hn2 ho2 ⊢
  clear hgen
  obtain ⟨y0, y1⟩ := hw2.cells
  obtain ⟨n0, n1⟩ := hn2.cells
  have g0 := hw2.frozen 0
  have g1 := hw2.frozen 1
  have HW2 := hide hw2
  have HB2 := hide hb2
  have HO2 := hide ho2
  clear hw2 hb2 hn2 ho2
  go_region
  have hpa := put_all HW2.out HO2.out HB2.out (Nat.le_refl _) (WS : Int) (WQ.toNat : Int)
  generalize hgen : ((w2.setCell ⟨w.heap.size, 0, none⟩ (.int .u8 (WS : Int))).setCell ⟨w.heap.size, 1, none⟩ (.int .u8 (WQ.toNat : Int))).drew = wz at hpa ⊢
  clear hgen
  obtain ⟨hwz, hoz, hbz⟩ := hpa
  obtain ⟨z0, z1⟩ := hwz.cells
  have HOZ := hide hoz
  have HBZ := hide hbz
  clear hoz hbz hwz y0 y1 g0 g1 n0 n1
  go_wp2_with fail
  refine bodyPost_ret (v := .tuple #[.slice ao L.length cap, WV ⟨WS, WQ⟩]) (by simp [results, Tryz.results19, go_sem, z0, z1]) rfl ?_
  exact ⟨.slice ao L.length cap, rfl, HOZ.out, HBZ.out⟩
set_option maxRecDepth 100000 in
set_option maxHeartbeats 2000000 in
theorem rTokens (s : List UInt8) (w : World) (hl : s.length ≤ 116000) : Calls Tryz.prog 12 #[S s] w (TokR (Cssp.read s).l w) := by
  have HT := hide (rAll s w hl)
  obtain ⟨A, hA⟩ : ∃ A, Cssp.read s = A := ⟨_, rfl⟩
  rw [hA] at HT
  rw [hA]
  clear hA
  obtain ⟨L, ⟨WS, WQ⟩, R⟩ := A
  go_enter Tryz.func12, Tryz.ntmps12
  go_wp2_with fail
  refine HT.out.mono ?_
  rintro e w1 ⟨v, rfl, ho, hb⟩
  have HO := hide (ownsRow_below ho ((Below.refl _ w1).alloc (Nat.le_refl _) (.cells #[.int .u8 WS, .int .u8 WQ.toNat] 36)))
  have HB := hide (hb.alloc hb.size (.cells #[.int .u8 WS, .int .u8 WQ.toNat] 36))
  obtain ⟨ao, cap, rfl⟩ : ∃ ao cap, v = .slice ao L.length cap := slice_of ho
  clear ho hb HT
  go_wp2_with fail
  go_ret
  exact ⟨_, rfl, HO.out, HB.out⟩
set_option maxRecDepth 100000 in
set_option maxHeartbeats 2000000 in
theorem rWhere (s : List UInt8) (w : World) (hl : s.length ≤ 116000) : Calls Tryz.prog 14 #[S s] w (Fresh (WV (Cssp.read s).w) w) := by
  have hal := (Below.refl w.heap.size w).alloc (Nat.le_refl _) (.cells #[.int .u8 0, .int .u8 0] 36)
  have hwx := Wx.new w 0 0
  have HT := hide (rAll s (w.alloc (.cells #[.int .u8 0, .int .u8 0] 36)) hl)
  obtain ⟨A, hA⟩ : ∃ A, Cssp.read s = A := ⟨_, rfl⟩
  rw [hA] at HT
  rw [hA]
  clear hA
  obtain ⟨L, ⟨WS, WQ⟩, R⟩ := A
  go_enter Tryz.func14, Tryz.ntmps14
  go_wp2_with fail
  refine HT.out.mono ?_
  rintro e w1 ⟨v, rfl, ho, hb⟩
  have HW1 := hide (hwx.below hb)
  have HB1 := hide (hal.trans (hb.mono hal.size))
  obtain ⟨ao, cap, rfl⟩ : ∃ ao cap, v = .slice ao L.length cap := slice_of ho
  have hw2 := HW1.out.below ((Below.refl _ w1).alloc (Nat.le_refl _) (.cells #[.int .u8 WS, .int .u8 WQ.toNat] 36))
  have hb2 := HB1.out.alloc HB1.out.size (.cells #[.int .u8 WS, .int .u8 WQ.toNat] 36)
  have hn2 := Wx.new w1 (WS : Int) (WQ.toNat : Int)
  clear ho hb HT hal hwx HW1 HB1
  go_upto_region 2 with (fail)
  change Code.wp _ _ _ _ (w1.alloc (.cells #[.int .u8 WS, .int .u8 WQ.toNat] 36))
  generalize hgen : w1.alloc (.cells #[.int .u8 WS, .int .u8 WQ.toNat] 36) = w2 at hw2 hb2 hn2 ⊢
  clear hgen
  obtain ⟨y0, y1⟩ := hw2.cells
  obtain ⟨n0, n1⟩ := hn2.cells
  have g0 := hw2.frozen 0
  have g1 := hw2.frozen 1
  obtain ⟨q0, q1⟩ := ((hw2.set0 (WS : Int)).set1 (WQ.toNat : Int)).cells
  have HB3 := hide ((hb2.setCell (p := ⟨w.heap.size, 0, none⟩) (Nat.le_refl _) (.int .u8 WS)).setCell (p := ⟨w.heap.size, 1, none⟩) (Nat.le_refl _) (.int .u8 WQ.toNat))
  clear hw2 hb2 hn2
  go_wp2_with fail
  refine bodyPost_ret (v := WV ⟨WS, WQ⟩) (by simp [results, Tryz.results14, go_sem, q0, q1]) rfl ⟨rfl, HB3.out⟩
set_option maxRecDepth 100000 in
set_option maxHeartbeats 2000000 in
theorem rRest (s : List UInt8) (w : World) (hl : s.length ≤ 116000) : Calls Tryz.prog 16 #[S s] w (Fresh (S (Cssp.read s).rest) w) := by
  have HT := hide (rWhole s w hl)
  obtain ⟨A, hA⟩ : ∃ A, Cssp.read s = A := ⟨_, rfl⟩
  rw [hA] at HT
  rw [hA]
  clear hA
  obtain ⟨L, ⟨WS, WQ⟩, R⟩ := A
  go_enter Tryz.func16, Tryz.ntmps16
  go_wp2_with fail
  refine HT.out.mono ?_
  rintro e w1 ⟨v, rfl, ho, hb⟩
  have HB := hide (hb.alloc hb.size (.cells #[.int .u8 WS, .int .u8 WQ.toNat] 36))
  obtain ⟨ao, cap, rfl⟩ : ∃ ao cap, v = .slice ao L.length cap := slice_of ho
  clear ho hb HT
  go_wp2_with fail
  go_ret
  exact ⟨rfl, HB.out⟩
theorem read_len (s : List UInt8) (hl : s.length ≤ 8192) : (Cssp.read s).l.length ≤ 1048576 := by
  have hd := Cssp.decode_len _ s (Nat.le_refl _)
  have hc := cleanC_len false (Cssp.decode s)
  obtain ⟨C, hC⟩ : ∃ C, Cssp.clean (Cssp.decode s) = C := ⟨_, rfl⟩
  have hcl : C.length ≤ 3 * (Cssp.decode s).length := by rw [← hC]; exact hc
  have h := Cssp.lp_len C.length C ⟨1, 0⟩ [] (Nat.le_refl _)
  unfold Cssp.read
  rw [hC, Cssp.all_l]
  omega
end Go.Proofs.YtojgcangnkjmjaaGreatDoor
namespace Go.Proofs.YtojgcangnkjmjaaGreatDoor
open Go.RowKit

/-- a slice's cells of the call's own, free to be written -/
def Wr (B : Nat) (a : Option Addr) (m : Nat) (wx : World) : Prop :=
  m = 0 ∨ ∃ g, a = some ⟨g, 0, none⟩ ∧ B ≤ g ∧ ∀ j, j < m → (∃ v, wx.cell? ⟨g, j, none⟩ = some v) ∧ wx.frozen? ⟨g, j, none⟩ = false
theorem tok_len (l : List Cssp.Tk) : (tokCells l).length = l.length * 4 := by
  induction l with
  | nil => rfl
  | cons x l ih => simp only [tokCells, List.flatMap_cons, List.length_append, List.length_cons, List.length_nil] at ih ⊢; omega
theorem Wr.of_own {w : World} {B : Nat} {a : Option Addr} {c : Nat} {l : List Cssp.Tk} (h : w.ownsRow B 27 4 (.slice a l.length c) l.length (tokCells l)) : Wr B a (l.length * 4) w := by
  have hlen := tok_len l
  rcases h.2 with ⟨_, h0⟩ | ⟨g, cap, cur, hv, hb, hh, hn, hcap, hsz, htake⟩
  · left; omega
  · right
    injection hv with h1 h2 h3
    refine ⟨g, h1, hb, fun j hj => ⟨?_, ?_⟩⟩
    · subst h1
      have := h.cellAt j (by omega)
      rw [this]
      exact ⟨_, List.getElem?_eq_getElem (by omega)⟩
    · unfold World.frozen?
      rw [hh]
      show (decide (0 ≤ j) && decide (j < 0)) = false
      simp
theorem cell_set {w : World} {a b : Addr} {v : Value} (h : ∃ u, w.cell? b = some u) : ∃ u, (w.setCell a v).cell? b = some u := by
  obtain ⟨u, hu⟩ := h
  by_cases e : a = b
  · subst e; exact ⟨v, World.cell?_setCell_same _ _ _ hu⟩
  · exact ⟨u, (World.cell?_setCell_other _ _ _ _ e).trans hu⟩
theorem Wr.set {w : World} {B : Nat} {a : Option Addr} {m : Nat} {p : Addr} {v : Value} (h : Wr B a m w) : Wr B a m (w.setCell p v) := by
  rcases h with h | ⟨g', h1, h2, h3⟩
  · exact .inl h
  · exact .inr ⟨g', h1, h2, fun j hj => ⟨cell_set (h3 j hj).1, by rw [World.frozen?_setCell]; exact (h3 j hj).2⟩⟩

set_option maxRecDepth 100000 in
set_option maxHeartbeats 4000000 in
theorem law_tokens (s : List UInt8) (w : World) (hs : s.length ≤ 9223372036854775807) (ht : Tab w) : Calls Tryz.prog 3 #[S s] w (Fresh (.bool true) w) := by
  have hlt := ht.lt
  have HW := hide (works_ w ht)
  go_enter Tryz.func3, Tryz.ntmps3
  go_wp2_with fail
  refine HW.out.mono ?_
  rintro e w1 ⟨rfl, hb1⟩
  have HB1 := hide hb1
  have ht1 := ht.below (by omega) hb1
  have HT1 := hide ht1
  have hsz1 := hb1.size
  clear HW hb1 ht1
  by_cases hlen : 8192 < s.length
  · have d1 : (8192 : Int) < (s.length : Int) := by omega
    go_wp2_with fail
    go_ret
    exact ⟨rfl, HB1.out⟩
  have d1 : decide ((8192 : Int) < (s.length : Int)) = false := by rw [decide_eq_false_iff_not]; omega
  have HK := fun W (hT : Tab W) => hide (tokens_ s W hT (by omega))
  have HR := fun W => hide (rTokens s W (by omega))
  obtain ⟨R, hR⟩ : ∃ R, (Cssp.read s).l = R := ⟨_, rfl⟩
  rw [hR] at HK HR
  have hRl : R.length ≤ 1048576 := by
    rw [← hR]
    exact read_len s (by omega)
  have HK1 := HK w1 HT1.out
  clear hR
  go_wp2_with fail
  refine Calls.mono HK1.out ?_
  rintro e w2 ⟨v2, rfl, own2, hb2⟩
  have r2 := hide (RT.of_own own2)
  have HB2 := hide (HB1.out.trans (hb2.mono hsz1))
  have HT2 := hide (HT1.out.below (by omega) hb2)
  have HK2 := HK w2 HT2.out
  have hsz2 := HB2.out.size
  clear own2 hb2 HK1 HK HB1 HT1
  go_wp2_with fail
  refine Calls.mono HK2.out ?_
  rintro e w3 ⟨v3, rfl, own3, hb3⟩
  obtain ⟨a3, c3, rfl⟩ := slice_of own3
  have wr3 := hide (Wr.of_own own3)
  have HB3 := hide hb3
  clear own3 hb3 HK2
  go_wp2_with fail
  go_loopg [6] R.length (fun g s6 wx => ∃ i : Nat, i + g = R.length ∧ s6 = .int .i64 i ∧ Hid (Wr w2.heap.size a3 (R.length * 4) wx) ∧ Hid (Below w2.heap.size w2 wx))
  case atStart => exact ⟨0, by omega, rfl, wr3, HB3⟩
  case round =>
    obtain ⟨i, hi, rfl, hwr, hbl⟩ := hrel
    by_cases hlt : i < R.length
    · rcases hwr.out with h0 | ⟨g, rfl, hg, hc⟩
      · omega
      · obtain ⟨⟨u0, h0⟩, f0⟩ := hc (i * 4) (by omega)
        obtain ⟨⟨u1, h1⟩, f1⟩ := hc (i * 4 + 1) (by omega)
        obtain ⟨⟨u2, h2⟩, f2⟩ := hc (i * 4 + 2) (by omega)
        obtain ⟨⟨u3, h3⟩, f3⟩ := hc (i * 4 + 3) (by omega)
        clear hc HR
        go_wp2_with fail
        go_roundg (gk - 1)
        case measure => omega
        case rel => exact ⟨i + 1, by omega, by go_num, hwr.out.set.set.set.set, (((hbl.out.setCell hg _).setCell hg _).setCell hg _).setCell hg _⟩
    · have r3 := hide (r2.out.below hbl.out)
      have HB4 := hide (HB2.out.trans (hbl.out.mono hsz2))
      have HR4 := HR wr
      clear hwr wr3 HB3 r2 hbl HR
      go_wp2_with fail
      refine Calls.mono HR4.out ?_
      rintro e w4 ⟨v4, rfl, own4, hb4⟩
      have HS := hide (same_any v2 v4 R R w4 (r3.out.below hb4) (RT.of_own own4) (by unfold maxLen; omega) (by unfold maxLen; omega))
      rw [decide_eq_true rfl] at HS
      have HB5 := hide (HB4.out.trans (hb4.mono HB4.out.size))
      clear own4 hb4 r3 HB4 HR4
      go_wp2_with fail
      refine Calls.mono HS.out ?_
      rintro e w5 ⟨rfl, hd5⟩
      have HB6 := hide (HB5.out.trans ((below_drawn hd5).mono HB5.out.size))
      clear hd5 HS
      go_wp2_with fail
      go_ret
      exact ⟨rfl, HB6.out⟩
set_option maxRecDepth 100000 in
set_option maxHeartbeats 4000000 in
theorem law_wheres (s : List UInt8) (w : World) (hs : s.length ≤ 9223372036854775807) (ht : Tab w) : Calls Tryz.prog 5 #[S s] w (Fresh (.bool true) w) := by
  have hlt := ht.lt
  have HW := hide (works_ w ht)
  go_enter Tryz.func5, Tryz.ntmps5
  go_wp2_with fail
  refine HW.out.mono ?_
  rintro e w1 ⟨rfl, hb1⟩
  have HB1 := hide hb1
  have ht1 := ht.below (by omega) hb1
  have HT1 := hide ht1
  have hsz1 := hb1.size
  clear HW hb1 ht1
  by_cases hlen : 8192 < s.length
  · have d1 : (8192 : Int) < (s.length : Int) := by omega
    go_wp2_with fail
    go_ret
    exact ⟨rfl, HB1.out⟩
  have d1 : decide ((8192 : Int) < (s.length : Int)) = false := by rw [decide_eq_false_iff_not]; omega
  have K1 := hide (where_ s w1 HT1.out (by omega))
  have K2 := fun W => hide (rWhere s W (by omega))
  have K3 := fun W (hT : Tab W) => hide (rest_ s W hT (by omega))
  have K4 := fun W => hide (rRest s W (by omega))
  obtain ⟨A, hA⟩ : ∃ A, Cssp.read s = A := ⟨_, rfl⟩
  rw [hA] at K1 K2 K3 K4
  clear hA
  obtain ⟨L, ⟨q, u⟩, r⟩ := A
  have HEQ := fun W => where_eql (q : Int) (u.toNat : Int) (q : Int) (u.toNat : Int) W
  go_wp2_with fail
  refine Calls.mono K1.out ?_
  rintro e w2 ⟨rfl, hb2⟩
  have HB2 := hide (HB1.out.trans (hb2.mono hsz1))
  have HT2 := hide (HT1.out.below (by omega) hb2)
  have hsz2 := HB2.out.size
  have K2' := K2 w2
  clear hb2 K1 K2 HB1 HT1
  go_wp2_with fail
  refine Calls.mono K2'.out ?_
  rintro e w3 ⟨rfl, hb3⟩
  have HB3 := hide (HB2.out.trans (hb3.mono hsz2))
  have HT3 := hide (HT2.out.below (by have := HT2.out.lt; omega) hb3)
  have K3' := K3 w3 HT3.out
  clear hb3 K2' K3 HB2 HT2
  go_wp2_with fail
  refine Calls.mono K3'.out ?_
  rintro e w4 ⟨rfl, hb4⟩
  have HB4 := hide (HB3.out.trans (hb4.mono HB3.out.size))
  have K4' := K4 w4
  clear hb4 K3' K4 HB3 HT3 HEQ
  go_wp2_with fail
  refine Calls.mono K4'.out ?_
  rintro e w5 ⟨rfl, hb5⟩
  have HB5 := hide (HB4.out.trans (hb5.mono HB4.out.size))
  clear hb5 K4' HB4
  go_wp2_with fail
  go_ret
  exact ⟨by simp, HB5.out⟩
end Go.Proofs.YtojgcangnkjmjaaGreatDoor
