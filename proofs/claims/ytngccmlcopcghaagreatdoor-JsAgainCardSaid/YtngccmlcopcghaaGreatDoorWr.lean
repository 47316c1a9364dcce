/- What all gives up is recovered. -/
import Derived.Test.YtngccmlcopcghaaGreatDoorWq
import Derived.Defers
import Derived.Recover
namespace Go.Proofs.YtngccmlcopcghaaGreatDoor
open Go.RowKit

/-- what the call's four results hold -/
structure Rs4 (w : World) (B : Nat) (v : Value) (e a : Int) (x : Wx) : Prop where
  h2 : w.heap[B]? = some (.cells #[v] 23 (0, 0))
  h3 : w.heap[B + 1]? = some (.cells #[.int .i64 e] 24 (0, 0))
  h4 : w.heap[B + 2]? = some (.cells #[.int .i64 a] 3 (0, 0))
  h5 : w.heap[B + 3]? = some (.cells (WxL x).toArray 36 (0, 0))
/-- without a state: broken -/
def shown (x : Wx) : Wx := if x.s = 0 then ⟨9, 0, false, false, []⟩ else x
section
variable {w : World} {B : Nat} {v : Value} {e a : Int} {x : Wx}
theorem Rs4.cells (h : Rs4 w B v e a x) : w.cell? ⟨B, 0, none⟩ = some v ∧ w.cell? ⟨B + 1, 0, none⟩ = some (.int .i64 e) ∧ w.cell? ⟨B + 2, 0, none⟩ = some (.int .i64 a) ∧
    w.cell? ⟨B + 3, 0, none⟩ = some (.int .u8 (x.s : Int)) ∧ w.cell? ⟨B + 3, 1, none⟩ = some (.int .u8 (x.q : Int)) ∧ w.cell? ⟨B + 3, 2, none⟩ = some (.bool x.c) ∧ w.cell? ⟨B + 3, 3, none⟩ = some (.bool x.g) ∧ w.cell? ⟨B + 3, 4, none⟩ = some (S x.k) := by
  refine ⟨?_, ?_, ?_, ?_, ?_, ?_, ?_, ?_⟩
  · rw [Lib.cell_of_heap h.h2]; rfl
  · rw [Lib.cell_of_heap h.h3]; rfl
  · rw [Lib.cell_of_heap h.h4]; rfl
  all_goals (rw [Lib.cell_of_heap h.h5]; rfl)
theorem Rs4.frozen (h : Rs4 w B v e a x) : (∀ j, w.frozen? ⟨B, j, none⟩ = false) ∧ (∀ j, w.frozen? ⟨B + 1, j, none⟩ = false) ∧ (∀ j, w.frozen? ⟨B + 2, j, none⟩ = false) ∧ (∀ j, w.frozen? ⟨B + 3, j, none⟩ = false) := by
  obtain ⟨h2, h3, h4, h5⟩ := h
  refine ⟨fun j => ?_, fun j => ?_, fun j => ?_, fun j => ?_⟩
  · simp [World.frozen?, h2]
  · simp [World.frozen?, h3]
  · simp [World.frozen?, h4]
  · simp [World.frozen?, h5]
theorem Rs4.below {w' : World} (h : Rs4 w B v e a x) (hb : Below w.heap.size w w') : Rs4 w' B v e a x :=
  ⟨(hb.block _ (heap_lt h.h2)).trans h.h2, (hb.block _ (heap_lt h.h3)).trans h.h3, (hb.block _ (heap_lt h.h4)).trans h.h4, (hb.block _ (heap_lt h.h5)).trans h.h5⟩
end
/-- five cells stored one by one -/
def put5 (w : World) (N : Nat) (y : Wx) : World := ((((w.setCell ⟨N, 0, none⟩ (.int .u8 (y.s : Int))).setCell ⟨N, 1, none⟩ (.int .u8 (y.q : Int))).setCell ⟨N, 2, none⟩ (.bool y.c)).setCell ⟨N, 3, none⟩ (.bool y.g)).setCell ⟨N, 4, none⟩ (S y.k)
theorem put5_other {w : World} {N j : Nat} (h : j ≠ N) (y : Wx) : (put5 w N y).heap[j]? = w.heap[j]? := by
  unfold put5
  rw [Below.heap_setCell _ _ _ _ h, Below.heap_setCell _ _ _ _ h, Below.heap_setCell _ _ _ _ h, Below.heap_setCell _ _ _ _ h, Below.heap_setCell _ _ _ _ h]
theorem put5_heap {w : World} {N : Nat} {a b c d e : Value} {t : TypeId} (h : w.heap[N]? = some (.cells #[a, b, c, d, e] t (0, 0))) (y : Wx) : (put5 w N y).heap[N]? = some (.cells (WxL y).toArray t (0, 0)) := by
  simp [put5, World.setCell, Array.getElem?_modify, h]
theorem put5_below {a w : World} {K N : Nat} (h : Below K a w) (hN : K ≤ N) (y : Wx) : Below K a (put5 w N y) := Below.setCell (Below.setCell (Below.setCell (Below.setCell (Below.setCell h (p := ⟨N, 0, none⟩) hN _) (p := ⟨N, 1, none⟩) hN _) (p := ⟨N, 2, none⟩) hN _) (p := ⟨N, 3, none⟩) hN _) (p := ⟨N, 4, none⟩) hN _
theorem Rs4.put5 {w : World} {B : Nat} {v : Value} {e a : Int} {x : Wx} (h : Rs4 w B v e a x) (y : Wx) : Rs4 (put5 w (B + 3) y) B v e a y :=
  ⟨(put5_other (by omega) y).trans h.h2, (put5_other (by omega) y).trans h.h3, (put5_other (by omega) y).trans h.h4, put5_heap h.h5 y⟩
theorem one_set {w : World} {N : Nat} {u v : Value} {t : TypeId} (h : w.heap[N]? = some (.cells #[u] t (0, 0))) : (w.setCell ⟨N, 0, none⟩ v).heap[N]? = some (.cells #[v] t (0, 0)) := by
  simp [World.setCell, Array.getElem?_modify, h]
theorem Rs4.put3 {w : World} {B : Nat} {v : Value} {e a : Int} {x : Wx} (h : Rs4 w B v e a x) (v' : Value) (e' a' : Int) : Rs4 (((w.setCell ⟨B, 0, none⟩ v').setCell ⟨B + 1, 0, none⟩ (.int .i64 e')).setCell ⟨B + 2, 0, none⟩ (.int .i64 a')) B v' e' a' x := by
  have o : ∀ (W : World) (k j : Nat) (u : Value), j ≠ k → (W.setCell ⟨k, 0, none⟩ u).heap[j]? = W.heap[j]? := fun W k j u hj => Below.heap_setCell W ⟨k, 0, none⟩ u j hj
  refine ⟨?_, ?_, ?_, ?_⟩
  · rw [o _ _ _ _ (by omega), o _ _ _ _ (by omega)]; exact one_set h.h2
  · rw [o _ _ _ _ (by omega)]; exact one_set ((o _ _ _ _ (by omega)).trans h.h3)
  · exact one_set ((o _ _ _ _ (by omega)).trans ((o _ _ _ _ (by omega)).trans h.h4))
  · rw [o _ _ _ _ (by omega), o _ _ _ _ (by omega), o _ _ _ _ (by omega)]; exact h.h5
theorem put3_below {a w : World} {K B : Nat} (h : Below K a w) (hB : K ≤ B) (v' : Value) (e' a' : Int) : Below K a (((w.setCell ⟨B, 0, none⟩ v').setCell ⟨B + 1, 0, none⟩ (.int .i64 e')).setCell ⟨B + 2, 0, none⟩ (.int .i64 a')) :=
  ((h.setCell (p := ⟨B, 0, none⟩) hB _).setCell (p := ⟨B + 1, 0, none⟩) (by show K ≤ B + 1; omega) _).setCell (p := ⟨B + 2, 0, none⟩) (by show K ≤ B + 2; omega) _
theorem Rs4.drew {w : World} {B : Nat} {v : Value} {e a : Int} {x : Wx} (h : Rs4 w B v e a x) : Rs4 w.drew B v e a x := ⟨h.h2, h.h3, h.h4, h.h5⟩
theorem seven {w : World} {N : Nat} {a b c d e f g : Value} {t : TypeId} (h : w.heap[N]? = some (.cells #[a, b, c, d, e, f, g] t (0, 0))) :
    w.cell? ⟨N, 0, none⟩ = some a ∧ w.cell? ⟨N, 1, none⟩ = some b ∧ w.cell? ⟨N, 2, none⟩ = some c ∧ w.cell? ⟨N, 3, none⟩ = some d ∧ w.cell? ⟨N, 4, none⟩ = some e ∧ w.cell? ⟨N, 5, none⟩ = some f ∧ w.cell? ⟨N, 6, none⟩ = some g := by
  refine ⟨?_, ?_, ?_, ?_, ?_, ?_, ?_⟩ <;> (rw [Lib.cell_of_heap h]; rfl)
set_option maxHeartbeats 4000000 in
set_option maxRecDepth 100000 in
theorem all_caught (B : Nat) (v : Value) (e0 a0 : Int) (x0 : Wx) (w : World) (h : Rs4 w B v e0 a0 x0) (er at' : Nat) (x : Wx) :
    CallsD Tryz.prog 18 #[.pointer (some ⟨B, 0, none⟩), .pointer (some ⟨B + 1, 0, none⟩), .pointer (some ⟨B + 2, 0, none⟩), .pointer (some ⟨B + 3, 0, none⟩)] (.panicking [{ v := wrongV er at' x, recovered := false }]) w fun e u' w' =>
      e = .returned (.tuple #[]) ∧ u' = .panicking [{ v := wrongV er at' x, recovered := true }] ∧ Rs4 w' B (.slice none 0 0) er at' (shown x) ∧ Below B w w' := by
  have HH := hide h
  clear h
  refine callsD_of_wpS Tryz.func18 rfl fun c₀ cs hu => ?_
  apply wpS_seq
  apply wpS_region
  simp only [Tryz.ntmps18, List.size_toArray, List.length_cons, List.length_nil, Nat.reduceAdd, Nat.reduceSub, Array.replicate_succ, Array.replicate_zero, List.push_toArray, List.append_toArray, List.nil_append, List.cons_append]
  simp [wpOpsS, go_sem, recoverD, hu, Exit.thenS]
  have hta : ∀ W : World, Sem.run Tryz.prog (Instr.typeAssert (wrongV er at' x) 20 52 true) W = .ok (.tuple #[.agg #[.int .i64 (er : Int), .int .i64 (at' : Int), .int .u8 (x.s : Int), .int .u8 (x.q : Int), .bool x.c, .bool x.g, S x.k], .bool true]) W := fun W => by kernel_rfl
  refine wpS_of_wp ?_
  go_wp2_with fail
  have hal := (Below.refl w.heap.size w).alloc (Nat.le_refl _) (.cells #[.int .i64 (er : Int), .int .i64 (at' : Int), .int .u8 (x.s : Int), .int .u8 (x.q : Int), .bool x.c, .bool x.g, S x.k] 52)
  have h1 := HH.out.below hal
  have hn := heap_alloc_last w (.cells #[.int .i64 (er : Int), .int .i64 (at' : Int), .int .u8 (x.s : Int), .int .u8 (x.q : Int), .bool x.c, .bool x.g, S x.k] 52)
  have hlt : B + 3 < w.heap.size := heap_lt HH.out.h5
  generalize w.alloc (.cells #[.int .i64 (er : Int), .int .i64 (at' : Int), .int .u8 (x.s : Int), .int .u8 (x.q : Int), .bool x.c, .bool x.g, S x.k] 52) = w1 at hal h1 hn ⊢
  generalize hN : w.heap.size = N at hn hlt ⊢
  obtain ⟨c2, c3, c4, d0, d1, d2, d3, d4⟩ := h1.cells
  obtain ⟨f2, f3, f4, f5⟩ := h1.frozen
  have g2 := f2 0
  have g3 := f3 0
  have g4 := f4 0
  have g50 := f5 0
  have g51 := f5 1
  have g52 := f5 2
  have g53 := f5 3
  have g54 := f5 4
  obtain ⟨z0, z1, z2, z3, z4, z5, z6⟩ := seven hn
  have H1 := hide h1
  have HAL := hide hal
  clear f2 f3 f4 f5 h1 hn hal
  go_region
  have hr3 := ((H1.out.put3 (.slice none 0 0) (er : Int) (at' : Int)).put5 x).drew
  have hb3 := (put5_below (put3_below (HAL.out.mono (show B ≤ w.heap.size by omega)) (Nat.le_refl _) (.slice none 0 0) (er : Int) (at' : Int)) (show B ≤ B + 3 by omega) x).drew
  unfold put5 at hr3 hb3
  generalize ((((((((w1.setCell ⟨B, 0, none⟩ (.slice none 0 0)).setCell ⟨B + 1, 0, none⟩ (.int .i64 (er : Int))).setCell ⟨B + 2, 0, none⟩ (.int .i64 (at' : Int))).setCell ⟨B + 3, 0, none⟩ (.int .u8 (x.s : Int))).setCell ⟨B + 3, 1, none⟩ (.int .u8 (x.q : Int))).setCell ⟨B + 3, 2, none⟩ (.bool x.c)).setCell ⟨B + 3, 3, none⟩ (.bool x.g)).setCell ⟨B + 3, 4, none⟩ (S x.k)).drew = w2 at hr3 hb3 ⊢
  clear c2 c3 c4 d0 d1 d2 d3 d4 g2 g3 g4 g50 g51 g52 g53 g54 z0 z1 z2 z3 z4 z5 z6 HAL H1 hlt hN
  obtain ⟨c2, c3, c4, d0, d1, d2, d3, d4⟩ := hr3.cells
  obtain ⟨f2, f3, f4, f5⟩ := hr3.frozen
  have g50 := f5 0
  have g51 := f5 1
  have g52 := f5 2
  have g53 := f5 3
  have g54 := f5 4
  have H3 := hide hr3
  have HB3 := hide hb3
  clear f2 f3 f4 f5 hr3 hb3
  by_cases hs : x.s = 0
  · have q : ((x.s : Int) == 0) = true := by rw [hs]; rfl
    have HS := hide (show shown x = ⟨9, 0, false, false, []⟩ from if_pos hs)
    clear hs
    go_wp2_with fail
    refine ⟨rfl, _, rfl, .tuple #[], by simp [results, Tryz.results18, go_sem], rfl, rfl, ?_, ?_⟩
    · rw [HS.out]
      exact H3.out.put5 ⟨9, 0, false, false, []⟩
    · exact put5_below HB3.out (by omega) ⟨9, 0, false, false, []⟩
  · have q : ((x.s : Int) == 0) = false := by rw [beq_eq_false_iff_ne]; omega
    have HS := hide (show shown x = x from if_neg hs)
    clear hs
    go_wp2_with fail
    refine ⟨rfl, _, rfl, .tuple #[], by simp [results, Tryz.results18, go_sem], rfl, rfl, ?_, ?_⟩
    · rw [HS.out]
      exact H3.out
    · exact HB3.out

set_option maxHeartbeats 4000000 in
set_option maxRecDepth 100000 in
theorem all_idle (B : Nat) (w : World) :
    CallsD Tryz.prog 18 #[.pointer (some ⟨B, 0, none⟩), .pointer (some ⟨B + 1, 0, none⟩), .pointer (some ⟨B + 2, 0, none⟩), .pointer (some ⟨B + 3, 0, none⟩)] .returning w fun e u' w' => e = .returned (.tuple #[]) ∧ u' = .returning ∧ w = w' := by
  refine callsD_of_wpS Tryz.func18 rfl fun c₀ cs hu => ?_
  apply wpS_seq
  apply wpS_region
  simp only [Tryz.ntmps18, List.size_toArray, List.length_cons, List.length_nil, Nat.reduceAdd, Nat.reduceSub, Array.replicate_succ, Array.replicate_zero, List.push_toArray, List.append_toArray, List.nil_append, List.cons_append]
  simp [wpOpsS, go_sem, recoverD, hu, Exit.thenS]
  refine wpS_of_wp ?_
  go_wp2
  refine ⟨rfl, .returning, by rw [← hu], .tuple #[], by simp [results, Tryz.results18, go_sem], rfl, rfl, rfl⟩
end Go.Proofs.YtngccmlcopcghaaGreatDoor
