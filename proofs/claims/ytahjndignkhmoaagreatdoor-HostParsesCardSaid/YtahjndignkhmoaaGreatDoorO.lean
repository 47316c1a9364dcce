/- An address of eight numbers, read: what gives up is recovered. -/
import Derived.Test.YtahjndignkhmoaaGreatDoorN
import Derived.Defers
import Derived.Recover
namespace Go.Proofs.YtahjndignkhmoaaGreatDoor
open Go.RowKit

abbrev Z8 : Array Value := #[U16 0, U16 0, U16 0, U16 0, U16 0, U16 0, U16 0, U16 0]
/-- what the call's two results hold -/
def Res2 (w : World) (B : Nat) (C : Array Value) (n : Int) : Prop := w.heap[B]? = some (.cells C 25 (0, 0)) ∧ w.heap[B + 1]? = some (.cells #[.int .i64 n] 29 (0, 0))

/-- eight cells stored one by one -/
def put8 (w : World) (B : Nat) (v0 v1 v2 v3 v4 v5 v6 v7 : Value) : World := ((((((((w.setCell ⟨B, 0, none⟩ v0).setCell ⟨B, 1, none⟩ v1).setCell ⟨B, 2, none⟩ v2).setCell ⟨B, 3, none⟩ v3).setCell ⟨B, 4, none⟩ v4).setCell ⟨B, 5, none⟩ v5).setCell ⟨B, 6, none⟩ v6).setCell ⟨B, 7, none⟩ v7)
theorem put8_heap {w : World} {B : Nat} {T : TypeId} {a0 a1 a2 a3 a4 a5 a6 a7 : Value} (h : w.heap[B]? = some (Obj.cells #[a0, a1, a2, a3, a4, a5, a6, a7] T (0, 0))) (v0 v1 v2 v3 v4 v5 v6 v7 : Value) :
    (put8 w B v0 v1 v2 v3 v4 v5 v6 v7).heap[B]? = some (Obj.cells #[v0, v1, v2, v3, v4, v5, v6, v7] T (0, 0)) := by
  unfold put8
  replace h := row_set h 0 v0
  rw [show (#[a0, a1, a2, a3, a4, a5, a6, a7] : Array Value).setIfInBounds 0 v0 = #[v0, a1, a2, a3, a4, a5, a6, a7] from rfl] at h
  replace h := row_set h 1 v1
  rw [show (#[v0, a1, a2, a3, a4, a5, a6, a7] : Array Value).setIfInBounds 1 v1 = #[v0, v1, a2, a3, a4, a5, a6, a7] from rfl] at h
  replace h := row_set h 2 v2
  rw [show (#[v0, v1, a2, a3, a4, a5, a6, a7] : Array Value).setIfInBounds 2 v2 = #[v0, v1, v2, a3, a4, a5, a6, a7] from rfl] at h
  replace h := row_set h 3 v3
  rw [show (#[v0, v1, v2, a3, a4, a5, a6, a7] : Array Value).setIfInBounds 3 v3 = #[v0, v1, v2, v3, a4, a5, a6, a7] from rfl] at h
  replace h := row_set h 4 v4
  rw [show (#[v0, v1, v2, v3, a4, a5, a6, a7] : Array Value).setIfInBounds 4 v4 = #[v0, v1, v2, v3, v4, a5, a6, a7] from rfl] at h
  replace h := row_set h 5 v5
  rw [show (#[v0, v1, v2, v3, v4, a5, a6, a7] : Array Value).setIfInBounds 5 v5 = #[v0, v1, v2, v3, v4, v5, a6, a7] from rfl] at h
  replace h := row_set h 6 v6
  rw [show (#[v0, v1, v2, v3, v4, v5, a6, a7] : Array Value).setIfInBounds 6 v6 = #[v0, v1, v2, v3, v4, v5, v6, a7] from rfl] at h
  replace h := row_set h 7 v7
  rw [show (#[v0, v1, v2, v3, v4, v5, v6, a7] : Array Value).setIfInBounds 7 v7 = #[v0, v1, v2, v3, v4, v5, v6, v7] from rfl] at h
  exact h
theorem put8_below {a w : World} {K B : Nat} (h : Below K a w) (hB : K ≤ B) (v0 v1 v2 v3 v4 v5 v6 v7 : Value) : Below K a (put8 w B v0 v1 v2 v3 v4 v5 v6 v7) := (Below.setCell (Below.setCell (Below.setCell (Below.setCell (Below.setCell (Below.setCell (Below.setCell (Below.setCell h (p := ⟨B, 0, none⟩) hB v0) (p := ⟨B, 1, none⟩) hB v1) (p := ⟨B, 2, none⟩) hB v2) (p := ⟨B, 3, none⟩) hB v3) (p := ⟨B, 4, none⟩) hB v4) (p := ⟨B, 5, none⟩) hB v5) (p := ⟨B, 6, none⟩) hB v6) (p := ⟨B, 7, none⟩) hB v7)
theorem put8_other {w : World} {B k : Nat} (hk : k ≠ B) (v0 v1 v2 v3 v4 v5 v6 v7 : Value) : (put8 w B v0 v1 v2 v3 v4 v5 v6 v7).heap[k]? = w.heap[k]? := by
  unfold put8
  rw [Below.heap_setCell _ _ _ _ hk, Below.heap_setCell _ _ _ _ hk, Below.heap_setCell _ _ _ _ hk, Below.heap_setCell _ _ _ _ hk, Below.heap_setCell _ _ _ _ hk, Below.heap_setCell _ _ _ _ hk, Below.heap_setCell _ _ _ _ hk, Below.heap_setCell _ _ _ _ hk]

theorem cells8 {w : World} {B : Nat} {C : Array Value} {T : TypeId} (hC : C.size = 8) (h : w.heap[B]? = some (.cells C T (0, 0))) :
    (∃ a0 a1 a2 a3 a4 a5 a6 a7, C = #[a0, a1, a2, a3, a4, a5, a6, a7] ∧ w.cell? ⟨B, 0, none⟩ = some a0 ∧ w.cell? ⟨B, 1, none⟩ = some a1 ∧ w.cell? ⟨B, 2, none⟩ = some a2 ∧ w.cell? ⟨B, 3, none⟩ = some a3 ∧ w.cell? ⟨B, 4, none⟩ = some a4 ∧ w.cell? ⟨B, 5, none⟩ = some a5 ∧ w.cell? ⟨B, 6, none⟩ = some a6 ∧ w.cell? ⟨B, 7, none⟩ = some a7) ∧ ∀ j, w.frozen? ⟨B, j, none⟩ = false := by
  refine ⟨?_, fun j => by simp [World.frozen?, h]⟩
  obtain ⟨l⟩ := C
  match l, hC with
  | [a0, a1, a2, a3, a4, a5, a6, a7], _ => exact ⟨a0, a1, a2, a3, a4, a5, a6, a7, rfl, by rw [Lib.cell_of_heap h]; rfl, by rw [Lib.cell_of_heap h]; rfl, by rw [Lib.cell_of_heap h]; rfl, by rw [Lib.cell_of_heap h]; rfl, by rw [Lib.cell_of_heap h]; rfl, by rw [Lib.cell_of_heap h]; rfl, by rw [Lib.cell_of_heap h]; rfl, by rw [Lib.cell_of_heap h]; rfl⟩

set_option maxHeartbeats 4000000 in
set_option maxRecDepth 100000 in
theorem v6_caught (B : Nat) (C : Array Value) (n : Int) (w : World) (hC : C.size = 8) (h : Res2 w B C n) :
    CallsD Tryz.prog 34 #[.pointer (some ⟨B, 0, none⟩), .pointer (some ⟨B + 1, 0, none⟩)] (.panicking [{ v := .iface 63 (.agg #[]), recovered := false }]) w fun e u' w' =>
      e = .returned (.tuple #[]) ∧ u' = .panicking [{ v := .iface 63 (.agg #[]), recovered := true }] ∧ Res2 w' B Z8 110 ∧ Below B w w' := by
  obtain ⟨h8, h1⟩ := h
  obtain ⟨⟨a0, a1, a2, a3, a4, a5, a6, a7, rfl, c0, c1, c2, c3, c4, c5, c6, c7⟩, hf⟩ := cells8 hC h8
  have e0 : w.cell? ⟨B + 1, 0, none⟩ = some (.int .i64 n) := by rw [Lib.cell_of_heap h1]; rfl
  have ef : w.frozen? ⟨B + 1, 0, none⟩ = false := by simp [World.frozen?, h1]
  have hlt : B + 1 < w.heap.size := heap_lt h1
  have hlt0 : B < w.heap.size := by omega
  refine callsD_of_wpS Tryz.func34 rfl fun c₀ cs hu => ?_
  apply wpS_seq
  apply wpS_region
  simp only [Tryz.ntmps34, List.size_toArray, List.length_cons, List.length_nil, Nat.reduceAdd, Nat.reduceSub, Array.replicate_succ, Array.replicate_zero, List.push_toArray, List.append_toArray, List.nil_append, List.cons_append]
  simp [wpOpsS, go_sem, recoverD, hu, Exit.thenS]
  have hta : ∀ W : World, Sem.run Tryz.prog (Instr.typeAssert (.iface 63 (.agg #[])) 20 63 true) W = .ok (.tuple #[.agg #[], .bool true]) W := fun W => by kernel_rfl
  refine wpS_of_wp ?_
  go_wp2
  have k8 := put8_heap h8 (U16 0) (U16 0) (U16 0) (U16 0) (U16 0) (U16 0) (U16 0) (U16 0)
  have k1 := (put8_other (w := w) (B := B) (k := B + 1) (by omega) (U16 0) (U16 0) (U16 0) (U16 0) (U16 0) (U16 0) (U16 0) (U16 0)).trans h1
  have kb := put8_below (Below.refl B w) (Nat.le_refl _) (U16 0) (U16 0) (U16 0) (U16 0) (U16 0) (U16 0) (U16 0) (U16 0)
  change bodyPostS _ _ _ _ _ _ _ _ (((put8 w B (U16 0) (U16 0) (U16 0) (U16 0) (U16 0) (U16 0) (U16 0) (U16 0)).setCell ⟨B + 1, 0, none⟩ (.int .i64 110)).alloc (.cells #[] 63))
  obtain ⟨w2, hw2⟩ : ∃ x, x = put8 w B (U16 0) (U16 0) (U16 0) (U16 0) (U16 0) (U16 0) (U16 0) (U16 0) := ⟨_, rfl⟩
  rw [← hw2] at k8 k1 kb ⊢
  have j1 := row_set k1 0 (.int .i64 110)
  have j8 := (Below.heap_setCell w2 ⟨B + 1, 0, none⟩ (.int .i64 110) B (by show B ≠ B + 1; omega)).trans k8
  refine ⟨rfl, _, rfl, .tuple #[], by simp [results, Tryz.results34, go_sem], rfl, rfl, ⟨?_, ?_⟩, ?_⟩
  · rw [Below.heap_alloc _ _ _ (heap_lt j8)]; exact j8
  · rw [Below.heap_alloc _ _ _ (heap_lt j1)]; exact j1
  · exact (kb.setCell (p := ⟨B + 1, 0, none⟩) (by show B ≤ B + 1; omega) _).alloc (by simp; exact Nat.le_of_lt (heap_lt k8)) _

set_option maxHeartbeats 4000000 in
set_option maxRecDepth 100000 in
theorem v6_idle (B : Nat) (w : World) :
    CallsD Tryz.prog 34 #[.pointer (some ⟨B, 0, none⟩), .pointer (some ⟨B + 1, 0, none⟩)] .returning w fun e u' w' => e = .returned (.tuple #[]) ∧ u' = .returning ∧ w = w' := by
  refine callsD_of_wpS Tryz.func34 rfl fun c₀ cs hu => ?_
  apply wpS_seq
  apply wpS_region
  simp only [Tryz.ntmps34, List.size_toArray, List.length_cons, List.length_nil, Nat.reduceAdd, Nat.reduceSub, Array.replicate_succ, Array.replicate_zero, List.push_toArray, List.append_toArray, List.nil_append, List.cons_append]
  simp [wpOpsS, go_sem, recoverD, hu, Exit.thenS]
  refine wpS_of_wp ?_
  go_wp2
  refine ⟨rfl, .returning, by rw [← hu], .tuple #[], by simp [results, Tryz.results34, go_sem], rfl, rfl, rfl⟩
end Go.Proofs.YtahjndignkhmoaaGreatDoor
