/- A node of a replacer's table takes a key. -/
import Derived.Test.YtagkdmolgmhmdaaGreatDoorRi

namespace Go.Proofs.YtagkdmolgmhmdaaGreatDoor
open Go.RowKit

/-- a node's five cells -/
abbrev nodeC (v : List UInt8) (p : Int) (pre : List UInt8) (nx : Value) : Array Value := #[S v, .int .i64 p, S pre, nx, .slice none 0 0]
def NodeB (w : World) (N : Nat) (v : List UInt8) (p : Int) (pre : List UInt8) (nx : Value) : Prop := w.heap[N]? = some (.cells (nodeC v p pre nx) 180 (0, 0))
theorem NodeB.cells {w : World} {N : Nat} {v pre : List UInt8} {p : Int} {nx : Value} (h : NodeB w N v p pre nx) :
    (w.cell? ⟨N, 0, none⟩ = some (S v) ∧ w.cell? ⟨N, 1, none⟩ = some (.int .i64 p) ∧ w.cell? ⟨N, 2, none⟩ = some (S pre) ∧ w.cell? ⟨N, 3, none⟩ = some nx ∧ w.cell? ⟨N, 4, none⟩ = some (.slice none 0 0)) ∧ ∀ j, w.frozen? ⟨N, j, none⟩ = false := by
  unfold NodeB at h
  refine ⟨⟨?_, ?_, ?_, ?_, ?_⟩, fun j => by simp [World.frozen?, h]⟩ <;> (rw [Lib.cell_of_heap h]; rfl)
theorem NodeB.put {w : World} {N : Nat} {v pre : List UInt8} {p : Int} {nx : Value} (h : NodeB w N v p pre nx) (v' : List UInt8) (p' : Int) : NodeB ((w.setCell ⟨N, 0, none⟩ (S v')).setCell ⟨N, 1, none⟩ (.int .i64 p')) N v' p' pre nx := by
  have h1 := row_set h 0 (S v')
  have h2 := row_set h1 1 (.int .i64 p')
  exact h2
theorem NodeB.pre {w : World} {N : Nat} {v pre : List UInt8} {p : Int} {nx : Value} (h : NodeB w N v p pre nx) (pre' : List UInt8) : NodeB (w.setCell ⟨N, 2, none⟩ (S pre')) N v p pre' nx := row_set h 2 (S pre')
theorem NodeB.next {w : World} {N : Nat} {v pre : List UInt8} {p : Int} {nx : Value} (h : NodeB w N v p pre nx) (nx' : Value) : NodeB (w.setCell ⟨N, 3, none⟩ nx') N v p pre nx' := row_set h 3 nx'
theorem NodeB.of_heap {w w' : World} {N : Nat} {v pre : List UInt8} {p : Int} {nx : Value} (h : NodeB w N v p pre nx) (e : w'.heap[N]? = w.heap[N]?) : NodeB w' N v p pre nx := e.trans h

set_option maxHeartbeats 2000000 in
set_option maxRecDepth 100000 in
theorem addNil (N R : Nat) (v pre val : List UInt8) (nx : Value) (prio : Int) (w : World) (h : NodeB w N v 0 pre nx) :
    Calls Tryz.prog 136 #[.pointer (some ⟨N, 0, none⟩), S [], S val, .int .i64 prio, .pointer (some ⟨R, 0, none⟩)] w fun e w' => e = .returned (.tuple #[]) ∧ w' = (w.setCell ⟨N, 0, none⟩ (S val)).setCell ⟨N, 1, none⟩ (.int .i64 prio) := by
  obtain ⟨⟨c0, c1, c2, c3, c4⟩, hf⟩ := h.cells
  go_enter Tryz.func136, Tryz.ntmps136
  go_wp2_with fail
  refine bodyPost_ret (v := .tuple #[]) (by simp [results, Tryz.results136, go_sem]) rfl ?_
  exact ⟨rfl, rfl⟩

set_option maxHeartbeats 2000000 in
set_option maxRecDepth 100000 in
theorem addOne (N R B : Nat) (d : UInt8) (val : List UInt8) (prio : Int) (w : World) (h : NodeB w N [] 0 [] (.pointer none)) (hB : B ≤ N) :
    Calls Tryz.prog 136 #[.pointer (some ⟨N, 0, none⟩), S [d], S val, .int .i64 prio, .pointer (some ⟨R, 0, none⟩)] w fun e w' => e = .returned (.tuple #[]) ∧ NodeB w' N [] 0 [d] (.pointer (some ⟨w.heap.size, 0, none⟩)) ∧ NodeB w' w.heap.size val prio [] (.pointer none) ∧ (∀ k, k < w.heap.size → k ≠ N → w'.heap[k]? = w.heap[k]?) ∧ w'.heap.size = w.heap.size + 1 ∧ Below B w w' := by
  obtain ⟨⟨c0, c1, c2, c3, c4⟩, hf⟩ := h.cells
  have hlt : N < w.heap.size := heap_lt h
  go_enter Tryz.func136, Tryz.ntmps136
  go_wp2_with fail
  have hNx := (h.pre [d]).next (.pointer (some ⟨w.heap.size, 0, none⟩))
  have hsz : ((w.setCell ⟨N, 2, none⟩ (S [d])).setCell ⟨N, 3, none⟩ (.pointer (some ⟨w.heap.size, 0, none⟩))).heap.size = w.heap.size := by simp
  have hoth : ∀ k, k ≠ N → ((w.setCell ⟨N, 2, none⟩ (S [d])).setCell ⟨N, 3, none⟩ (.pointer (some ⟨w.heap.size, 0, none⟩))).heap[k]? = w.heap[k]? := fun k hk => by simp [World.setCell, Array.getElem?_modify, Ne.symm hk]
  obtain ⟨wa, hwa⟩ : ∃ x, x = (w.setCell ⟨N, 2, none⟩ (S [d])).setCell ⟨N, 3, none⟩ (.pointer (some ⟨w.heap.size, 0, none⟩)) := ⟨_, rfl⟩
  have hwa2 : (w.setCell ⟨N, 2, none⟩ (.string { data := #[d] })).setCell ⟨N, 3, none⟩ (.pointer (some ⟨w.heap.size, 0, none⟩)) = wa := hwa.symm
  have hba : Below B w wa := by rw [hwa]; exact ((Below.refl B w).setCell hB _).setCell hB _
  rw [← hwa] at hNx hsz hoth
  rw [hwa2]
  clear hwa hwa2
  have hM := heap_alloc_last wa (.cells (nodeC [] 0 [] (.pointer none)) 180)
  have hold : ∀ k, k < w.heap.size → (wa.alloc (.cells (nodeC [] 0 [] (.pointer none)) 180)).heap[k]? = wa.heap[k]? := fun k hk => Array.getElem?_push_lt (by rw [hsz]; exact hk) |>.trans (Array.getElem?_eq_getElem _).symm
  have hbb : Below B w (wa.alloc (.cells (nodeC [] 0 [] (.pointer none)) 180)) := hba.alloc (by omega) _
  have hsb : (wa.alloc (.cells (nodeC [] 0 [] (.pointer none)) 180)).heap.size = w.heap.size + 1 := by simp [hsz]
  rw [hsz] at hM
  refine (addNil w.heap.size R [] [] val (.pointer none) prio _ hM).mono ?_
  rintro e w2 ⟨rfl, rfl⟩
  have hM2 : NodeB (wa.alloc (.cells (nodeC val prio [] (.pointer none)) 180)) w.heap.size val prio [] (.pointer none) := by
    have := heap_alloc_last wa (.cells (nodeC val prio [] (.pointer none)) 180)
    rw [hsz] at this
    exact this
  have hmod : ∀ k, k < w.heap.size → (wa.alloc (.cells (nodeC val prio [] (.pointer none)) 180)).heap[k]? = wa.heap[k]? := fun k hk => Array.getElem?_push_lt (by rw [hsz]; exact hk) |>.trans (Array.getElem?_eq_getElem _).symm
  have hN2 := hNx.of_heap (hmod N hlt)
  have hb2 : Below B w (wa.alloc (.cells (nodeC val prio [] (.pointer none)) 180)) := hba.alloc (by omega) _
  have hs2 : (wa.alloc (.cells (nodeC val prio [] (.pointer none)) 180)).heap.size = w.heap.size + 1 := by simp [hsz]
  clear hM hold hbb hsb hba hNx
  go_wp2_with fail
  refine bodyPost_end (results_none (by kernel_rfl) _ _ _) rfl ?_
  exact ⟨rfl, hN2, hM2, fun k hk hk2 => (hmod k hk).trans (hoth k hk2), hs2, hb2⟩
end Go.Proofs.YtagkdmolgmhmdaaGreatDoor
