/- The root takes a key. -/
import Derived.Test.YtojgcangnkjmjaaGreatDoorRq
import Derived.StillTailTactics
namespace Go.Proofs.YtojgcangnkjmjaaGreatDoor
open Go.RowKit

set_option maxHeartbeats 2000000 in
set_option maxRecDepth 100000 in
theorem addRoot (R T q kk B : Nat) (c : UInt8) (rest val : List UInt8) (prio : Int) (w : World) (Pst : World → World → Prop) (hcall : Hid (∀ W : World, W.heap.size = w.heap.size + 1 → NodeB W w.heap.size [] 0 [] (.pointer none) → Calls Tryz.prog 143 #[.pointer (some ⟨w.heap.size, 0, none⟩), S rest, S val, .int .i64 prio, .pointer (some ⟨R, 0, none⟩)] W fun e w' => e = .returned (.tuple #[]) ∧ Pst W w')) (m : Nat → Int) (C : Array Value) (h : MapAt w R (headG kk (.slice (some ⟨T, 0, none⟩) kk kk)) m) (hT : w.heap[T]? = some (.cells C 173 (0, 0))) (hq : C[q]? = some (.pointer none)) (hm : m c.toNat = q) (hqk : q < kk) (_hk : kk ≤ 255) (hB : B ≤ T) :
    Calls Tryz.prog 143 #[.pointer (some ⟨R, 0, none⟩), S (c :: rest), S val, .int .i64 prio, .pointer (some ⟨R, 0, none⟩)] w fun e w' => e = .returned (.tuple #[]) ∧ ∃ W : World, W.heap[T]? = some (.cells (C.setIfInBounds q (.pointer (some ⟨w.heap.size, 0, none⟩))) 173 (0, 0)) ∧ (∀ k : Nat, k < w.heap.size → k ≠ T → W.heap[k]? = w.heap[k]?) ∧ W.heap.size = w.heap.size + 1 ∧ Below B w W ∧ Pst W w' := by
  have hb0 := h.byte c.toNat c.toNat_lt
  have h0 := h.head 0 _ rfl
  have h1 := h.head 1 _ rfl
  have h2 := h.head 2 _ rfl
  have h3 := h.head 3 _ rfl
  have h4 := h.head 4 _ rfl
  rw [hm] at hb0
  have hTq : w.cell? ⟨T, q, none⟩ = some (.pointer none) := by rw [Lib.cell_of_heap hT]; exact hq
  have fT : w.frozen? ⟨T, q, none⟩ = false := by simp [World.frozen?, hT]
  have hcl := u8_lt c
  have hcn := u8_nonneg c
  have hqq : ((q : Int)).toNat = q := by omega
  have hq0 : (0 : Int) ≤ (q : Int) := by omega
  have hq1 : (q : Int) < (kk : Int) := by omega
  have hl1 : (1 : Int) ≤ (rest.length : Int) + 1 := by omega
  have hl3 : 1 ≤ rest.length + 1 := by omega
  have hl4 : (0 : Int) < (rest.length : Int) + 1 := by omega
  go_enter Tryz.func143, Tryz.ntmps143
  go_wp2_with fail
  go_quiet (fail)
  obtain ⟨w4, hw4⟩ : ∃ x, x = w.drewN nq := ⟨_, rfl⟩
  have hM4 : MapAt w4 R (headG kk (.slice (some ⟨T, 0, none⟩) kk kk)) m := by rw [hw4]; exact h.below (belowN w nq)
  have hT4 : w4.heap[T]? = some (.cells C 173 (0, 0)) := by rw [hw4]; exact hT
  have hH4 : ∀ k : Nat, w4.heap[k]? = w.heap[k]? := fun k => by rw [hw4]; rfl
  have hH4' : ∀ k : Nat, w4.heap[k]? = w.heap[k]? := hH4
  have hS4 : w.heap.size = w4.heap.size := by rw [hw4]; rfl
  have hB4 : Below B w w4 := by rw [hw4]; exact (belowN w nq).mono (by have := heap_lt hT; omega)
  rw [← hw4]
  have hTl := heap_lt hT4
  clear hw4 h hT h0 h1 h2 h3 h4 hb0 hTq fT
  have hM5 := hM4.below ((Below.refl w4.heap.size w4).alloc (Nat.le_refl _) (.cells (nodeC [] 0 [] (.pointer none)) 176))
  have hT5 : (w4.alloc (.cells (nodeC [] 0 [] (.pointer none)) 176)).heap[T]? = some (.cells C 173 (0, 0)) := by
    rw [← hT4]
    exact Array.getElem?_push_lt hTl |>.trans (Array.getElem?_eq_getElem _).symm
  have hN5 := heap_alloc_last w4 (.cells (nodeC [] 0 [] (.pointer none)) 176)
  have hS5 : (w4.alloc (.cells (nodeC [] 0 [] (.pointer none)) 176)).heap.size = w4.heap.size + 1 := by simp
  have hB5 : Below B w (w4.alloc (.cells (nodeC [] 0 [] (.pointer none)) 176)) := hB4.alloc (by omega) _
  have hH5 : ∀ k : Nat, k < w4.heap.size → (w4.alloc (.cells (nodeC [] 0 [] (.pointer none)) 176)).heap[k]? = w.heap[k]? := fun k hk => by
    rw [← hH4 k]
    exact Array.getElem?_push_lt hk |>.trans (Array.getElem?_eq_getElem _).symm
  have h4 := hM4.head 4 _ rfl
  have c5 : w4.cell? ⟨T, q, none⟩ = some (.pointer none) := by rw [Lib.cell_of_heap hT4]; exact hq
  have d5 : (w4.alloc (.cells (nodeC [] 0 [] (.pointer none)) 176)).cell? ⟨T, q, none⟩ = some (.pointer none) := by rw [Lib.cell_of_heap hT5]; exact hq
  have f5 : (w4.alloc (.cells (nodeC [] 0 [] (.pointer none)) 176)).frozen? ⟨T, q, none⟩ = false := by simp [World.frozen?, hT5]
  go_upto_region 31 with (fail)
  have hRT : R ≠ T := fun e => by
    obtain ⟨C2, hC2, _⟩ := hM4
    rw [e, hT4] at hC2
    exact absurd hC2 (by simp)
  obtain ⟨V, hV⟩ : ∃ x, x = (w4.setCell ⟨T, q, none⟩ (.pointer (some ⟨w4.heap.size, 0, none⟩))) := ⟨_, rfl⟩
  have hVT : V.heap[T]? = some (.cells (C.setIfInBounds q (.pointer (some ⟨w4.heap.size, 0, none⟩))) 173 (0, 0)) := by rw [hV]; exact row_set hT4 _ _
  have hVo : ∀ k : Nat, k ≠ T → V.heap[k]? = w.heap[k]? := fun k hk => by
    rw [hV, ← hH4 k]
    simp [World.setCell, Array.getElem?_modify, Ne.symm hk]
  have hVs : V.heap.size = w4.heap.size := by rw [hV]; simp
  have hVB : Below B w V := by rw [hV]; exact hB4.setCell hB _
  rw [← hV]
  clear hV hM5 hT5 hN5 hS5 hB5 hH5 c5 d5 f5 hH4 hB4 h4
  obtain ⟨W, hW⟩ : ∃ x, x = V.alloc (.cells (nodeC [] 0 [] (.pointer none)) 176) := ⟨_, rfl⟩
  have hWo : ∀ k : Nat, k < w4.heap.size → W.heap[k]? = V.heap[k]? := fun k hk => by
    rw [hW]
    exact Array.getElem?_push_lt (by rw [hVs]; exact hk) |>.trans (Array.getElem?_eq_getElem _).symm
  have hWN : NodeB W w4.heap.size [] 0 [] (.pointer none) := by rw [hW, ← hVs]; exact heap_alloc_last _ _
  have hWs : W.heap.size = w4.heap.size + 1 := by rw [hW, ← hVs]; simp
  have hWB : Below B w W := by rw [hW]; exact hVB.alloc (by omega) _
  have hWT := (hWo T hTl).trans hVT
  have hMW : MapAt W R (headG kk (.slice (some ⟨T, 0, none⟩) kk kk)) m := by
    obtain ⟨C2, hC2, hC3⟩ := hM4
    have hR := heap_lt hC2
    exact ⟨C2, ((hWo R hR).trans (hVo R hRT)).trans ((hH4' R).symm.trans hC2), hC3⟩
  change Code.wp _ _ _ _ (V.alloc (.cells (nodeC [] 0 [] (.pointer none)) 176))
  rw [← hW]
  have h4 := hMW.head 4 _ rfl
  have hTq : W.cell? ⟨T, q, none⟩ = some (.pointer (some ⟨w4.heap.size, 0, none⟩)) := by
    rw [Lib.cell_of_heap hWT, Array.getElem?_setIfInBounds, if_pos rfl, if_pos (by exact (Array.getElem?_eq_some_iff.1 hq).1)]
  clear hW
  go_still_tail 12, (by kernel_rfl)
  change wpList _ _ _ _ _ (W.drewN 1)
  obtain ⟨X, hX⟩ : ∃ x, x = W.drewN 1 := ⟨_, rfl⟩
  have hXo : ∀ k : Nat, X.heap[k]? = W.heap[k]? := fun k => by rw [hX]; rfl
  have hXN : NodeB X w4.heap.size [] 0 [] (.pointer none) := hWN.of_heap (hXo _)
  have hXs : X.heap.size = w4.heap.size + 1 := by rw [hX]; exact hWs
  have hXB : Below B w X := by rw [hX]; exact hWB.trans (belowN W 1 |>.mono (by omega))
  have hXT := (hXo T).trans hWT
  rw [← hX]
  clear hX hTq h4 hMW
  go_wp2_with fail
  have hcl := hcall.out X (by rw [hS4]; exact hXs) (by rw [hS4]; exact hXN)
  rw [hS4] at hcl
  refine hcl.mono ?_
  rintro e w' ⟨rfl, hP⟩
  have hend : ∃ W : World, W.heap[T]? = some (.cells (C.setIfInBounds q (.pointer (some ⟨w.heap.size, 0, none⟩))) 173 (0, 0)) ∧ (∀ k : Nat, k < w.heap.size → k ≠ T → W.heap[k]? = w.heap[k]?) ∧ W.heap.size = w.heap.size + 1 ∧ Below B w W ∧ Pst W w' :=
    ⟨X, by rw [hS4]; exact hXT, fun k hk hk2 => ((hXo k).trans (hWo k (by rw [← hS4]; exact hk))).trans (hVo k hk2), by rw [hS4]; exact hXs, hXB, hP⟩
  clear hcl hcall hXo hXN hXs hXB hXT hWo hWN hWs hWB hWT hVo hVs hVB hVT
  go_wp2_with fail
  refine bodyPost_end (results_none (by kernel_rfl) _ _ _) rfl ?_
  exact ⟨rfl, hend⟩
set_option maxHeartbeats 2000000 in
set_option maxRecDepth 100000 in
/-- a key of one byte where the table has a node already, which has no value -/
theorem addAgain (R T q kk N : Nat) (c : UInt8) (v pre val : List UInt8) (nx : Value) (prio : Int) (w : World) (m : Nat → Int) (C : Array Value) (h : MapAt w R (headG kk (.slice (some ⟨T, 0, none⟩) kk kk)) m) (hT : w.heap[T]? = some (.cells C 173 (0, 0)))
    (hq : C[q]? = some (.pointer (some ⟨N, 0, none⟩))) (hm : m c.toNat = (q : Int)) (hlt : q < kk) (_hk : kk ≤ 255) (hN : NodeB w N v 0 pre nx) :
    Calls Tryz.prog 143 #[.pointer (some ⟨R, 0, none⟩), S [c], S val, .int .i64 prio, .pointer (some ⟨R, 0, none⟩)] w fun e w' => e = .returned (.tuple #[]) ∧ ∃ n, w' = ((w.drewN n).setCell ⟨N, 0, none⟩ (S val)).setCell ⟨N, 1, none⟩ (.int .i64 prio) := by
  have hb0 := h.byte c.toNat c.toNat_lt
  have h0 := h.head 0 _ rfl
  have h1 := h.head 1 _ rfl
  have h2 := h.head 2 _ rfl
  have h3 := h.head 3 _ rfl
  have h4 := h.head 4 _ rfl
  rw [hm] at hb0
  have hTq : w.cell? ⟨T, q, none⟩ = some (.pointer (some ⟨N, 0, none⟩)) := by rw [Lib.cell_of_heap hT]; exact hq
  have hcl := u8_lt c
  have hcn := u8_nonneg c
  have hqq : ((q : Int)).toNat = q := by omega
  have hq0 : (0 : Int) ≤ (q : Int) := by omega
  have hq1 : (q : Int) < (kk : Int) := by omega
  have HN := hide hN
  clear hN
  go_enter Tryz.func143, Tryz.ntmps143
  go_wp2_with fail
  go_quiet (fail)
  obtain ⟨W, hW⟩ : ∃ x, x = w.drewN nq := ⟨_, rfl⟩
  have g4 : W.cell? ⟨R, 4, none⟩ = some (.slice (some ⟨T, 0, none⟩) kk kk) := by rw [hW]; exact h4
  have gq : W.cell? ⟨T, q, none⟩ = some (.pointer (some ⟨N, 0, none⟩)) := by rw [hW]; exact hTq
  have HW := hide hW
  rw [← hW]
  clear h4 hTq h0 h1 h2 h3 hb0 h hT hW
  go_wp2_with fail
  go_still_tail 12, (by kernel_rfl)
  change wpList _ _ _ _ _ (W.drewN 1)
  have hdd : W.drewN 1 = w.drewN (nq + 1) := by rw [HW.out]; exact World.drewN_drewN _ _ _
  rw [hdd]
  clear hdd g4 gq
  go_wp2_with fail
  refine (addNil N R v pre val nx prio (w.drewN (nq + 1)) HN.out).mono ?_
  rintro e w' ⟨rfl, rfl⟩
  go_wp2_with fail
  refine bodyPost_end (results_none (by kernel_rfl) _ _ _) rfl ?_
  exact ⟨rfl, _, rfl⟩
end Go.Proofs.YtojgcangnkjmjaaGreatDoor
