/- A generic replacer is made: the bytes of its keys. -/
import Derived.Test.YtojgcangnkjmjaaGreatDoorRh
import Derived.LoopN
import Derived.Deep.Cut
import Derived.Deep.LoopGhost
namespace Go.Proofs.YtojgcangnkjmjaaGreatDoor
open Go.RowKit

/-! ### plain: how many bytes below one are marked -/
namespace Rp
def cnt (p : Nat → Bool) : Nat → Nat
  | 0 => 0
  | i + 1 => cnt p i + if p i = true then 1 else 0
theorem cnt_le (p : Nat → Bool) : ∀ i, cnt p i ≤ i
  | 0 => Nat.le_refl _
  | i + 1 => by
    have := cnt_le p i
    rw [cnt]
    split <;> omega
theorem cnt_mono (p : Nat → Bool) : ∀ (i d : Nat), cnt p i ≤ cnt p (i + d)
  | i, 0 => Nat.le_refl _
  | i, d + 1 => by
    have := cnt_mono p i d
    rw [show i + (d + 1) = (i + d) + 1 by omega, cnt]
    omega
theorem cnt_lt (p : Nat → Bool) (i j : Nat) (hi : p i = true) (hij : i < j) : cnt p i < cnt p j := by
  have := cnt_mono p (i + 1) (j - (i + 1))
  rw [show i + 1 + (j - (i + 1)) = j by omega, cnt, if_pos hi] at this
  omega
def mark (p : Nat → Bool) (c : Nat) : Int := if p c = true then 1 else 0
def place (p : Nat → Bool) (k : Nat) (c : Nat) : Int := if p c = true then (cnt p c : Int) else (k : Int)
end Rp

/-- the head of a generic replacer in block R (its six first cells), and its 256 bytes -/
def MapAt (w : World) (R : Nat) (h : List Value) (m : Nat → Int) : Prop :=
  ∃ C : Array Value, w.heap[R]? = some (.cells C 178 (0, 0)) ∧ C.size = 262 ∧ h.length = 6 ∧ (∀ j, j < 6 → C[j]? = h[j]?) ∧ ∀ c, c < 256 → C[6 + c]? = some (.int .u8 (m c))
theorem MapAt.head {w : World} {R : Nat} {h : List Value} {m : Nat → Int} (hm : MapAt w R h m) (j : Nat) (v : Value) (hj : h[j]? = some v) : w.cell? ⟨R, j, none⟩ = some v := by
  obtain ⟨C, h1, h2, h3, h4, h5⟩ := hm
  rw [Lib.cell_of_heap h1, h4 j (by have := (List.getElem?_eq_some_iff.1 hj).1; omega), hj]
theorem MapAt.byte {w : World} {R : Nat} {h : List Value} {m : Nat → Int} (hm : MapAt w R h m) (c : Nat) (hc : c < 256) : w.cell? ⟨R, 6 + c, none⟩ = some (.int .u8 (m c)) := by
  obtain ⟨C, h1, h2, h3, h4, h5⟩ := hm
  rw [Lib.cell_of_heap h1, h5 c hc]
theorem MapAt.free {w : World} {R : Nat} {h : List Value} {m : Nat → Int} (hm : MapAt w R h m) (j : Nat) : w.frozen? ⟨R, j, none⟩ = false := by
  obtain ⟨C, h1, h2, h3, h4, h5⟩ := hm
  simp [World.frozen?, h1]
theorem row_set {w : World} {B : Nat} {C : Array Value} {T : TypeId} {fz : Nat × Nat} (h : w.heap[B]? = some (Obj.cells C T fz)) (j : Nat) (v : Value) : (w.setCell ⟨B, j, none⟩ v).heap[B]? = some (Obj.cells (C.setIfInBounds j v) T fz) := by
  simp [World.setCell, Array.getElem?_modify, h]
theorem MapAt.setByte {w : World} {R : Nat} {h : List Value} {m : Nat → Int} (hm : MapAt w R h m) (c : Nat) (hc : c < 256) (x : Int) : MapAt (w.setCell ⟨R, 6 + c, none⟩ (.int .u8 x)) R h (fun d => if d = c then x else m d) := by
  obtain ⟨C, h1, h2, h3, h4, h5⟩ := hm
  refine ⟨_, row_set h1 _ _, by simpa using h2, h3, fun j hj => ?_, fun d hd => ?_⟩
  · rw [Array.getElem?_setIfInBounds, if_neg (by omega)]; exact h4 j hj
  · rw [Array.getElem?_setIfInBounds]
    by_cases e : 6 + c = 6 + d
    · rw [if_pos e, if_pos (by omega)]
      have : d = c := by omega
      simp [this]
    · rw [if_neg e]
      have : d ≠ c := fun q => e (by rw [q])
      simp only [this, if_false]
      exact h5 d hd
theorem MapAt.setHead {w : World} {R : Nat} {h : List Value} {m : Nat → Int} (hm : MapAt w R h m) (j : Nat) (hj : j < 6) (v : Value) : MapAt (w.setCell ⟨R, j, none⟩ v) R (h.set j v) m := by
  obtain ⟨C, h1, h2, h3, h4, h5⟩ := hm
  refine ⟨_, row_set h1 _ _, by simpa using h2, by simpa using h3, fun i hi => ?_, fun d hd => ?_⟩
  · rw [Array.getElem?_setIfInBounds, List.getElem?_set]
    by_cases e : j = i
    · subst e
      rw [if_pos rfl, if_pos (by omega), if_pos rfl, if_pos (by omega)]
    · rw [if_neg e, if_neg e]; exact h4 i hi
  · rw [Array.getElem?_setIfInBounds, if_neg (by omega)]; exact h5 d hd
theorem MapAt.ext {w : World} {R : Nat} {h : List Value} {m m' : Nat → Int} (hm : MapAt w R h m) (e : ∀ c, c < 256 → m' c = m c) : MapAt w R h m' := by
  obtain ⟨C, h1, h2, h3, h4, h5⟩ := hm
  exact ⟨C, h1, h2, h3, h4, fun c hc => by rw [h5 c hc, e c hc]⟩
theorem MapAt.below {w w' : World} {R : Nat} {h : List Value} {m : Nat → Int} (hm : MapAt w R h m) (hb : Below w.heap.size w w') : MapAt w' R h m := by
  obtain ⟨C, h1, h2⟩ := hm
  exact ⟨C, (hb.block R (heap_lt h1)).trans h1, h2⟩

abbrev headG (k : Int) (t : Value) : List Value := [S [], .int .i64 0, S [], .pointer none, t, .int .i64 k]
/-- the pairs of a replacer, in a slice of texts -/
def PairsAt (w : World) (b : Nat) (ps : List (List UInt8 × List UInt8)) : Prop := ∀ (k : Nat) x, ps[k]? = some x → w.cell? ⟨b, 2 * k, none⟩ = some (S x.1) ∧ w.cell? ⟨b, 2 * k + 1, none⟩ = some (S x.2)
/-- is a byte one of the keys'? -/
def inKeys (ks : List UInt8) (c : Nat) : Bool := ks.any fun x => x.toNat == c
end Go.Proofs.YtojgcangnkjmjaaGreatDoor

namespace Go.Proofs.YtojgcangnkjmjaaGreatDoor
open Go.RowKit

/-- a node's five cells -/
abbrev nodeC (v : List UInt8) (p : Int) (pre : List UInt8) (nx : Value) : Array Value := #[S v, .int .i64 p, S pre, nx, .slice none 0 0]
def NodeB (w : World) (N : Nat) (v : List UInt8) (p : Int) (pre : List UInt8) (nx : Value) : Prop := w.heap[N]? = some (.cells (nodeC v p pre nx) 176 (0, 0))
theorem NodeB.cells {w : World} {N : Nat} {v pre : List UInt8} {p : Int} {nx : Value} (h : NodeB w N v p pre nx) :
    (w.cell? ⟨N, 0, none⟩ = some (S v) ∧ w.cell? ⟨N, 1, none⟩ = some (.int .i64 p) ∧ w.cell? ⟨N, 2, none⟩ = some (S pre) ∧ w.cell? ⟨N, 3, none⟩ = some nx ∧ w.cell? ⟨N, 4, none⟩ = some (.slice none 0 0)) ∧ ∀ j, w.frozen? ⟨N, j, none⟩ = false := by
  unfold NodeB at h
  refine ⟨⟨?_, ?_, ?_, ?_, ?_⟩, fun j => by simp [World.frozen?, h]⟩ <;> (rw [Lib.cell_of_heap h]; rfl)
theorem NodeB.put {w : World} {N : Nat} {v pre : List UInt8} {p : Int} {nx : Value} (h : NodeB w N v p pre nx) (v' : List UInt8) (p' : Int) : NodeB ((w.setCell ⟨N, 0, none⟩ (S v')).setCell ⟨N, 1, none⟩ (.int .i64 p')) N v' p' pre nx := by
  have h1 := row_set h 0 (S v')
  have h2 := row_set h1 1 (.int .i64 p')
  exact h2
theorem NodeB.pre {w : World} {N : Nat} {v pre : List UInt8} {p : Int} {nx : Value} (h : NodeB w N v p pre nx) (pre' : List UInt8) : NodeB (w.setCell ⟨N, 2, none⟩ (S pre')) N v p pre' nx := row_set h 2 (S pre')
theorem NodeB.next {w : World} {N : Nat} {v pre : List UInt8} {p : Int} {nx : Value} (h : NodeB w N v p pre nx) (nx' : Value) : NodeB (w.setCell ⟨N, 3, none⟩ nx') N v p pre nx' := row_set h 3 nx'
theorem NodeB.of_heap {w w' : World} {N : Nat} {v pre : List UInt8} {p : Int} {nx : Value} (h : NodeB w N v p pre nx) (e : w'.heap[N]? = w.heap[N]?) : NodeB w' N v p pre nx := e.trans h

set_option maxHeartbeats 2000000 in
set_option maxRecDepth 100000 in
theorem addNil (N R : Nat) (v pre val : List UInt8) (nx : Value) (prio : Int) (w : World) (h : NodeB w N v 0 pre nx) :
    Calls Tryz.prog 143 #[.pointer (some ⟨N, 0, none⟩), S [], S val, .int .i64 prio, .pointer (some ⟨R, 0, none⟩)] w fun e w' => e = .returned (.tuple #[]) ∧ w' = (w.setCell ⟨N, 0, none⟩ (S val)).setCell ⟨N, 1, none⟩ (.int .i64 prio) := by
  obtain ⟨⟨c0, c1, c2, c3, c4⟩, hf⟩ := h.cells
  go_enter Tryz.func143, Tryz.ntmps143
  go_wp2_with fail
  refine bodyPost_ret (v := .tuple #[]) (by simp [results, Tryz.results143, go_sem]) rfl ?_
  exact ⟨rfl, rfl⟩

set_option maxHeartbeats 2000000 in
set_option maxRecDepth 100000 in
theorem addOne (N R B : Nat) (d : UInt8) (val : List UInt8) (prio : Int) (w : World) (h : NodeB w N [] 0 [] (.pointer none)) (hB : B ≤ N) :
    Calls Tryz.prog 143 #[.pointer (some ⟨N, 0, none⟩), S [d], S val, .int .i64 prio, .pointer (some ⟨R, 0, none⟩)] w fun e w' => e = .returned (.tuple #[]) ∧ NodeB w' N [] 0 [d] (.pointer (some ⟨w.heap.size, 0, none⟩)) ∧ NodeB w' w.heap.size val prio [] (.pointer none) ∧ (∀ k, k < w.heap.size → k ≠ N → w'.heap[k]? = w.heap[k]?) ∧ w'.heap.size = w.heap.size + 1 ∧ Below B w w' := by
  obtain ⟨⟨c0, c1, c2, c3, c4⟩, hf⟩ := h.cells
  have hlt : N < w.heap.size := heap_lt h
  go_enter Tryz.func143, Tryz.ntmps143
  go_wp2_with fail
  have hNx := (h.pre [d]).next (.pointer (some ⟨w.heap.size, 0, none⟩))
  have hsz : ((w.setCell ⟨N, 2, none⟩ (S [d])).setCell ⟨N, 3, none⟩ (.pointer (some ⟨w.heap.size, 0, none⟩))).heap.size = w.heap.size := by simp
  have hoth : ∀ k, k ≠ N → ((w.setCell ⟨N, 2, none⟩ (S [d])).setCell ⟨N, 3, none⟩ (.pointer (some ⟨w.heap.size, 0, none⟩))).heap[k]? = w.heap[k]? := fun k hk => by simp [World.setCell, Array.getElem?_modify, Ne.symm hk]
  obtain ⟨wa, hwa⟩ : ∃ x, x = (w.setCell ⟨N, 2, none⟩ (S [d])).setCell ⟨N, 3, none⟩ (.pointer (some ⟨w.heap.size, 0, none⟩)) := ⟨_, rfl⟩
  have hwa2 : (w.setCell ⟨N, 2, none⟩ (.string { data := #[d] })).setCell ⟨N, 3, none⟩ (.pointer (some ⟨w.heap.size, 0, none⟩)) = wa := hwa.symm
  have hba : Below B w wa := by rw [hwa]; exact ((Below.refl B w).setCell hB _).setCell hB _
  rw [← hwa] at hNx hsz hoth
  rw [hwa2]
  clear hwa hwa2
  have hM := heap_alloc_last wa (.cells (nodeC [] 0 [] (.pointer none)) 176)
  have hold : ∀ k, k < w.heap.size → (wa.alloc (.cells (nodeC [] 0 [] (.pointer none)) 176)).heap[k]? = wa.heap[k]? := fun k hk => Array.getElem?_push_lt (by rw [hsz]; exact hk) |>.trans (Array.getElem?_eq_getElem _).symm
  have hbb : Below B w (wa.alloc (.cells (nodeC [] 0 [] (.pointer none)) 176)) := hba.alloc (by omega) _
  have hsb : (wa.alloc (.cells (nodeC [] 0 [] (.pointer none)) 176)).heap.size = w.heap.size + 1 := by simp [hsz]
  rw [hsz] at hM
  refine (addNil w.heap.size R [] [] val (.pointer none) prio _ hM).mono ?_
  rintro e w2 ⟨rfl, rfl⟩
  have hM2 : NodeB (wa.alloc (.cells (nodeC val prio [] (.pointer none)) 176)) w.heap.size val prio [] (.pointer none) := by
    have := heap_alloc_last wa (.cells (nodeC val prio [] (.pointer none)) 176)
    rw [hsz] at this
    exact this
  have hmod : ∀ k, k < w.heap.size → (wa.alloc (.cells (nodeC val prio [] (.pointer none)) 176)).heap[k]? = wa.heap[k]? := fun k hk => Array.getElem?_push_lt (by rw [hsz]; exact hk) |>.trans (Array.getElem?_eq_getElem _).symm
  have hN2 := hNx.of_heap (hmod N hlt)
  have hb2 : Below B w (wa.alloc (.cells (nodeC val prio [] (.pointer none)) 176)) := hba.alloc (by omega) _
  have hs2 : (wa.alloc (.cells (nodeC val prio [] (.pointer none)) 176)).heap.size = w.heap.size + 1 := by simp [hsz]
  clear hM hold hbb hsb hba hNx
  go_wp2_with fail
  refine bodyPost_end (results_none (by kernel_rfl) _ _ _) rfl ?_
  exact ⟨rfl, hN2, hM2, fun k hk hk2 => (hmod k hk).trans (hoth k hk2), hs2, hb2⟩
end Go.Proofs.YtojgcangnkjmjaaGreatDoor
