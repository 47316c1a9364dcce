/- A text or a value is escaped. -/
import Derived.Test.YtagkdmolgmhmdaaGreatDoorSb
namespace Go.Proofs.YtagkdmolgmhmdaaGreatDoor
open Go.RowKit

def pT : List (List UInt8 × List UInt8) := [([38], [38, 97, 109, 112, 59]), ([194, 160], [38, 110, 98, 115, 112, 59]), ([60], [38, 108, 116, 59]), ([62], [38, 103, 116, 59])]
def pV : List (List UInt8 × List UInt8) := [([38], [38, 97, 109, 112, 59]), ([194, 160], [38, 110, 98, 115, 112, 59]), ([34], [38, 113, 117, 111, 116, 59])]
theorem okT : Okay pT 1 where
  n2 := by decide
  n100 := by decide
  short := by decide
  keys k x h := by
    match k, h with
    | 0, h => cases h; exact ⟨38, [], rfl, by decide, rfl⟩
    | 1, h => cases h; exact ⟨194, [160], rfl, by decide, by rfl⟩
    | 2, h => cases h; exact ⟨60, [], rfl, by decide, by rfl⟩
    | 3, h => cases h; exact ⟨62, [], rfl, by decide, by rfl⟩
    | k + 4, h => simp [pT] at h
  few := by decide +kernel
  lt := by decide
  two x h := by cases h; rfl
theorem okV : Okay pV 1 where
  n2 := by decide
  n100 := by decide
  short := by decide
  keys k x h := by
    match k, h with
    | 0, h => cases h; exact ⟨38, [], rfl, by decide, rfl⟩
    | 1, h => cases h; exact ⟨194, [160], rfl, by decide, by rfl⟩
    | 2, h => cases h; exact ⟨34, [], rfl, by decide, by rfl⟩
    | k + 3, h => simp [pV] at h
  few := by decide +kernel
  lt := by decide
  two x h := by cases h; rfl
def flat (ps : List (List UInt8 × List UInt8)) : List (List UInt8) := ps.flatMap fun x => [x.1, x.2]
def rowOf (ps : List (List UInt8 × List UInt8)) : Array Value := ((flat ps).map S).toArray
theorem rowOf_cell (ps : List (List UInt8 × List UInt8)) (w : World) : ∀ (j : Nat) t, (flat ps)[j]? = some t → (w.alloc (.cells (rowOf ps) 9)).cell? ⟨w.heap.size, j, none⟩ = some (S t) := fun j t h => by
  rw [Lib.cell_of_heap (heap_alloc_last _ _)]
  simp [rowOf, h]
theorem rowT : rowOf pT = #[S [38], S [38, 97, 109, 112, 59], S [194, 160], S [38, 110, 98, 115, 112, 59], S [60], S [38, 108, 116, 59], S [62], S [38, 103, 116, 59]] := rfl
theorem rowV : rowOf pV = #[S [38], S [38, 97, 109, 112, 59], S [194, 160], S [38, 110, 98, 115, 112, 59], S [34], S [38, 113, 117, 111, 116, 59]] := rfl
set_option maxRecDepth 100000 in
set_option maxHeartbeats 1600000 in
theorem escaped (s u : List UInt8) (v : Bool) (w : World) (hl : s.length ≤ 1048576) (hul : u.length ≤ 140737488355328) (hu : Hid (esc (if v = true then pV else pT) s = u)) :
    Calls Tryz.prog 62 #[S s, .bool v] w (Fresh (S u) w) := by
  have hb1 : Below w.heap.size w (w.alloc (.cells (rowOf pT) 9)) := (Below.refl _ w).alloc (Nat.le_refl _) _
  go_enter Tryz.func62, Tryz.ntmps62
  go_wp2_with fail
  refine (newReplacer (flat pT) 4 w.heap.size 8 (w.alloc (.cells (rowOf pT) 9)) (hide (rowOf_cell pT w)) rfl (by decide) (by decide)).mono ?_
  rintro e w2 ⟨⟨Q, b2, cap2, rfl, hQ1, hQ2, hR, hcells⟩, hB2⟩
  have hB3 : Below w.heap.size w w2 := hb1.trans (hB2.mono hb1.size)
  have hwQ : w.heap.size ≤ Q := Nat.le_trans hb1.size hQ1
  have hps := pairs_of pT w2 b2 hcells
  have HPS := hide hps
  have HR := hide hR
  have HC := hide hcells
  clear hps hR hcells hB2 hb1
  cases v with
  | false =>
    go_wp2_with fail
    refine (useOnce pT 1 okT Q b2 cap2 w.heap.size s u w2 HR.out HPS.out hQ2 hwQ hl hul hu).mono ?_
    rintro e w3 ⟨rfl, hB4⟩
    go_wp2_with fail
    go_ret
    exact ⟨rfl, hB3.trans hB4⟩
  | true =>
    have hb1 : Below w.heap.size w (w2.alloc (.cells (rowOf pV) 9)) := hB3.alloc hB3.size _
    go_wp2_with fail
    refine (newReplacer (flat pV) 3 w2.heap.size 6 (w2.alloc (.cells (rowOf pV) 9)) (hide (rowOf_cell pV w2)) rfl (by decide) (by decide)).mono ?_
    rintro e w3 ⟨⟨Q', b3, cap3, rfl, hQ3, hQ4, hR', hcells'⟩, hB4⟩
    have hB5 : Below w.heap.size w w3 := hb1.trans (hB4.mono hb1.size)
    have hwQ' : w.heap.size ≤ Q' := Nat.le_trans hb1.size hQ3
    have HPS' := hide (pairs_of pV w3 b3 hcells')
    have HR' := hide hR'
    clear hR' hcells' hB4 hb1
    go_wp2_with fail
    refine (useOnce pV 1 okV Q' b3 cap3 w.heap.size s u w3 HR'.out HPS'.out hQ4 hwQ' hl hul hu).mono ?_
    rintro e w4 ⟨rfl, hB6⟩
    go_wp2_with fail
    go_ret
    exact ⟨rfl, hB5.trans hB6⟩
end Go.Proofs.YtagkdmolgmhmdaaGreatDoor
