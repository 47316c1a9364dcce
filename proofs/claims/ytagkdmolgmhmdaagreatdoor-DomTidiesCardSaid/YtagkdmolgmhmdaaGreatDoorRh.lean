/- A generic replacer's Replace. -/
import Derived.Test.YtagkdmolgmhmdaaGreatDoorRg
import Derived.OwnWalk
import Derived.Lib.BufferRead
import Derived.Deep.WholeRow
namespace Go.Proofs.YtagkdmolgmhmdaaGreatDoor
open Go.RowKit

theorem sw_text {w : World} {B : Nat} {v : Value} {l : List UInt8} (h : w.ownsRow B 5 1 v l.length (l.map B8)) : (convert 243 9 v).run Tryz.prog w = .ok (S l) w := by
  rcases h.2 with ⟨rfl, h0⟩ | ⟨g, cap, cur, rfl, hg, hgg, _⟩
  · have : l = [] := List.eq_nil_of_length_eq_zero (by omega)
    subst this
    exact Lib.run_convert_nil_bytes w _ _ 5 0 Tryz.underlying243 Tryz.underlying5 Tryz.underlying9
  · have hc := h.cells (g := g) rfl
    exact run_convert_bytes_back w 243 9 5 ⟨g, 0, none⟩ cap l Tryz.underlying243 Tryz.underlying5 Tryz.underlying9 (fun j hj => hc j _ (by rw [List.getElem?_map, List.getElem?_eq_getElem hj]; rfl))

set_option maxHeartbeats 2000000 in
set_option maxRecDepth 100000 in
theorem genReplace (R : Nat) (look : UInt8 → Option Rp.Nd) (s u : List UInt8) (w : World) (hg : Gen w R look) (hp : Hid (∀ c nd, look c = some nd → 0 ≤ nd.p1 ∧ ∀ d p2 v2, nd.nx = some (d, p2, v2) → 0 < p2)) (hl : s.length ≤ 1048576) (hul : u.length ≤ 140737488355328) (hu : Hid (Rp.repl look 0 s = u)) :
    Calls Tryz.prog 197 #[.pointer (some ⟨R, 0, none⟩), S s] w (Fresh (S u) w) := by
  obtain ⟨i0, hi, hz0, hz1, hz2⟩ := info_parts info_byte
  obtain ⟨K, hK⟩ : ∃ K, w.heap.size = K := ⟨_, rfl⟩
  have HK := hide hK
  clear hK
  go_enter Tryz.func197, Tryz.ntmps197
  go_wp2_with (refine wpList_make_own _ rfl _ _ 243 rfl w.heap.size 5 i0 (.int .u8 0) 1 Tryz.underlying243 hi hz0 hz1 .i64 .i64 _ s.length rfl rfl rfl (by rw [hz2]; omega) (by unfold maxLen; omega) (Nat.le_refl _) ?_)
  intro w1 hown1 hgrow1
  have hb1 : Below w.heap.size w w1 := (Below.refl _ w).grown hgrow1 (Nat.le_refl _) (fun k hk => by cases hk)
  have hs1 := hb1.size
  rw [HK.out] at hown1 hb1 hs1
  have hnew : (w1.alloc (.cells #[.slice (some ⟨K, 0, none⟩) 0 s.length] 243)).heap[w1.heap.size]? = some (.cells #[.slice (some ⟨K, 0, none⟩) 0 s.length] 243 (0, 0)) := heap_alloc_last _ _
  have hbn : Below K w (w1.alloc (.cells #[.slice (some ⟨K, 0, none⟩) 0 s.length] 243)) := hb1.alloc hs1 _
  have hownn := owns_below hown1 ((Below.refl _ w1).alloc (Nat.le_refl _) (.cells #[.slice (some ⟨K, 0, none⟩) 0 s.length] 243))
  rw [HK.out]
  clear hgrow1 hown1
  go_wp2_with fail
  obtain ⟨w2, hw2⟩ : ∃ x, x = w1.alloc (.cells #[.slice (some ⟨K, 0, none⟩) 0 s.length] 243) := ⟨_, rfl⟩
  obtain ⟨A, hA⟩ : ∃ x, w1.heap.size = x := ⟨_, rfl⟩
  rw [← hw2] at hnew hbn hownn ⊢
  rw [hA] at hnew hs1 ⊢
  clear hw2 hA hb1
  have hSW : SW K A [] w2 := ⟨_, hnew, hs1, hownn⟩
  refine (genWrite R A K look s u w hg hp hl hul hu HK w2 hbn hSW).mono ?_
  rintro e w3 ⟨⟨n, rfl⟩, ⟨v, hA3, hKA, hown3⟩, hb3⟩
  have c3 : w3.cell? ⟨A, 0, none⟩ = some v := by rw [Lib.cell_of_heap hA3]; rfl
  have hcv := sw_text hown3
  clear hA3 hown3 hnew hbn hownn hSW
  go_wp2_with fail
  go_ret
  exact ⟨rfl, by rw [HK.out]; exact hb3⟩
end Go.Proofs.YtagkdmolgmhmdaaGreatDoor
