/- A text between quotes; a line of parts. -/
import Derived.Test.YtagkdmolgmhmdaaGreatDoorPs
import Derived.Test.YtagkdmolgmhmdaaGreatDoorSn
import Derived.Lib.Join
namespace Go.Proofs.YtagkdmolgmhmdaaGreatDoor
open Go.RowKit

set_option maxRecDepth 100000 in
set_option maxHeartbeats 2000000 in
theorem quoted (s : List UInt8) (w : World) (hl : s.length ≤ 1048576) :
    Calls Tryz.prog 60 #[S s] w (Fresh (S (quotedP s)) w) := by
  have hlen := bareP_len s
  have hcall := hide (bare s w hl)
  obtain ⟨u, hu⟩ : ∃ u, bareP s = u := ⟨_, rfl⟩
  have HQ : Hid (quotedP s = 34 :: (u ++ [34])) := by unfold Hid; rw [quotedP, hu]
  rw [hu] at hcall hlen
  rw [HQ.out]
  clear hu HQ
  have g1 : ¬ 9223372036854775807 < 1 + u.length := by omega
  have g2 : ¬ 9223372036854775807 < u.length + 1 := by omega
  have g3 : ¬ 9223372036854775807 < 1 + u.length + 1 := by omega
  have g4 : ¬ 9223372036854775807 < u.length + 1 + 1 := by omega
  go_enter Tryz.func60, Tryz.ntmps60
  go_wp2_with fail
  refine Calls.mono hcall.out ?_
  rintro e w2 ⟨rfl, hb2⟩
  have HB := hide hb2
  clear hb2
  go_wp2_with fail
  go_ret
  exact ⟨rfl, HB.out⟩

theorem join_empty : ∀ l : List (List UInt8), Lib.join l [] = l.flatten
  | [] => rfl
  | [x] => by simp [Lib.join, List.intercalate]
  | x :: y :: r => by
    have ih := join_empty (y :: r)
    simp only [Lib.join, List.intercalate] at ih ⊢
    rw [List.intersperse_cons_cons]
    simp only [List.flatten_cons, List.nil_append] at ih ⊢
    rw [ih]
theorem join_rows (l : List (List UInt8)) : Lib.join ((l.map fun x => (⟨x.toArray⟩ : ByteArray)).map (·.data.toList)) (⟨[].toArray⟩ : ByteArray).data.toList = l.flatten := by
  rw [← join_empty l]
  congr 1
  rw [List.map_map]
  exact List.map_id' _
set_option maxRecDepth 100000 in
set_option maxHeartbeats 2000000 in
theorem line (l : List (List UInt8)) (P n X Y b : Nat) (bs ind : List UInt8) (w0 w : World) (hn : l.length = n) (hn2 : n ≤ 100) (hc : ∀ (j : Nat) x, l[j]? = some x → w.cell? ⟨P, j, none⟩ = some (S x)) (hP : P < w.heap.size)
    (hX0 : w.heap[X]? = some (.cells #[.pointer (some ⟨b, 0, none⟩)] 51 (0, 0))) (hY0 : w.heap[Y]? = some (.cells #[S ind] 9 (0, 0))) (hB : Bld w0.heap.size b bs w) (hb : Below w0.heap.size w0 w) (hlen : bs.length + (lineP ind l).length ≤ 140737488355328) :
    Calls Tryz.prog 58 #[.slice (some ⟨P, 0, none⟩) n n, .pointer (some ⟨X, 0, none⟩), .pointer (some ⟨Y, 0, none⟩)] w (Wrote w0 w b (bs ++ lineP ind l)) := by
  have hjoin : ∀ W, Below w.heap.size w W → Calls Tryz.prog 59 #[.slice (some ⟨P, 0, none⟩) n n, S []] W (Fresh (S l.flatten) W) := fun W hW => by
    have h := Tryz.strings_Join P 0 n (l.map fun x => (⟨x.toArray⟩ : ByteArray)) ⟨[].toArray⟩ W (fun j x hj => by
      rw [List.getElem?_map] at hj
      obtain ⟨y, hy, rfl⟩ := Option.map_eq_some_iff.1 hj
      rw [Nat.zero_add]
      exact (hW.cell hP).trans (hc j y hy)) (Nat.lt_of_lt_of_le hP hW.size) (by simp; omega) (by simp; omega) (by rw [join_rows]; simp only [lineP, List.length_append] at hlen; omega)
    rw [join_rows, List.length_map, hn] at h
    exact h
  have HJ := hide hjoin
  obtain ⟨u, hu⟩ : ∃ u, l.flatten = u := ⟨_, rfl⟩
  have HQ : Hid (lineP ind l = ind ++ u ++ [10]) := by unfold Hid; rw [lineP, hu]
  rw [hu] at HJ
  rw [HQ.out] at hlen ⊢
  have hlen2 := hlen
  simp only [List.length_append, List.length_cons, List.length_nil] at hlen2
  have g1 : ¬ 9223372036854775807 < ind.length + u.length := by omega
  have g2 : ¬ 9223372036854775807 < ind.length + u.length + 1 := by omega
  have g3 : ¬ 9223372036854775807 < ind.length + (u.length + 1) := by omega
  have hX : w.cell? ⟨X, 0, none⟩ = some (.pointer (some ⟨b, 0, none⟩)) := by rw [Lib.cell_of_heap hX0]; rfl
  have hY : w.cell? ⟨Y, 0, none⟩ = some (S ind) := by rw [Lib.cell_of_heap hY0]; rfl
  have HALK : Hid (∀ W, Keep w0.heap.size w W → W.cell? ⟨X, 0, none⟩ = some (.pointer (some ⟨b, 0, none⟩)) ∧ W.cell? ⟨Y, 0, none⟩ = some (S ind)) := fun W hW => by
    have h1 := hW.kept _ _ _ _ hX0 (by decide) (by decide)
    have h2 := hW.kept _ _ _ _ hY0 (by decide) (by decide)
    exact ⟨by rw [Lib.cell_of_heap h1]; rfl, by rw [Lib.cell_of_heap h2]; rfl⟩
  have HALL : Hid (∀ W, Below w.heap.size w W → W.cell? ⟨X, 0, none⟩ = some (.pointer (some ⟨b, 0, none⟩)) ∧ W.cell? ⟨Y, 0, none⟩ = some (S ind)) := fun W hW => ⟨(hW.cell (World.block_lt_of_cell? w _ hX)).trans hX, (hW.cell (World.block_lt_of_cell? w _ hY)).trans hY⟩
  have HB := hide hB
  have HBW := hide hb
  have HLEN := hide hlen
  clear hjoin hu hc hn hB hb hlen hX0 hY0
  go_enter Tryz.func58, Tryz.ntmps58
  go_wp2_with fail
  go_region_held3 (fun w' => w'.cell? ⟨X, 0, none⟩ = some (.pointer (some ⟨b, 0, none⟩)) ∧ w'.cell? ⟨Y, 0, none⟩ = some (S ind)) (first | exact HALL.out _ (Below.refl _ _) | exact HALL.out _ (Below.refl _ _).drew | exact HALL.out _ (by assumption) | assumption) (first | (go_at_call 59; refine Calls.mono (HJ.out _ ((Below.refl _ w).drew)) ?_; rintro e w5 ⟨rfl, hb5⟩; have hz5 := below_d hb5) | (go_at_call 46; refine (wString (ind ++ (u ++ [10])) (HBW.out.trans ((by assumption : Below w.heap.size w _).mono HBW.out.size)) (bld_below HB.out (by assumption)) (by simp only [List.length_append, List.length_cons, List.length_nil]; omega)).mono ?_; rintro e w6 ⟨rfl, hB6, hk6⟩; have hs6 := (Keep.of_below HBW.out.size (by assumption : Below w.heap.size w _)).trans hk6; have hy6 := HALK.out _ hs6))
  refine bodyPost_end (results_none (by kernel_rfl) _ _ _) rfl ⟨rfl, ?_, hs6⟩
  rw [List.append_assoc ind]
  exact hB6
end Go.Proofs.YtagkdmolgmhmdaaGreatDoor
