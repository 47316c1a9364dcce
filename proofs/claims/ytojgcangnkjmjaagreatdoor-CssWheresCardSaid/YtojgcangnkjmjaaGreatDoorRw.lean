/- A writer into a slice of bytes. -/
import Derived.Test.YtojgcangnkjmjaaGreatDoorRk
import Derived.Lib.AppendStr
namespace Go.Proofs.YtojgcangnkjmjaaGreatDoor
open Go.RowKit

theorem info_byte : (Tryz.prog.info? 5).map (fun i => (i.zero, i.size, i.bytes)) = some (some (.int .u8 0), 1, 1) := by kernel_rfl
theorem heap_lt {w : World} {k : Nat} {o : Obj} (h : w.heap[k]? = some o) : k < w.heap.size := (Array.getElem?_eq_some_iff.1 h).1
theorem ownsRow_kind {w : World} {B : Nat} {e : TypeId} {size : Nat} {v : Value} {n : Nat} {xs : List Value} (h : w.ownsRow B e size v n xs) : ∀ g, v.ownBlock = some g → ∃ c, w.heap[g]? = some (Obj.cells c e (0, 0)) := by
  intro g hg
  rcases h.2 with ⟨rfl, _⟩ | ⟨g', cap, cur, rfl, _, hgg, _⟩
  · cases hg
  · have : g' = g := by simpa [Value.ownBlock] using hg
    subst this
    exact ⟨_, hgg⟩
/-- the writer's slice, in block A, holds acc -/
def SW (K A : Nat) (acc : List UInt8) (w : World) : Prop := ∃ v, w.heap[A]? = some (.cells #[v] 235 (0, 0)) ∧ K ≤ A ∧ w.ownsRow K 5 1 v acc.length (acc.map B8)
theorem strCells_map (s : List UInt8) : Lib.strCells ⟨s.toArray⟩ = s.map B8 := by simp [Lib.strCells]

set_option maxHeartbeats 2000000 in
set_option maxRecDepth 100000 in
theorem swWrite (K A : Nat) (acc t : List UInt8) (w : World) (h : SW K A acc w) (hlen : acc.length + t.length ≤ 140737488355328) :
    Calls Tryz.prog 226 #[.pointer (some ⟨A, 0, none⟩), S t] w fun e w' => e = .returned (.tuple #[.int .i64 t.length, .nilIface]) ∧ SW K A (acc ++ t) w' ∧ Below K w w' := by
  obtain ⟨i0, hi, hz0, hz1, hz2⟩ := info_parts info_byte
  obtain ⟨v, hA, hKA, hown⟩ := h
  have hlt := heap_lt hA
  have c0 : w.cell? ⟨A, 0, none⟩ = some v := by rw [Lib.cell_of_heap hA]; rfl
  have hne : v.ownBlock ≠ some A := fun e => by
    obtain ⟨c, hc⟩ := ownsRow_kind hown A e
    rw [hA] at hc
    injection hc with hc
    injection hc with _ hc _
    exact absurd hc (by decide)
  go_enter Tryz.func226, Tryz.ntmps226
  go_wp2_with (at_builtin; refine Lib.wpList_append_own_string _ rfl _ _ 235 9 rfl K 5 i0 Tryz.underlying235 Tryz.underlying9 hi hz0 hz1 hz2 _ _ _ rfl hown ⟨t.toArray⟩ rfl ?c3 ?c4 ?c5 ?_)
  case c3 => rw [bl_size]; unfold maxLen; omega
  case c4 => rw [bl_size]; omega
  case c5 => omega
  intro v' w2 hown' hgrow _
  have hA2 : w2.heap[A]? = some (.cells #[v] 235 (0, 0)) := by
    rw [hgrow.block A hlt (fun e => hne e.symm)]; exact hA
  have d0 : w2.cell? ⟨A, 0, none⟩ = some v := by rw [Lib.cell_of_heap hA2]; rfl
  have f0 : w2.frozen? ⟨A, 0, none⟩ = false := by simp [World.frozen?, hA2]
  have hb2 : Below K w w2 := (Below.refl K w).grown hgrow (by omega) (fun k hk => (hown.lt k hk).1)
  have hne' : v'.ownBlock ≠ some A := fun e => by
    obtain ⟨x, hx⟩ := ownsRow_kind hown' A e
    rw [hA2] at hx
    injection hx with hx
    injection hx with _ hx _
    exact absurd hx (by decide)
  rw [strCells_map, ← List.map_append, ← List.length_append] at hown'
  obtain ⟨ao, n', cap, rfl⟩ : ∃ ao n' cap, v' = .slice ao n' cap := by
    rcases hown'.2 with ⟨hv, _⟩ | ⟨g, cap, cur, hv, _⟩
    · exact ⟨_, _, _, hv⟩
    · exact ⟨_, _, _, hv⟩
  clear hown hgrow hA c0
  go_wp2_with fail
  go_ret2
  refine ⟨rfl, ⟨_, ?_, hKA, hown'.kept ⟨rfl, rfl, rfl, by simp [World.setCell], fun k _ hk => Below.heap_setCell _ _ _ _ (fun e => hk (by simp [e]))⟩ (.inr hne')⟩, hb2.setCell hKA _⟩
  simp [World.setCell, Array.getElem?_modify, hA2]
end Go.Proofs.YtojgcangnkjmjaaGreatDoor
