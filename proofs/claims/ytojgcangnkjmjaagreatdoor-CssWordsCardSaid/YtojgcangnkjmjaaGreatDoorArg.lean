/- The argument as it comes in: a list of texts. -/
import Derived.Test.YtojgcangnkjmjaaGreatDoorWit
import Derived.Test.YtojgcangnkjmjaaGreatDoorLw
import Derived.ChangeMaps5
import Derived.ChangeSlices
import Derived.SliceStrings
import Derived.Deep.Slices
namespace Go.Proofs.YtojgcangnkjmjaaGreatDoor
open Go.ChangeShapes Go.WideShapes Go.ChangeAt Go.RowKit Go.ChangeMaps Go.Deep

theorem cells_str : Tryz.prog.cellsOf 9 = 1 := by kernel_rfl
theorem open_texts {H : Type} {enc : TypeId × Value → H} {W : World} {a0 : Option Addr} {len cap fuel : Nat} {x : DataW H × List MemPlace}
    (hf : DataW.trod enc Tryz.prog W 0 (fun _ => true) true fuel 30 [.slice a0 len cap] = some x) :
    ∃ l : List (List UInt8), l.length = len ∧ RS W (.slice a0 len cap) l ∧ len ≤ maxLen ∧ ∀ u ∈ l, u.length ≤ maxLen := by
  rcases open_strings Tryz.underlying30 Tryz.underlying9 cells_str hf with ⟨hcs, hx⟩ | ⟨a, len', cap', ss, hcs, _, hl, hm, hz, hx, hcell, hsz⟩
  · simp at hcs
    obtain ⟨rfl, rfl, rfl⟩ := hcs
    exact ⟨[], rfl, .inl ⟨rfl, _, _, rfl⟩, Nat.zero_le _, fun u hu => by cases hu⟩
  · simp at hcs
    obtain ⟨rfl, rfl, rfl⟩ := hcs
    simp only [if_true] at hz
    obtain ⟨b, off, spot⟩ := a
    refine ⟨(ss.take len).map (·.data.toList), by simp; omega, ?_, by omega, fun u hu => ?_⟩
    · rcases Nat.eq_zero_or_pos len with h0 | hp
      · subst h0; exact .inl ⟨rfl, _, _, rfl⟩
      · have c0 := hcell 0 (by omega)
        have hspot : spot = none := by simpa [Addr.add] using World.cell?_spot c0
        subst hspot
        refine .inr ⟨b, off, cap, by simp; omega, World.block_lt_of_cell? W _ c0, fun i c hc => ?_⟩
        have hi : i < len := by
          have := (List.getElem?_eq_some_iff.1 hc).1
          simp at this; omega
        have hci := hcell i (by omega)
        rw [add_plain] at hci
        rw [hci]
        rw [List.getElem?_map, List.getElem?_take_of_lt hi] at hc
        cases hg : ss[i]? with
        | none => rw [hg] at hc; cases hc
        | some z =>
          rw [hg] at hc
          simp at hc
          subst hc
          simp [List.getD, hg]
    · obtain ⟨z, hz', rfl⟩ := List.mem_map.1 hu
      have := hsz z (List.mem_of_mem_take hz')
      exact this
end Go.Proofs.YtojgcangnkjmjaaGreatDoor
