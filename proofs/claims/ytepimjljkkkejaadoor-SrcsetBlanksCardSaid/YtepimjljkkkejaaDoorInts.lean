/- A list of numbers as it comes in. -/
import Derived.Test.YtepimjljkkkejaaDoorY
import Derived.Test.YtepimjljkkkejaaDoorArgs
namespace Go.Proofs.YtepimjljkkkejaaDoor
open Go.ChangeShapes Go.WideShapes Go.ChangeAt Go.RowKit Go.ChangeMaps Go.Deep

theorem open_nums {H : Type} {enc : TypeId × Value → H} {W : World} {a0 : Option Addr} {len cap fuel : Nat} {x : DataW H × List MemPlace}
    (hf : DataW.trod enc Tryd.prog W 0 (fun _ => true) true fuel 33 [.slice a0 len cap] = some x) :
    ∃ l : List Int, l.length = len ∧ RI W (.slice a0 len cap) l ∧ len ≤ maxLen := by
  rcases open_ints Tryd.underlying33 Tryd.underlying3 cells_int hf with ⟨hcs, hx⟩ | ⟨a, len', cap', zs, hcs, _, hl, hm, hz, hx, hcell, _⟩
  · simp at hcs
    obtain ⟨rfl, rfl, rfl⟩ := hcs
    exact ⟨[], rfl, .inl ⟨rfl, _, _, rfl⟩, Nat.zero_le _⟩
  · simp at hcs
    obtain ⟨rfl, rfl, rfl⟩ := hcs
    simp only [if_true] at hz
    obtain ⟨b, off, spot⟩ := a
    refine ⟨zs.take len, by simp; omega, ?_, by omega⟩
    rcases Nat.eq_zero_or_pos len with h0 | hp
    · subst h0; exact .inl ⟨rfl, _, _, rfl⟩
    · have c0 := hcell 0 (by omega)
      have hspot : spot = none := by simpa [Addr.add] using World.cell?_spot c0
      subst hspot
      have hll : (zs.take len).length = len := by simp; omega
      refine .inr ⟨b, off, cap, by rw [hll], World.block_lt_of_cell? W _ c0, fun i c hc => ?_⟩
      have hi : i < len := by
        have := (List.getElem?_eq_some_iff.1 hc).1
        simp at this; omega
      have hci := hcell i (by omega)
      rw [add_plain] at hci
      rw [hci]
      rw [List.getElem?_take_of_lt hi] at hc
      simp [List.getD, hc]
end Go.Proofs.YtepimjljkkkejaaDoor
