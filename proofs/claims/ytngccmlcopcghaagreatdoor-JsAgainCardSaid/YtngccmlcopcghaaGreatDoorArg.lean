/- The argument as it comes in: a list of bytes. -/
import Derived.Test.YtngccmlcopcghaaGreatDoorWit
import Derived.Test.YtngccmlcopcghaaGreatDoorLa
import Derived.ChangeMaps5
import Derived.ChangeSlices
import Derived.SliceStrings
import Derived.Deep.Slices
namespace Go.Proofs.YtngccmlcopcghaaGreatDoor
open Go.ChangeShapes Go.WideShapes Go.ChangeAt Go.RowKit Go.ChangeMaps Go.Deep

theorem cells_u8 : Tryz.prog.cellsOf 5 = 1 := by kernel_rfl
theorem byte_of_wf {z : Int} (h : (Lit.int .u8 z).wf = true) : Value.int .u8 z = B8 (UInt8.ofNat z.toNat) := by
  rw [Lit.wf, Bool.and_eq_true, decide_eq_true_eq, decide_eq_true_eq] at h
  have h1 : IntKind.u8.min = 0 := rfl
  have h2 : IntKind.u8.max = 255 := rfl
  have h3 : (UInt8.ofNat z.toNat).toNat = z.toNat := UInt8.toNat_ofNat_of_lt' (by show z.toNat < 256; omega)
  show Value.int .u8 z = .int .u8 (((UInt8.ofNat z.toNat).toNat : Nat) : Int)
  rw [h3]
  congr 1
  omega
theorem open_bytes {H : Type} {enc : TypeId × Value → H} {W : World} {a0 : Option Addr} {len cap fuel : Nat} {x : DataW H × List MemPlace}
    (hf : DataW.trod enc Tryz.prog W 0 (fun _ => true) true fuel 39 [.slice a0 len cap] = some x) :
    ∃ l : List UInt8, l.length = len ∧ RB W (.slice a0 len cap) l ∧ len ≤ maxLen := by
  rcases open_ints Tryz.underlying39 Tryz.underlying5 cells_u8 hf with ⟨hcs, hx⟩ | ⟨a, len', cap', zs, hcs, _, hl, hm, hz, hx, hcell, hwf⟩
  · simp at hcs
    obtain ⟨rfl, rfl, rfl⟩ := hcs
    exact ⟨[], rfl, .inl ⟨rfl, _, _, rfl⟩, Nat.zero_le _⟩
  · simp at hcs
    obtain ⟨rfl, rfl, rfl⟩ := hcs
    simp only [if_true] at hz
    obtain ⟨b, off, spot⟩ := a
    refine ⟨(zs.take len).map fun z => UInt8.ofNat z.toNat, by simp; omega, ?_, by omega⟩
    rcases Nat.eq_zero_or_pos len with h0 | hp
    · subst h0; exact .inl ⟨rfl, _, _, rfl⟩
    · have c0 := hcell 0 (by omega)
      have hspot : spot = none := by simpa [Addr.add] using World.cell?_spot c0
      subst hspot
      have hll : ((zs.take len).map fun z => UInt8.ofNat z.toNat).length = len := by simp; omega
      refine .inr ⟨b, off, cap, by rw [hll], World.block_lt_of_cell? W _ c0, fun i c hc => ?_⟩
      have hi : i < len := by
        have := (List.getElem?_eq_some_iff.1 hc).1
        simp at this; omega
      have hci := hcell i (by omega)
      rw [add_plain] at hci
      rw [hci]
      rw [List.getElem?_map, List.getElem?_take_of_lt hi] at hc
      cases hg : zs[i]? with
      | none => rw [hg] at hc; cases hc
      | some z =>
        rw [hg] at hc
        simp at hc
        subst hc
        rw [show zs.getD i 0 = z by simp [List.getD, hg]]
        exact congrArg some (byte_of_wf (hwf z (List.mem_of_getElem? hg)))
end Go.Proofs.YtngccmlcopcghaaGreatDoor
