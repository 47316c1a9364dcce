/- Bytes are written into a Builder. -/
import Derived.Test.YtagkdmolgmhmdaaGreatDoorBu
namespace Go.Proofs.YtagkdmolgmhmdaaGreatDoor
open Go.RowKit

theorem copyCheckP (B b : Nat) (bs : List UInt8) (w : World) (h : Bld B b bs w) :
    Calls Tryz.prog 64 #[.pointer (some ⟨b, 0, none⟩)] w fun e w' => e = .returned (.tuple #[]) ∧ BldAt B b bs w' ∧ Keep B w w' ∧ ∀ k : Nat, k ≠ b → w'.heap[k]? = w.heap[k]? := by
  rcases h with h | h
  · have h' := h
    obtain ⟨hB, v, hb, hown, hne⟩ := h
    refine (copyCheck_fresh b w h'.cell0 h'.shape (by simp [World.frozen?, hb])).mono ?_
    rintro e w' ⟨rfl, rfl⟩
    refine ⟨rfl, ⟨hB, v, by simp [World.setCell, Array.getElem?_modify, hb], hown.kept (set0_kept _) (.inr hne), hne⟩, (Keep.refl B w).setCell (p := ⟨b, 0, none⟩) hB hb (.inl rfl) _, fun k hk => by simp [World.setCell, Array.getElem?_modify, Ne.symm hk]⟩
  · refine (copyCheck_used b w h.cell0).mono ?_
    rintro e w' ⟨rfl, rfl⟩
    exact ⟨rfl, h, Keep.refl _ _, fun _ _ => rfl⟩

set_option maxHeartbeats 2000000 in
set_option maxRecDepth 100000 in
theorem writeBytes (B b P m c : Nat) (bs s : List UInt8) (w : World) (h : Bld B b bs w) (hPb : P ≠ b) (hm : s.length = m) (hcs : Hid (∀ (j : Nat) x, s[j]? = some x → w.cell? ⟨P, j, none⟩ = some (B8 x))) (hBw : B ≤ w.heap.size) (hlen : bs.length + s.length ≤ 140737488355328) :
    Calls Tryz.prog 80 #[.pointer (some ⟨b, 0, none⟩), .slice (some ⟨P, 0, none⟩) m c] w fun e w' => e = .returned (.tuple #[.int .i64 m, .nilIface]) ∧ BldAt B b (bs ++ s) w' ∧ Keep B w w' := by
  obtain ⟨i0, hi, hz0, hz1, hz2⟩ := info_parts info_byte
  have hcl : (Lib.byteCells bs).length = bs.length := by simp [Lib.byteCells]
  go_enter Tryz.func80, Tryz.ntmps80
  go_wp2_with fail
  refine (copyCheckP B b bs _ h).mono ?_
  rintro e w1 ⟨rfl, h1, hk1, hsame⟩
  have hcs1 : ∀ (j : Nat) x, s[j]? = some x → w1.cell? ⟨P, j, none⟩ = some (B8 x) := fun j x hx => by
    rw [← hcs.out j x hx]
    simp only [World.cell?, hsame P hPb]
  have HCS := hide hcs1
  clear hcs1 hsame
  obtain ⟨hB, v, hbk, hown, hne⟩ := h1
  have c1 : w1.cell? ⟨b, 1, none⟩ = some v := by rw [Lib.cell_of_heap hbk]; rfl
  have hsz1 := hk1.below.size
  have hlt : b < w1.heap.size := heap_lt hbk
  go_wp2_with (at_builtin; refine wpList_append_own _ rfl _ _ 52 rfl B 5 i0 (.int .u8 0) 1 1 Tryz.underlying52 hi hz0 hz1 hz2 rfl (by decide) _ _ _ rfl hown ⟨P, 0, none⟩ m c (s.map B8) rfl (by simp [hm]) ?c1 ?c2 ?c3 ?c4 ?c5 ?_)
  case c1 =>
    intro j u hu
    rw [List.getElem?_map] at hu
    obtain ⟨x, hx, rfl⟩ := Option.map_eq_some_iff.1 hu
    have := HCS.out j x hx
    cases j with
    | zero => simpa [Addr.add] using this
    | succ j => simpa [Addr.add] using this
  case c2 => intro u hu; obtain ⟨x, _, rfl⟩ := List.mem_map.1 hu; rfl
  case c3 => rw [hcl]; unfold maxLen; omega
  case c4 => rw [hcl]; omega
  case c5 => omega
  intro v' w2 hown' hgrow _
  have hb2 : w2.heap[b]? = some (Obj.cells #[.pointer (some ⟨b, 0, none⟩), v] 54 (0, 0)) := by
    rw [hgrow.block b hlt (fun e => hne e.symm)]; exact hbk
  have d1 : w2.cell? ⟨b, 1, none⟩ = some v := by rw [Lib.cell_of_heap hb2]; rfl
  have f1 : w2.frozen? ⟨b, 1, none⟩ = false := by simp [World.frozen?, hb2]
  have hk2 : Keep B w w2 := hk1.grown hown hgrow (by omega) (.inr rfl)
  have hne' : v'.ownBlock ≠ some b := fun e => by
    obtain ⟨x, hx⟩ := ownsRow_kind hown' b e
    rw [hb2] at hx
    injection hx with hx
    injection hx with _ hx _
    exact absurd hx (by decide)
  have hcells : Lib.byteCells bs ++ s.map B8 = Lib.byteCells (bs ++ s) := by simp [Lib.byteCells]
  rw [hcells] at hown'
  have hcl2 : bs.length + m = (Lib.byteCells (bs ++ s)).length := by simp [Lib.byteCells, hm]
  rw [hcl2] at hown'
  obtain ⟨ao, n', cap, rfl⟩ : ∃ ao n' cap, v' = .slice ao n' cap := by
    rcases hown'.2 with ⟨hv, _⟩ | ⟨g, cap, cur, hv, _⟩
    · exact ⟨_, _, _, hv⟩
    · exact ⟨_, _, _, hv⟩
  clear hown hgrow hk1 h hbk
  go_wp2_with fail
  go_ret2
  exact ⟨rfl, ⟨hB, _, by simp [World.setCell, Array.getElem?_modify, hb2], hown'.kept (set1_kept _) (.inr hne'), hne'⟩, hk2.setCell (p := ⟨b, 1, none⟩) hB hb2 (.inl rfl) _⟩

end Go.Proofs.YtagkdmolgmhmdaaGreatDoor
