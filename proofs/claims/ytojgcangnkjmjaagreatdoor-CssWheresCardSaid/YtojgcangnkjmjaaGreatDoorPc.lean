/- A Builder's WriteRune, WriteString, String: what is no row of cells stays, too; text.Points: what comes, in which order. -/
import Derived.Test.YtojgcangnkjmjaaGreatDoorPb
import Derived.Test.YtojgcangnkjmjaaGreatDoorShelf
import Derived.Lib.Builder
import Derived.Lib.AppendStr
import Derived.RangeFuncOwn
import Derived.RangeFuncNested
import Derived.RangeFuncBound
import Derived.RangeFuncCalls
import Derived.RangeFuncLeaves
import Derived.Shelf.Abstract
import Derived.Shelf.RegionOpen
import Derived.OwnWalkIn
import Derived.TacticsInMore
import Derived.LoopNIn
import Derived.LoopIn
namespace Go.Proofs.YtojgcangnkjmjaaGreatDoor
open Go.RowKit

theorem copyCheckO (B b : Nat) (bs : List UInt8) (w : World) (h : Bld B b bs w) :
    Calls Tryz.prog 95 #[.pointer (some ⟨b, 0, none⟩)] w fun e w' => e = .returned (.tuple #[]) ∧ BldAt B b bs w' ∧ Keep B w w' ∧ KeepsOthers w w' := by
  rcases h with h | h
  · have h' := h
    obtain ⟨hB, v, hb, hown, hne⟩ := h
    refine (copyCheck_fresh b w h'.cell0 h'.shape (by simp [World.frozen?, hb])).mono ?_
    rintro e w' ⟨rfl, rfl⟩
    refine ⟨rfl, ⟨hB, v, by simp [World.setCell, Array.getElem?_modify, hb], hown.kept (set0_kept _) (.inr hne), hne⟩, (Keep.refl B w).setCell (p := ⟨b, 0, none⟩) hB hb (.inl rfl) _, KeepsOthers.setCell _ _ _⟩
  · refine (copyCheck_used b w h.cell0).mono ?_
    rintro e w' ⟨rfl, rfl⟩
    exact ⟨rfl, h, Keep.refl _ _, KeepsOthers.refl _⟩
set_option maxHeartbeats 4000000 in
set_option maxRecDepth 100000 in
theorem writeRuneO (B b : Nat) (bs : List UInt8) (r : Int) (w : World) (h : Bld B b bs w) (hBw : B ≤ w.heap.size) (hlen : bs.length + 4 ≤ 140737488355328) (hr0 : 0 ≤ r) (hr1 : r ≤ 2147483647) :
    Calls Tryz.prog 61 #[.pointer (some ⟨b, 0, none⟩), .int .i32 r] w fun e w' => (∃ u, e = .returned (.tuple #[u, .nilIface])) ∧ BldAt B b (bs ++ Lib.encodeRune r) w' ∧ Keep B w w' ∧ KeepsOthers w w' := by
  have hcl : (Lib.byteCells bs).length = bs.length := by simp [Lib.byteCells]
  have hk4 := Lib.runeCells_le r
  go_enter Tryz.func61, Tryz.ntmps61
  go_wp2_with fail
  refine (copyCheckO B b bs _ h).mono ?_
  rintro e w1 ⟨rfl, h1, hk1, ho1⟩
  obtain ⟨hB, v, hbk, hown, hne⟩ := h1
  obtain ⟨ao, cap, rfl⟩ : ∃ ao cap, v = .slice ao bs.length cap := by
    rcases hown.2 with ⟨hv, h0⟩ | ⟨g, cap, cur, hv, _⟩
    · exact ⟨none, 0, by rw [hv]; rw [hcl] at h0; rw [h0]⟩
    · exact ⟨_, _, by rw [hv, hcl]⟩
  have c1 : w1.cell? ⟨b, 1, none⟩ = some (.slice ao bs.length cap) := by rw [Lib.cell_of_heap hbk]; rfl
  have hsz1 := hk1.below.size
  have hlt : b < w1.heap.size := heap_lt hbk
  go_wp2_with fail
  refine (Tryz.utf8_AppendRune_plain B _ _ _ r (by omega) hr1 _ hown (by omega) (by omega)).mono ?_
  rintro e w2 ⟨v', rfl, hown', o, hgrow⟩
  have hb1 : (w1.alloc o).heap[b]? = some (Obj.cells #[.pointer (some ⟨b, 0, none⟩), .slice ao bs.length cap] 99 (0, 0)) := by rw [Below.heap_alloc _ _ _ hlt]; exact hbk
  have hb2 : w2.heap[b]? = some (Obj.cells #[.pointer (some ⟨b, 0, none⟩), .slice ao bs.length cap] 99 (0, 0)) := by
    rw [hgrow.block b (by simp; omega) (fun e => hne e.symm)]; exact hb1
  have d1 : w2.cell? ⟨b, 1, none⟩ = some (.slice ao bs.length cap) := by rw [Lib.cell_of_heap hb2]; rfl
  have f1 : w2.frozen? ⟨b, 1, none⟩ = false := by simp [World.frozen?, hb2]
  have hk2 : Keep B w w2 := (hk1.alloc (by omega) o).grown (hown.alloc _) hgrow (by simp; omega) (.inr rfl)
  have ho2 : KeepsOthers w w2 := (ho1.trans (KeepsOthers.alloc _ _)).trans (KeepsOthers.of_grownBy hgrow fun j o' e hj => by
    obtain ⟨c, hc⟩ := ownsRow_kind (hown.alloc o) j e
    rw [hc] at hj
    injection hj with hj
    rw [← hj]; rfl)
  have hne' : v'.ownBlock ≠ some b := fun e => by
    obtain ⟨x, hx⟩ := ownsRow_kind hown' b e
    rw [hb2] at hx
    injection hx with hx
    injection hx with _ hx _
    exact absurd hx (by decide)
  have hcells : Lib.byteCells bs ++ Lib.runeCells r = Lib.byteCells (bs ++ Lib.encodeRune r) := by rw [← Lib.byteCells_encodeRune]; simp [Lib.byteCells]
  have hlc : (Lib.byteCells bs).length + (Lib.runeCells r).length = (Lib.byteCells (bs ++ Lib.encodeRune r)).length := by rw [← hcells]; simp
  rw [hcells, hlc] at hown'
  obtain ⟨ao', cap', rfl⟩ : ∃ ao' cap', v' = .slice ao' (bs.length + (Lib.encodeRune r).length) cap' := by
    have e : (Lib.byteCells (bs ++ Lib.encodeRune r)).length = bs.length + (Lib.encodeRune r).length := by simp [Lib.byteCells]
    rcases hown'.2 with ⟨hv, h0⟩ | ⟨g, cap, cur, hv, _⟩
    · exact ⟨none, 0, by rw [hv, ← e, h0]⟩
    · exact ⟨_, _, by rw [hv, e]⟩
  have hel : (Lib.encodeRune r).length ≤ 4 := by rw [← Lib.runeCells_length]; exact hk4.2
  clear hown hgrow hk1 h hbk hb1 c1
  go_wp2_with fail
  go_ret2
  exact ⟨⟨_, rfl⟩, ⟨hB, _, by simp [World.setCell, Array.getElem?_modify, hb2], hown'.kept (set1_kept _) (.inr hne'), hne'⟩, hk2.setCell (p := ⟨b, 1, none⟩) hB hb2 (.inl rfl) _, ho2.trans (KeepsOthers.setCell _ _ _)⟩

theorem others_of_below {w w' : World} (h : Below w.heap.size w w') : KeepsOthers w w' := ⟨h.size, fun k _ hk _ => (h.block k (heap_lt hk)).trans hk⟩
theorem freeze_others {w : World} {g : Nat} {cs : Array Value} {ty : TypeId} {f : Nat × Nat} (hg : w.heap[g]? = some (.cells cs ty f)) (n : Nat) : KeepsOthers w (w.freeze ⟨g, 0, none⟩ n) := by
  unfold World.freeze
  split
  · exact KeepsOthers.refl w
  · refine ⟨by simp, fun k o hk ho => ?_⟩
    simp only [Array.getElem?_modify]
    rw [if_neg]
    · exact hk
    · intro e
      subst e
      rw [hg] at hk
      injection hk with hk
      rw [← hk] at ho
      cases ho
set_option maxRecDepth 100000 in
set_option maxHeartbeats 4000000 in
theorem stringO (B b : Nat) (l : List UInt8) (w : World) (h : Bld B b l w) (hBw : B ≤ w.heap.size) :
    Calls Tryz.prog 62 #[.pointer (some ⟨b, 0, none⟩)] w fun e w' => e = .returned (S l) ∧ Below B w w' ∧ KeepsOthers w w' := by
  obtain ⟨p, hB, v, hbk, hown, hne⟩ : ∃ p, Lib.BuilderAt 99 5 B b p (Lib.byteCells l) w := by
    rcases h with h | h
    · exact ⟨_, h⟩
    · exact ⟨_, h⟩
  rw [Lib.byteCells_length] at hown
  by_cases h0 : l = []
  · subst h0
    rcases hown.2 with ⟨rfl, _⟩ | ⟨g, cap, cur, rfl, hbg, hg, _, _, _, _⟩
    · exact (Any.Builder_String_nil Tryz.lays169 Tryz.Builder_Extra_169 w.heap.size b p w hbk).mono fun e w' ⟨h1, h2⟩ => ⟨h1, h2.mono hBw, others_of_below h2⟩
    · by_cases hc0 : cap = 0
      · subst hc0
        exact (Any.Builder_String_noroom Tryz.lays169 Tryz.Builder_Extra_169 w.heap.size b g p cur w (Nat.le_refl _) hbk hg).mono fun e w' ⟨h1, h2⟩ => ⟨h1, h2.mono hBw, others_of_below h2⟩
      · exact (Any.Builder_String_room Tryz.lays169 Tryz.Builder_Extra_169 w.heap.size b g cap p w hc0 hbk).mono fun e w' ⟨h1, h2⟩ => ⟨h1, h2.mono hBw, others_of_below h2⟩
  · have hl0 : l.length ≠ 0 := by simpa using h0
    obtain ⟨g, cap, cur, rfl, hbg, hg, hnc, hcm, hcs, htake⟩ : ∃ g cap cur, v = .slice (some ⟨g, 0, none⟩) l.length cap ∧ B ≤ g ∧ w.heap[g]? = some (.cells cur 5 (0, 0)) ∧ l.length ≤ cap ∧ cap ≤ maxLen ∧ cur.size = cap * 1 ∧ cur.toList.take (l.length * 1) = Lib.byteCells l := by
      rcases hown.2 with ⟨_, hz⟩ | ⟨g, cap, cur, hv, r⟩
      · exact absurd hz hl0
      · exact ⟨g, cap, cur, hv, r⟩
    have c1 : w.drew.cell? ⟨b, 1, none⟩ = some (.slice (some ⟨g, 0, none⟩) l.length cap) := by
      have : w.drew.heap[b]? = some (.cells #[p, .slice (some ⟨g, 0, none⟩) l.length cap] 99 (0, 0)) := hbk
      rw [Lib.cell_of_heap this]; rfl
    have hSD : (Builtin.unsafeSliceData_ #[32] 126 #[.slice (some ⟨g, 0, none⟩) l.length cap]).run Tryz.prog w.drew = .ok (.pointer (some ⟨g, 0, none⟩)) w.drew :=
      Lib.run_unsafeSliceData_row _ _ _ _ _ _ (by omega)
    have hUS : (Builtin.unsafeString_ #[126, 3] 9 #[.pointer (some ⟨g, 0, none⟩), .int .i64 l.length]).run Tryz.prog w.drew = .ok (.string ⟨l.toArray⟩) (w.drew.freeze ⟨g, 0, none⟩ l.length) := by
      refine Lib.run_unsafeString_row w.drew 126 3 9 5 Tryz.underlying126 (by kernel_rfl) g cur.size (by have hg' : w.drew.heap[g]? = some (.cells cur 5 (0, 0)) := hg; simp [World.shape?, hg']) l h0 (by omega) (by unfold maxLen at hcm; omega) ?_
      intro j x hx
      have := hown.cells (g := g) rfl j (.int .u8 x.toNat) (by simp [Lib.byteCells, hx])
      exact this
    have HFR := hide (freeze_others (w := w.drew) hg l.length)
    have HBG := hide hbg
    clear hown htake hg hcs hbk h hne
    go_enter Tryz.func62, Tryz.ntmps62
    go_wp2_with fail
    go_region
    all_goals
      go_wp2_with fail
      go_ret
      exact ⟨rfl, Lib.below_freeze (Below.drew (Below.refl B w)) (p := ⟨g, 0, none⟩) HBG.out _, (others_of_below (Below.refl _ w).drew).trans HFR.out⟩
end Go.Proofs.YtojgcangnkjmjaaGreatDoor
