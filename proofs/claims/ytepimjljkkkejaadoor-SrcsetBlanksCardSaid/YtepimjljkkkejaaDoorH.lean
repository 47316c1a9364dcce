/- The reader's bytes: a byte written, the length, the text, the start anew; a word shut. -/
import Derived.Test.YtepimjljkkkejaaDoorG
namespace Go.Proofs.YtepimjljkkkejaaDoor
open Go.RowKit

theorem RdAt.lt {B b : Nat} {p : Value} {s : List UInt8} {ws : List (List UInt8)} {bs : List UInt8} {w : World} (h : RdAt B b p s ws bs w) : b < w.heap.size := by
  obtain ⟨_, vw, vb, hb, _⟩ := h
  exact heap_lt hb

set_option maxHeartbeats 2000000 in
set_option maxRecDepth 100000 in
theorem writeByte (B b : Nat) (s : List UInt8) (ws : List (List UInt8)) (bs : List UInt8) (c : UInt8) (w : World) (h : Rd B b s ws bs w) (hlen : bs.length ≤ 1048576) :
    Calls Tryd.prog 48 #[.pointer (some ⟨b, 2, none⟩), B8 c] w fun e w' => e = .returned .nilIface ∧ Rd B b s ws (bs ++ [c]) w' ∧ Keep B w w' := by
  obtain ⟨i0, hi, hz0, hz1, hz2⟩ := info_parts info_byte
  go_enter Tryd.func48, Tryd.ntmps48
  go_wp2_with fail
  refine (copyCheck B b s ws bs _ h).mono ?_
  rintro e w1 ⟨rfl, h1, hk1⟩
  obtain ⟨hB, vw, vb, hb, how, hob⟩ := h1
  have hlt : b < w1.heap.size := heap_lt hb
  have c3 : w1.cell? ⟨b, 3, none⟩ = some vb := by rw [Lib.cell_of_heap hb]; rfl
  have hBw : B ≤ w1.heap.size := by omega
  go_wp2_with (at_builtin; refine wpList_append_own _ rfl (.tmp 11) (.tmp 13) 35 rfl B 5 i0 (.int .u8 0) 1 1 Tryd.underlying35 hi hz0 hz1 hz2 rfl (by decide) _ _ _ rfl (hob.alloc _) ⟨w1.heap.size, 0, none⟩ 1 1 [B8 c] rfl rfl (cell_one_new _ _ _) ?c2 ?c3 ?c4 ?c5 ?_)
  case c2 => intro u hu; simp at hu; subst hu; rfl
  case c3 => unfold maxLen; omega
  case c4 => omega
  case c5 => simp; omega
  intro v' w2 hown' hgrow _
  have hb1 : (w1.alloc (.cells #[B8 c] 5)).heap[b]? = some (Obj.cells #[S s, vw, .pointer (some ⟨b, 2, none⟩), vb] 42 (0, 0)) := by rw [Below.heap_alloc _ _ _ hlt]; exact hb
  have hne : some b ≠ vb.ownBlock := fun e => by
    obtain ⟨x, hx⟩ := ownsRow_kind hob b e.symm
    rw [hb] at hx
    injection hx with hx
    injection hx with _ hx _
    exact absurd hx (by decide)
  have hb2 : w2.heap[b]? = some (Obj.cells #[S s, vw, .pointer (some ⟨b, 2, none⟩), vb] 42 (0, 0)) := by
    rw [hgrow.block b (by simp; omega) hne]; exact hb1
  have d3 : w2.cell? ⟨b, 3, none⟩ = some vb := by rw [Lib.cell_of_heap hb2]; rfl
  have f3 : w2.frozen? ⟨b, 3, none⟩ = false := by simp [World.frozen?, hb2]
  have hk2 : Keep B w w2 := (hk1.alloc hBw _).grown (hob.alloc _) hgrow (by simp; omega) (.inr (.inr rfl))
  have how2 : w2.ownsRow B 9 1 vw ws.length (ws.map S) := by
    refine (how.alloc _).kept hgrow ?_
    rcases hv : vw.ownBlock with _ | g
    · exact .inl rfl
    · refine .inr fun e => ?_
      obtain ⟨x, hx⟩ := ownsRow_kind how g hv
      obtain ⟨y, hy⟩ := ownsRow_kind hob g e.symm
      rw [hx] at hy
      injection hy with hy
      injection hy with _ hy _
      exact absurd hy (by decide)
  have hown2 : w2.ownsRow B 5 1 v' (bs ++ [c]).length (Lib.byteCells (bs ++ [c])) := by
    have e : Lib.byteCells (bs ++ [c]) = Lib.byteCells bs ++ [B8 c] := by unfold Lib.byteCells; rw [List.map_append]; rfl
    rw [e]; simpa using hown'
  obtain ⟨g, cap, hv'⟩ : ∃ g cap, v' = .slice (some ⟨g, 0, none⟩) (bs.length + 1) cap := by
    rcases hown'.2 with ⟨_, h0⟩ | ⟨g, cap, cur, hv, _⟩
    · omega
    · exact ⟨g, cap, hv⟩
  subst hv'
  clear hown' hgrow hob how hk1 h
  go_wp2_with fail
  go_ret
  have hg : w2.grownBy (w2.setCell ⟨b, 3, none⟩ (.slice (some ⟨g, 0, none⟩) (bs.length + 1) cap)) (some b) := ⟨rfl, rfl, rfl, by simp [World.setCell], fun k _ hk => Below.heap_setCell _ _ _ _ (fun e => hk (by simp [e]))⟩
  have hnb : ∀ {e : TypeId} {v : Value} {n : Nat} {xs : List Value}, w2.ownsRow B e 1 v n xs → e ≠ 42 → v.ownBlock = none ∨ v.ownBlock ≠ some b := fun ho he => by
    refine .inr fun e' => ?_
    obtain ⟨c, hc⟩ := ownsRow_kind ho b e'
    rw [hb2] at hc
    injection hc with hc
    injection hc with _ hc _
    exact he hc.symm
  refine ⟨rfl, ⟨_, .inr rfl, hB, vw, _, ?_, how2.kept hg (hnb how2 (by decide)), hown2.kept hg (hnb hown2 (by decide))⟩, hk2.setCell (p := ⟨b, 3, none⟩) hB hb2 (.inl rfl) _⟩
  simp [World.setCell, Array.getElem?_modify, hb2]

set_option maxRecDepth 100000 in
theorem bldLen (B b : Nat) (s : List UInt8) (ws : List (List UInt8)) (bs : List UInt8) (w : World) (h : Rd B b s ws bs w) :
    Calls Tryd.prog 50 #[.pointer (some ⟨b, 2, none⟩)] w (Ret (.int .i64 bs.length) w) := by
  obtain ⟨p, _, hB, vw, vb, hb, how, hob⟩ := h
  obtain ⟨ao, cap, rfl⟩ : ∃ ao cap, vb = .slice ao bs.length cap := by
    rcases hob.2 with ⟨hv, h0⟩ | ⟨g, cap, cur, hv, _⟩
    · exact ⟨none, 0, by rw [hv, h0]⟩
    · exact ⟨_, _, hv⟩
  have c3 : w.cell? ⟨b, 3, none⟩ = some (.slice ao bs.length cap) := by rw [Lib.cell_of_heap hb]; rfl
  clear hob how
  go_enter Tryd.func50, Tryd.ntmps50
  go_wp2
  go_ret
  exact ⟨rfl, rfl⟩

set_option maxHeartbeats 1000000 in
set_option maxRecDepth 100000 in
/-- the text of what has been written: its bytes are frozen behind it -/
theorem bldString (b g cap : Nat) (p : Value) (s : List UInt8) (vw : Value) (bs : List UInt8) (B : Nat) (w : World) (hb : w.heap[b]? = some (Obj.cells #[S s, vw, p, .slice (some ⟨g, 0, none⟩) bs.length cap] 42 (0, 0)))
    (hob : w.ownsRow B 5 1 (.slice (some ⟨g, 0, none⟩) bs.length cap) bs.length (Lib.byteCells bs)) (h0 : bs ≠ []) :
    Calls Tryd.prog 38 #[.pointer (some ⟨b, 2, none⟩)] w (Ret (S bs) (w.drew.freeze ⟨g, 0, none⟩ bs.length)) := by
  have hl0 : bs.length ≠ 0 := by simpa using h0
  obtain ⟨cur, hbg, hg, hnc, hcm, hcs, htake⟩ : ∃ cur, B ≤ g ∧ w.heap[g]? = some (.cells cur 5 (0, 0)) ∧ bs.length ≤ cap ∧ cap ≤ maxLen ∧ cur.size = cap * 1 ∧ cur.toList.take (bs.length * 1) = Lib.byteCells bs := by
    rcases hob.2 with ⟨_, hz⟩ | ⟨g', cap', cur, hv, r⟩
    · exact absurd hz hl0
    · injection hv with h1 h2 h3
      injection h1 with h1
      injection h1 with h1
      subst h1; subst h3
      exact ⟨cur, r⟩
  have c3 : w.drew.cell? ⟨b, 3, none⟩ = some (.slice (some ⟨g, 0, none⟩) bs.length cap) := by
    have : w.drew.heap[b]? = some (.cells #[S s, vw, p, .slice (some ⟨g, 0, none⟩) bs.length cap] 42 (0, 0)) := hb
    rw [Lib.cell_of_heap this]; rfl
  have hSD : (Builtin.unsafeSliceData_ #[35] 80 #[.slice (some ⟨g, 0, none⟩) bs.length cap]).run Tryd.prog w.drew = .ok (.pointer (some ⟨g, 0, none⟩)) w.drew :=
    Lib.run_unsafeSliceData_row _ _ _ _ _ _ (by omega)
  have hUS : (Builtin.unsafeString_ #[80, 3] 9 #[.pointer (some ⟨g, 0, none⟩), .int .i64 bs.length]).run Tryd.prog w.drew = .ok (.string ⟨bs.toArray⟩) (w.drew.freeze ⟨g, 0, none⟩ bs.length) := by
    refine Lib.run_unsafeString_row w.drew 80 3 9 5 Tryd.underlying80 (by kernel_rfl) g cur.size (by have hg' : w.drew.heap[g]? = some (.cells cur 5 (0, 0)) := hg; simp [World.shape?, hg']) bs h0 (by omega) (by unfold maxLen at hcm; omega) ?_
    intro j x hx
    have := hob.cells (g := g) rfl j (.int .u8 x.toNat) (by simp [Lib.byteCells, hx])
    exact this
  clear hob hb hg htake
  go_enter Tryd.func38, Tryd.ntmps38
  go_wp2
  go_region
  all_goals (go_wp2; go_ret; exact ⟨rfl, rfl⟩)

set_option maxHeartbeats 1000000 in
set_option maxRecDepth 100000 in
theorem bldReset (b : Nat) (w : World) (p v : Value) (h2 : w.cell? ⟨b, 2, none⟩ = some p) (h3 : w.cell? ⟨b, 3, none⟩ = some v) (f2 : w.frozen? ⟨b, 2, none⟩ = false) (f3 : w.frozen? ⟨b, 3, none⟩ = false) :
    Calls Tryd.prog 51 #[.pointer (some ⟨b, 2, none⟩)] w (Ret (.tuple #[]) ((w.setCell ⟨b, 2, none⟩ (.pointer none)).setCell ⟨b, 3, none⟩ (.slice none 0 0))) := by
  go_enter Tryd.func51, Tryd.ntmps51
  go_wp2
  go_end0
  exact ⟨rfl, rfl⟩
end Go.Proofs.YtepimjljkkkejaaDoor
