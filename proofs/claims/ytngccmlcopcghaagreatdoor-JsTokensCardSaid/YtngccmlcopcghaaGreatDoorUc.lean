/- strings.Builder in a block of its own: a text, a code point written, the text handed back. -/
import Derived.Test.YtngccmlcopcghaaGreatDoorRd
import Derived.Lib.Builder
import Derived.Lib.AppendStr
import Derived.Deep.RegionWith
import Derived.Lib.OthersKept
import Derived.Laws.IdiomStrings
import Derived.Laws.RangeAny
import Derived.LoopTactic
import Derived.Deep.Cut
import Derived.Deep.CutRange
import Derived.StillTailTactics
import Derived.Deep.LoopGhost
import Derived.Lib.Hide
import Derived.RangeFuncOwn
import Derived.RangeFuncNested
import Derived.RangeFuncBound
import Derived.RangeFuncCalls
import Derived.RangeFuncLeaves
import Derived.Shelf.Abstract
import Derived.Shelf.RegionOpen
import Derived.OwnWalkIn
import Derived.TacticsInMore
import Derived.LoopNIn
import Derived.LoopIn
set_option maxRecDepth 100000
set_option maxHeartbeats 8000000
namespace Go.Proofs.YtngccmlcopcghaaGreatDoor
open Go.RowKit
structure Keep (B : Nat) (w w' : World) : Prop where
 below : Below B w w'
 kept : ∀ (k : Nat) (cs : Array Value) (t : TypeId) (f : Nat × Nat), w.heap[k]? = some (Obj.cells cs t f) -> t ≠ 60 -> t ≠ 5 -> w'.heap[k]? = some (Obj.cells cs t f)
theorem Keep.refl (B : Nat) (w : World) : Keep B w w := ⟨Below.refl _ _, fun _ _ _ _ h _ _ => h⟩
theorem Keep.trans {B : Nat} {a b c : World} (h : Keep B a b) (k : Keep B b c) : Keep B a c :=
 ⟨h.below.trans k.below, fun i cs t f hi h1 h2 => k.kept i cs t f (h.kept i cs t f hi h1 h2) h1 h2⟩
theorem Keep.of_below {B : Nat} {w w' : World} (hB : B <= w.heap.size) (h : Below w.heap.size w w') : Keep B w w' :=
 ⟨h.mono hB, fun k _ _ _ hk _ _ => (h.block k (heap_lt hk)).trans hk⟩
theorem Keep.alloc {B : Nat} {a w : World} (h : Keep B a w) (hB : B <= w.heap.size) (o : Obj) : Keep B a (w.alloc o) :=
 ⟨h.below.alloc hB o, fun k cs t f hk h1 h2 => by
  have := h.kept k cs t f hk h1 h2
  rw [Below.heap_alloc _ _ _ (heap_lt this)]; exact this⟩
theorem Keep.setCell {B : Nat} {a w : World} (h : Keep B a w) {p : Addr} (hp : B <= p.block) {cs : Array Value} {t : TypeId} {f : Nat × Nat} (hb : w.heap[p.block]? = some (Obj.cells cs t f))
  (ht : t = 60 \/ t = 5) (u : Value) : Keep B a (w.setCell p u) :=
 ⟨h.below.setCell hp u, fun k cs' t' f' hk h1 h2 => by
  have hk' := h.kept k cs' t' f' hk h1 h2
  have hne : k ≠ p.block := by
   rintro rfl
   rw [hb] at hk'
   injection hk' with e
   injection e with _ e _
   subst e
   rcases ht with e | e
   ·exact h1 e
   ·exact h2 e
  rw [Below.heap_setCell _ _ _ _ hne]; exact hk'⟩
theorem Keep.grown {B : Nat} {a w w' : World} (h : Keep B a w) {e : TypeId} {size : Nat} {v : Value} {n : Nat} {xs : List Value} (hown : w.ownsRow B e size v n xs) (hg : w.grownBy w' v.ownBlock) (hB : B <= w.heap.size)
  (ht : e = 60 \/ e = 5) : Keep B a w' :=
 ⟨h.below.grown hg hB (fun k hk => (hown.lt k hk).1), fun k cs' t' f' hk h1 h2 => by
  have hk' := h.kept k cs' t' f' hk h1 h2
  rw [hg.block k (heap_lt hk') ?_]; exact hk'
  intro e'
  obtain ⟨c, hc⟩ := ownsRow_kind hown k e'.symm
  rw [hk'] at hc
  injection hc with e2
  injection e2 with _ e2 _
  subst e2
  rcases ht with e | e
  ·exact h1 e
  ·exact h2 e⟩
abbrev Bld (B b : Nat) (bs : List UInt8) (w : World) : Prop := Lib.IsBuilder 60 5 B b (Lib.byteCells bs) w
abbrev BldAt (B b : Nat) (bs : List UInt8) (w : World) : Prop := Lib.BuilderAt 60 5 B b (.pointer (some ⟨b, 0, none⟩)) (Lib.byteCells bs) w
theorem size_bld : (Tryz.prog.info? 60).map (·.size) = some 2 := by kernel_rfl
theorem lies_bld : liesAt Tryz.prog Tryz.prog.depth 60 (2 / Tryz.prog.cellsOf 60) 0 60 1 = true := by kernel_rfl
theorem bld_new (w : World) : Bld w.heap.size w.heap.size [] (w.alloc (.cells #[.pointer none, .slice none 0 0] 60)) := Lib.fresh_isBuilder 60 5 w
theorem copyCheck_used (b : Nat) (w : World) (h0 : w.cell? ⟨b, 0, none⟩ = some (.pointer (some ⟨b, 0, none⟩))) :
  Calls Tryz.prog 57 #[.pointer (some ⟨b, 0, none⟩)] w (Ret (.tuple #[]) w) := by
 obtain ⟨j, hj, _⟩ := Option.map_eq_some_iff.1 size_bld
 go_enter Tryz.func57, Tryz.ntmps57
 go_wp2
 rw [Lib.run_neq_ptr_same w _ Tryz.underlying58 hj]
 go_wp2
 go_end0
 exact ⟨rfl, rfl⟩
theorem copyCheck_fresh (b : Nat) (w : World) (h0 : w.cell? ⟨b, 0, none⟩ = some (.pointer none)) (hsh : w.shape? b = some (60, 2)) (hfz : w.frozen? ⟨b, 0, none⟩ = false) :
  Calls Tryz.prog 57 #[.pointer (some ⟨b, 0, none⟩)] w (Ret (.tuple #[]) (w.setCell ⟨b, 0, none⟩ (.pointer (some ⟨b, 0, none⟩)))) := by
 obtain ⟨j, hj, hjs⟩ := Option.map_eq_some_iff.1 size_bld
 go_enter Tryz.func57, Tryz.ntmps57
 go_wp2
 rw [Lib.run_to_unsafe w ⟨b, 0, none⟩ Tryz.underlying58 Tryz.underlying113 hj (by rw [hjs]; decide) hsh (by show 0 < 2; decide)]
 simp only [Result.andThen]
 rw [Oper.upon_value]
 go_wp2
 rw [run_callFunc_extern Tryz.func96 (by kernel_rfl) (by kernel_rfl) (by kernel_rfl) (e := Extern.AbiNoEscape.same) (by kernel_rfl)]
 rw [Lib.run_noEscape]
 simp only [Result.andThen]
 rw [Oper.upon_value]
 go_wp2
 rw [Lib.run_from_unsafe w ⟨b, 0, none⟩ Tryz.underlying113 Tryz.underlying58 hj hsh lies_bld]
 simp only [Result.andThen]
 rw [Oper.upon_value]
 go_wp2
 go_end0
 exact ⟨rfl, rfl⟩
theorem set0_kept {b : Nat} {w : World} (q : Value) : w.grownBy (w.setCell ⟨b, 0, none⟩ q) (some b) := ⟨rfl, rfl, rfl, by simp [World.setCell], fun k _ hk => Below.heap_setCell _ _ _ _ (fun e => hk (by simp [e]))⟩
theorem set1_kept {b : Nat} {w : World} (q : Value) : w.grownBy (w.setCell ⟨b, 1, none⟩ q) (some b) := ⟨rfl, rfl, rfl, by simp [World.setCell], fun k _ hk => Below.heap_setCell _ _ _ _ (fun e => hk (by simp [e]))⟩
theorem copyCheck (B b : Nat) (bs : List UInt8) (w : World) (h : Bld B b bs w) :
  Calls Tryz.prog 57 #[.pointer (some ⟨b, 0, none⟩)] w fun e w' => e = .returned (.tuple #[]) /\ BldAt B b bs w' /\ Keep B w w' := by
 rcases h with h | h
 ·have h' := h
  obtain ⟨hB, v, hb, hown, hne⟩ := h
  refine (copyCheck_fresh b w h'.cell0 h'.shape (by simp [World.frozen?, hb])).mono ?_
  rintro e w' ⟨rfl, rfl⟩
  refine ⟨rfl, ⟨hB, v, by simp [World.setCell, Array.getElem?_modify, hb], hown.kept (set0_kept _) (.inr hne), hne⟩, (Keep.refl B w).setCell (p := ⟨b, 0, none⟩) hB hb (.inl rfl) _⟩
 ·refine (copyCheck_used b w h.cell0).mono ?_
  rintro e w' ⟨rfl, rfl⟩
  exact ⟨rfl, h, Keep.refl _ _⟩
theorem writeString (B b : Nat) (bs s : List UInt8) (w : World) (h : Bld B b bs w) (hBw : B <= w.heap.size) (hlen : bs.length + s.length <= 140737488355328) :
  Calls Tryz.prog 121 #[.pointer (some ⟨b, 0, none⟩), S s] w fun e w' => e = .returned (.tuple #[.int .i64 s.length, .nilIface]) /\ BldAt B b (bs ++ s) w' /\ Keep B w w' := by
 obtain ⟨i0, hi, hz0, hz1, hz2⟩ := info_parts info_byte
 have hcl : (Lib.byteCells bs).length = bs.length := by simp [Lib.byteCells]
 go_enter Tryz.func121, Tryz.ntmps121
 go_wp2_with fail
 refine (copyCheck B b bs _ h).mono ?_
 rintro e w1 ⟨rfl, h1, hk1⟩
 obtain ⟨hB, v, hbk, hown, hne⟩ := h1
 have c1 : w1.cell? ⟨b, 1, none⟩ = some v := by rw [Lib.cell_of_heap hbk]; rfl
 have hsz1 := hk1.below.size
 have hlt : b < w1.heap.size := heap_lt hbk
 go_wp2_with (at_builtin; refine Lib.wpList_append_own_string _ rfl _ _ 39 9 rfl B 5 i0 Tryz.underlying39 Tryz.underlying9 hi hz0 hz1 hz2 _ _ _ rfl hown ⟨s.toArray⟩ rfl ?c3 ?c4 ?c5 ?_)
 case c3 => rw [bl_size]; unfold maxLen; omega
 case c4 => rw [bl_size]; omega
 case c5 => omega
 intro v' w2 hown' hgrow _
 have hb2 : w2.heap[b]? = some (Obj.cells #[.pointer (some ⟨b, 0, none⟩), v] 60 (0, 0)) := by
  rw [hgrow.block b hlt (fun e => hne e.symm)]; exact hbk
 have d1 : w2.cell? ⟨b, 1, none⟩ = some v := by rw [Lib.cell_of_heap hb2]; rfl
 have f1 : w2.frozen? ⟨b, 1, none⟩ = false := by simp [World.frozen?, hb2]
 have hk2 : Keep B w w2 := hk1.grown hown hgrow (by omega) (.inr rfl)
 have hne' : v'.ownBlock ≠ some b := fun e => by
  obtain ⟨x, hx⟩ := ownsRow_kind hown' b e
  rw [hb2] at hx
  injection hx with hx
  injection hx with _ hx _
  exact absurd hx (by decide)
 have hcells : Lib.byteCells bs ++ Lib.strCells ⟨s.toArray⟩ = Lib.byteCells (bs ++ s) := by simp [Lib.byteCells, Lib.strCells]
 rw [hcells] at hown'
 have hcl2 : bs.length + s.length = (Lib.byteCells (bs ++ s)).length := by simp [Lib.byteCells]
 rw [hcl2] at hown'
 obtain ⟨ao, n', cap, rfl⟩ : ∃ ao n' cap, v' = .slice ao n' cap := by
  rcases hown'.2 with ⟨hv, _⟩ | ⟨g, cap, cur, hv, _⟩
  ·exact ⟨_, _, _, hv⟩
  ·exact ⟨_, _, _, hv⟩
 clear hown hgrow hk1 h hbk
 go_wp2_with fail
 go_ret2
 exact ⟨rfl, ⟨hB, _, by simp [World.setCell, Array.getElem?_modify, hb2], hown'.kept (set1_kept _) (.inr hne'), hne'⟩, hk2.setCell (p := ⟨b, 1, none⟩) hB hb2 (.inl rfl) _⟩
theorem bld_below {B b : Nat} {bs : List UInt8} {w w' : World} (h : Bld B b bs w) (hb : Below w.heap.size w w') : Bld B b bs w' := by
 rcases h with ⟨hB, v, hk, hown, hne⟩ | ⟨hB, v, hk, hown, hne⟩
 ·exact .inl ⟨hB, v, (hb.block _ (heap_lt hk)).trans hk, owns_of_block hown fun g e => hb.block g (hown.lt g e).2, hne⟩
 ·exact .inr ⟨hB, v, (hb.block _ (heap_lt hk)).trans hk, owns_of_block hown fun g e => hb.block g (hown.lt g e).2, hne⟩
theorem copyCheckO (B b : Nat) (bs : List UInt8) (w : World) (h : Bld B b bs w) :
  Calls Tryz.prog 57 #[.pointer (some ⟨b, 0, none⟩)] w fun e w' => e = .returned (.tuple #[]) /\ BldAt B b bs w' /\ Keep B w w' /\ KeepsOthers w w' := by
 rcases h with h | h
 ·have h' := h
  obtain ⟨hB, v, hb, hown, hne⟩ := h
  refine (copyCheck_fresh b w h'.cell0 h'.shape (by simp [World.frozen?, hb])).mono ?_
  rintro e w' ⟨rfl, rfl⟩
  refine ⟨rfl, ⟨hB, v, by simp [World.setCell, Array.getElem?_modify, hb], hown.kept (set0_kept _) (.inr hne), hne⟩, (Keep.refl B w).setCell (p := ⟨b, 0, none⟩) hB hb (.inl rfl) _, KeepsOthers.setCell _ _ _⟩
 ·refine (copyCheck_used b w h.cell0).mono ?_
  rintro e w' ⟨rfl, rfl⟩
  exact ⟨rfl, h, Keep.refl _ _, KeepsOthers.refl _⟩
theorem writeRuneO (B b : Nat) (bs : List UInt8) (r : Int) (w : World) (h : Bld B b bs w) (hBw : B <= w.heap.size) (hlen : bs.length + 4 <= 140737488355328) (hr0 : 0 <= r) (hr1 : r <= 2147483647) :
  Calls Tryz.prog 25 #[.pointer (some ⟨b, 0, none⟩), .int .i32 r] w fun e w' => (∃ u, e = .returned (.tuple #[u, .nilIface])) /\ BldAt B b (bs ++ Lib.encodeRune r) w' /\ Keep B w w' /\ KeepsOthers w w' := by
 have hcl : (Lib.byteCells bs).length = bs.length := by simp [Lib.byteCells]
 have hk4 := Lib.runeCells_le r
 go_enter Tryz.func25, Tryz.ntmps25
 go_wp2_with fail
 refine (copyCheckO B b bs _ h).mono ?_
 rintro e w1 ⟨rfl, h1, hk1, ho1⟩
 obtain ⟨hB, v, hbk, hown, hne⟩ := h1
 obtain ⟨ao, cap, rfl⟩ : ∃ ao cap, v = .slice ao bs.length cap := by
  rcases hown.2 with ⟨hv, h0⟩ | ⟨g, cap, cur, hv, _⟩
  ·exact ⟨none, 0, by rw [hv]; rw [hcl] at h0; rw [h0]⟩
  ·exact ⟨_, _, by rw [hv, hcl]⟩
 have c1 : w1.cell? ⟨b, 1, none⟩ = some (.slice ao bs.length cap) := by rw [Lib.cell_of_heap hbk]; rfl
 have hsz1 := hk1.below.size
 have hlt : b < w1.heap.size := heap_lt hbk
 go_wp2_with fail
 refine (Tryz.utf8_AppendRune_plain B _ _ _ r (by omega) hr1 _ hown (by omega) (by omega)).mono ?_
 rintro e w2 ⟨v', rfl, hown', o, hgrow⟩
 have hb1 : (w1.alloc o).heap[b]? = some (Obj.cells #[.pointer (some ⟨b, 0, none⟩), .slice ao bs.length cap] 60 (0, 0)) := by rw [Below.heap_alloc _ _ _ hlt]; exact hbk
 have hb2 : w2.heap[b]? = some (Obj.cells #[.pointer (some ⟨b, 0, none⟩), .slice ao bs.length cap] 60 (0, 0)) := by
  rw [hgrow.block b (by simp; omega) (fun e => hne e.symm)]; exact hb1
 have d1 : w2.cell? ⟨b, 1, none⟩ = some (.slice ao bs.length cap) := by rw [Lib.cell_of_heap hb2]; rfl
 have f1 : w2.frozen? ⟨b, 1, none⟩ = false := by simp [World.frozen?, hb2]
 have hk2 : Keep B w w2 := (hk1.alloc (by omega) o).grown (hown.alloc _) hgrow (by simp; omega) (.inr rfl)
 have ho2 : KeepsOthers w w2 := (ho1.trans (KeepsOthers.alloc _ _)).trans (KeepsOthers.of_grownBy hgrow fun j o' e hj => by
  obtain ⟨c, hc⟩ := ownsRow_kind (hown.alloc o) j e
  rw [hc] at hj
  injection hj with hj
  rw [<- hj]; rfl)
 have hne' : v'.ownBlock ≠ some b := fun e => by
  obtain ⟨x, hx⟩ := ownsRow_kind hown' b e
  rw [hb2] at hx
  injection hx with hx
  injection hx with _ hx _
  exact absurd hx (by decide)
 have hcells : Lib.byteCells bs ++ Lib.runeCells r = Lib.byteCells (bs ++ Lib.encodeRune r) := by rw [<- Lib.byteCells_encodeRune]; simp [Lib.byteCells]
 have hlc : (Lib.byteCells bs).length + (Lib.runeCells r).length = (Lib.byteCells (bs ++ Lib.encodeRune r)).length := by rw [<- hcells]; simp
 rw [hcells, hlc] at hown'
 obtain ⟨ao', cap', rfl⟩ : ∃ ao' cap', v' = .slice ao' (bs.length + (Lib.encodeRune r).length) cap' := by
  have e : (Lib.byteCells (bs ++ Lib.encodeRune r)).length = bs.length + (Lib.encodeRune r).length := by simp [Lib.byteCells]
  rcases hown'.2 with ⟨hv, h0⟩ | ⟨g, cap, cur, hv, _⟩
  ·exact ⟨none, 0, by rw [hv, <- e, h0]⟩
  ·exact ⟨_, _, by rw [hv, e]⟩
 have hel : (Lib.encodeRune r).length <= 4 := by rw [<- Lib.runeCells_length]; exact hk4.2
 clear hown hgrow hk1 h hbk hb1 c1
 go_wp2_with fail
 go_ret2
 exact ⟨⟨_, rfl⟩, ⟨hB, _, by simp [World.setCell, Array.getElem?_modify, hb2], hown'.kept (set1_kept _) (.inr hne'), hne'⟩, hk2.setCell (p := ⟨b, 1, none⟩) hB hb2 (.inl rfl) _, ho2.trans (KeepsOthers.setCell _ _ _)⟩
theorem others_of_below {w w' : World} (h : Below w.heap.size w w') : KeepsOthers w w' := ⟨h.size, fun k _ hk _ => (h.block k (heap_lt hk)).trans hk⟩
theorem freeze_others {w : World} {g : Nat} {cs : Array Value} {ty : TypeId} {f : Nat × Nat} (hg : w.heap[g]? = some (.cells cs ty f)) (n : Nat) : KeepsOthers w (w.freeze ⟨g, 0, none⟩ n) := by
 unfold World.freeze
 split
 ·exact KeepsOthers.refl w
 ·refine ⟨by simp, fun k o hk ho => ?_⟩
  simp only [Array.getElem?_modify]
  rw [if_neg]
  ·exact hk
  ·intro e
   subst e
   rw [hg] at hk
   injection hk with hk
   rw [<- hk] at ho
   cases ho
theorem stringO (B b : Nat) (l : List UInt8) (w : World) (h : Bld B b l w) (hBw : B <= w.heap.size) :
  Calls Tryz.prog 26 #[.pointer (some ⟨b, 0, none⟩)] w fun e w' => e = .returned (S l) /\ Below B w w' /\ KeepsOthers w w' := by
 obtain ⟨p, hB, v, hbk, hown, hne⟩ : ∃ p, Lib.BuilderAt 60 5 B b p (Lib.byteCells l) w := by
  rcases h with h | h
  ·exact ⟨_, h⟩
  ·exact ⟨_, h⟩
 rw [Lib.byteCells_length] at hown
 by_cases h0 : l = []
 ·subst h0
  rcases hown.2 with ⟨rfl, _⟩ | ⟨g, cap, cur, rfl, hbg, hg, _, _, _, _⟩
  ·exact (Any.Builder_String_nil Tryz.lays169 Tryz.Builder_Extra_169 w.heap.size b p w hbk).mono fun e w' ⟨h1, h2⟩ => ⟨h1, h2.mono hBw, others_of_below h2⟩
  ·by_cases hc0 : cap = 0
   ·subst hc0
    exact (Any.Builder_String_noroom Tryz.lays169 Tryz.Builder_Extra_169 w.heap.size b g p cur w (Nat.le_refl _) hbk hg).mono fun e w' ⟨h1, h2⟩ => ⟨h1, h2.mono hBw, others_of_below h2⟩
   ·exact (Any.Builder_String_room Tryz.lays169 Tryz.Builder_Extra_169 w.heap.size b g cap p w hc0 hbk).mono fun e w' ⟨h1, h2⟩ => ⟨h1, h2.mono hBw, others_of_below h2⟩
 ·have hl0 : l.length ≠ 0 := by simpa using h0
  obtain ⟨g, cap, cur, rfl, hbg, hg, hnc, hcm, hcs, htake⟩ : ∃ g cap cur, v = .slice (some ⟨g, 0, none⟩) l.length cap /\ B <= g /\ w.heap[g]? = some (.cells cur 5 (0, 0)) /\ l.length <= cap /\ cap <= maxLen /\ cur.size = cap * 1 /\ cur.toList.take (l.length * 1) = Lib.byteCells l := by
   rcases hown.2 with ⟨_, hz⟩ | ⟨g, cap, cur, hv, r⟩
   ·exact absurd hz hl0
   ·exact ⟨g, cap, cur, hv, r⟩
  have c1 : w.drew.cell? ⟨b, 1, none⟩ = some (.slice (some ⟨g, 0, none⟩) l.length cap) := by
   have : w.drew.heap[b]? = some (.cells #[p, .slice (some ⟨g, 0, none⟩) l.length cap] 60 (0, 0)) := hbk
   rw [Lib.cell_of_heap this]; rfl
  have hSD : (Builtin.unsafeSliceData_ #[39] 87 #[.slice (some ⟨g, 0, none⟩) l.length cap]).run Tryz.prog w.drew = .ok (.pointer (some ⟨g, 0, none⟩)) w.drew :=
   Lib.run_unsafeSliceData_row _ _ _ _ _ _ (by omega)
  have hUS : (Builtin.unsafeString_ #[87, 3] 9 #[.pointer (some ⟨g, 0, none⟩), .int .i64 l.length]).run Tryz.prog w.drew = .ok (.string ⟨l.toArray⟩) (w.drew.freeze ⟨g, 0, none⟩ l.length) := by
   refine Lib.run_unsafeString_row w.drew 87 3 9 5 Tryz.underlying87 (by kernel_rfl) g cur.size (by have hg' : w.drew.heap[g]? = some (.cells cur 5 (0, 0)) := hg; simp [World.shape?, hg']) l h0 (by omega) (by unfold maxLen at hcm; omega) ?_
   intro j x hx
   have := hown.cells (g := g) rfl j (.int .u8 x.toNat) (by simp [Lib.byteCells, hx])
   exact this
  have HFR := hide (freeze_others (w := w.drew) hg l.length)
  have HBG := hide hbg
  clear hown htake hg hcs hbk h hne
  go_enter Tryz.func26, Tryz.ntmps26
  go_wp2_with fail
  go_region
  all_goals
   go_wp2_with fail
   go_ret
   exact ⟨rfl, Lib.below_freeze (Below.drew (Below.refl B w)) (p := ⟨g, 0, none⟩) HBG.out _, (others_of_below (Below.refl _ w).drew).trans HFR.out⟩
abbrev NeedV (k lo hi : Nat) : Value := .agg #[.int .i64 k, .int .u8 lo, .int .u8 hi]
abbrev FstV (p : (Nat × Nat × Nat) × Bool) : Value := .tuple #[NeedV p.1.1 p.1.2.1 p.1.2.2, .bool p.2]
theorem tFirst (c : UInt8) (w : World) : Calls Tryz.prog 93 #[.int .u8 c.toNat] w (Fresh (FstV (Cssp.first c)) w) := by
 have hc := c.toNat_lt
 have hcl : (c.toNat < 128 /\ Cssp.first c = ((0, 128, 191), true)) \/ ((194 <= c.toNat /\ c.toNat <= 223) /\ Cssp.first c = ((1, 128, 191), true)) \/
   ((128 <= c.toNat /\ c.toNat < 194) /\ Cssp.first c = ((0, 128, 191), false)) \/ (244 < c.toNat /\ Cssp.first c = ((0, 128, 191), false)) \/
   (c.toNat = 224 /\ Cssp.first c = ((2, 160, 191), true)) \/ (c.toNat = 237 /\ Cssp.first c = ((2, 128, 159), true)) \/ (c.toNat = 240 /\ Cssp.first c = ((3, 144, 191), true)) \/ (c.toNat = 244 /\ Cssp.first c = ((3, 128, 143), true)) \/
   ((224 < c.toNat /\ c.toNat < 240 /\ c.toNat ≠ 237) /\ Cssp.first c = ((2, 128, 191), true)) \/ ((c.toNat = 241 \/ c.toNat = 242 \/ c.toNat = 243) /\ Cssp.first c = ((3, 128, 191), true)) := by
  unfold Cssp.first
  by_cases h1 : c.toNat < 128
  ·rw [if_pos h1]; exact .inl ⟨h1, rfl⟩
  rw [if_neg h1]; right
  by_cases h2 : 194 <= c.toNat /\ c.toNat <= 223
  ·rw [if_pos h2]; exact .inl ⟨h2, rfl⟩
  rw [if_neg h2]; right
  by_cases h3 : c.toNat < 224 \/ 244 < c.toNat
  ·rw [if_pos h3]
   rcases h3 with h3 | h3
   ·exact .inl ⟨by omega, rfl⟩
   ·exact .inr (.inl ⟨h3, rfl⟩)
  rw [if_neg h3]; right; right
  by_cases h4 : c.toNat = 224
  ·rw [if_pos h4]; exact .inl ⟨h4, rfl⟩
  rw [if_neg h4]; right
  by_cases h5 : c.toNat = 237
  ·rw [if_pos h5]; exact .inl ⟨h5, rfl⟩
  rw [if_neg h5]; right
  by_cases h6 : c.toNat = 240
  ·rw [if_pos h6]; exact .inl ⟨h6, rfl⟩
  rw [if_neg h6]; right
  by_cases h7 : c.toNat = 244
  ·rw [if_pos h7]; exact .inl ⟨h7, rfl⟩
  rw [if_neg h7]; right
  by_cases h8 : c.toNat < 240
  ·rw [if_pos h8]; exact .inl ⟨by omega, rfl⟩
  ·rw [if_neg h8]; exact .inr ⟨by omega, rfl⟩
 generalize Cssp.first c = P at hcl ⊢
 obtain ⟨x, hx⟩ : ∃ x : Int, (c.toNat : Int) = x := ⟨_, rfl⟩
 rw [hx]
 rcases hcl with h | h | h | h | h | h | h | h | h | h
 ·obtain ⟨h, rfl⟩ := h
  have d0 : x < 128 := by omega
  clear h hx hc
  go_enter Tryz.func93, Tryz.ntmps93
  go_wp2_with fail
  refine bodyPost_ret (v := FstV (((0, 128, 191), true))) (by simp [results, Tryz.results93, go_sem]) rfl ⟨rfl, ?_⟩
  (repeat (first | (with_reducible exact Below.refl _ _) | (with_reducible assumption) | (with_reducible refine Below.drew ?_) | ((with_reducible refine Below.setCell ?_ ?_ _); rotate_left; (focus (first | omega | (simp; done) | (simp; omega)))) | ((with_reducible refine Below.alloc ?_ ?_ _); rotate_left; (focus (first | omega | (simp; done) | (simp; omega))))))
 ·obtain ⟨h, rfl⟩ := h
  have d0 : ¬ x < 128 := by omega
  have d1 : 194 <= x := by omega
  have d2 : x <= 223 := by omega
  clear h hx hc
  go_enter Tryz.func93, Tryz.ntmps93
  go_wp2_with fail
  refine bodyPost_ret (v := FstV (((1, 128, 191), true))) (by simp [results, Tryz.results93, go_sem]) rfl ⟨rfl, ?_⟩
  (repeat (first | (with_reducible exact Below.refl _ _) | (with_reducible assumption) | (with_reducible refine Below.drew ?_) | ((with_reducible refine Below.setCell ?_ ?_ _); rotate_left; (focus (first | omega | (simp; done) | (simp; omega)))) | ((with_reducible refine Below.alloc ?_ ?_ _); rotate_left; (focus (first | omega | (simp; done) | (simp; omega))))))
 ·obtain ⟨h, rfl⟩ := h
  have d0 : ¬ x < 128 := by omega
  have d1 : ¬ 194 <= x := by omega
  have d2 : x < 224 := by omega
  clear h hx hc
  go_enter Tryz.func93, Tryz.ntmps93
  go_wp2_with fail
  refine bodyPost_ret (v := FstV (((0, 128, 191), false))) (by simp [results, Tryz.results93, go_sem]) rfl ⟨rfl, ?_⟩
  (repeat (first | (with_reducible exact Below.refl _ _) | (with_reducible assumption) | (with_reducible refine Below.drew ?_) | ((with_reducible refine Below.setCell ?_ ?_ _); rotate_left; (focus (first | omega | (simp; done) | (simp; omega)))) | ((with_reducible refine Below.alloc ?_ ?_ _); rotate_left; (focus (first | omega | (simp; done) | (simp; omega))))))
 ·obtain ⟨h, rfl⟩ := h
  have d0 : ¬ x < 128 := by omega
  have d1 : 194 <= x := by omega
  have d2 : ¬ x <= 223 := by omega
  have d3 : ¬ x < 224 := by omega
  have d4 : 244 < x := by omega
  clear h hx hc
  go_enter Tryz.func93, Tryz.ntmps93
  go_wp2_with fail
  refine bodyPost_ret (v := FstV (((0, 128, 191), false))) (by simp [results, Tryz.results93, go_sem]) rfl ⟨rfl, ?_⟩
  (repeat (first | (with_reducible exact Below.refl _ _) | (with_reducible assumption) | (with_reducible refine Below.drew ?_) | ((with_reducible refine Below.setCell ?_ ?_ _); rotate_left; (focus (first | omega | (simp; done) | (simp; omega)))) | ((with_reducible refine Below.alloc ?_ ?_ _); rotate_left; (focus (first | omega | (simp; done) | (simp; omega))))))
 ·obtain ⟨h, rfl⟩ := h
  obtain rfl : x = 224 := by omega
  clear h hx hc
  go_enter Tryz.func93, Tryz.ntmps93
  go_wp2_with fail
  refine bodyPost_ret (v := FstV (((2, 160, 191), true))) (by simp [results, Tryz.results93, go_sem]) rfl ⟨rfl, ?_⟩
  (repeat (first | (with_reducible exact Below.refl _ _) | (with_reducible assumption) | (with_reducible refine Below.drew ?_) | ((with_reducible refine Below.setCell ?_ ?_ _); rotate_left; (focus (first | omega | (simp; done) | (simp; omega)))) | ((with_reducible refine Below.alloc ?_ ?_ _); rotate_left; (focus (first | omega | (simp; done) | (simp; omega))))))
 ·obtain ⟨h, rfl⟩ := h
  obtain rfl : x = 237 := by omega
  clear h hx hc
  go_enter Tryz.func93, Tryz.ntmps93
  go_wp2_with fail
  refine bodyPost_ret (v := FstV (((2, 128, 159), true))) (by simp [results, Tryz.results93, go_sem]) rfl ⟨rfl, ?_⟩
  (repeat (first | (with_reducible exact Below.refl _ _) | (with_reducible assumption) | (with_reducible refine Below.drew ?_) | ((with_reducible refine Below.setCell ?_ ?_ _); rotate_left; (focus (first | omega | (simp; done) | (simp; omega)))) | ((with_reducible refine Below.alloc ?_ ?_ _); rotate_left; (focus (first | omega | (simp; done) | (simp; omega))))))
 ·obtain ⟨h, rfl⟩ := h
  obtain rfl : x = 240 := by omega
  clear h hx hc
  go_enter Tryz.func93, Tryz.ntmps93
  go_wp2_with fail
  refine bodyPost_ret (v := FstV (((3, 144, 191), true))) (by simp [results, Tryz.results93, go_sem]) rfl ⟨rfl, ?_⟩
  (repeat (first | (with_reducible exact Below.refl _ _) | (with_reducible assumption) | (with_reducible refine Below.drew ?_) | ((with_reducible refine Below.setCell ?_ ?_ _); rotate_left; (focus (first | omega | (simp; done) | (simp; omega)))) | ((with_reducible refine Below.alloc ?_ ?_ _); rotate_left; (focus (first | omega | (simp; done) | (simp; omega))))))
 ·obtain ⟨h, rfl⟩ := h
  obtain rfl : x = 244 := by omega
  clear h hx hc
  go_enter Tryz.func93, Tryz.ntmps93
  go_wp2_with fail
  refine bodyPost_ret (v := FstV (((3, 128, 143), true))) (by simp [results, Tryz.results93, go_sem]) rfl ⟨rfl, ?_⟩
  (repeat (first | (with_reducible exact Below.refl _ _) | (with_reducible assumption) | (with_reducible refine Below.drew ?_) | ((with_reducible refine Below.setCell ?_ ?_ _); rotate_left; (focus (first | omega | (simp; done) | (simp; omega)))) | ((with_reducible refine Below.alloc ?_ ?_ _); rotate_left; (focus (first | omega | (simp; done) | (simp; omega))))))
 ·obtain ⟨h, rfl⟩ := h
  have d0 : ¬ x < 128 := by omega
  have d1 : 194 <= x := by omega
  have d2 : ¬ x <= 223 := by omega
  have d3 : ¬ x < 224 := by omega
  have d4 : ¬ 244 < x := by omega
  have d5 : (x == 224) = false := by rw [beq_eq_false_iff_ne]; omega
  have d6 : (x == 237) = false := by rw [beq_eq_false_iff_ne]; omega
  have d7 : (x == 240) = false := by rw [beq_eq_false_iff_ne]; omega
  have d8 : (x == 241) = false := by rw [beq_eq_false_iff_ne]; omega
  have d9 : (x == 242) = false := by rw [beq_eq_false_iff_ne]; omega
  have da : (x == 243) = false := by rw [beq_eq_false_iff_ne]; omega
  have db : (x == 244) = false := by rw [beq_eq_false_iff_ne]; omega
  clear h hx hc
  go_enter Tryz.func93, Tryz.ntmps93
  go_wp2_with fail
  refine bodyPost_ret (v := FstV (((2, 128, 191), true))) (by simp [results, Tryz.results93, go_sem]) rfl ⟨rfl, ?_⟩
  (repeat (first | (with_reducible exact Below.refl _ _) | (with_reducible assumption) | (with_reducible refine Below.drew ?_) | ((with_reducible refine Below.setCell ?_ ?_ _); rotate_left; (focus (first | omega | (simp; done) | (simp; omega)))) | ((with_reducible refine Below.alloc ?_ ?_ _); rotate_left; (focus (first | omega | (simp; done) | (simp; omega))))))
 ·obtain ⟨h, rfl⟩ := h
  rcases h with h | h | h
  ·obtain rfl : x = 241 := by omega
   clear h hx hc
   go_enter Tryz.func93, Tryz.ntmps93
   go_wp2_with fail
   refine bodyPost_ret (v := FstV (((3, 128, 191), true))) (by simp [results, Tryz.results93, go_sem]) rfl ⟨rfl, ?_⟩
   (repeat (first | (with_reducible exact Below.refl _ _) | (with_reducible assumption) | (with_reducible refine Below.drew ?_) | ((with_reducible refine Below.setCell ?_ ?_ _); rotate_left; (focus (first | omega | (simp; done) | (simp; omega)))) | ((with_reducible refine Below.alloc ?_ ?_ _); rotate_left; (focus (first | omega | (simp; done) | (simp; omega))))))
  ·obtain rfl : x = 242 := by omega
   clear h hx hc
   go_enter Tryz.func93, Tryz.ntmps93
   go_wp2_with fail
   refine bodyPost_ret (v := FstV (((3, 128, 191), true))) (by simp [results, Tryz.results93, go_sem]) rfl ⟨rfl, ?_⟩
   (repeat (first | (with_reducible exact Below.refl _ _) | (with_reducible assumption) | (with_reducible refine Below.drew ?_) | ((with_reducible refine Below.setCell ?_ ?_ _); rotate_left; (focus (first | omega | (simp; done) | (simp; omega)))) | ((with_reducible refine Below.alloc ?_ ?_ _); rotate_left; (focus (first | omega | (simp; done) | (simp; omega))))))
  ·obtain rfl : x = 243 := by omega
   clear h hx hc
   go_enter Tryz.func93, Tryz.ntmps93
   go_wp2_with fail
   refine bodyPost_ret (v := FstV (((3, 128, 191), true))) (by simp [results, Tryz.results93, go_sem]) rfl ⟨rfl, ?_⟩
   (repeat (first | (with_reducible exact Below.refl _ _) | (with_reducible assumption) | (with_reducible refine Below.drew ?_) | ((with_reducible refine Below.setCell ?_ ?_ _); rotate_left; (focus (first | omega | (simp; done) | (simp; omega)))) | ((with_reducible refine Below.alloc ?_ ?_ _); rotate_left; (focus (first | omega | (simp; done) | (simp; omega))))))
theorem tMore (k lo hi : Nat) (c : UInt8) (w : World) (hk : k < 4) (_hlo : lo < 256) (_hhi : hi < 256) : Calls Tryz.prog 94 #[NeedV (k + 1) lo hi, .int .u8 c.toNat] w
  (Fresh (.tuple #[if c.toNat < lo \/ hi < c.toNat then NeedV (k + 1) lo hi else NeedV k 128 191, .bool (!decide (c.toNat < lo \/ hi < c.toNat))]) w) := by
 have hc := c.toNat_lt
 have hw3 : wrap64 (k : Int) = (k : Int) := by unfold wrap64; omega
 by_cases h1 : c.toNat < lo
 ·have d1 : (c.toNat : Int) < (lo : Int) := by omega
  rw [if_pos (.inl h1), decide_eq_true (.inl h1 : c.toNat < lo \/ hi < c.toNat)]
  clear h1 hk _hlo _hhi hc
  go_enter Tryz.func94, Tryz.ntmps94
  go_wp2_with fail
  refine bodyPost_ret (v := .tuple #[NeedV (k + 1) lo hi, .bool false]) (by simp [results, Tryz.results94, go_sem]) rfl ⟨rfl, ?_⟩
  (repeat (first | (with_reducible exact Below.refl _ _) | (with_reducible assumption) | (with_reducible refine Below.drew ?_) | ((with_reducible refine Below.setCell ?_ ?_ _); rotate_left; (focus (first | omega | (simp; done) | (simp; omega)))) | ((with_reducible refine Below.alloc ?_ ?_ _); rotate_left; (focus (first | omega | (simp; done) | (simp; omega))))))
 ·have d1 : ¬ (c.toNat : Int) < (lo : Int) := by omega
  by_cases h2 : hi < c.toNat
  ·have d2 : (hi : Int) < (c.toNat : Int) := by omega
   rw [if_pos (.inr h2), decide_eq_true (.inr h2 : c.toNat < lo \/ hi < c.toNat)]
   clear h1 h2 hk _hlo _hhi hc
   go_enter Tryz.func94, Tryz.ntmps94
   go_wp2_with fail
   refine bodyPost_ret (v := .tuple #[NeedV (k + 1) lo hi, .bool false]) (by simp [results, Tryz.results94, go_sem]) rfl ⟨rfl, ?_⟩
   (repeat (first | (with_reducible exact Below.refl _ _) | (with_reducible assumption) | (with_reducible refine Below.drew ?_) | ((with_reducible refine Below.setCell ?_ ?_ _); rotate_left; (focus (first | omega | (simp; done) | (simp; omega)))) | ((with_reducible refine Below.alloc ?_ ?_ _); rotate_left; (focus (first | omega | (simp; done) | (simp; omega))))))
  ·have d2 : ¬ (hi : Int) < (c.toNat : Int) := by omega
   have hno : ¬ (c.toNat < lo \/ hi < c.toNat) := by omega
   rw [if_neg hno, decide_eq_false hno]
   clear h1 h2 hk _hlo _hhi hc hno
   go_enter Tryz.func94, Tryz.ntmps94
   go_wp2_with fail
   refine bodyPost_ret (v := .tuple #[NeedV k 128 191, .bool true]) (by simp [results, Tryz.results94, go_sem]) rfl ⟨rfl, ?_⟩
   (repeat (first | (with_reducible exact Below.refl _ _) | (with_reducible assumption) | (with_reducible refine Below.drew ?_) | ((with_reducible refine Below.setCell ?_ ?_ _); rotate_left; (focus (first | omega | (simp; done) | (simp; omega)))) | ((with_reducible refine Below.alloc ?_ ?_ _); rotate_left; (focus (first | omega | (simp; done) | (simp; omega))))))
def Nx (w : World) (B k lo hi : Nat) : Prop := w.heap[B]? = some (.cells #[.int .i64 k, .int .u8 lo, .int .u8 hi] 110 (0, 0))
theorem Nx.cells {w : World} {B k lo hi : Nat} (h : Nx w B k lo hi) : w.cell? ⟨B, 0, none⟩ = some (.int .i64 k) /\ w.cell? ⟨B, 1, none⟩ = some (.int .u8 lo) /\ w.cell? ⟨B, 2, none⟩ = some (.int .u8 hi) := by
 have h' : w.heap[B]? = _ := h
 refine ⟨?_, ?_, ?_⟩ <;> simp [World.cell?, h']
theorem Nx.frozen {w : World} {B k lo hi : Nat} (h : Nx w B k lo hi) (j : Nat) : w.frozen? ⟨B, j, none⟩ = false := by
 have h' : w.heap[B]? = _ := h
 simp [World.frozen?, h']
theorem Nx.new (w : World) (k lo hi : Nat) : Nx (w.alloc (.cells #[.int .i64 k, .int .u8 lo, .int .u8 hi] 110)) w.heap.size k lo hi := by
 show (w.heap.push _)[w.heap.size]? = _
 simp
theorem Nx.below {w w' : World} {B k lo hi : Nat} (h : Nx w B k lo hi) (hb : Below w.heap.size w w') : Nx w' B k lo hi := (hb.block B (heap_lt h)).trans h
theorem Nx.put {w : World} {B k lo hi : Nat} (h : Nx w B k lo hi) (k' lo' hi' : Nat) : Nx (((w.setCell ⟨B, 0, none⟩ (.int .i64 k')).setCell ⟨B, 1, none⟩ (.int .u8 lo')).setCell ⟨B, 2, none⟩ (.int .u8 hi')) B k' lo' hi' := by
 have h' : w.heap[B]? = _ := h
 simp [Nx, World.setCell, Array.getElem?_modify, h']
theorem goOn_drop (k lo hi : Nat) (s : List UInt8) (n : Nat) (h : n < s.length) : Cssp.goOn (k + 1) lo hi n (s.drop n) = if s[n].toNat < lo \/ hi < s[n].toNat then (n, false) else Cssp.goOn k 128 191 (n + 1) (s.drop (n + 1)) := by
 rw [List.drop_eq_getElem_cons h, Cssp.goOn]
theorem tPiece (s : List UInt8) (w : World) (h0 : s ≠ []) (hl : s.length <= 140737488355328) : Calls Tryz.prog 55 #[S s] w (Fresh (.tuple #[.int .i64 (Cssp.piece s).1, .bool (Cssp.piece s).2]) w) := by
 have hpos : 0 < s.length := List.length_pos_iff.2 h0
 obtain ⟨c, hc⟩ : ∃ c, s[0] = c := ⟨_, rfl⟩
 have hsd : s = c :: s.drop 1 := by
  have := List.drop_eq_getElem_cons (l := s) (i := 0) hpos
  rw [List.drop_zero, hc] at this
  exact this
 obtain ⟨P, hP⟩ : ∃ P, Cssp.first c = P := ⟨_, rfl⟩
 have hF := hide (tFirst c w)
 have hpc : Cssp.piece s = if P.2 = true then Cssp.goOn P.1.1 P.1.2.1 P.1.2.2 1 (s.drop 1) else (1, false) := by
  conv => lhs; rw [hsd]
  rw [Cssp.piece, hP]
 have hP3 : P.1.1 <= 3 /\ P.1.2.1 < 256 /\ P.1.2.2 < 256 := by
  rw [<- hP]; unfold Cssp.first; (repeat' split) <;> exact ⟨by decide, by decide, by decide⟩
 rw [hP] at hF
 obtain ⟨⟨k, lo, hi⟩, ok⟩ := P
 obtain ⟨h3, hlo, hhi⟩ := hP3
 simp only at h3 hlo hhi hF hpc
 obtain ⟨R, hR⟩ : ∃ R, Cssp.piece s = R := ⟨_, rfl⟩
 rw [hR] at hpc ⊢
 have HPC := hide hpc
 have b0 : (0 : Int) < (s.length : Int) := by omega
 clear hsd hP hpc hR
 go_enter Tryz.func55, Tryz.ntmps55
 go_wp2_with fail
 refine hF.out.mono ?_
 rintro e w1 ⟨rfl, hb1⟩
 clear hF
 cases ok with
 | false =>
  have hr := HPC.out
  rw [if_neg (by decide)] at hr
  subst hr
  clear HPC
  go_wp2_with fail
  refine bodyPost_ret (v := .tuple #[.int .i64 ((1 : Nat) : Int), .bool false]) (by simp [results, Tryz.results55, go_sem]) rfl ⟨rfl, ?_⟩
  exact hb1.alloc hb1.size _
 | true =>
  have hr := HPC.out
  rw [if_pos rfl] at hr
  have HR := hide hr
  have hn := Nx.new w1 k lo hi
  have hb2 : Below w.heap.size w (w1.alloc (.cells #[.int .i64 k, .int .u8 lo, .int .u8 hi] 110)) := hb1.alloc hb1.size _
  clear HPC hr
  go_upto_region 2 with (fail)
  change Code.wp _ _ _ _ (w1.alloc (.cells #[.int .i64 k, .int .u8 lo, .int .u8 hi] 110))
  generalize hgen : w1.alloc (.cells #[.int .i64 k, .int .u8 lo, .int .u8 hi] 110) = w2 at hn hb2 ⊢
  clear hgen
  have HN := hide hn
  have HB := hide hb2
  have hsz1 := hb1.size
  clear hn hb2 hb1 hc
  go_wp2_with fail
  go_loopg [6] (s.length - 1) (fun g i wx => ∃ (n k lo hi : Nat), i = .int .i64 n /\ g + n = s.length /\ k <= 3 /\ lo < 256 /\ hi < 256 /\ 1 <= n /\ Hid (Nx wx w1.heap.size k lo hi) /\ Hid (Below w.heap.size w wx) /\ Hid (R = Cssp.goOn k lo hi n (s.drop n)))
  case atStart => exact ⟨1, k, lo, hi, rfl, by omega, h3, hlo, hhi, Nat.le_refl _, HN.out, HB.out, HR.out⟩
  case round =>
   obtain ⟨n, k', lo', hi', rfl, hgn, hk3, hl3, hh3, hn1, hNx, hBe, hSt⟩ := hrel
   obtain ⟨c0, c1, c2⟩ := hNx.out.cells
   cases k' with
   | zero =>
    have hr := hSt.out
    unfold Cssp.goOn at hr
    subst hr
    clear hSt
    go_wp2_with fail
    refine bodyPost_ret (v := .tuple #[.int .i64 (n : Int), .bool true]) (by simp [results, Tryz.results55, go_sem]) rfl ⟨rfl, hBe.out⟩
   | succ k' =>
    have hk0 : (0 : Int) < ((k' + 1 : Nat) : Int) := by omega
    by_cases hns : n = s.length
    ·have q1 : ((n : Int) == (s.length : Int)) = true := by rw [beq_iff_eq]; omega
     have hr := hSt.out
     rw [List.drop_eq_nil_of_le (by omega)] at hr
     have hr : R = (n, false) := hr
     subst hr
     clear hSt hns
     go_wp2_with fail
     refine bodyPost_ret (v := .tuple #[.int .i64 (n : Int), .bool false]) (by simp [results, Tryz.results55, go_sem]) rfl ⟨rfl, hBe.out⟩
    ·have hlt : n < s.length := by omega
     have q1 : ((n : Int) == (s.length : Int)) = false := by rw [beq_eq_false_iff_ne]; omega
     have b1 : (n : Int) < (s.length : Int) := by omega
     have b2 : (0 : Int) <= (n : Int) := by omega
     obtain ⟨x, hx⟩ : ∃ x, s[n] = x := ⟨_, rfl⟩
     have hr := hSt.out
     rw [goOn_drop k' lo' hi' s n hlt, hx] at hr
     have HR2 := hide hr
     have hM := fun W => hide (tMore k' lo' hi' x W (by omega) hl3 hh3)
     clear hr hSt hns
     have hk1 : ((k' + 1 : Nat) : Int) = (k' : Int) + 1 := by omega
     go_upto_region 9 with (fail)
     have hsB : w.heap.size <= w1.heap.size := hsz1
     clear c0 c1 c2
     go_cut [5] from 15 to 35 (fun s5 wx => s5 = .bool (!decide (x.toNat < lo' \/ hi' < x.toNat)) /\ Hid (if x.toNat < lo' \/ hi' < x.toNat then Nx wx w1.heap.size (k' + 1) lo' hi' else Nx wx w1.heap.size k' 128 191) /\ Hid (Below w.heap.size w wx))
     case first =>
      by_cases hcond : x.toNat < lo' \/ hi' < x.toNat
      ·have hMc : ∀ W, Calls Tryz.prog 94 #[NeedV (k' + 1) lo' hi', .int .u8 x.toNat] W (Fresh (.tuple #[NeedV (k' + 1) lo' hi', .bool false]) W) := fun W => by
        have := (hM W).out
        rw [if_pos hcond, decide_eq_true hcond] at this
        exact this
       have HC := hide hcond
       have HMc := fun W => hide (hMc W)
       obtain ⟨c0, c1, c2⟩ := hNx.out.cells
       have f0 := hNx.out.frozen 0
       have f1 := hNx.out.frozen 1
       have f2 := hNx.out.frozen 2
       clear hcond hMc hM
       go_region_with (go_at_call 94; refine Calls.mono (HMc _).out ?_; rintro e w3 ⟨rfl, hb3⟩; have hn3 := (hNx.out.below (Below.refl _ _).drew).below hb3; obtain ⟨d0, d1, d2⟩ := hn3.cells; have g0 := hn3.frozen 0; have g1 := hn3.frozen 1; have g2 := hn3.frozen 2)
       all_goals
        have hb4 : Below w.heap.size w w3 := hBe.out.drew.trans (hb3.mono hBe.out.size)
        have hn5 := hn3.put (k' + 1) lo' hi'
        have hb5 := ((hb4.setCell (p := ⟨w1.heap.size, 0, none⟩) hsB (.int .i64 ((k' + 1 : Nat) : Int))).setCell (p := ⟨w1.heap.size, 1, none⟩) hsB (.int .u8 lo')).setCell (p := ⟨w1.heap.size, 2, none⟩) hsB (.int .u8 hi')
        have HN5 := hide hn5
        have HB5 := hide hb5
        clear hn5 hb5 hb4 hn3 c0 c1 c2 f0 f1 f2 d0 d1 d2 hb3
        go_simp
        go_wp2_with fail
        go_meet
        case rel =>
         have hcond := HC.out
         refine ⟨by rw [decide_eq_true hcond]; rfl, ?_, HB5.out⟩
         unfold Hid
         rw [if_pos hcond]
         exact HN5.out
      ·have hMc : ∀ W, Calls Tryz.prog 94 #[NeedV (k' + 1) lo' hi', .int .u8 x.toNat] W (Fresh (.tuple #[NeedV k' 128 191, .bool true]) W) := fun W => by
        have := (hM W).out
        rw [if_neg hcond, decide_eq_false hcond] at this
        exact this
       have HC := hide hcond
       have HMc := fun W => hide (hMc W)
       obtain ⟨c0, c1, c2⟩ := hNx.out.cells
       have f0 := hNx.out.frozen 0
       have f1 := hNx.out.frozen 1
       have f2 := hNx.out.frozen 2
       clear hcond hMc hM
       go_region_with (go_at_call 94; refine Calls.mono (HMc _).out ?_; rintro e w3 ⟨rfl, hb3⟩; have hn3 := (hNx.out.below (Below.refl _ _).drew).below hb3; obtain ⟨d0, d1, d2⟩ := hn3.cells; have g0 := hn3.frozen 0; have g1 := hn3.frozen 1; have g2 := hn3.frozen 2)
       all_goals
        have hb4 : Below w.heap.size w w3 := hBe.out.drew.trans (hb3.mono hBe.out.size)
        have hn5 := hn3.put k' 128 191
        have hb5 := ((hb4.setCell (p := ⟨w1.heap.size, 0, none⟩) hsB (.int .i64 k')).setCell (p := ⟨w1.heap.size, 1, none⟩) hsB (.int .u8 (128 : Nat))).setCell (p := ⟨w1.heap.size, 2, none⟩) hsB (.int .u8 (191 : Nat))
        have HN5 := hide hn5
        have HB5 := hide hb5
        clear hn5 hb5 hb4 hn3 c0 c1 c2 f0 f1 f2 d0 d1 d2 hb3
        go_simp
        go_wp2_with fail
        go_meet
        case rel =>
         have hcond := HC.out
         refine ⟨by rw [decide_eq_false hcond]; rfl, ?_, HB5.out⟩
         unfold Hid
         rw [if_neg hcond]
         exact HN5.out
     case rest =>
      obtain ⟨rfl, hNc, hBc⟩ := hcut
      clear hNx hBe
      by_cases hcond : x.toNat < lo' \/ hi' < x.toNat
      ·have hr := HR2.out
       rw [if_pos hcond] at hr
       rw [decide_eq_true hcond]
       subst hr
       clear hcond HR2 hNc hM
       go_wp2_with fail
       refine bodyPost_ret (v := .tuple #[.int .i64 (n : Int), .bool false]) (by simp [results, Tryz.results55, go_sem]) rfl ⟨rfl, hBc.out⟩
      ·have hr := HR2.out
       have hn := hNc.out
       rw [if_neg hcond] at hr hn
       rw [decide_eq_false hcond]
       have HR3 := hide hr
       have HN3 := hide hn
       clear hcond HR2 hNc hM hr hn
       go_wp2_with fail
       go_roundg (gk - 1)
       case measure => omega
       case rel => exact ⟨n + 1, k', 128, 191, by go_num, by omega, by omega, by omega, by omega, by omega, HN3.out, hBc.out, HR3.out⟩
namespace Cssp
open Go
def runeN (s : List UInt8) : Nat := if (piece s).2 = true then (Lib.decodeL s).1 else 65533
def ptsF : Nat -> Nat -> List UInt8 -> List (Nat × Nat)
 | 0, _, _ => []
 | f + 1, k, s => if s = [] then [] else (k, runeN s) :: ptsF f (k + (piece s).1) (s.drop (piece s).1)
def pts (k : Nat) (s : List UInt8) : List (Nat × Nat) := ptsF s.length k s
def capR (n : Nat) : Nat := if n <= 1114111 then n else 0
theorem capR_le (n : Nat) : capR n <= 1114111 := by unfold capR; split <;> omega
theorem capR_eq {n : Nat} (h : n <= 1114111) : capR n = n := if_pos h
def txR (l : List (Nat × Nat)) : List UInt8 := l.flatMap fun x => Lib.encodeRune (capR x.2 : Int)
theorem ptsF_fuel : ∀ (f g k : Nat) (s : List UInt8), s.length <= f -> s.length <= g -> ptsF f k s = ptsF g k s
 | 0, g, k, s, hf, _ => by
  have : s = [] := List.eq_nil_of_length_eq_zero (by omega)
  subst this
  cases g <;> rfl
 | f + 1, 0, k, s, _, hg => by
  have : s = [] := List.eq_nil_of_length_eq_zero (by omega)
  subst this; rfl
 | f + 1, g + 1, k, s, hf, hg => by
  rw [ptsF, ptsF]
  split
  ·rfl
  ·have := piece_pos s
   rw [ptsF_fuel f g _ _ (by rw [List.length_drop]; omega) (by rw [List.length_drop]; omega)]
theorem pts_nil (k : Nat) : pts k [] = [] := rfl
theorem pts_step (k : Nat) (s : List UInt8) (h : s ≠ []) : pts k s = (k, runeN s) :: pts (k + (piece s).1) (s.drop (piece s).1) := by
 obtain ⟨c, r, rfl⟩ := List.exists_cons_of_ne_nil h
 have := piece_pos (c :: r)
 unfold pts
 rw [List.length_cons, ptsF, if_neg h, ptsF_fuel r.length ((c :: r).drop (piece (c :: r)).1).length _ _ (by rw [List.length_drop, List.length_cons]; omega) (Nat.le_refl _)]
theorem code_rune (s : List UInt8) (h : s ≠ []) : Lib.encodeRune (runeN s : Int) = code s := by
 unfold runeN
 cases hp : (piece s).2 with
 | true => rw [if_pos rfl, code_lib s h hp]
 | false =>
  rw [if_neg (by decide), code, if_neg (by rw [hp]; decide)]
  exact (by decide : Lib.encodeRune ((65533 : Nat) : Int) = fffd)
theorem runeN_le (s : List UInt8) : runeN s <= 1114111 := by
 unfold runeN
 split
 ·exact Lib.decodeL_rune s
 ·decide
theorem txR_pts : ∀ (f k : Nat) (s : List UInt8), s.length <= f -> txR (pts k s) = decode s
 | 0, k, s, h => by
  have : s = [] := List.eq_nil_of_length_eq_zero (by omega)
  subst this; rfl
 | f + 1, k, s, h => by
  by_cases hn : s = []
  ·subst hn; rfl
  ·have hp := piece_pos s
   rw [pts_step k s hn, decode_step s hn, <- code_rune s hn, <- txR_pts f (k + (piece s).1) (s.drop (piece s).1) (by rw [List.length_drop]; omega)]
   show Lib.encodeRune (capR (runeN s) : Int) ++ _ = _
   rw [capR_eq (runeN_le s)]
   rfl
end Cssp
open Go.RowKit Go.Shelf
attribute [local go_sem] Oper.semAt_some
abbrev encR (x : Nat × Nat) : Array Value := #[.int .i64 (x.1 : Int), .int .i32 (Cssp.capR x.2 : Int)]
theorem points_in (n : Nat) (hn : 1 <= n) (l Bs B : Nat) (s : List UInt8) (J Jx : List (Nat × Nat) -> World -> Prop) (W : World) (hB : 7 <= B) (hlen : s.length <= 140737488355328)
  (hJ : AbidesFrom W.heap.size J)
  (hY : ∀ pre x W, J pre W -> pre.length < s.length -> YieldAt Fence.wide (n - 1) Tryz.prog l (encR x) W fun e W' =>
   (e = .returned (.bool true) /\ J (pre ++ [x]) W' /\ Keep B W W') \/ (e = .returned (.bool false) /\ Jx (pre ++ [x]) W'))
  (hW : B <= W.heap.size) (hb : W.heap[Bs]? = some (.cells #[S s] 9 (0, 0))) (ht : Tab W) (h0 : J [] W) :
  CallsIn Fence.wide n Tryz.prog 54 #[.func (.yield l) #[] #[], .pointer (some ⟨Bs, 0, none⟩)] W fun e W' => (∃ v, e = .returned v) /\
   ((∃ ys, ys = Cssp.pts 0 s /\ J ys W') \/ (∃ pre, True /\ Jx pre W')) := by
 refine callsIn_of_wp Tryz.func54 rfl trivial ?_ rfl
 simp only [Tryz.ntmps54, List.size_toArray, List.length_cons, List.length_nil, Nat.reduceAdd, Nat.reduceSub, Array.replicate_succ, Array.replicate_zero, List.push_toArray, List.append_toArray, List.nil_append, List.cons_append]
 gi_wp2
 gi_loopw [3] (fun i wr => ∃ (k : Nat) (pre : List (Nat × Nat)), k <= s.length /\ i = .int .i64 k /\ J pre wr /\ pre.length <= k /\ Hid (Cssp.pts 0 s = pre ++ Cssp.pts k (s.drop k)) /\ Keep B W wr)
  (fun i _ => (s.length - intOf i).toNat)
 case atStart => exact ⟨0, [], Nat.zero_le _, rfl, h0, Nat.le_refl _, by unfold Hid; simp, Keep.refl _ _⟩
 case round =>
  obtain ⟨k, pre, hk, rfl, hJs, hpl, hSt, hBw⟩ := hrel
  have hbx : wr.cell? ⟨Bs, 0, none⟩ = some (S s) := by rw [Lib.cell_of_heap (hBw.2 _ _ _ _ hb (by decide) (by decide))]; rfl
  have hBz := hBw.below.size
  by_cases hlt : k < s.length
  ·have b0 : (0 : Int) <= (k : Int) := by omega
   have b1 : (k : Int) <= (s.length : Int) := by omega
   have b2 : (k : Int) < (s.length : Int) := by omega
   have hne : s.drop k ≠ [] := fun e => by
    have := congrArg List.length e
    rw [List.length_drop, List.length_nil] at this
    omega
   obtain ⟨r, hr⟩ : ∃ r, s.drop k = r := ⟨_, rfl⟩
   have hPc := tPiece (s.drop k) wr hne (by rw [List.length_drop]; omega)
   have hstep := Cssp.pts_step k (s.drop k) hne
   have hple := Cssp.piece_le (s.drop k) hne
   have hrn := Cssp.runeN_le (s.drop k)
   have hgo := decodeGo_L (s.drop k) hne
   have hst := hSt.out
   rw [hstep, List.drop_drop] at hst
   have hrl : r.length + k = s.length := by rw [<- hr, List.length_drop]; omega
   unfold Cssp.runeN at hst hrn
   rw [hr] at hPc hst hple hrn hgo
   obtain ⟨p, hp⟩ : ∃ p, Cssp.piece r = p := ⟨_, rfl⟩
   rw [hp] at hPc hst hple hrn
   obtain ⟨pn, pk⟩ := p
   simp only at hPc hst hple hrn
   have HST := hide hst
   have HPC := hide hPc
   have HGO := hide hgo
   have HRN := hide hrn
   clear hst hPc hgo hrn hp hSt hstep hne
   have htk : List.take (s.length - k) r = r := List.take_of_length_le (by omega)
   gi_wp2
   refine ⟨trivial, callsIn_wide.2 (HPC.out.mono ?_)⟩
   rintro e w1 ⟨rfl, hb1⟩
   have hbw1 : Keep B W w1 := hBw.trans (Keep.of_below (Nat.le_trans hW hBz) hb1)
   have hJ1 : J pre w1 := hJ pre wr w1 none hJs ⟨hb1.os, hb1.tape, hb1.output, hb1.size, fun k hk _ => hb1.block k hk⟩ (fun r e => by cases e)
   have hbx1 : w1.cell? ⟨Bs, 0, none⟩ = some (S s) := by rw [Lib.cell_of_heap (hbw1.2 _ _ _ _ hb (by decide) (by decide))]; rfl
   have hBz1 := hbw1.below.size
   clear HPC hJs hbx
   cases pk with
   | false =>
    have hst := HST.out
    rw [if_neg (by decide)] at hst
    have HST2 := hide hst
    clear HST HRN HGO hst
    obtain ⟨fn, tmps, assign, body, hy, hR⟩ := hY pre (k, 65533) w1 hJ1 (by omega)
    unfold encR at hy
    dsimp only at hy
    rw [show ((Cssp.capR 65533 : Nat) : Int) = 65533 from rfl] at hy
    gi_wp2
    refine hR.mono ?_
    rintro e W3 (⟨rfl, hJ3, hk3⟩ | ⟨rfl, hJx3⟩)
    ·gi_wp2
     go_roundw
     case rel => exact ⟨k + pn, pre ++ [(k, 65533)], by omega, by go_num, hJ3, by simp; omega, by unfold Hid; rw [HST2.out, List.append_assoc]; rfl, hbw1.trans hk3⟩
     case measure => simp [intOf]; omega
    ·gi_wp2
     refine bodyPost_ret (results_none rfl _ _ _) rfl ?_
     exact ⟨⟨_, rfl⟩, .inr ⟨_, trivial, hJx3⟩⟩
   | true =>
    have hst := HST.out
    rw [if_pos rfl] at hst
    have HST2 := hide hst
    have hD := Tryz.utf8_DecodeRuneInString ⟨r.toArray⟩ w1 (ht.below hB hbw1.below).utf
    rw [HGO.out] at hD
    have hrn := HRN.out
    rw [if_pos rfl] at hrn
    obtain ⟨D, hDD⟩ : ∃ D, Lib.decodeL r = D := ⟨_, rfl⟩
    rw [hDD] at hD hrn
    have HST3 : Hid (Cssp.pts 0 s = pre ++ (k, D.1) :: Cssp.pts (k + pn) (List.drop (k + pn) s)) := by
     have := HST2.out
     rw [hDD] at this
     exact this
    obtain ⟨rn, rw_⟩ := D
    simp only at hD hrn
    have HD := hide hD
    clear HST HRN HGO hst HST2 hDD hD
    gi_wp2
    refine ⟨trivial, callsIn_wide.2 (HD.out.mono ?_)⟩
    rintro e w2 ⟨rfl, hb2⟩
    have hbw2 : Keep B W w2 := hbw1.trans (Keep.of_below (Nat.le_trans hW hBz1) hb2)
    have hJ2 : J pre w2 := hJ pre w1 w2 none hJ1 ⟨hb2.os, hb2.tape, hb2.output, hb2.size, fun k hk _ => hb2.block k hk⟩ (fun r e => by cases e)
    clear HD hJ1 hbx1
    obtain ⟨fn, tmps, assign, body, hy, hR⟩ := hY pre (k, rn) w2 hJ2 (by omega)
    unfold encR at hy
    dsimp only at hy
    rw [Cssp.capR_eq hrn] at hy
    gi_wp2
    refine hR.mono ?_
    rintro e W3 (⟨rfl, hJ3, hk3⟩ | ⟨rfl, hJx3⟩)
    ·gi_wp2
     go_roundw
     case rel => exact ⟨k + pn, pre ++ [(k, rn)], by omega, by go_num, hJ3, by simp; omega, by unfold Hid; rw [HST3.out, List.append_assoc]; rfl, hbw2.trans hk3⟩
     case measure => simp [intOf]; omega
    ·gi_wp2
     refine bodyPost_ret (results_none rfl _ _ _) rfl ?_
     exact ⟨⟨_, rfl⟩, .inr ⟨_, trivial, hJx3⟩⟩
  ·obtain rfl : k = s.length := by omega
   gi_wp2
   go_end0
   have := hSt.out
   rw [List.drop_length, Cssp.pts_nil, List.append_nil] at this
   exact ⟨⟨_, rfl⟩, .inl ⟨_, this.symm, hJs⟩⟩
theorem points_stops (n : Nat) (hn : 1 <= n) (Bs B : Nat) (s : List UInt8) (w : World) (hB : 7 <= B) (hBw : B <= w.heap.size) (hlen : s.length <= 140737488355328) (hb : w.heap[Bs]? = some (.cells #[S s] 9 (0, 0))) (ht : Tab w) :
  SeqStopsK Fence.wide n Tryz.prog 54 #[.pointer (some ⟨Bs, 0, none⟩)] encR (Keep B) (fun ys => ys = Cssp.pts 0 s) (fun _ => True) s.length w := fun l J Jx W hW hJ _ hY h0 =>
 points_in n hn l Bs B s J Jx W hB hlen hJ hY (Nat.le_trans hBw hW.size) ((hW.block Bs (heap_lt hb)).trans hb) (ht.below (Nat.le_trans hB hBw) hW) h0
theorem tPoints (s : List UInt8) (w : World) : Calls Tryz.prog 24 #[S s] w fun e w' => e = .returned (.func (.func 54) #[] #[.pointer (some ⟨w.heap.size, 0, none⟩)]) /\ w.alloc (.cells #[S s] 9) = w' := by
 have hmf : ∀ (fn : Fn) (first cap : Array Value) (w : World), (Instr.makeFunc fn first cap).run Tryz.prog w = .ok (.func fn first cap) w := fun _ _ _ _ => rfl
 go_enter Tryz.func24, Tryz.ntmps24
 go_wp2
 go_ret
 exact ⟨rfl, rfl⟩
theorem cells_stay {W W' : World} {row : Option Nat} (hg : W.grownBy W' row) (hr : ∀ r, row = some r -> ∃ o : Obj, W.heap[r]? = some o /\ o.isCells = false) {k : Nat} {cs : Array Value} {ty : TypeId} {f : Nat × Nat} (h : W.heap[k]? = some (.cells cs ty f)) : W'.heap[k]? = some (.cells cs ty f) :=
 (hg.block k (heap_lt h) (fun e => by
  obtain ⟨o, ho, hc⟩ := hr k e.symm
  rw [h] at ho
  injection ho with ho
  rw [<- ho] at hc
  cases hc)).trans h
theorem bld_own {β : Type} (K B b : Nat) (f : β -> List UInt8) : OwnFrom K (fun (s : β) W => Bld B b (f s) W) := fun s W W' row hs hg hr => by
 have hr' := fun r e => (hr r e).2
 rcases hs with ⟨hB, v, hb, hown, hne⟩ | ⟨hB, v, hb, hown, hne⟩
 ·refine .inl ⟨hB, v, cells_stay hg hr' hb, owns_of_block hown fun g e => ?_, hne⟩
  obtain ⟨c, hc⟩ := ownsRow_kind hown g e
  rw [cells_stay hg hr' hc, hc]
 ·refine .inr ⟨hB, v, cells_stay hg hr' hb, owns_of_block hown fun g e => ?_, hne⟩
  obtain ⟨c, hc⟩ := ownsRow_kind hown g e
  rw [cells_stay hg hr' hc, hc]
theorem keep_put {B : Nat} {w : World} (hB : B <= w.heap.size) (W : World) (l : Nat) (o o' : Obj) (hl : w.heap.size <= l) (h : W.heap[l]? = some o) (hc : o.isCells = false) (hw : o.isWalk = false) : Keep B W (W.putObj l o') :=
 ⟨belowK_b hB W l o o' hl h hc hw, fun k cs ty f hk _ _ => by
  rw [World.putObj_heap_other (fun e => by
   subst e
   rw [hk] at h
   injection h with h
   rw [<- h] at hc
   cases hc)]
  exact hk⟩
theorem txR_snoc (l : List (Nat × Nat)) (x : Nat × Nat) : Cssp.txR (l ++ [x]) = Cssp.txR l ++ Lib.encodeRune (Cssp.capR x.2 : Int) := by simp [Cssp.txR]
theorem txR_len (l : List (Nat × Nat)) : (Cssp.txR l).length <= 4 * l.length := by
 induction l with
 | nil => exact Nat.le_refl _
 | cons a r ih =>
  have e : Cssp.txR (a :: r) = Lib.encodeRune (Cssp.capR a.2 : Int) ++ Cssp.txR r := by simp [Cssp.txR]
  have h4 := Lib.runeCells_le (Cssp.capR a.2 : Int)
  rw [Lib.runeCells_length] at h4
  rw [e, List.length_append, List.length_cons]
  omega
theorem tDecode (s : List UInt8) (w : World) (ht : Tab w) (hl : s.length <= 1073741824) : Calls Tryz.prog 17 #[S s] w (Fresh (S (Cssp.decode s)) w) := by
 have hB := bld_new w
 have hb1 : Below w.heap.size w (w.alloc (.cells #[.pointer none, .slice none 0 0] 60)) := (Below.refl _ w).alloc (Nat.le_refl _) _
 have hlt := ht.lt
 refine (callsIn_wide (n := 5)).1 ?_
 refine callsIn_of_wp_marks Tryz.func17 rfl trivial ?_ rfl
 refine wpIn_wide.2 ?_
 simp only [Tryz.ntmps17, List.size_toArray, List.length_cons, List.length_nil, Nat.reduceAdd, Nat.reduceSub, Array.replicate_succ, Array.replicate_zero, List.push_toArray, List.append_toArray, List.nil_append, List.cons_append]
 go_upto_region 2 with (fail)
 generalize hgen : w.alloc (.cells #[.pointer none, .slice none 0 0] 60) = w1 at hB hb1 ⊢
 clear hgen
 have hcall := hide (tPoints s w1)
 have HB := hide hB
 have HB1 := hide hb1
 have hsz1 := hb1.size
 clear hB hb1
 go_wp2_with fail
 refine hcall.out.mono ?_
 rintro e w2 ⟨rfl, hw2⟩
 have hbc : Below w1.heap.size w1 w2 := by rw [<- hw2]; exact (Below.refl _ w1).alloc (Nat.le_refl _) _
 have hbx : w2.heap[w1.heap.size]? = some (.cells #[S s] 9 (0, 0)) := by rw [<- hw2]; exact heap_alloc_last _ _
 have hb2 : Below w.heap.size w w2 := HB1.out.trans (hbc.mono hsz1)
 have hbl : Bld w.heap.size w.heap.size [] w2 := bld_below HB.out hbc
 have ht2 : Tab w2 := ht.below (by omega) hb2
 have hsz2 := hb2.size
 clear hcall hw2 hbc HB
 go_wp2_with fail
 refine (wpIn_wide (n := 5)).1 ?_
 refine wpIn_rangeFunc_ownH rfl (by omega) (gf := 54) (lb := #[.pointer (some ⟨w1.heap.size, 0, none⟩)]) rfl trivial (enters_of Tryz.func54 (by kernel_rfl) rfl)
  (points_stops (5 - 1) (by omega) w1.heap.size w.heap.size s w2 (by omega) hsz2 (by omega) hbx ht2) (fun h k => h.trans k) (keep_put hsz2) (Below.refl _ _) (fun _ => rfl)
  (fun pre W => Bld w.heap.size w.heap.size (Cssp.txR pre) W /\ Below w.heap.size w W) (fun _ _ _ => False)
  (OwnFrom.and (bld_own _ _ _ _) (ownFrom_below (Nat.le_refl _) hsz2)) (fun _ _ _ _ _ hs _ _ => hs) ⟨hbl, hb2⟩
  (fun x a' _ => a' = { tmps := #[S s, undef, .string { data := #[] }, .pointer (some ⟨w.heap.size, 0, none⟩), undef, .int .i32 (Cssp.capR x.2 : Int), S s, .func (.func 54) #[] #[.pointer (some ⟨w1.heap.size, 0, none⟩)], .int .i64 (x.1 : Int), .int .i32 (Cssp.capR x.2 : Int), undef, undef, undef], defers := [] })
  (fun x a' s W W' row hs hg hr => hs) ?assign ?body ?done ?stop
 case assign =>
  rintro l pre x W K hI hK
  unfold encR
  gi_wp2
  exact hK _ _ (KeepsFrom.refl _ _) (Keep.refl _ W) hI rfl
 case body =>
  rintro l pre x a' W hl' ⟨r, hlr⟩ ⟨hI1, hI2⟩ rfl hpl
  have hsn := txR_snoc pre x
  have hlen := txR_len pre
  obtain ⟨xa, xr⟩ := x
  simp only at hsn
  have hxr := Cssp.capR_le xr
  gi_wp2
  refine ⟨trivial, CallsIn.inRound l (callsIn_wide.2 ?_)⟩
  refine (writeRuneO w.heap.size w.heap.size (Cssp.txR pre) (Cssp.capR xr) W hI1 hI2.size (by omega) (by omega) (by omega)).mono ?_
  rintro e w5 ⟨⟨u, rfl⟩, hb5, hk5, ho5⟩
  gi_wp2
  exact ⟨ho5.from _, hk5, by rw [hsn]; exact .inr hb5, hI2.trans hk5.below⟩
 case done =>
  rintro D ys W hD hys ⟨hI1, hI2⟩ hK
  have htx : Cssp.txR ys = Cssp.decode s := by rw [hys, Cssp.txR_pts _ _ _ (Nat.le_refl _)]
  rw [htx] at hI1
  go_wp2_with fail
  refine (stringO w.heap.size w.heap.size (Cssp.decode s) _ hI1 hI2.size).mono ?_
  rintro e w3 ⟨rfl, hb3, ho3⟩
  go_wp2_with fail
  have hK3 : w3.heap[D]? = some (.deferred (some [])) := ho3.same D _ hK rfl
  refine ⟨by simp, .inl ⟨_, _, rfl, run_takeDeferred hK3, ?_⟩⟩
  refine ⟨_, results_tmp rfl _ _ _, rfl, ?_⟩
  exact (hI2.trans hb3).trans (belowK_b (w := w2) hsz2 _ _ _ _ hD hK3 rfl rfl)
 case stop =>
  rintro D c pre W _ _ h _
  exact h.elim
end Go.Proofs.YtngccmlcopcghaaGreatDoor
