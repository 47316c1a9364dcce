/- strings.Builder in a block of its own: a text written, a byte written, the text handed back; what else stands. -/
import Derived.Test.YtojgcangnkjmjaaGreatDoorRw
import Derived.Lib.Builder
import Derived.Lib.AppendStr
import Derived.Deep.RegionWith
namespace Go.Proofs.YtojgcangnkjmjaaGreatDoor
open Go.RowKit

/-- Below block B all is as it was; of what is new, only Builders and rows of bytes may have turned. -/
structure Keep (B : Nat) (w w' : World) : Prop where
  below : Below B w w'
  kept : ∀ (k : Nat) (cs : Array Value) (t : TypeId) (f : Nat × Nat), w.heap[k]? = some (Obj.cells cs t f) → t ≠ 99 → t ≠ 5 → w'.heap[k]? = some (Obj.cells cs t f)
theorem Keep.refl (B : Nat) (w : World) : Keep B w w := ⟨Below.refl _ _, fun _ _ _ _ h _ _ => h⟩
theorem Keep.trans {B : Nat} {a b c : World} (h : Keep B a b) (k : Keep B b c) : Keep B a c :=
  ⟨h.below.trans k.below, fun i cs t f hi h1 h2 => k.kept i cs t f (h.kept i cs t f hi h1 h2) h1 h2⟩
theorem Keep.of_below {B : Nat} {w w' : World} (hB : B ≤ w.heap.size) (h : Below w.heap.size w w') : Keep B w w' :=
  ⟨h.mono hB, fun k _ _ _ hk _ _ => (h.block k (heap_lt hk)).trans hk⟩
theorem Keep.alloc {B : Nat} {a w : World} (h : Keep B a w) (hB : B ≤ w.heap.size) (o : Obj) : Keep B a (w.alloc o) :=
  ⟨h.below.alloc hB o, fun k cs t f hk h1 h2 => by
    have := h.kept k cs t f hk h1 h2
    rw [Below.heap_alloc _ _ _ (heap_lt this)]; exact this⟩
theorem Keep.setCell {B : Nat} {a w : World} (h : Keep B a w) {p : Addr} (hp : B ≤ p.block) {cs : Array Value} {t : TypeId} {f : Nat × Nat} (hb : w.heap[p.block]? = some (Obj.cells cs t f))
    (ht : t = 99 ∨ t = 5) (u : Value) : Keep B a (w.setCell p u) :=
  ⟨h.below.setCell hp u, fun k cs' t' f' hk h1 h2 => by
    have hk' := h.kept k cs' t' f' hk h1 h2
    have hne : k ≠ p.block := by
      rintro rfl
      rw [hb] at hk'
      injection hk' with e
      injection e with _ e _
      subst e
      rcases ht with e | e
      · exact h1 e
      · exact h2 e
    rw [Below.heap_setCell _ _ _ _ hne]; exact hk'⟩
theorem Keep.grown {B : Nat} {a w w' : World} (h : Keep B a w) {e : TypeId} {size : Nat} {v : Value} {n : Nat} {xs : List Value} (hown : w.ownsRow B e size v n xs) (hg : w.grownBy w' v.ownBlock) (hB : B ≤ w.heap.size)
    (ht : e = 99 ∨ e = 5) : Keep B a w' :=
  ⟨h.below.grown hg hB (fun k hk => (hown.lt k hk).1), fun k cs' t' f' hk h1 h2 => by
    have hk' := h.kept k cs' t' f' hk h1 h2
    rw [hg.block k (heap_lt hk') ?_]; exact hk'
    intro e'
    obtain ⟨c, hc⟩ := ownsRow_kind hown k e'.symm
    rw [hk'] at hc
    injection hc with e2
    injection e2 with _ e2 _
    subst e2
    rcases ht with e | e
    · exact h1 e
    · exact h2 e⟩

abbrev Bld (B b : Nat) (bs : List UInt8) (w : World) : Prop := Lib.IsBuilder 99 5 B b (Lib.byteCells bs) w
abbrev BldAt (B b : Nat) (bs : List UInt8) (w : World) : Prop := Lib.BuilderAt 99 5 B b (.pointer (some ⟨b, 0, none⟩)) (Lib.byteCells bs) w

theorem size_bld : (Tryz.prog.info? 99).map (·.size) = some 2 := by kernel_rfl
theorem lies_bld : liesAt Tryz.prog Tryz.prog.depth 99 (2 / Tryz.prog.cellsOf 99) 0 99 1 = true := by kernel_rfl

/-- a new Builder -/
theorem bld_new (w : World) : Bld w.heap.size w.heap.size [] (w.alloc (.cells #[.pointer none, .slice none 0 0] 99)) := Lib.fresh_isBuilder 99 5 w

set_option maxHeartbeats 1000000 in
set_option maxRecDepth 100000 in
theorem copyCheck_used (b : Nat) (w : World) (h0 : w.cell? ⟨b, 0, none⟩ = some (.pointer (some ⟨b, 0, none⟩))) :
    Calls Tryz.prog 95 #[.pointer (some ⟨b, 0, none⟩)] w (Ret (.tuple #[]) w) := by
  obtain ⟨j, hj, _⟩ := Option.map_eq_some_iff.1 size_bld
  go_enter Tryz.func95, Tryz.ntmps95
  go_wp2
  rw [Lib.run_neq_ptr_same w _ Tryz.underlying97 hj]
  go_wp2
  go_end0
  exact ⟨rfl, rfl⟩

set_option maxHeartbeats 1000000 in
set_option maxRecDepth 100000 in
theorem copyCheck_fresh (b : Nat) (w : World) (h0 : w.cell? ⟨b, 0, none⟩ = some (.pointer none)) (hsh : w.shape? b = some (99, 2)) (hfz : w.frozen? ⟨b, 0, none⟩ = false) :
    Calls Tryz.prog 95 #[.pointer (some ⟨b, 0, none⟩)] w (Ret (.tuple #[]) (w.setCell ⟨b, 0, none⟩ (.pointer (some ⟨b, 0, none⟩)))) := by
  obtain ⟨j, hj, hjs⟩ := Option.map_eq_some_iff.1 size_bld
  go_enter Tryz.func95, Tryz.ntmps95
  go_wp2
  rw [Lib.run_to_unsafe w ⟨b, 0, none⟩ Tryz.underlying97 Tryz.underlying153 hj (by rw [hjs]; decide) hsh (by show 0 < 2; decide)]
  simp only [Result.andThen]
  rw [Oper.upon_value]
  go_wp2
  rw [run_callFunc_extern Tryz.func124 (by kernel_rfl) (by kernel_rfl) (by kernel_rfl) (e := Extern.AbiNoEscape.same) (by kernel_rfl)]
  rw [Lib.run_noEscape]
  simp only [Result.andThen]
  rw [Oper.upon_value]
  go_wp2
  rw [Lib.run_from_unsafe w ⟨b, 0, none⟩ Tryz.underlying153 Tryz.underlying97 hj hsh lies_bld]
  simp only [Result.andThen]
  rw [Oper.upon_value]
  go_wp2
  go_end0
  exact ⟨rfl, rfl⟩

theorem set0_kept {b : Nat} {w : World} (q : Value) : w.grownBy (w.setCell ⟨b, 0, none⟩ q) (some b) := ⟨rfl, rfl, rfl, by simp [World.setCell], fun k _ hk => Below.heap_setCell _ _ _ _ (fun e => hk (by simp [e]))⟩
theorem set1_kept {b : Nat} {w : World} (q : Value) : w.grownBy (w.setCell ⟨b, 1, none⟩ q) (some b) := ⟨rfl, rfl, rfl, by simp [World.setCell], fun k _ hk => Below.heap_setCell _ _ _ _ (fun e => hk (by simp [e]))⟩

theorem copyCheck (B b : Nat) (bs : List UInt8) (w : World) (h : Bld B b bs w) :
    Calls Tryz.prog 95 #[.pointer (some ⟨b, 0, none⟩)] w fun e w' => e = .returned (.tuple #[]) ∧ BldAt B b bs w' ∧ Keep B w w' := by
  rcases h with h | h
  · have h' := h
    obtain ⟨hB, v, hb, hown, hne⟩ := h
    refine (copyCheck_fresh b w h'.cell0 h'.shape (by simp [World.frozen?, hb])).mono ?_
    rintro e w' ⟨rfl, rfl⟩
    refine ⟨rfl, ⟨hB, v, by simp [World.setCell, Array.getElem?_modify, hb], hown.kept (set0_kept _) (.inr hne), hne⟩, (Keep.refl B w).setCell (p := ⟨b, 0, none⟩) hB hb (.inl rfl) _⟩
  · refine (copyCheck_used b w h.cell0).mono ?_
    rintro e w' ⟨rfl, rfl⟩
    exact ⟨rfl, h, Keep.refl _ _⟩

set_option maxHeartbeats 2000000 in
set_option maxRecDepth 100000 in
theorem writeString (B b : Nat) (bs s : List UInt8) (w : World) (h : Bld B b bs w) (hBw : B ≤ w.heap.size) (hlen : bs.length + s.length ≤ 140737488355328) :
    Calls Tryz.prog 64 #[.pointer (some ⟨b, 0, none⟩), S s] w fun e w' => e = .returned (.tuple #[.int .i64 s.length, .nilIface]) ∧ BldAt B b (bs ++ s) w' ∧ Keep B w w' := by
  obtain ⟨i0, hi, hz0, hz1, hz2⟩ := info_parts info_byte
  have hcl : (Lib.byteCells bs).length = bs.length := by simp [Lib.byteCells]
  go_enter Tryz.func64, Tryz.ntmps64
  go_wp2_with fail
  refine (copyCheck B b bs _ h).mono ?_
  rintro e w1 ⟨rfl, h1, hk1⟩
  obtain ⟨hB, v, hbk, hown, hne⟩ := h1
  have c1 : w1.cell? ⟨b, 1, none⟩ = some v := by rw [Lib.cell_of_heap hbk]; rfl
  have hsz1 := hk1.below.size
  have hlt : b < w1.heap.size := heap_lt hbk
  go_wp2_with (at_builtin; refine Lib.wpList_append_own_string _ rfl _ _ 32 9 rfl B 5 i0 Tryz.underlying32 Tryz.underlying9 hi hz0 hz1 hz2 _ _ _ rfl hown ⟨s.toArray⟩ rfl ?c3 ?c4 ?c5 ?_)
  case c3 => rw [bl_size]; unfold maxLen; omega
  case c4 => rw [bl_size]; omega
  case c5 => omega
  intro v' w2 hown' hgrow _
  have hb2 : w2.heap[b]? = some (Obj.cells #[.pointer (some ⟨b, 0, none⟩), v] 99 (0, 0)) := by
    rw [hgrow.block b hlt (fun e => hne e.symm)]; exact hbk
  have d1 : w2.cell? ⟨b, 1, none⟩ = some v := by rw [Lib.cell_of_heap hb2]; rfl
  have f1 : w2.frozen? ⟨b, 1, none⟩ = false := by simp [World.frozen?, hb2]
  have hk2 : Keep B w w2 := hk1.grown hown hgrow (by omega) (.inr rfl)
  have hne' : v'.ownBlock ≠ some b := fun e => by
    obtain ⟨x, hx⟩ := ownsRow_kind hown' b e
    rw [hb2] at hx
    injection hx with hx
    injection hx with _ hx _
    exact absurd hx (by decide)
  have hcells : Lib.byteCells bs ++ Lib.strCells ⟨s.toArray⟩ = Lib.byteCells (bs ++ s) := by simp [Lib.byteCells, Lib.strCells]
  rw [hcells] at hown'
  have hcl2 : bs.length + s.length = (Lib.byteCells (bs ++ s)).length := by simp [Lib.byteCells]
  rw [hcl2] at hown'
  obtain ⟨ao, n', cap, rfl⟩ : ∃ ao n' cap, v' = .slice ao n' cap := by
    rcases hown'.2 with ⟨hv, _⟩ | ⟨g, cap, cur, hv, _⟩
    · exact ⟨_, _, _, hv⟩
    · exact ⟨_, _, _, hv⟩
  clear hown hgrow hk1 h hbk
  go_wp2_with fail
  go_ret2
  exact ⟨rfl, ⟨hB, _, by simp [World.setCell, Array.getElem?_modify, hb2], hown'.kept (set1_kept _) (.inr hne'), hne'⟩, hk2.setCell (p := ⟨b, 1, none⟩) hB hb2 (.inl rfl) _⟩

end Go.Proofs.YtojgcangnkjmjaaGreatDoor
