/- The reader of srcset: a struct of its own with a strings.Builder in a field: the Builder's methods there. -/
import Derived.Test.YtepimjljkkkejaaDoorF
import Derived.Deep.RegionWith
namespace Go.Proofs.YtepimjljkkkejaaDoor
open Go.RowKit

/-- Below block B all is as it was; of what is new, only readers, rows of texts and rows of bytes may have turned. -/
structure Keep (B : Nat) (w w' : World) : Prop where
  below : Below B w w'
  kept : ∀ (k : Nat) (cs : Array Value) (t : TypeId) (f : Nat × Nat), w.heap[k]? = some (Obj.cells cs t f) → t ≠ 42 → t ≠ 9 → t ≠ 5 → w'.heap[k]? = some (Obj.cells cs t f)
theorem Keep.refl (B : Nat) (w : World) : Keep B w w := ⟨Below.refl _ _, fun _ _ _ _ h _ _ _ => h⟩
theorem Keep.trans {B : Nat} {a b c : World} (h : Keep B a b) (k : Keep B b c) : Keep B a c :=
  ⟨h.below.trans k.below, fun i cs t f hi h1 h2 h3 => k.kept i cs t f (h.kept i cs t f hi h1 h2 h3) h1 h2 h3⟩
theorem heap_lt {w : World} {k : Nat} {o : Obj} (h : w.heap[k]? = some o) : k < w.heap.size := (Array.getElem?_eq_some_iff.1 h).1
theorem Keep.of_below {B : Nat} {w w' : World} (hB : B ≤ w.heap.size) (h : Below w.heap.size w w') : Keep B w w' :=
  ⟨h.mono hB, fun k cs t f hk _ _ _ => (h.block k (heap_lt hk)).trans hk⟩
theorem Keep.drew {B : Nat} {a w : World} (h : Keep B a w) : Keep B a w.drew := ⟨h.below.drew, h.kept⟩
theorem Keep.alloc {B : Nat} {a w : World} (h : Keep B a w) (hB : B ≤ w.heap.size) (o : Obj) : Keep B a (w.alloc o) :=
  ⟨h.below.alloc hB o, fun k cs t f hk h1 h2 h3 => by
    have := h.kept k cs t f hk h1 h2 h3
    rw [Below.heap_alloc _ _ _ (heap_lt this)]; exact this⟩
theorem Keep.setCell {B : Nat} {a w : World} (h : Keep B a w) {p : Addr} (hp : B ≤ p.block) {cs : Array Value} {t : TypeId} {f : Nat × Nat} (hb : w.heap[p.block]? = some (Obj.cells cs t f))
    (ht : t = 42 ∨ t = 9 ∨ t = 5) (u : Value) : Keep B a (w.setCell p u) :=
  ⟨h.below.setCell hp u, fun k cs' t' f' hk h1 h2 h3 => by
    have hk' := h.kept k cs' t' f' hk h1 h2 h3
    have hne : k ≠ p.block := by
      rintro rfl
      rw [hb] at hk'
      injection hk' with e
      injection e with _ e _
      subst e
      rcases ht with e | e | e
      · exact h1 e
      · exact h2 e
      · exact h3 e
    rw [Below.heap_setCell _ _ _ _ hne]; exact hk'⟩
theorem ownsRow_kind {w : World} {B : Nat} {e : TypeId} {size : Nat} {v : Value} {n : Nat} {xs : List Value} (h : w.ownsRow B e size v n xs) : ∀ g, v.ownBlock = some g → ∃ c, w.heap[g]? = some (Obj.cells c e (0, 0)) := by
  intro g hg
  rcases h.2 with ⟨rfl, _⟩ | ⟨g', cap, cur, rfl, _, hgg, _⟩
  · simp [Value.ownBlock] at hg
  · simp [Value.ownBlock] at hg
    subst hg
    exact ⟨cur, hgg⟩
theorem Keep.grown {B : Nat} {a w w' : World} (h : Keep B a w) {e : TypeId} {size : Nat} {v : Value} {n : Nat} {xs : List Value} (hown : w.ownsRow B e size v n xs) (hg : w.grownBy w' v.ownBlock) (hB : B ≤ w.heap.size)
    (ht : e = 42 ∨ e = 9 ∨ e = 5) : Keep B a w' :=
  ⟨h.below.grown hg hB (fun k hk => (hown.lt k hk).1), fun k cs' t' f' hk h1 h2 h3 => by
    have hk' := h.kept k cs' t' f' hk h1 h2 h3
    rw [hg.block k (heap_lt hk') ?_]; exact hk'
    intro e'
    obtain ⟨c, hc⟩ := ownsRow_kind hown k e'.symm
    rw [hk'] at hc
    injection hc with e2
    injection e2 with _ e2 _
    subst e2
    rcases ht with e | e | e
    · exact h1 e
    · exact h2 e
    · exact h3 e⟩
/-- a row of another type stands -/
theorem Keep.owns {B B' : Nat} {w w' : World} (h : Keep B w w') {e : TypeId} {size : Nat} {v : Value} {n : Nat} {xs : List Value} (hown : w.ownsRow B' e size v n xs)
    (h1 : e ≠ 42) (h2 : e ≠ 9) (h3 : e ≠ 5) : w'.ownsRow B' e size v n xs := by
  refine ⟨hown.1, ?_⟩
  rcases hown.2 with h0 | ⟨g, cap, cur, hv, hg, hh, r⟩
  · exact .inl h0
  · exact .inr ⟨g, cap, cur, hv, hg, h.kept _ _ _ _ hh h1 h2 h3, r⟩

/-- the reader in block b: its text, its words, the bytes of its word; p: what the Builder's first field holds -/
def RdAt (B b : Nat) (p : Value) (s : List UInt8) (ws : List (List UInt8)) (bs : List UInt8) (w : World) : Prop :=
  B ≤ b ∧ ∃ vw vb, w.heap[b]? = some (Obj.cells #[S s, vw, p, vb] 42 (0, 0)) ∧ w.ownsRow B 9 1 vw ws.length (ws.map S) ∧ w.ownsRow B 5 1 vb bs.length (Lib.byteCells bs)
def Rd (B b : Nat) (s : List UInt8) (ws : List (List UInt8)) (bs : List UInt8) (w : World) : Prop :=
  ∃ p, (p = .pointer none ∨ p = .pointer (some ⟨b, 2, none⟩)) ∧ RdAt B b p s ws bs w

theorem size_bld : (Tryd.prog.info? 40).map (·.size) = some 2 := by kernel_rfl
theorem lies_bld : liesAt Tryd.prog Tryd.prog.depth 42 (4 / Tryd.prog.cellsOf 42) 2 40 1 = true := by kernel_rfl
theorem info_byte : (Tryd.prog.info? 5).map (fun i => (i.zero, i.size, i.bytes)) = some (some (.int .u8 0), 1, 1) := by kernel_rfl

set_option maxHeartbeats 1000000 in
set_option maxRecDepth 100000 in
theorem copyCheck_used (b : Nat) (w : World) (h0 : w.cell? ⟨b, 2, none⟩ = some (.pointer (some ⟨b, 2, none⟩))) :
    Calls Tryd.prog 57 #[.pointer (some ⟨b, 2, none⟩)] w (Ret (.tuple #[]) w) := by
  obtain ⟨j, hj, _⟩ := Option.map_eq_some_iff.1 size_bld
  go_enter Tryd.func57, Tryd.ntmps57
  go_wp2
  rw [Lib.run_neq_ptr_same w _ Tryd.underlying38 hj]
  go_wp2
  go_end0
  exact ⟨rfl, rfl⟩

set_option maxHeartbeats 1000000 in
set_option maxRecDepth 100000 in
theorem copyCheck_fresh (b : Nat) (w : World) (h0 : w.cell? ⟨b, 2, none⟩ = some (.pointer none)) (hsh : w.shape? b = some (42, 4)) (hfz : w.frozen? ⟨b, 2, none⟩ = false) :
    Calls Tryd.prog 57 #[.pointer (some ⟨b, 2, none⟩)] w (Ret (.tuple #[]) (w.setCell ⟨b, 2, none⟩ (.pointer (some ⟨b, 2, none⟩)))) := by
  obtain ⟨j, hj, hjs⟩ := Option.map_eq_some_iff.1 size_bld
  go_enter Tryd.func57, Tryd.ntmps57
  go_wp2
  rw [Lib.run_to_unsafe w ⟨b, 2, none⟩ Tryd.underlying38 Tryd.underlying84 hj (by rw [hjs]; decide) hsh (by show 2 < 4; decide)]
  simp only [Result.andThen]
  rw [Oper.upon_value]
  go_wp2
  rw [run_callFunc_extern Tryd.func67 (by kernel_rfl) (by kernel_rfl) (by kernel_rfl) (e := Extern.AbiNoEscape.same) (by kernel_rfl)]
  rw [Lib.run_noEscape]
  simp only [Result.andThen]
  rw [Oper.upon_value]
  go_wp2
  rw [Lib.run_from_unsafe w ⟨b, 2, none⟩ Tryd.underlying84 Tryd.underlying38 hj hsh lies_bld]
  simp only [Result.andThen]
  rw [Oper.upon_value]
  go_wp2
  go_end0
  exact ⟨rfl, rfl⟩

theorem RdAt.set2 {B b : Nat} {p q : Value} {s : List UInt8} {ws : List (List UInt8)} {bs : List UInt8} {w : World} (h : RdAt B b p s ws bs w) : RdAt B b q s ws bs (w.setCell ⟨b, 2, none⟩ q) := by
  obtain ⟨hB, vw, vb, hb, h1, h2⟩ := h
  have hg : w.grownBy (w.setCell ⟨b, 2, none⟩ q) (some b) := ⟨rfl, rfl, rfl, by simp [World.setCell], fun k _ hk => Below.heap_setCell _ _ _ _ (fun e => hk (by simp [e]))⟩
  have hne : ∀ {e : TypeId} {v : Value} {n : Nat} {xs : List Value}, w.ownsRow B e 1 v n xs → e ≠ 42 → v.ownBlock = none ∨ v.ownBlock ≠ some b := fun ho he => by
    refine .inr fun e' => ?_
    obtain ⟨c, hc⟩ := ownsRow_kind ho b e'
    rw [hb] at hc
    injection hc with hc
    injection hc with _ hc _
    exact he hc.symm
  refine ⟨hB, vw, vb, ?_, h1.kept hg (hne h1 (by decide)), h2.kept hg (hne h2 (by decide))⟩
  simp [World.setCell, Array.getElem?_modify, hb]

theorem copyCheck (B b : Nat) (s : List UInt8) (ws : List (List UInt8)) (bs : List UInt8) (w : World) (h : Rd B b s ws bs w) :
    Calls Tryd.prog 57 #[.pointer (some ⟨b, 2, none⟩)] w fun e w' => e = .returned (.tuple #[]) ∧ RdAt B b (.pointer (some ⟨b, 2, none⟩)) s ws bs w' ∧ Keep B w w' := by
  obtain ⟨p, hp, h⟩ := h
  have h' := h
  obtain ⟨hB, vw, vb, hb, h1, h2⟩ := h
  rcases hp with rfl | rfl
  · refine (copyCheck_fresh b w (by rw [Lib.cell_of_heap hb]; rfl) (by simp [World.shape?, hb]) (by simp [World.frozen?, hb])).mono ?_
    rintro e w' ⟨rfl, rfl⟩
    exact ⟨rfl, h'.set2, (Keep.refl B w).setCell (p := ⟨b, 2, none⟩) hB hb (.inl rfl) _⟩
  · refine (copyCheck_used b w (by rw [Lib.cell_of_heap hb]; rfl)).mono ?_
    rintro e w' ⟨rfl, rfl⟩
    exact ⟨rfl, h', Keep.refl _ _⟩
end Go.Proofs.YtepimjljkkkejaaDoor
