/- One box is written; all else that was stays. -/
import Derived.Test.YtagkdmolgmhmdaaGreatDoorWb
namespace Go.Proofs.YtagkdmolgmhmdaaGreatDoor
open Go.RowKit Go.Shelf

def Upto (q : Nat) (w w' : World) : Prop := Below 0 w w' ∧ ∀ b, b < w.heap.size → b ≠ q → w'.heap[b]? = w.heap[b]?
theorem Upto.refl (q : Nat) (w : World) : Upto q w w := ⟨Below.refl _ _, fun _ _ _ => rfl⟩
theorem Upto.size {q : Nat} {w w' : World} (h : Upto q w w') : w.heap.size ≤ w'.heap.size := h.1.size
theorem Upto.trans {q : Nat} {a b c : World} (h : Upto q a b) (k : Upto q b c) : Upto q a c :=
  ⟨h.1.trans k.1, fun i hi hq => (k.2 i (Nat.lt_of_lt_of_le hi h.size) hq).trans (h.2 i hi hq)⟩
theorem Upto.fresh {q p : Nat} {a b c : World} (h : Upto q a b) (k : Upto p b c) (hp : a.heap.size ≤ p) : Upto q a c :=
  ⟨h.1.trans k.1, fun i hi hq => (k.2 i (Nat.lt_of_lt_of_le hi h.size) (by omega)).trans (h.2 i hi hq)⟩
theorem Upto.of_below {q : Nat} {w w' : World} (h : Below w.heap.size w w') : Upto q w w' := ⟨h.mono (Nat.zero_le _), fun b hb _ => h.block b hb⟩
theorem Upto.setCell {q : Nat} {w w' : World} (h : Upto q w w') (v : Value) : Upto q w (w'.setCell ⟨q, 0, none⟩ v) :=
  ⟨h.1.setCell (p := ⟨q, 0, none⟩) (Nat.zero_le _) v, fun b hb hq => (Below.heap_setCell _ _ _ b hq).trans (h.2 b hb hq)⟩
theorem Upto.alloc {q : Nat} {w w' : World} (h : Upto q w w') (o : Obj) : Upto q w (w'.alloc o) := h.trans (Upto.of_below ((Below.refl _ w').alloc (Nat.le_refl _) o))
theorem Upto.below {q B : Nat} {w w' : World} (h : Upto q w w') (hq : B ≤ q) (hB : B ≤ w.heap.size) : Below B w w' :=
  ⟨h.1.os, h.1.tape, h.1.output, h.1.size, fun k hk => h.2 k (by omega) (by omega)⟩
theorem Upto.boxed {q : Nat} {w w' : World} (h : Upto q w w') {b : Nat} {t : TypeId} {v : Value} (hb : Boxed w b t v) (hq : b ≠ q) : Boxed w' b t v := (h.2 b hb.lt hq).trans hb
theorem Upto.keepT {q B : Nat} {w w' : World} (h : Upto q w w') {t : TypeId} {v : Value} (hb : Boxed w q t v) (ht : t ≠ 26) (hq : B ≤ q) (hB : B ≤ w.heap.size) : KeepT B w w' :=
  ⟨h.below hq hB, fun k cs f hk => (h.2 k (heap_lt hk) (by
    rintro rfl
    rw [show w.heap[k]? = _ from hb] at hk
    injection hk with e
    injection e with _ e _
    exact ht e)).trans hk⟩
theorem Upto.from {q : Nat} {w w' : World} (h : Upto q w w') {t : TypeId} {v : Value} (hb : Boxed w q t v) (B : Nat) : KeepsFrom B w w' :=
  ⟨h.size, fun k o _ hk ho => (h.2 k (heap_lt hk) (by
    rintro rfl
    rw [show w.heap[k]? = _ from hb] at hk
    injection hk with hk
    rw [← hk] at ho
    cases ho)).trans hk⟩
theorem from_below {B : Nat} {w w' : World} (h : Below w.heap.size w w') : KeepsFrom B w w' := ⟨h.size, fun k _ _ hk _ => (h.block k (heap_lt hk)).trans hk⟩
theorem upto_own {β : Type} (B q : Nat) (w : World) (hB : w.heap.size ≤ B) : OwnFrom B (fun (_ : β) W => Upto q w W) := fun _ X Y row hs hg hr =>
  ⟨hs.1.grown hg (Nat.zero_le _) (fun _ _ => Nat.zero_le _), fun b hb hq => (hg.block b (by have := hs.size; omega) (fun e => by have := (hr b e.symm).1; omega)).trans (hs.2 b hb hq)⟩
end Go.Proofs.YtagkdmolgmhmdaaGreatDoor
