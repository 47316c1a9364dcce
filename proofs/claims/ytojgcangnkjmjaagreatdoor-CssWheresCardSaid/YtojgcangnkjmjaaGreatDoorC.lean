/- The lexer in memory; take, peek, escapeAt, identAt, numberAt. -/
import Derived.Test.YtojgcangnkjmjaaGreatDoorA
import Derived.Test.YtojgcangnkjmjaaGreatDoorBu
namespace Go.Proofs.YtojgcangnkjmjaaGreatDoor
open Go.RowKit

/-! ### one block is written; all else that was stays -/
def Upto (q : Nat) (w w' : World) : Prop := Below 0 w w' ∧ ∀ b, b < w.heap.size → b ≠ q → w'.heap[b]? = w.heap[b]?
theorem Upto.refl (q : Nat) (w : World) : Upto q w w := ⟨Below.refl _ _, fun _ _ _ => rfl⟩
theorem Upto.size {q : Nat} {w w' : World} (h : Upto q w w') : w.heap.size ≤ w'.heap.size := h.1.size
theorem Upto.trans {q : Nat} {a b c : World} (h : Upto q a b) (k : Upto q b c) : Upto q a c :=
  ⟨h.1.trans k.1, fun i hi hq => (k.2 i (Nat.lt_of_lt_of_le hi h.size) hq).trans (h.2 i hi hq)⟩
theorem Upto.of_below {q : Nat} {w w' : World} (h : Below w.heap.size w w') : Upto q w w' := ⟨h.mono (Nat.zero_le _), fun b hb _ => h.block b hb⟩
theorem Upto.setCell {q : Nat} {w w' : World} (h : Upto q w w') (o : Nat) (v : Value) : Upto q w (w'.setCell ⟨q, o, none⟩ v) :=
  ⟨h.1.setCell (p := ⟨q, o, none⟩) (Nat.zero_le _) v, fun b hb hq => (Below.heap_setCell _ _ _ b hq).trans (h.2 b hb hq)⟩
theorem Upto.alloc {q : Nat} {w w' : World} (h : Upto q w w') (o : Obj) : Upto q w (w'.alloc o) := h.trans (Upto.of_below ((Below.refl _ w').alloc (Nat.le_refl _) o))
theorem Upto.below {q B : Nat} {w w' : World} (h : Upto q w w') (hq : B ≤ q) (hB : B ≤ w.heap.size) : Below B w w' :=
  ⟨h.1.os, h.1.tape, h.1.output, h.1.size, fun k hk => h.2 k (by omega) (by omega)⟩

/-! ### the lexer: what is left, in, open, tail -/
def Lx (w : World) (b : Nat) (s : List UInt8) (i o : Bool) (t : List UInt8) : Prop := w.heap[b]? = some (.cells #[S s, .bool i, .bool o, S t] 50 (0, 0))
theorem Lx.lt {w : World} {b : Nat} {s t : List UInt8} {i o : Bool} (h : Lx w b s i o t) : b < w.heap.size := heap_lt h
theorem Lx.cells {w : World} {b : Nat} {s t : List UInt8} {i o : Bool} (h : Lx w b s i o t) :
    w.cell? ⟨b, 0, none⟩ = some (S s) ∧ w.cell? ⟨b, 1, none⟩ = some (.bool i) ∧ w.cell? ⟨b, 2, none⟩ = some (.bool o) ∧ w.cell? ⟨b, 3, none⟩ = some (S t) := by
  have h' : w.heap[b]? = _ := h
  refine ⟨?_, ?_, ?_, ?_⟩ <;> simp [World.cell?, h']
theorem Lx.frozen {w : World} {b : Nat} {s t : List UInt8} {i o : Bool} (h : Lx w b s i o t) (k : Nat) : w.frozen? ⟨b, k, none⟩ = false := by
  have h' : w.heap[b]? = _ := h
  simp [World.frozen?, h']
theorem Lx.set0 {w : World} {b : Nat} {s t : List UInt8} {i o : Bool} (h : Lx w b s i o t) (u : List UInt8) : Lx (w.setCell ⟨b, 0, none⟩ (S u)) b u i o t := by
  have h' : w.heap[b]? = _ := h
  simp [Lx, World.setCell, Array.getElem?_modify, h']
theorem Lx.set1 {w : World} {b : Nat} {s t : List UInt8} {i o : Bool} (h : Lx w b s i o t) (u : Bool) : Lx (w.setCell ⟨b, 1, none⟩ (.bool u)) b s u o t := by
  have h' : w.heap[b]? = _ := h
  simp [Lx, World.setCell, Array.getElem?_modify, h']
theorem Lx.set2 {w : World} {b : Nat} {s t : List UInt8} {i o : Bool} (h : Lx w b s i o t) (u : Bool) : Lx (w.setCell ⟨b, 2, none⟩ (.bool u)) b s i u t := by
  have h' : w.heap[b]? = _ := h
  simp [Lx, World.setCell, Array.getElem?_modify, h']
theorem Lx.set3 {w : World} {b : Nat} {s t : List UInt8} {i o : Bool} (h : Lx w b s i o t) (u : List UInt8) : Lx (w.setCell ⟨b, 3, none⟩ (S u)) b s i o u := by
  have h' : w.heap[b]? = _ := h
  simp [Lx, World.setCell, Array.getElem?_modify, h']
theorem Lx.of_heap {w w' : World} {b : Nat} {s t : List UInt8} {i o : Bool} (h : Lx w b s i o t) (e : w'.heap[b]? = w.heap[b]?) : Lx w' b s i o t := e.trans h
theorem Lx.below {w w' : World} {b : Nat} {s t : List UInt8} {i o : Bool} (h : Lx w b s i o t) (hb : Below w.heap.size w w') : Lx w' b s i o t := h.of_heap (hb.block b h.lt)
/-- v comes back, and the lexer is left so -/
def Left (v : Value) (w : World) (b : Nat) (s : List UInt8) (i o : Bool) (t : List UInt8) (e : Ending) (w' : World) : Prop := e = .returned v ∧ Lx w' b s i o t ∧ Upto b w w'

theorem take_ (s t : List UInt8) (b n : Nat) (i o : Bool) (w : World) (h : Lx w b s i o t) (hn : n ≤ s.length) :
    Calls Tryz.prog 63 #[.pointer (some ⟨b, 0, none⟩), .int .i64 n] w (Left (S (s.take n)) w b (s.drop n) i o t) := by
  obtain ⟨c0, c1, c2, c3⟩ := h.cells
  have f0 := h.frozen 0
  have hs := (h.set0 (s.drop n))
  have hb0 : (0 : Int) ≤ (n : Int) := by omega
  have hb1 : (n : Int) ≤ (s.length : Int) := by omega
  go_enter Tryz.func63, Tryz.ntmps63
  go_wp2_with fail
  go_ret
  exact ⟨rfl, hs, (Upto.refl b w).setCell 0 _⟩
theorem peek_ (s t : List UInt8) (b n : Nat) (i o : Bool) (w : World) (h : Lx w b s i o t) :
    Calls Tryz.prog 105 #[.pointer (some ⟨b, 0, none⟩), .int .i64 n] w (Ret (.int .u8 (Cssp.at_ s n).toNat) w) := by
  obtain ⟨c0, c1, c2, c3⟩ := h.cells
  clear h
  go_enter Tryz.func105, Tryz.ntmps105
  by_cases hn : n < s.length
  · have hb0 : (0 : Int) ≤ (n : Int) := by omega
    have hb1 : (n : Int) < (s.length : Int) := by omega
    obtain ⟨x, hx⟩ : ∃ x, s[n] = x := ⟨_, rfl⟩
    go_wp2_with fail
    go_ret
    exact Ret.of (by rw [Cssp.at_, List.getD_eq_getElem?_getD, List.getElem?_eq_getElem hn, hx]; rfl)
  · have hb1 : ¬ (n : Int) < (s.length : Int) := by omega
    go_wp2_with fail
    go_ret
    exact Ret.of (by rw [Cssp.at_, List.getD_eq_getElem?_getD, List.getElem?_eq_none (by omega)]; rfl)
end Go.Proofs.YtojgcangnkjmjaaGreatDoor
namespace Go.Proofs.YtojgcangnkjmjaaGreatDoor
open Go.RowKit

theorem u8t {c d : UInt8} (h : c = d) : ((c.toNat : Int) == (d.toNat : Int)) = true := by rw [h, beq_self_eq_true]
theorem u8f {c d : UInt8} (h : ¬ c = d) : ((c.toNat : Int) == (d.toNat : Int)) = false := by
  rw [beq_eq_false_iff_ne]
  intro e
  exact h (UInt8.toNat_inj.1 (by omega))
theorem isAt_get {p : UInt8 → Bool} {s : List UInt8} {i : Nat} {x : UInt8} (h : s[i]? = some x) : Cssp.isAt p s i = p x := by rw [Cssp.isAt, h]
theorem isAt_none {p : UInt8 → Bool} {s : List UInt8} {i : Nat} (h : ¬ i < s.length) : Cssp.isAt p s i = false := by rw [Cssp.isAt, List.getElem?_eq_none (by omega)]
theorem esc_no {s : List UInt8} {i : Nat} (h : ¬ i < s.length) : Cssp.escAt s i = false := by rw [Cssp.escAt, isAt_none h]; rfl
theorem esc_ne {s : List UInt8} {i : Nat} {x : UInt8} (h : s[i]? = some x) (hx : ¬ x = 92) : Cssp.escAt s i = false := by rw [Cssp.escAt, isAt_get h, beq_eq_false_iff_ne.2 hx]; rfl
theorem esc_last {s : List UInt8} {i : Nat} {x : UInt8} (h : s[i]? = some x) (hx : x = 92) (hl : i + 1 = s.length) : Cssp.escAt s i = true := by rw [Cssp.escAt, isAt_get h, hx, isAt_none (by omega)]; rfl
theorem esc_next {s : List UInt8} {i : Nat} {x y : UInt8} (h : s[i]? = some x) (hx : x = 92) (hy : s[i + 1]? = some y) : Cssp.escAt s i = !(y == 10) := by rw [Cssp.escAt, isAt_get h, hx, isAt_get hy]; rfl

theorem escapeAt (s t : List UInt8) (b i : Nat) (n o : Bool) (w : World) (h : Lx w b s n o t) (hl : s.length ≤ 140737488355328) :
    Calls Tryz.prog 69 #[.pointer (some ⟨b, 0, none⟩), .int .i64 i] w (Ret (.bool (Cssp.escAt s i)) w) := by
  obtain ⟨c0, c1, c2, c3⟩ := h.cells
  clear h
  obtain ⟨R, hR⟩ : ∃ R, Cssp.escAt s i = R := ⟨_, rfl⟩
  rw [hR]
  have HR := hide hR
  clear hR
  have b0 : (0 : Int) ≤ (i : Int) := by omega
  go_enter Tryz.func69, Tryz.ntmps69
  by_cases hi : i < s.length
  · have b1 : (i : Int) < (s.length : Int) := by omega
    obtain ⟨x, hx⟩ : ∃ x, s[i] = x := ⟨_, rfl⟩
    have hx' : s[i]? = some x := by rw [List.getElem?_eq_getElem hi, hx]
    have HX := hide hx'
    clear hx'
    by_cases h92 : x = 92
    · have q1 : ((x.toNat : Int) == 92) = true := u8t h92
      have H92 := hide h92
      clear h92
      by_cases hn : i + 1 = s.length
      · have q2 : ((i : Int) + 1 == (s.length : Int)) = true := by rw [beq_iff_eq]; omega
        have HN := hide hn
        clear hn
        have hwr : wrap64 ((i : Int) + 1) = (i : Int) + 1 := by unfold wrap64; omega
        go_wp2_with fail
        go_ret
        exact Ret.of (v_b (by rw [← HR.out, esc_last HX.out H92.out HN.out]))
      · have q2 : ((i : Int) + 1 == (s.length : Int)) = false := by rw [beq_eq_false_iff_ne]; omega
        have hn1 : i + 1 < s.length := by omega
        have b2 : (i : Int) + 1 < (s.length : Int) := by omega
        have b3 : (0 : Int) ≤ (i : Int) + 1 := by omega
        have b4 : ((i : Int) + 1).toNat = i + 1 := by omega
        have hwr : wrap64 ((i : Int) + 1) = (i : Int) + 1 := by unfold wrap64; omega
        obtain ⟨y, hy⟩ : ∃ y, s[i + 1] = y := ⟨_, rfl⟩
        have hy' : s[i + 1]? = some y := by rw [List.getElem?_eq_getElem hn1, hy]
        have HY := hide hy'
        clear hy' hn
        by_cases h10 : y = 10
        · have q3 : ((y.toNat : Int) == 10) = true := u8t h10
          have q4 : ((y.toNat : Int) != 10) = false := by rw [bne, q3]; rfl
          have H10 := hide h10
          clear h10
          go_wp2_with fail
          go_ret
          exact Ret.of (v_b (by rw [← HR.out, esc_next HX.out H92.out HY.out, H10.out]; rfl))
        · have q3 : ((y.toNat : Int) == 10) = false := u8f h10
          have q4 : ((y.toNat : Int) != 10) = true := by rw [bne, q3]; rfl
          have H10 := hide h10
          clear h10
          go_wp2_with fail
          go_ret
          exact Ret.of (v_b (by rw [← HR.out, esc_next HX.out H92.out HY.out, beq_eq_false_iff_ne.2 H10.out]; rfl))
    · have q1 : ((x.toNat : Int) == 92) = false := u8f h92
      have H92 := hide h92
      clear h92
      go_wp2_with fail
      go_ret
      exact Ret.of (v_b (by rw [← HR.out, esc_ne HX.out H92.out]))
  · have b1 : ¬ (i : Int) < (s.length : Int) := by omega
    have hd : decide ((i : Int) < (s.length : Int)) = false := by simp; omega
    have HI := hide hi
    clear hi
    go_wp2_with fail
    go_ret
    exact Ret.of (v_b (by rw [← HR.out, esc_no HI.out]))
end Go.Proofs.YtojgcangnkjmjaaGreatDoor
