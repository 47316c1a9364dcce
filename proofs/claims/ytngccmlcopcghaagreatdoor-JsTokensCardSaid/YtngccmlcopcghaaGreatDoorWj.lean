/- within: a script that ends in a string. -/
import Derived.Test.YtngccmlcopcghaaGreatDoorWh
import Derived.Test.YtngccmlcopcghaaGreatDoorTb
import Derived.Test.YtngccmlcopcghaaGreatDoorUf
set_option maxRecDepth 100000
set_option maxHeartbeats 8000000
namespace Go.Proofs.YtngccmlcopcghaaGreatDoor
open Go.RowKit
theorem Kp.setNew {B : Nat} {a w : World} (h : Kp B a w) (hB : B <= a.heap.size) {p : Addr} (hp : a.heap.size <= p.block) (u : Value) : Kp B a (w.setCell p u) :=
 ⟨h.below.setCell (Nat.le_trans hB hp) u, fun k cs t f hk h1 h2 => by
  have := heap_lt hk
  rw [Below.heap_setCell _ _ _ _ (by omega)]; exact h.kept k cs t f hk h1 h2⟩
def SndP (nb : Prop) (w : World) (e : Ending) (w' : World) : Prop := ∃ x, e = .returned (.bool x) /\ Below w.heap.size w w' /\ (nb -> x = true)
theorem box_cells {w : World} {r s q : Nat} {c g : Bool} {k : List UInt8} (h : w.heap[r]? = some (.cells #[.int .u8 (s : Int), .int .u8 (q : Int), .bool c, .bool g, S k] 36 (0, 0))) :
  w.cell? ⟨r, 0, none⟩ = some (.int .u8 (s : Int)) /\ w.cell? ⟨r, 1, none⟩ = some (.int .u8 (q : Int)) /\ w.cell? ⟨r, 2, none⟩ = some (.bool c) /\ w.cell? ⟨r, 3, none⟩ = some (.bool g) /\ w.cell? ⟨r, 4, none⟩ = some (S k) /\ (∀ j, w.frozen? ⟨r, j, none⟩ = false) := by
 refine ⟨?_, ?_, ?_, ?_, ?_, fun j => ?_⟩ <;> simp [World.cell?, World.frozen?, h]
theorem jWithinS (F : List UInt8) (B b a e at' q : Nat) (st : Jsp.St) (ln : Bool) (w : World) (h : Lx w B b F a st ln) (nb : Prop) (hat : at' <= 4194304)
  (hSnd : ∀ W, Lx W B b F a st ln -> Calls Tryz.prog 63 #[.pointer (some ⟨b, 0, none⟩), .int .i64 ((at' + 1 : Nat) : Int), .int .i64 (-1), .bool false] W (SndP nb W)) :
  Calls Tryz.prog 34 #[.pointer (some ⟨b, 0, none⟩), .int .i64 (e : Int), .int .i64 (at' : Int), .agg #[.int .u8 3, .int .u8 (q : Int), .bool false, .bool false, S []], .int .i64 (-1)] w (Pk e at' (fun x => x.s ≠ 1 /\ (nb -> x = ⟨3, q, false, false, st.stk⟩)) B w) := by
 have hB := h.leB
 have hal := (Below.refl w.heap.size w).alloc (Nat.le_refl _) (.cells #[.int .u8 3, .int .u8 (q : Int), .bool false, .bool false, S []] 36)
 have HX1 := hide (h.below hal)
 have HAL := hide hal
 have hnew := heap_alloc_last w (.cells #[.int .u8 3, .int .u8 (q : Int), .bool false, .bool false, S []] 36)
 have HN := hide hnew
 have hS := fun W hW => hide (hSnd W hW)
 rw [Int.natCast_add, Int.natCast_one] at hS
 have hsum : wrap64 ((at' : Int) + 1) = (at' : Int) + 1 := by unfold wrap64; omega
 clear h hal hnew hSnd hat
 go_enter Tryz.func34, Tryz.ntmps34
 go_wp2_with fail
 refine (hS _ HX1.out).out.mono ?_
 rintro en w2 ⟨x, rfl, hb2, hnb⟩
 have HX2 := hide (HX1.out.below hb2)
 have HK2 := hide (Kp.of_below hB (HAL.out.trans (hb2.mono HAL.out.size)))
 have HN2 := hide ((hb2.block _ (by simp)).trans HN.out)
 clear hb2
 cases x with
 | false =>
  have hno : ¬ nb := fun h => by cases hnb h
  clear hnb
  go_wp2_with fail
  refine (jFail b e at' _).mono ?_
  rintro en w3 ⟨rfl, rfl⟩
  go_wp2_with fail
  exact ⟨rfl, w0x, rfl, ⟨by decide, fun h => absurd h hno⟩, HK2.out⟩
 | true =>
  obtain ⟨v, cap, lo, hx⟩ := HX2.out
  obtain ⟨c0, -, -, -, -, -, -, c7⟩ := hx.cells
  have f7 := hx.frozen 7
  have hx3 := hx.set7 (F.length : Int)
  obtain ⟨-, -, d2, -⟩ := hx3.cells
  have hcv := own_text hx3.own
  have HK3 := hide ((hx.kp HK2.out 7 (.int .i64 (F.length : Int))).setNew hB (p := ⟨w.heap.size, 4, none⟩) (Nat.le_refl _) (S st.stk))
  have hne : w.heap.size ≠ b := fun e => by
   have := hx.at'
   rw [<- e, HN2.out] at this
   injection this with this
   injection this with _ this _
   exact absurd this (by decide)
  have hn3 : (w2.setCell ⟨b, 7, none⟩ (.int .i64 (F.length : Int))).heap[w.heap.size]? = _ := (Below.heap_setCell _ _ _ _ hne).trans HN2.out
  obtain ⟨e0, e1, e2, e3, e4, ef⟩ := box_cells (s := 3) hn3
  have ef4 := ef 4
  clear hnb hx hx3 hn3 ef
  go_wp2_with fail
  exact ⟨rfl, ⟨3, q, false, false, st.stk⟩, rfl, ⟨by show (3 : Nat) ≠ 1; decide, fun _ => rfl⟩, HK3.out⟩
theorem LxV.boxed {w : World} {B b a : Nat} {F : List UInt8} {v : Value} {st : Jsp.St} {ln : Bool} {lo : Int} (h : LxV w B b F a v st ln lo) {r : Nat} {cs : Array Value} {fr : Nat × Nat} (hr : w.heap[r]? = some (.cells cs 36 fr)) (hB : B <= r) (o : Nat) (u : Value) : LxV (w.setCell ⟨r, o, none⟩ u) B b F a v st ln lo := by
 have hne : b ≠ r := by
  rintro rfl
  rw [h.at'] at hr
  injection hr with hr
  injection hr with _ hr _
  exact absurd hr (by decide)
 refine ⟨h.le, h.lo11, h.tab.below h.lo11 ((Below.refl B w).setCell (p := ⟨r, o, none⟩) hB u), (Below.heap_setCell _ _ _ _ hne).trans h.at', owns_of_block h.own fun g e => Below.heap_setCell _ _ _ _ ?_⟩
 rintro rfl
 obtain ⟨c, hc⟩ := ownsRow_kind h.own _ e
 rw [hc] at hr
 injection hr with hr
 injection hr with _ hr _
 exact absurd hr (by decide)
theorem box_set0 {w : World} {r s q : Nat} {c g : Bool} {k : List UInt8} (s' : Nat) (h : w.heap[r]? = some (.cells #[.int .u8 (s : Int), .int .u8 (q : Int), .bool c, .bool g, S k] 36 (0, 0))) :
  (w.setCell ⟨r, 0, none⟩ (.int .u8 (s' : Int))).heap[r]? = some (.cells #[.int .u8 (s' : Int), .int .u8 (q : Int), .bool c, .bool g, S k] 36 (0, 0)) := by
 simp [World.setCell, Array.getElem?_modify, h]
theorem box_set1 {w : World} {r s q : Nat} {c g : Bool} {k : List UInt8} (q' : Nat) (h : w.heap[r]? = some (.cells #[.int .u8 (s : Int), .int .u8 (q : Int), .bool c, .bool g, S k] 36 (0, 0))) :
  (w.setCell ⟨r, 1, none⟩ (.int .u8 (q' : Int))).heap[r]? = some (.cells #[.int .u8 (s : Int), .int .u8 (q' : Int), .bool c, .bool g, S k] 36 (0, 0)) := by
 simp [World.setCell, Array.getElem?_modify, h]
theorem jWithinT (F : List UInt8) (B b a e at'  : Nat)  (st : Jsp.St) (ln : Bool) (w : World) (h : Lx w B b F a st ln) (hat : at' <= 4190000) (_ha : a <= F.length) (hl : F.length <= 4190000)
  (hSnd : ∀ W, Lx W B b F a st ln -> Calls Tryz.prog 63 #[.pointer (some ⟨b, 0, none⟩), .int .i64 ((at' + 1 : Nat) : Int), .int .i64 (-1), .bool false] W (SndP False W)) :
  Calls Tryz.prog 34 #[.pointer (some ⟨b, 0, none⟩), .int .i64 (e : Int), .int .i64 (at' : Int), .agg #[.int .u8 4, .int .u8 0, .bool false, .bool false, S []], .int .i64 (-1)] w (PkN e at' B w) := by
 have hB := h.leB
 have hal := (Below.refl w.heap.size w).alloc (Nat.le_refl _) (.cells #[.int .u8 4, .int .u8 0, .bool false, .bool false, S []] 36)
 have HX1 := hide (h.below hal)
 have HAL := hide hal
 have HN := hide (heap_alloc_last w (.cells #[.int .u8 4, .int .u8 0, .bool false, .bool false, S []] 36))
 have hS := fun W hW => hide (hSnd W hW)
 rw [Int.natCast_add, Int.natCast_one] at hS
 have hsum : wrap64 ((at' : Int) + 1) = (at' : Int) + 1 := by unfold wrap64; omega
 clear hSnd
 clear h hal hat
 go_enter Tryz.func34, Tryz.ntmps34
 go_wp2_with fail
 refine (hS _ HX1.out).out.mono ?_
 rintro en w2 ⟨x, rfl, hb2, -⟩
 have HX2 := hide (HX1.out.below hb2)
 have HK2 := hide (Kp.of_below hB (HAL.out.trans (hb2.mono HAL.out.size)))
 have HN2 := hide ((hb2.block _ (by simp)).trans HN.out)
 clear hb2
 cases x with
 | false =>
  go_wp2_with fail
  refine (jFail b e at' _).mono ?_
  rintro en w3 ⟨rfl, rfl⟩
  go_wp2_with fail
  exact ⟨rfl, w0x, rfl, by decide, HK2.out⟩
 | true =>
  obtain ⟨_, _, _, hx0⟩ := HX2.out
  obtain ⟨p0, -⟩ := hx0.cells
  clear hx0
  go_wp2_with fail
  refine (sHasSuf F [36] _ (by omega)).mono ?_
  rintro en w3 ⟨rfl, rfl⟩
  cases hsf : Lib.hasSuffix F [36] with
  | false =>
   obtain ⟨v, cap, lo, hx⟩ := HX2.out
   obtain ⟨c0, c1, -, -, -, -, -, c7⟩ := hx.cells
   have f7 := hx.frozen 7
   have hne : w.heap.size ≠ b := fun e => by
    have := hx.at'
    rw [<- e, HN2.out] at this
    injection this with this
    injection this with _ this _
    exact absurd this (by decide)
   have hx4 := hx.set7 (F.length : Int)
   have HK4 := hide (hx.kp HK2.out 7 (.int .i64 (F.length : Int)))
   have HN4 := hide (show (w2.setCell ⟨b, 7, none⟩ (.int .i64 (F.length : Int))).heap[w.heap.size]? = _ from (Below.heap_setCell _ _ _ _ hne).trans HN2.out)
   have HX4 := hide hx4
   clear hx hx4 hne
   obtain ⟨-, -, d2, -⟩ := HX4.out.cells
   have hcv := own_text HX4.out.own
   have HKZ := hide (HK4.out.setNew hB (p := ⟨w.heap.size, 4, none⟩) (Nat.le_refl _) (S st.stk))
   obtain ⟨e0, e1, e2, e3, e4, ef⟩ := box_cells (s := 4) (q := 0) HN4.out
   have ef4 := ef 4
   clear ef
   go_wp2_with fail
   exact ⟨rfl, ⟨4, 0, false, false, st.stk⟩, rfl, by show (4 : Nat) ≠ 1; decide, HKZ.out⟩
  | true =>
   cases hgl : ((-1 : Int) != (F.length : Int) - 2) with
   | false =>
    obtain ⟨v, cap, lo, hx⟩ := HX2.out
    obtain ⟨c0, c1, -, -, -, -, -, c7⟩ := hx.cells
    have f7 := hx.frozen 7
    have hne : w.heap.size ≠ b := fun e => by
     have := hx.at'
     rw [<- e, HN2.out] at this
     injection this with this
     injection this with _ this _
     exact absurd this (by decide)
    have hx4 := hx.set7 (F.length : Int)
    have HK4 := hide (hx.kp HK2.out 7 (.int .i64 (F.length : Int)))
    have HN4 := hide (show (w2.setCell ⟨b, 7, none⟩ (.int .i64 (F.length : Int))).heap[w.heap.size]? = _ from (Below.heap_setCell _ _ _ _ hne).trans HN2.out)
    have HX4 := hide hx4
    clear hx hx4 hne
    obtain ⟨-, -, d2, -⟩ := HX4.out.cells
    have hcv := own_text HX4.out.own
    have HKZ := hide (HK4.out.setNew hB (p := ⟨w.heap.size, 4, none⟩) (Nat.le_refl _) (S st.stk))
    obtain ⟨e0, e1, e2, e3, e4, ef⟩ := box_cells (s := 4) (q := 0) HN4.out
    have ef4 := ef 4
    clear ef
    go_wp2_with fail
    exact ⟨rfl, ⟨4, 0, false, false, st.stk⟩, rfl, by show (4 : Nat) ≠ 1; decide, HKZ.out⟩
   | true =>
    obtain ⟨v, cap, lo, hx⟩ := HX2.out
    obtain ⟨c0, c1, -, -, -, -, -, c7⟩ := hx.cells
    have f7 := hx.frozen 7
    have hne : w.heap.size ≠ b := fun e => by
     have := hx.at'
     rw [<- e, HN2.out] at this
     injection this with this
     injection this with _ this _
     exact absurd this (by decide)
    have hx4 := hx.set7 ((F.length : Int) - 1)
    have HK4 := hide (hx.kp HK2.out 7 (.int .i64 ((F.length : Int) - 1)))
    have HN4 := hide (show (w2.setCell ⟨b, 7, none⟩ (.int .i64 ((F.length : Int) - 1))).heap[w.heap.size]? = _ from (Below.heap_setCell _ _ _ _ hne).trans HN2.out)
    have HX4 := hide hx4
    clear hx hx4 hne
    obtain ⟨-, -, d2, -⟩ := HX4.out.cells
    have hcv := own_text HX4.out.own
    have HKZ := hide (HK4.out.setNew hB (p := ⟨w.heap.size, 4, none⟩) (Nat.le_refl _) (S st.stk))
    obtain ⟨e0, e1, e2, e3, e4, ef⟩ := box_cells (s := 4) (q := 0) HN4.out
    have ef4 := ef 4
    clear ef
    go_wp2_with fail
    exact ⟨rfl, ⟨4, 0, false, false, st.stk⟩, rfl, by show (4 : Nat) ≠ 1; decide, HKZ.out⟩
theorem jWithinSL (F : List UInt8) (B b a e at' q : Nat)  (st : Jsp.St) (ln : Bool) (w : World) (h : Lx w B b F a st ln) (hat : at' <= 4190000) (_ha : a <= F.length) (hl : F.length <= 4190000) (l : Nat) (hll : l + 1 <= F.length) (hvl : Cssp.valid (F.drop (l + 1)) = true)
  (hSnd : ∀ (o : Bool) W, (o = false -> l + 1 < F.length) -> Lx W B b F a st ln -> Calls Tryz.prog 63 #[.pointer (some ⟨b, 0, none⟩), .int .i64 ((at' + 1 : Nat) : Int), .int .i64 (l : Int), .bool o] W (SndP False W)) :
  Calls Tryz.prog 34 #[.pointer (some ⟨b, 0, none⟩), .int .i64 (e : Int), .int .i64 (at' : Int), .agg #[.int .u8 3, .int .u8 (q : Int), .bool false, .bool false, S []], .int .i64 (l : Int)] w (PkN e at' B w) := by
 have hB := h.leB
 have hal := (Below.refl w.heap.size w).alloc (Nat.le_refl _) (.cells #[.int .u8 3, .int .u8 (q : Int), .bool false, .bool false, S []] 36)
 have HX1 := hide (h.below hal)
 have HAL := hide hal
 have HN := hide (heap_alloc_last w (.cells #[.int .u8 3, .int .u8 (q : Int), .bool false, .bool false, S []] 36))
 have hS := fun o W hO hW => hide (hSnd o W hO hW)
 rw [Int.natCast_add, Int.natCast_one] at hS
 have hsum : wrap64 ((at' : Int) + 1) = (at' : Int) + 1 := by unfold wrap64; omega
 clear hSnd
 obtain ⟨_, _, _, hx1⟩ := HX1.out
 obtain ⟨c0, -⟩ := hx1.cells
 have hP := hide (jPendingE (F.drop (l + 1)) hvl (by rw [List.length_drop]; omega) _ hx1.tab)
 have b0 : (0 : Int) <= (l : Int) + 1 := by omega
 have b1 : (l : Int) + 1 <= (F.length : Int) := by omega
 have b2 : ((l : Int) + 1).toNat = l + 1 := by omega
 have qle : decide (0 <= (l : Int)) = true := by simp
 clear hx1 hvl
 clear h hal hat
 go_enter Tryz.func34, Tryz.ntmps34
 go_wp2_with fail
 refine hP.out.mono ?_
 rintro en w1 ⟨o, rfl, hb1, ho⟩
 have HO := hide (show o = false -> l + 1 < F.length from fun hf => by
  rcases Nat.lt_or_ge (l + 1) F.length with h1 | h1
  ·exact h1
  ·exact absurd (List.drop_eq_nil_of_le h1) (ho hf))
 clear ho
 have HX1' := hide (HX1.out.below hb1)
 have HAL' := hide (HAL.out.trans (hb1.mono HAL.out.size))
 have HN' := hide ((hb1.block _ (by simp)).trans HN.out)
 have HLT := hide (heap_lt HN'.out)
 have qb0 := (box_cells (s := 3) (q := q) HN'.out).1
 clear hb1 c0
 cases o with
 | false =>
  go_wp2_with fail
  refine (hS false _ (fun hf => by first | exact HO.out hf | exact HO.out trivial | cases hf) HX1'.out).out.mono ?_
  rintro en w2 ⟨x, rfl, hb2, -⟩
  have HX2 := hide (HX1'.out.below hb2)
  have HK2 := hide (Kp.of_below hB (HAL'.out.trans (hb2.mono (Nat.le_of_lt HLT.out))))
  have HN2 := hide ((hb2.block _ HLT.out).trans HN'.out)
  clear hb2
  cases x with
  | false =>
   go_wp2_with fail
   refine (jFail b e at' _).mono ?_
   rintro en w3 ⟨rfl, rfl⟩
   go_wp2_with fail
   exact ⟨rfl, w0x, rfl, by decide, HK2.out⟩
  | true =>
   obtain ⟨v, cap, lo, hx⟩ := HX2.out
   obtain ⟨c0, c1, -, -, -, -, -, c7⟩ := hx.cells
   have f7 := hx.frozen 7
   have hne : w.heap.size ≠ b := fun e => by
    have := hx.at'
    rw [<- e, HN2.out] at this
    injection this with this
    injection this with _ this _
    exact absurd this (by decide)
   have hx4 := hx.set7 (F.length : Int)
   have HK4 := hide (hx.kp HK2.out 7 (.int .i64 (F.length : Int)))
   have HN4 := hide (show (w2.setCell ⟨b, 7, none⟩ (.int .i64 (F.length : Int))).heap[w.heap.size]? = _ from (Below.heap_setCell _ _ _ _ hne).trans HN2.out)
   have HX4 := hide hx4
   clear hx hx4 hne
   obtain ⟨-, -, d2, -⟩ := HX4.out.cells
   have hcv := own_text HX4.out.own
   have HKZ := hide (HK4.out.setNew hB (p := ⟨w.heap.size, 4, none⟩) (Nat.le_refl _) (S st.stk))
   obtain ⟨e0, e1, e2, e3, e4, ef⟩ := box_cells (s := 3) (q := q) HN4.out
   have ef4 := ef 4
   clear ef
   go_wp2_with fail
   exact ⟨rfl, ⟨3, q, false, false, st.stk⟩, rfl, by show (3 : Nat) ≠ 1; decide, HKZ.out⟩
 | true =>
  go_wp2_with fail
  refine (hS true _ (fun hf => by first | exact HO.out hf | exact HO.out trivial | cases hf) HX1'.out).out.mono ?_
  rintro en w2 ⟨x, rfl, hb2, -⟩
  have HX2 := hide (HX1'.out.below hb2)
  have HK2 := hide (Kp.of_below hB (HAL'.out.trans (hb2.mono (Nat.le_of_lt HLT.out))))
  have HN2 := hide ((hb2.block _ HLT.out).trans HN'.out)
  clear hb2
  cases x with
  | false =>
   go_wp2_with fail
   refine (jFail b e at' _).mono ?_
   rintro en w3 ⟨rfl, rfl⟩
   go_wp2_with fail
   exact ⟨rfl, w0x, rfl, by decide, HK2.out⟩
  | true =>
   obtain ⟨v, cap, lo, hx⟩ := HX2.out
   obtain ⟨c0, c1, -, -, -, -, -, c7⟩ := hx.cells
   have f7 := hx.frozen 7
   have hne : w.heap.size ≠ b := fun e => by
    have := hx.at'
    rw [<- e, HN2.out] at this
    injection this with this
    injection this with _ this _
    exact absurd this (by decide)
   have hx4 := hx.set7 (l : Int)
   have HK4 := hide (hx.kp HK2.out 7 (.int .i64 (l : Int)))
   have HN4 := hide (show (w2.setCell ⟨b, 7, none⟩ (.int .i64 (l : Int))).heap[w.heap.size]? = _ from (Below.heap_setCell _ _ _ _ hne).trans HN2.out)
   have HX4 := hide hx4
   clear hx hx4 hne
   obtain ⟨e0, e1, e2, e3, e4, ef⟩ := box_cells (s := 3) (q := q) HN4.out
   have ef0 := ef 0
   have HX5 := hide (HX4.out.boxed HN4.out hB 0 (.int .u8 8))
   have HK5 := hide (HK4.out.setNew hB (p := ⟨w.heap.size, 0, none⟩) (Nat.le_refl _) (.int .u8 8))
   have HN5 := hide (show ((w2.setCell ⟨b, 7, none⟩ (.int .i64 (l : Int))).setCell ⟨w.heap.size, 0, none⟩ (.int .u8 8)).heap[w.heap.size]? = some (.cells #[.int .u8 8, .int .u8 (q : Int), .bool false, .bool false, S []] 36 (0, 0)) from box_set0 (s := 3) (q := q) 8 HN4.out)
   clear ef
   go_upto_region 11 with (fail)
   generalize ((w2.setCell ⟨b, 7, none⟩ (.int .i64 (l : Int))).setCell ⟨w.heap.size, 0, none⟩ (.int .u8 8)) = W5 at HX5 HK5 HN5 ⊢
   clear c0 c1 c7 f7 e0 e1 e2 e3 e4 ef0 HX4 HK4 HN4
   obtain ⟨m1, m2, r1, r2, hkm, hbm⟩ := mQuotes W5
   have hmm := @run_makeMap Tryz.prog
   have HX6 := hide (HX5.out.below hbm)
   have HK6 := hide (HK5.out.fresh hB hbm)
   have HN6 := hide ((hbm.block _ (heap_lt HN5.out)).trans HN5.out)
   have hlook : (Instr.lookup 91 (.map (some W5.heap.size)) (.int .u8 3) false).run Tryz.prog m2 = .ok (.int .u8 0) m2 := hkm.miss (z := .int .u8 0) Tryz.underlying91 Tryz.underlying34 (by kernel_rfl) 3 rfl
   clear hkm hbm
   obtain ⟨-, -, d2, -⟩ := HX6.out.cells
   have hcv := own_text HX6.out.own
   have HKZ := hide (HK6.out.setNew hB (p := ⟨w.heap.size, 4, none⟩) (Nat.le_refl _) (S st.stk))
   obtain ⟨e0, e1, e2, e3, e4, ef⟩ := box_cells (s := 8) (q := q) HN6.out
   have ef4 := ef 4
   clear ef
   go_wp2_with fail
   exact ⟨rfl, ⟨8, q, false, false, st.stk⟩, rfl, by show (8 : Nat) ≠ 1; decide, HKZ.out⟩
theorem jWithinTL (F : List UInt8) (B b a e at'  : Nat)  (st : Jsp.St) (ln : Bool) (w : World) (h : Lx w B b F a st ln) (hat : at' <= 4190000) (_ha : a <= F.length) (hl : F.length <= 4190000) (l : Nat) (hll : l + 1 <= F.length) (hvl : Cssp.valid (F.drop (l + 1)) = true)
  (hSnd : ∀ (o : Bool) W, (o = false -> l + 1 < F.length) -> Lx W B b F a st ln -> Calls Tryz.prog 63 #[.pointer (some ⟨b, 0, none⟩), .int .i64 ((at' + 1 : Nat) : Int), .int .i64 (l : Int), .bool o] W (SndP False W)) :
  Calls Tryz.prog 34 #[.pointer (some ⟨b, 0, none⟩), .int .i64 (e : Int), .int .i64 (at' : Int), .agg #[.int .u8 4, .int .u8 0, .bool false, .bool false, S []], .int .i64 (l : Int)] w (PkN e at' B w) := by
 have hB := h.leB
 have hal := (Below.refl w.heap.size w).alloc (Nat.le_refl _) (.cells #[.int .u8 4, .int .u8 0, .bool false, .bool false, S []] 36)
 have HX1 := hide (h.below hal)
 have HAL := hide hal
 have HN := hide (heap_alloc_last w (.cells #[.int .u8 4, .int .u8 0, .bool false, .bool false, S []] 36))
 have hS := fun o W hO hW => hide (hSnd o W hO hW)
 rw [Int.natCast_add, Int.natCast_one] at hS
 have hsum : wrap64 ((at' : Int) + 1) = (at' : Int) + 1 := by unfold wrap64; omega
 clear hSnd
 obtain ⟨_, _, _, hx1⟩ := HX1.out
 obtain ⟨c0, -⟩ := hx1.cells
 have hP := hide (jPendingE (F.drop (l + 1)) hvl (by rw [List.length_drop]; omega) _ hx1.tab)
 have b0 : (0 : Int) <= (l : Int) + 1 := by omega
 have b1 : (l : Int) + 1 <= (F.length : Int) := by omega
 have b2 : ((l : Int) + 1).toNat = l + 1 := by omega
 have qle : decide (0 <= (l : Int)) = true := by simp
 clear hx1 hvl
 clear h hal hat
 go_enter Tryz.func34, Tryz.ntmps34
 go_wp2_with fail
 refine hP.out.mono ?_
 rintro en w1 ⟨o, rfl, hb1, ho⟩
 have HO := hide (show o = false -> l + 1 < F.length from fun hf => by
  rcases Nat.lt_or_ge (l + 1) F.length with h1 | h1
  ·exact h1
  ·exact absurd (List.drop_eq_nil_of_le h1) (ho hf))
 clear ho
 have HX1' := hide (HX1.out.below hb1)
 have HAL' := hide (HAL.out.trans (hb1.mono HAL.out.size))
 have HN' := hide ((hb1.block _ (by simp)).trans HN.out)
 have HLT := hide (heap_lt HN'.out)
 have qb0 := (box_cells (s := 4) (q := 0) HN'.out).1
 clear hb1 c0
 cases o with
 | false =>
  go_wp2_with fail
  refine (hS false _ (fun hf => by first | exact HO.out hf | exact HO.out trivial | cases hf) HX1'.out).out.mono ?_
  rintro en w2 ⟨x, rfl, hb2, -⟩
  have HX2 := hide (HX1'.out.below hb2)
  have HK2 := hide (Kp.of_below hB (HAL'.out.trans (hb2.mono (Nat.le_of_lt HLT.out))))
  have HN2 := hide ((hb2.block _ HLT.out).trans HN'.out)
  clear hb2
  cases x with
  | false =>
   go_wp2_with fail
   refine (jFail b e at' _).mono ?_
   rintro en w3 ⟨rfl, rfl⟩
   go_wp2_with fail
   exact ⟨rfl, w0x, rfl, by decide, HK2.out⟩
  | true =>
   obtain ⟨_, _, _, hx0⟩ := HX2.out
   obtain ⟨p0, -⟩ := hx0.cells
   clear hx0
   go_wp2_with fail
   refine (sHasSuf F [36] _ (by omega)).mono ?_
   rintro en w3 ⟨rfl, rfl⟩
   cases hsf : Lib.hasSuffix F [36] with
   | false =>
    obtain ⟨v, cap, lo, hx⟩ := HX2.out
    obtain ⟨c0, c1, -, -, -, -, -, c7⟩ := hx.cells
    have f7 := hx.frozen 7
    have hne : w.heap.size ≠ b := fun e => by
     have := hx.at'
     rw [<- e, HN2.out] at this
     injection this with this
     injection this with _ this _
     exact absurd this (by decide)
    have hx4 := hx.set7 (F.length : Int)
    have HK4 := hide (hx.kp HK2.out 7 (.int .i64 (F.length : Int)))
    have HN4 := hide (show (w2.setCell ⟨b, 7, none⟩ (.int .i64 (F.length : Int))).heap[w.heap.size]? = _ from (Below.heap_setCell _ _ _ _ hne).trans HN2.out)
    have HX4 := hide hx4
    clear hx hx4 hne
    obtain ⟨-, -, d2, -⟩ := HX4.out.cells
    have hcv := own_text HX4.out.own
    have HKZ := hide (HK4.out.setNew hB (p := ⟨w.heap.size, 4, none⟩) (Nat.le_refl _) (S st.stk))
    obtain ⟨e0, e1, e2, e3, e4, ef⟩ := box_cells (s := 4) (q := 0) HN4.out
    have ef4 := ef 4
    clear ef
    go_wp2_with fail
    exact ⟨rfl, ⟨4, 0, false, false, st.stk⟩, rfl, by show (4 : Nat) ≠ 1; decide, HKZ.out⟩
   | true =>
    cases hgl : ((l : Int) != (F.length : Int) - 2) with
    | false =>
     obtain ⟨v, cap, lo, hx⟩ := HX2.out
     obtain ⟨c0, c1, -, -, -, -, -, c7⟩ := hx.cells
     have f7 := hx.frozen 7
     have hne : w.heap.size ≠ b := fun e => by
      have := hx.at'
      rw [<- e, HN2.out] at this
      injection this with this
      injection this with _ this _
      exact absurd this (by decide)
     have hx4 := hx.set7 (F.length : Int)
     have HK4 := hide (hx.kp HK2.out 7 (.int .i64 (F.length : Int)))
     have HN4 := hide (show (w2.setCell ⟨b, 7, none⟩ (.int .i64 (F.length : Int))).heap[w.heap.size]? = _ from (Below.heap_setCell _ _ _ _ hne).trans HN2.out)
     have HX4 := hide hx4
     clear hx hx4 hne
     obtain ⟨-, -, d2, -⟩ := HX4.out.cells
     have hcv := own_text HX4.out.own
     have HKZ := hide (HK4.out.setNew hB (p := ⟨w.heap.size, 4, none⟩) (Nat.le_refl _) (S st.stk))
     obtain ⟨e0, e1, e2, e3, e4, ef⟩ := box_cells (s := 4) (q := 0) HN4.out
     have ef4 := ef 4
     clear ef
     go_wp2_with fail
     exact ⟨rfl, ⟨4, 0, false, false, st.stk⟩, rfl, by show (4 : Nat) ≠ 1; decide, HKZ.out⟩
    | true =>
     obtain ⟨v, cap, lo, hx⟩ := HX2.out
     obtain ⟨c0, c1, -, -, -, -, -, c7⟩ := hx.cells
     have f7 := hx.frozen 7
     have hne : w.heap.size ≠ b := fun e => by
      have := hx.at'
      rw [<- e, HN2.out] at this
      injection this with this
      injection this with _ this _
      exact absurd this (by decide)
     have hx4 := hx.set7 ((F.length : Int) - 1)
     have HK4 := hide (hx.kp HK2.out 7 (.int .i64 ((F.length : Int) - 1)))
     have HN4 := hide (show (w2.setCell ⟨b, 7, none⟩ (.int .i64 ((F.length : Int) - 1))).heap[w.heap.size]? = _ from (Below.heap_setCell _ _ _ _ hne).trans HN2.out)
     have HX4 := hide hx4
     clear hx hx4 hne
     obtain ⟨-, -, d2, -⟩ := HX4.out.cells
     have hcv := own_text HX4.out.own
     have HKZ := hide (HK4.out.setNew hB (p := ⟨w.heap.size, 4, none⟩) (Nat.le_refl _) (S st.stk))
     obtain ⟨e0, e1, e2, e3, e4, ef⟩ := box_cells (s := 4) (q := 0) HN4.out
     have ef4 := ef 4
     clear ef
     go_wp2_with fail
     exact ⟨rfl, ⟨4, 0, false, false, st.stk⟩, rfl, by show (4 : Nat) ≠ 1; decide, HKZ.out⟩
 | true =>
  go_wp2_with fail
  refine (hS true _ (fun hf => by first | exact HO.out hf | exact HO.out trivial | cases hf) HX1'.out).out.mono ?_
  rintro en w2 ⟨x, rfl, hb2, -⟩
  have HX2 := hide (HX1'.out.below hb2)
  have HK2 := hide (Kp.of_below hB (HAL'.out.trans (hb2.mono (Nat.le_of_lt HLT.out))))
  have HN2 := hide ((hb2.block _ HLT.out).trans HN'.out)
  clear hb2
  cases x with
  | false =>
   go_wp2_with fail
   refine (jFail b e at' _).mono ?_
   rintro en w3 ⟨rfl, rfl⟩
   go_wp2_with fail
   exact ⟨rfl, w0x, rfl, by decide, HK2.out⟩
  | true =>
   obtain ⟨v, cap, lo, hx⟩ := HX2.out
   obtain ⟨c0, c1, -, -, -, -, -, c7⟩ := hx.cells
   have f7 := hx.frozen 7
   have hne : w.heap.size ≠ b := fun e => by
    have := hx.at'
    rw [<- e, HN2.out] at this
    injection this with this
    injection this with _ this _
    exact absurd this (by decide)
   have hx4 := hx.set7 (l : Int)
   have HK4 := hide (hx.kp HK2.out 7 (.int .i64 (l : Int)))
   have HN4 := hide (show (w2.setCell ⟨b, 7, none⟩ (.int .i64 (l : Int))).heap[w.heap.size]? = _ from (Below.heap_setCell _ _ _ _ hne).trans HN2.out)
   have HX4 := hide hx4
   clear hx hx4 hne
   obtain ⟨e0, e1, e2, e3, e4, ef⟩ := box_cells (s := 4) (q := 0) HN4.out
   have ef0 := ef 0
   have HX5 := hide (HX4.out.boxed HN4.out hB 0 (.int .u8 8))
   have HK5 := hide (HK4.out.setNew hB (p := ⟨w.heap.size, 0, none⟩) (Nat.le_refl _) (.int .u8 8))
   have HN5 := hide (show ((w2.setCell ⟨b, 7, none⟩ (.int .i64 (l : Int))).setCell ⟨w.heap.size, 0, none⟩ (.int .u8 8)).heap[w.heap.size]? = some (.cells #[.int .u8 8, .int .u8 0, .bool false, .bool false, S []] 36 (0, 0)) from box_set0 (s := 4) (q := 0) 8 HN4.out)
   clear ef
   go_upto_region 11 with (fail)
   generalize ((w2.setCell ⟨b, 7, none⟩ (.int .i64 (l : Int))).setCell ⟨w.heap.size, 0, none⟩ (.int .u8 8)) = W5 at HX5 HK5 HN5 ⊢
   clear c0 c1 c7 f7 e0 e1 e2 e3 e4 ef0 HX4 HK4 HN4
   obtain ⟨m1, m2, r1, r2, hkm, hbm⟩ := mQuotes W5
   have hmm := @run_makeMap Tryz.prog
   have HX6 := hide (HX5.out.below hbm)
   have HK6 := hide (HK5.out.fresh hB hbm)
   have HN6 := hide ((hbm.block _ (heap_lt HN5.out)).trans HN5.out)
   have hlook : (Instr.lookup 91 (.map (some W5.heap.size)) (.int .u8 4) false).run Tryz.prog m2 = .ok (.int .u8 96) m2 := hkm.look Tryz.underlying91 Tryz.underlying34 4 (f := .int .u8 96) rfl
   clear hkm hbm
   obtain ⟨k0, k1, k2, k3, k4, kf⟩ := box_cells (s := 8) (q := 0) HN6.out
   have kf1 := kf 1
   have HX7 := hide (HX6.out.boxed HN6.out hB 1 (.int .u8 96))
   have HK7 := hide (HK6.out.setNew hB (p := ⟨w.heap.size, 1, none⟩) (Nat.le_refl _) (.int .u8 96))
   have HN7 := hide (show (m2.setCell ⟨w.heap.size, 1, none⟩ (.int .u8 96)).heap[w.heap.size]? = some (.cells #[.int .u8 8, .int .u8 96, .bool false, .bool false, S []] 36 (0, 0)) from box_set1 (s := 8) (q := 0) 96 HN6.out)
   clear kf
   obtain ⟨-, -, d2, -⟩ := HX7.out.cells
   have hcv := own_text HX7.out.own
   have HKZ := hide (HK7.out.setNew hB (p := ⟨w.heap.size, 4, none⟩) (Nat.le_refl _) (S st.stk))
   obtain ⟨e0, e1, e2, e3, e4, ef⟩ := box_cells (s := 8) (q := 96) HN7.out
   have ef4 := ef 4
   clear ef
   go_wp2_with fail
   exact ⟨rfl, ⟨8, 96, false, false, st.stk⟩, rfl, by show (8 : Nat) ≠ 1; decide, HKZ.out⟩
theorem jWithinR (F : List UInt8) (B b a e at'  : Nat) (cl : Bool) (st : Jsp.St) (ln : Bool) (w : World) (h : Lx w B b F a st ln) (_hat : at' <= 4190000) (ha : a <= F.length) (_hl : F.length <= 4190000) :
  Calls Tryz.prog 34 #[.pointer (some ⟨b, 0, none⟩), .int .i64 (e : Int), .int .i64 (at' : Int), .agg #[.int .u8 5, .int .u8 0, .bool cl, .bool false, S []], .int .i64 (-1)] w (PkN e at' B w) := by
 have hB := h.leB
 have hal := (Below.refl w.heap.size w).alloc (Nat.le_refl _) (.cells #[.int .u8 5, .int .u8 0, .bool cl, .bool false, S []] 36)
 have HX1 := hide (h.below hal)
 have HAL := hide hal
 have HN := hide (heap_alloc_last w (.cells #[.int .u8 5, .int .u8 0, .bool cl, .bool false, S []] 36))
 clear h hal
 go_enter Tryz.func34, Tryz.ntmps34
 go_wp2_with fail
 refine (jRest F B b a st ln _ HX1.out ha).mono ?_
 rintro en w2 ⟨rfl, n2, rfl⟩
 have HX2 := hide (HX1.out.drewN n2)
 have HK2 := hide (Kp.of_below hB (HAL.out.trans ((belowN _ n2).mono HAL.out.size)))
 have HN2 := hide (show ((w.alloc (.cells #[.int .u8 5, .int .u8 0, .bool cl, .bool false, S []] 36)).drewN n2).heap[w.heap.size]? = _ from HN.out)
 generalize (w.alloc (.cells #[.int .u8 5, .int .u8 0, .bool cl, .bool false, S []] 36)).drewN n2 = w2 at HX2 HK2 HN2 ⊢
 cases hrs : (F.drop a == [47]) with
 | false =>
  obtain ⟨v, cap, lo, hx⟩ := HX2.out
  obtain ⟨c0, c1, -, -, -, -, -, c7⟩ := hx.cells
  have f7 := hx.frozen 7
  have hne : w.heap.size ≠ b := fun e => by
   have := hx.at'
   rw [<- e, HN2.out] at this
   injection this with this
   injection this with _ this _
   exact absurd this (by decide)
  have hx4 := hx.set7 (F.length : Int)
  have HK4 := hide (hx.kp HK2.out 7 (.int .i64 (F.length : Int)))
  have HN4 := hide (show (w2.setCell ⟨b, 7, none⟩ (.int .i64 (F.length : Int))).heap[w.heap.size]? = _ from (Below.heap_setCell _ _ _ _ hne).trans HN2.out)
  have HX4 := hide hx4
  clear hx hx4 hne
  obtain ⟨-, -, d2, -⟩ := HX4.out.cells
  have hcv := own_text HX4.out.own
  have HKZ := hide (HK4.out.setNew hB (p := ⟨w.heap.size, 4, none⟩) (Nat.le_refl _) (S st.stk))
  obtain ⟨e0, e1, e2, e3, e4, ef⟩ := box_cells (s := 5) (q := 0) HN4.out
  have ef4 := ef 4
  clear ef
  go_wp2_with fail
  exact ⟨rfl, ⟨5, 0, cl, false, st.stk⟩, rfl, by show (5 : Nat) ≠ 1; decide, HKZ.out⟩
 | true =>
  obtain ⟨v, cap, lo, hx⟩ := HX2.out
  have HX4 := hide hx
  clear hx
  obtain ⟨-, -, d2, -⟩ := HX4.out.cells
  have hcv := own_text HX4.out.own
  have HKZ := hide (HK2.out.setNew hB (p := ⟨w.heap.size, 4, none⟩) (Nat.le_refl _) (S st.stk))
  obtain ⟨e0, e1, e2, e3, e4, ef⟩ := box_cells (s := 5) (q := 0) HN2.out
  have ef4 := ef 4
  clear ef
  go_wp2_with fail
  exact ⟨rfl, ⟨5, 0, cl, false, st.stk⟩, rfl, by show (5 : Nat) ≠ 1; decide, HKZ.out⟩
theorem jWithinRL (F : List UInt8) (B b a e at'  : Nat) (cl : Bool) (st : Jsp.St) (ln : Bool) (w : World) (h : Lx w B b F a st ln) (_hat : at' <= 4190000) (ha : a <= F.length) (hl : F.length <= 4190000) (l : Nat) (hll : l + 1 <= F.length) (hvl : Cssp.valid (F.drop (l + 1)) = true) :
  Calls Tryz.prog 34 #[.pointer (some ⟨b, 0, none⟩), .int .i64 (e : Int), .int .i64 (at' : Int), .agg #[.int .u8 5, .int .u8 0, .bool cl, .bool false, S []], .int .i64 (l : Int)] w (PkN e at' B w) := by
 have hB := h.leB
 have hal := (Below.refl w.heap.size w).alloc (Nat.le_refl _) (.cells #[.int .u8 5, .int .u8 0, .bool cl, .bool false, S []] 36)
 have HX1 := hide (h.below hal)
 have HAL := hide hal
 have HN := hide (heap_alloc_last w (.cells #[.int .u8 5, .int .u8 0, .bool cl, .bool false, S []] 36))
 obtain ⟨_, _, _, hx1⟩ := HX1.out
 obtain ⟨c0, -⟩ := hx1.cells
 have hP := hide (jPendingE (F.drop (l + 1)) hvl (by rw [List.length_drop]; omega) _ hx1.tab)
 have b0 : (0 : Int) <= (l : Int) + 1 := by omega
 have b1 : (l : Int) + 1 <= (F.length : Int) := by omega
 have b2 : ((l : Int) + 1).toNat = l + 1 := by omega
 have qle : decide (0 <= (l : Int)) = true := by simp
 clear hx1 hvl
 clear h hal
 go_enter Tryz.func34, Tryz.ntmps34
 go_wp2_with fail
 refine hP.out.mono ?_
 rintro en w1 ⟨o, rfl, hb1, ho⟩
 have HO := hide (show o = false -> l + 1 < F.length from fun hf => by
  rcases Nat.lt_or_ge (l + 1) F.length with h1 | h1
  ·exact h1
  ·exact absurd (List.drop_eq_nil_of_le h1) (ho hf))
 clear ho
 have HX1' := hide (HX1.out.below hb1)
 have HAL' := hide (HAL.out.trans (hb1.mono HAL.out.size))
 have HN' := hide ((hb1.block _ (by simp)).trans HN.out)
 have HLT := hide (heap_lt HN'.out)
 have qb0 := (box_cells (s := 5) (q := 0) HN'.out).1
 clear hb1 c0
 cases o with
 | false =>
  go_wp2_with fail
  refine (jRest F B b a st ln _ HX1'.out ha).mono ?_
  rintro en w2 ⟨rfl, n2, rfl⟩
  have HX2 := hide (HX1'.out.drewN n2)
  have HK2 := hide (Kp.of_below hB (HAL'.out.trans ((belowN _ n2).mono (Nat.le_of_lt HLT.out))))
  have HN2 := hide (show (w1.drewN n2).heap[w.heap.size]? = _ from HN'.out)
  generalize w1.drewN n2 = w2 at HX2 HK2 HN2 ⊢
  cases hrs : (F.drop a == [47]) with
  | false =>
   obtain ⟨v, cap, lo, hx⟩ := HX2.out
   obtain ⟨c0, c1, -, -, -, -, -, c7⟩ := hx.cells
   have f7 := hx.frozen 7
   have hne : w.heap.size ≠ b := fun e => by
    have := hx.at'
    rw [<- e, HN2.out] at this
    injection this with this
    injection this with _ this _
    exact absurd this (by decide)
   have hx4 := hx.set7 (F.length : Int)
   have HK4 := hide (hx.kp HK2.out 7 (.int .i64 (F.length : Int)))
   have HN4 := hide (show (w2.setCell ⟨b, 7, none⟩ (.int .i64 (F.length : Int))).heap[w.heap.size]? = _ from (Below.heap_setCell _ _ _ _ hne).trans HN2.out)
   have HX4 := hide hx4
   clear hx hx4 hne
   obtain ⟨-, -, d2, -⟩ := HX4.out.cells
   have hcv := own_text HX4.out.own
   have HKZ := hide (HK4.out.setNew hB (p := ⟨w.heap.size, 4, none⟩) (Nat.le_refl _) (S st.stk))
   obtain ⟨e0, e1, e2, e3, e4, ef⟩ := box_cells (s := 5) (q := 0) HN4.out
   have ef4 := ef 4
   clear ef
   go_wp2_with fail
   exact ⟨rfl, ⟨5, 0, cl, false, st.stk⟩, rfl, by show (5 : Nat) ≠ 1; decide, HKZ.out⟩
  | true =>
   obtain ⟨v, cap, lo, hx⟩ := HX2.out
   have HX4 := hide hx
   clear hx
   obtain ⟨-, -, d2, -⟩ := HX4.out.cells
   have hcv := own_text HX4.out.own
   have HKZ := hide (HK2.out.setNew hB (p := ⟨w.heap.size, 4, none⟩) (Nat.le_refl _) (S st.stk))
   obtain ⟨e0, e1, e2, e3, e4, ef⟩ := box_cells (s := 5) (q := 0) HN2.out
   have ef4 := ef 4
   clear ef
   go_wp2_with fail
   exact ⟨rfl, ⟨5, 0, cl, false, st.stk⟩, rfl, by show (5 : Nat) ≠ 1; decide, HKZ.out⟩
 | true =>
  have HX2 := HX1'
  have HK2 := hide (Kp.of_below hB HAL'.out)
  have HN2 := HN'
  obtain ⟨w2, hw2⟩ : ∃ w2, w2 = w1 := ⟨_, rfl⟩
  subst hw2
  obtain ⟨v, cap, lo, hx⟩ := HX2.out
  obtain ⟨c0, c1, -, -, -, -, -, c7⟩ := hx.cells
  have f7 := hx.frozen 7
  have hne : w.heap.size ≠ b := fun e => by
   have := hx.at'
   rw [<- e, HN2.out] at this
   injection this with this
   injection this with _ this _
   exact absurd this (by decide)
  have hx4 := hx.set7 (l : Int)
  have HK4 := hide (hx.kp HK2.out 7 (.int .i64 (l : Int)))
  have HN4 := hide (show (w2.setCell ⟨b, 7, none⟩ (.int .i64 (l : Int))).heap[w.heap.size]? = _ from (Below.heap_setCell _ _ _ _ hne).trans HN2.out)
  have HX4 := hide hx4
  clear hx hx4 hne
  obtain ⟨e0, e1, e2, e3, e4, ef⟩ := box_cells (s := 5) (q := 0) HN4.out
  have ef0 := ef 0
  have HX5 := hide (HX4.out.boxed HN4.out hB 0 (.int .u8 8))
  have HK5 := hide (HK4.out.setNew hB (p := ⟨w.heap.size, 0, none⟩) (Nat.le_refl _) (.int .u8 8))
  have HN5 := hide (show ((w2.setCell ⟨b, 7, none⟩ (.int .i64 (l : Int))).setCell ⟨w.heap.size, 0, none⟩ (.int .u8 8)).heap[w.heap.size]? = some (.cells #[.int .u8 8, .int .u8 0, .bool cl, .bool false, S []] 36 (0, 0)) from box_set0 (s := 5) (q := 0) 8 HN4.out)
  clear ef
  go_upto_region 11 with (fail)
  generalize ((w2.setCell ⟨b, 7, none⟩ (.int .i64 (l : Int))).setCell ⟨w.heap.size, 0, none⟩ (.int .u8 8)) = W5 at HX5 HK5 HN5 ⊢
  clear c0 c1 c7 f7 e0 e1 e2 e3 e4 ef0 HX4 HK4 HN4
  obtain ⟨m1, m2, r1, r2, hkm, hbm⟩ := mQuotes W5
  have hmm := @run_makeMap Tryz.prog
  have HX6 := hide (HX5.out.below hbm)
  have HK6 := hide (HK5.out.fresh hB hbm)
  have HN6 := hide ((hbm.block _ (heap_lt HN5.out)).trans HN5.out)
  have hlook : (Instr.lookup 91 (.map (some W5.heap.size)) (.int .u8 5) false).run Tryz.prog m2 = .ok (.int .u8 47) m2 := hkm.look Tryz.underlying91 Tryz.underlying34 5 (f := .int .u8 47) rfl
  clear hkm hbm
  obtain ⟨k0, k1, k2, k3, k4, kf⟩ := box_cells (s := 8) (q := 0) HN6.out
  have kf1 := kf 1
  have HX7 := hide (HX6.out.boxed HN6.out hB 1 (.int .u8 47))
  have HK7 := hide (HK6.out.setNew hB (p := ⟨w.heap.size, 1, none⟩) (Nat.le_refl _) (.int .u8 47))
  have HN7 := hide (show (m2.setCell ⟨w.heap.size, 1, none⟩ (.int .u8 47)).heap[w.heap.size]? = some (.cells #[.int .u8 8, .int .u8 47, .bool cl, .bool false, S []] 36 (0, 0)) from box_set1 (s := 8) (q := 0) 47 HN6.out)
  clear kf
  obtain ⟨-, -, d2, -⟩ := HX7.out.cells
  have hcv := own_text HX7.out.own
  have HKZ := hide (HK7.out.setNew hB (p := ⟨w.heap.size, 4, none⟩) (Nat.le_refl _) (S st.stk))
  obtain ⟨e0, e1, e2, e3, e4, ef⟩ := box_cells (s := 8) (q := 47) HN7.out
  have ef4 := ef 4
  clear ef
  go_wp2_with fail
  exact ⟨rfl, ⟨8, 47, cl, false, st.stk⟩, rfl, by show (8 : Nat) ≠ 1; decide, HKZ.out⟩
end Go.Proofs.YtngccmlcopcghaaGreatDoor
