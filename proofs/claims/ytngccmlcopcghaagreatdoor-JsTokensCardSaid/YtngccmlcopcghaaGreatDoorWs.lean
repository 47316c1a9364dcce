/- all. -/
import Derived.Test.YtngccmlcopcghaaGreatDoorWq
import Derived.Defers
import Derived.Recover
import Derived.Test.YtngccmlcopcghaaGreatDoorQl
import Derived.Test.YtngccmlcopcghaaGreatDoorWd
import Derived.Deep.AppendLies
import Derived.Deep.RegionLaw
import Derived.RegionDies
set_option maxRecDepth 100000
set_option maxHeartbeats 8000000
namespace Go.Proofs.YtngccmlcopcghaaGreatDoor
open Go.RowKit
structure Rs4 (w : World) (B : Nat) (v : Value) (e a : Int) (x : Wx) : Prop where
 h2 : w.heap[B]? = some (.cells #[v] 23 (0, 0))
 h3 : w.heap[B + 1]? = some (.cells #[.int .i64 e] 24 (0, 0))
 h4 : w.heap[B + 2]? = some (.cells #[.int .i64 a] 3 (0, 0))
 h5 : w.heap[B + 3]? = some (.cells (WxL x).toArray 36 (0, 0))
def shown (x : Wx) : Wx := if x.s = 0 then ⟨9, 0, false, false, []⟩ else x
section
variable {w : World} {B : Nat} {v : Value} {e a : Int} {x : Wx}
theorem Rs4.cells (h : Rs4 w B v e a x) : w.cell? ⟨B, 0, none⟩ = some v /\ w.cell? ⟨B + 1, 0, none⟩ = some (.int .i64 e) /\ w.cell? ⟨B + 2, 0, none⟩ = some (.int .i64 a) /\
  w.cell? ⟨B + 3, 0, none⟩ = some (.int .u8 (x.s : Int)) /\ w.cell? ⟨B + 3, 1, none⟩ = some (.int .u8 (x.q : Int)) /\ w.cell? ⟨B + 3, 2, none⟩ = some (.bool x.c) /\ w.cell? ⟨B + 3, 3, none⟩ = some (.bool x.g) /\ w.cell? ⟨B + 3, 4, none⟩ = some (S x.k) := by
 refine ⟨?_, ?_, ?_, ?_, ?_, ?_, ?_, ?_⟩
 ·rw [Lib.cell_of_heap h.h2]; rfl
 ·rw [Lib.cell_of_heap h.h3]; rfl
 ·rw [Lib.cell_of_heap h.h4]; rfl
 all_goals (rw [Lib.cell_of_heap h.h5]; rfl)
theorem Rs4.frozen (h : Rs4 w B v e a x) : (∀ j, w.frozen? ⟨B, j, none⟩ = false) /\ (∀ j, w.frozen? ⟨B + 1, j, none⟩ = false) /\ (∀ j, w.frozen? ⟨B + 2, j, none⟩ = false) /\ (∀ j, w.frozen? ⟨B + 3, j, none⟩ = false) := by
 obtain ⟨h2, h3, h4, h5⟩ := h
 refine ⟨fun j => ?_, fun j => ?_, fun j => ?_, fun j => ?_⟩
 ·simp [World.frozen?, h2]
 ·simp [World.frozen?, h3]
 ·simp [World.frozen?, h4]
 ·simp [World.frozen?, h5]
theorem Rs4.below {w' : World} (h : Rs4 w B v e a x) (hb : Below w.heap.size w w') : Rs4 w' B v e a x :=
 ⟨(hb.block _ (heap_lt h.h2)).trans h.h2, (hb.block _ (heap_lt h.h3)).trans h.h3, (hb.block _ (heap_lt h.h4)).trans h.h4, (hb.block _ (heap_lt h.h5)).trans h.h5⟩
end
def put5 (w : World) (N : Nat) (y : Wx) : World := ((((w.setCell ⟨N, 0, none⟩ (.int .u8 (y.s : Int))).setCell ⟨N, 1, none⟩ (.int .u8 (y.q : Int))).setCell ⟨N, 2, none⟩ (.bool y.c)).setCell ⟨N, 3, none⟩ (.bool y.g)).setCell ⟨N, 4, none⟩ (S y.k)
theorem put5_other {w : World} {N j : Nat} (h : j ≠ N) (y : Wx) : (put5 w N y).heap[j]? = w.heap[j]? := by
 unfold put5
 rw [Below.heap_setCell _ _ _ _ h, Below.heap_setCell _ _ _ _ h, Below.heap_setCell _ _ _ _ h, Below.heap_setCell _ _ _ _ h, Below.heap_setCell _ _ _ _ h]
theorem put5_heap {w : World} {N : Nat} {a b c d e : Value} {t : TypeId} (h : w.heap[N]? = some (.cells #[a, b, c, d, e] t (0, 0))) (y : Wx) : (put5 w N y).heap[N]? = some (.cells (WxL y).toArray t (0, 0)) := by
 simp [put5, World.setCell, Array.getElem?_modify, h]
theorem put5_below {a w : World} {K N : Nat} (h : Below K a w) (hN : K <= N) (y : Wx) : Below K a (put5 w N y) := Below.setCell (Below.setCell (Below.setCell (Below.setCell (Below.setCell h (p := ⟨N, 0, none⟩) hN _) (p := ⟨N, 1, none⟩) hN _) (p := ⟨N, 2, none⟩) hN _) (p := ⟨N, 3, none⟩) hN _) (p := ⟨N, 4, none⟩) hN _
theorem Rs4.put5 {w : World} {B : Nat} {v : Value} {e a : Int} {x : Wx} (h : Rs4 w B v e a x) (y : Wx) : Rs4 (put5 w (B + 3) y) B v e a y :=
 ⟨(put5_other (by omega) y).trans h.h2, (put5_other (by omega) y).trans h.h3, (put5_other (by omega) y).trans h.h4, put5_heap h.h5 y⟩
theorem one_set {w : World} {N : Nat} {u v : Value} {t : TypeId} (h : w.heap[N]? = some (.cells #[u] t (0, 0))) : (w.setCell ⟨N, 0, none⟩ v).heap[N]? = some (.cells #[v] t (0, 0)) := by
 simp [World.setCell, Array.getElem?_modify, h]
theorem Rs4.put3 {w : World} {B : Nat} {v : Value} {e a : Int} {x : Wx} (h : Rs4 w B v e a x) (v' : Value) (e' a' : Int) : Rs4 (((w.setCell ⟨B, 0, none⟩ v').setCell ⟨B + 1, 0, none⟩ (.int .i64 e')).setCell ⟨B + 2, 0, none⟩ (.int .i64 a')) B v' e' a' x := by
 have o : ∀ (W : World) (k j : Nat) (u : Value), j ≠ k -> (W.setCell ⟨k, 0, none⟩ u).heap[j]? = W.heap[j]? := fun W k j u hj => Below.heap_setCell W ⟨k, 0, none⟩ u j hj
 refine ⟨?_, ?_, ?_, ?_⟩
 ·rw [o _ _ _ _ (by omega), o _ _ _ _ (by omega)]; exact one_set h.h2
 ·rw [o _ _ _ _ (by omega)]; exact one_set ((o _ _ _ _ (by omega)).trans h.h3)
 ·exact one_set ((o _ _ _ _ (by omega)).trans ((o _ _ _ _ (by omega)).trans h.h4))
 ·rw [o _ _ _ _ (by omega), o _ _ _ _ (by omega), o _ _ _ _ (by omega)]; exact h.h5
theorem put3_below {a w : World} {K B : Nat} (h : Below K a w) (hB : K <= B) (v' : Value) (e' a' : Int) : Below K a (((w.setCell ⟨B, 0, none⟩ v').setCell ⟨B + 1, 0, none⟩ (.int .i64 e')).setCell ⟨B + 2, 0, none⟩ (.int .i64 a')) :=
 ((h.setCell (p := ⟨B, 0, none⟩) hB _).setCell (p := ⟨B + 1, 0, none⟩) (by show K <= B + 1; omega) _).setCell (p := ⟨B + 2, 0, none⟩) (by show K <= B + 2; omega) _
theorem Rs4.drew {w : World} {B : Nat} {v : Value} {e a : Int} {x : Wx} (h : Rs4 w B v e a x) : Rs4 w.drew B v e a x := ⟨h.h2, h.h3, h.h4, h.h5⟩
theorem seven {w : World} {N : Nat} {a b c d e f g : Value} {t : TypeId} (h : w.heap[N]? = some (.cells #[a, b, c, d, e, f, g] t (0, 0))) :
  w.cell? ⟨N, 0, none⟩ = some a /\ w.cell? ⟨N, 1, none⟩ = some b /\ w.cell? ⟨N, 2, none⟩ = some c /\ w.cell? ⟨N, 3, none⟩ = some d /\ w.cell? ⟨N, 4, none⟩ = some e /\ w.cell? ⟨N, 5, none⟩ = some f /\ w.cell? ⟨N, 6, none⟩ = some g := by
 refine ⟨?_, ?_, ?_, ?_, ?_, ?_, ?_⟩ <;> (rw [Lib.cell_of_heap h]; rfl)
theorem all_caught (B : Nat) (v : Value) (e0 a0 : Int) (x0 : Wx) (w : World) (h : Rs4 w B v e0 a0 x0) (er at' : Nat) (x : Wx) :
  CallsD Tryz.prog 18 #[.pointer (some ⟨B, 0, none⟩), .pointer (some ⟨B + 1, 0, none⟩), .pointer (some ⟨B + 2, 0, none⟩), .pointer (some ⟨B + 3, 0, none⟩)] (.panicking [{ v := wrongV er at' x, recovered := false }]) w fun e u' w' =>
   e = .returned (.tuple #[]) /\ u' = .panicking [{ v := wrongV er at' x, recovered := true }] /\ Rs4 w' B (.slice none 0 0) er at' (shown x) /\ Below B w w' := by
 have HH := hide h
 clear h
 refine callsD_of_wpS Tryz.func18 rfl fun c₀ cs hu => ?_
 apply wpS_seq
 apply wpS_region
 simp only [Tryz.ntmps18, List.size_toArray, List.length_cons, List.length_nil, Nat.reduceAdd, Nat.reduceSub, Array.replicate_succ, Array.replicate_zero, List.push_toArray, List.append_toArray, List.nil_append, List.cons_append]
 simp [wpOpsS, go_sem, recoverD, hu, Exit.thenS]
 have hta : ∀ W : World, Sem.run Tryz.prog (Instr.typeAssert (wrongV er at' x) 20 52 true) W = .ok (.tuple #[.agg #[.int .i64 (er : Int), .int .i64 (at' : Int), .int .u8 (x.s : Int), .int .u8 (x.q : Int), .bool x.c, .bool x.g, S x.k], .bool true]) W := fun W => by kernel_rfl
 refine wpS_of_wp ?_
 go_wp2_with fail
 have hal := (Below.refl w.heap.size w).alloc (Nat.le_refl _) (.cells #[.int .i64 (er : Int), .int .i64 (at' : Int), .int .u8 (x.s : Int), .int .u8 (x.q : Int), .bool x.c, .bool x.g, S x.k] 52)
 have h1 := HH.out.below hal
 have hn := heap_alloc_last w (.cells #[.int .i64 (er : Int), .int .i64 (at' : Int), .int .u8 (x.s : Int), .int .u8 (x.q : Int), .bool x.c, .bool x.g, S x.k] 52)
 have hlt : B + 3 < w.heap.size := heap_lt HH.out.h5
 generalize w.alloc (.cells #[.int .i64 (er : Int), .int .i64 (at' : Int), .int .u8 (x.s : Int), .int .u8 (x.q : Int), .bool x.c, .bool x.g, S x.k] 52) = w1 at hal h1 hn ⊢
 generalize hN : w.heap.size = N at hn hlt ⊢
 obtain ⟨c2, c3, c4, d0, d1, d2, d3, d4⟩ := h1.cells
 obtain ⟨f2, f3, f4, f5⟩ := h1.frozen
 have g2 := f2 0
 have g3 := f3 0
 have g4 := f4 0
 have g50 := f5 0
 have g51 := f5 1
 have g52 := f5 2
 have g53 := f5 3
 have g54 := f5 4
 obtain ⟨z0, z1, z2, z3, z4, z5, z6⟩ := seven hn
 have H1 := hide h1
 have HAL := hide hal
 clear f2 f3 f4 f5 h1 hn hal
 go_region
 have hr3 := ((H1.out.put3 (.slice none 0 0) (er : Int) (at' : Int)).put5 x).drew
 have hb3 := (put5_below (put3_below (HAL.out.mono (show B <= w.heap.size by omega)) (Nat.le_refl _) (.slice none 0 0) (er : Int) (at' : Int)) (show B <= B + 3 by omega) x).drew
 unfold put5 at hr3 hb3
 generalize ((((((((w1.setCell ⟨B, 0, none⟩ (.slice none 0 0)).setCell ⟨B + 1, 0, none⟩ (.int .i64 (er : Int))).setCell ⟨B + 2, 0, none⟩ (.int .i64 (at' : Int))).setCell ⟨B + 3, 0, none⟩ (.int .u8 (x.s : Int))).setCell ⟨B + 3, 1, none⟩ (.int .u8 (x.q : Int))).setCell ⟨B + 3, 2, none⟩ (.bool x.c)).setCell ⟨B + 3, 3, none⟩ (.bool x.g)).setCell ⟨B + 3, 4, none⟩ (S x.k)).drew = w2 at hr3 hb3 ⊢
 clear c2 c3 c4 d0 d1 d2 d3 d4 g2 g3 g4 g50 g51 g52 g53 g54 z0 z1 z2 z3 z4 z5 z6 HAL H1 hlt hN
 obtain ⟨c2, c3, c4, d0, d1, d2, d3, d4⟩ := hr3.cells
 obtain ⟨f2, f3, f4, f5⟩ := hr3.frozen
 have g50 := f5 0
 have g51 := f5 1
 have g52 := f5 2
 have g53 := f5 3
 have g54 := f5 4
 have H3 := hide hr3
 have HB3 := hide hb3
 clear f2 f3 f4 f5 hr3 hb3
 by_cases hs : x.s = 0
 ·have q : ((x.s : Int) == 0) = true := by rw [hs]; rfl
  have HS := hide (show shown x = ⟨9, 0, false, false, []⟩ from if_pos hs)
  clear hs
  go_wp2_with fail
  refine ⟨rfl, _, rfl, .tuple #[], by simp [results, Tryz.results18, go_sem], rfl, rfl, ?_, ?_⟩
  ·rw [HS.out]
   exact H3.out.put5 ⟨9, 0, false, false, []⟩
  ·exact put5_below HB3.out (by omega) ⟨9, 0, false, false, []⟩
 ·have q : ((x.s : Int) == 0) = false := by rw [beq_eq_false_iff_ne]; omega
  have HS := hide (show shown x = x from if_neg hs)
  clear hs
  go_wp2_with fail
  refine ⟨rfl, _, rfl, .tuple #[], by simp [results, Tryz.results18, go_sem], rfl, rfl, ?_, ?_⟩
  ·rw [HS.out]
   exact H3.out
  ·exact HB3.out
theorem all_idle (B : Nat) (w : World) :
  CallsD Tryz.prog 18 #[.pointer (some ⟨B, 0, none⟩), .pointer (some ⟨B + 1, 0, none⟩), .pointer (some ⟨B + 2, 0, none⟩), .pointer (some ⟨B + 3, 0, none⟩)] .returning w fun e u' w' => e = .returned (.tuple #[]) /\ u' = .returning /\ w = w' := by
 refine callsD_of_wpS Tryz.func18 rfl fun c₀ cs hu => ?_
 apply wpS_seq
 apply wpS_region
 simp only [Tryz.ntmps18, List.size_toArray, List.length_cons, List.length_nil, Nat.reduceAdd, Nat.reduceSub, Array.replicate_succ, Array.replicate_zero, List.push_toArray, List.append_toArray, List.nil_append, List.cons_append]
 simp [wpOpsS, go_sem, recoverD, hu, Exit.thenS]
 refine wpS_of_wp ?_
 go_wp2
 refine ⟨rfl, .returning, by rw [<- hu], .tuple #[], by simp [results, Tryz.results18, go_sem], rfl, rfl, rfl⟩
theorem info_tok : (Tryz.prog.info? 29).map (fun i => (i.zero, i.size, i.bytes)) = some (some (.agg #[.int .u8 0, .string .empty, .string .empty]), 3, 40) := by kernel_rfl
theorem info_parts {o : Option TypeInfo} {z : Value} {s b : Nat} (h : o.map (fun i => (i.zero, i.size, i.bytes)) = some (some z, s, b)) : ∃ i, o = some i /\ i.zero = some z /\ i.size = s /\ i.bytes = b := by
 cases o with
 | none => cases h
 | some i =>
  injection h with h
  injection h with h1 h
  injection h with h2 h3
  exact ⟨i, rfl, h1, h2, h3⟩
def tokCells (l : List Jsp.Tk) : List Value := l.flatMap fun x => [.int .u8 (x.kind : Int), S x.t, S x.v]
theorem tokCells_append (l m : List Jsp.Tk) : tokCells (l ++ m) = tokCells l ++ tokCells m := by unfold tokCells; rw [List.flatMap_append]
theorem tokCells_one (c : Jsp.Tk) : tokCells [c] = [.int .u8 (c.kind : Int), S c.t, S c.v] := rfl
def whX (x : Jsp.Wh) : Wx := ⟨x.state, 0, false, x.goal, x.stk⟩
def AllQ (F : List UInt8) (w0 w' : World) (v : Value) (er pl : Nat) (x : Wx) : Jsp.Al -> Prop
 | .ok l st line word => x = whX (Jsp.whereOf st line word) /\ ((st.stk = [] /\ er = 0 /\ pl = 0 /\ w'.ownsRow w0.heap.size 29 3 v l.length (tokCells l) /\ l.length <= F.length) \/ (st.stk ≠ [] /\ er = 177 /\ pl = F.length /\ v = .slice none 0 0))
 | .no e p => er = e /\ pl = p /\ v = .slice none 0 0 /\ ∃ x0, x = shown x0 /\ x0.s ≠ 1 /\ ∀ st s, Jsp.errOf F = some (st, s) -> ErrX st s x0
def AllP (F : List UInt8) (B : Nat) (w : World) (e : Ending) (w' : World) : Prop := ∃ (v : Value) (er pl : Nat) (x : Wx), e = .returned (.tuple #[v, .int .i64 (er : Int), .int .i64 (pl : Int), .agg (WxL x).toArray]) /\ Kp B w w' /\ AllQ F w w' v er pl x (Jsp.lex F)
theorem Kp.far {B R : Nat} {w w1 w2 : World} (h : Kp B w w1) (hb : Below R w1 w2) (hR : w.heap.size = R) (hB : B <= R) : Kp B w w2 :=
 ⟨h.below.trans (hb.mono hB), fun k cs t f hk h1 h2 => (hb.block k (by have := heap_lt hk; omega)).trans (h.kept k cs t f hk h1 h2)⟩
theorem Rs4.kp {B R : Nat} {w w' : World} {v : Value} {e a : Int} {x : Wx} (h : Rs4 w R v e a x) (hk : Kp B w w') : Rs4 w' R v e a x :=
 ⟨hk.kept _ _ _ _ h.h2 (by decide) (by decide), hk.kept _ _ _ _ h.h3 (by decide) (by decide), hk.kept _ _ _ _ h.h4 (by decide) (by decide), hk.kept _ _ _ _ h.h5 (by decide) (by decide)⟩
theorem owns_kp {B base : Nat} {w w' : World} {size n : Nat} {v : Value} {xs : List Value} (h : w.ownsRow base 29 size v n xs) (hk : Kp B w w') : w'.ownsRow base 29 size v n xs :=
 owns_of_block h fun g e => by
  obtain ⟨c, hc⟩ := ownsRow_kind h g e
  exact (hk.kept _ _ _ _ hc (by decide) (by decide)).trans hc.symm
theorem Lx.grownTok {w w' : World} {B b a base : Nat} {F : List UInt8} {st : Jsp.St} {ln : Bool} {v : Value} {n size : Nat} {xs : List Value} (h : Lx w B b F a st ln) (ho : w.ownsRow base 29 size v n xs) (hB : B <= base) (hg : w.grownBy w' v.ownBlock) : Lx w' B b F a st ln := by
 obtain ⟨ao, cap, lo, h⟩ := h
 have hne : ∀ {k : Nat} {cs : Array Value} {t : TypeId} {f : Nat × Nat}, w.heap[k]? = some (.cells cs t f) -> t ≠ 29 -> w'.heap[k]? = w.heap[k]? := fun hk ht => hg.block _ (heap_lt hk) (fun e => by
  obtain ⟨c, hc⟩ := ownsRow_kind ho _ e.symm
  rw [hk] at hc
  injection hc with hc
  injection hc with _ hc _
  exact ht hc)
 have hbl : Below B w w' := (Below.refl B w).grown hg h.leB (fun k hk => Nat.le_trans hB (ho.lt k hk).1)
 exact ⟨ao, cap, lo, h.le, h.lo11, h.tab.below h.lo11 hbl, (hne h.at' (by decide)).trans h.at', owns_of_block h.own fun g e => by
  obtain ⟨c, hc⟩ := ownsRow_kind h.own g e
  exact hne hc (by decide)⟩
theorem Rs4.grownTok {w w' : World} {R base : Nat} {v0 v : Value} {e a : Int} {x : Wx} {n size : Nat} {xs : List Value} (h : Rs4 w R v0 e a x) (ho : w.ownsRow base 29 size v n xs) (hg : w.grownBy w' v.ownBlock) : Rs4 w' R v0 e a x := by
 have hne : ∀ {k : Nat} {cs : Array Value} {t : TypeId} {f : Nat × Nat}, w.heap[k]? = some (.cells cs t f) -> t ≠ 29 -> w'.heap[k]? = some (.cells cs t f) := fun hk ht => (hg.block _ (heap_lt hk) (fun e => by
  obtain ⟨c, hc⟩ := ownsRow_kind ho _ e.symm
  rw [hk] at hc
  injection hc with hc
  injection hc with _ hc _
  exact ht hc)).trans hk
 exact ⟨hne h.h2 (by decide), hne h.h3 (by decide), hne h.h4 (by decide), hne h.h5 (by decide)⟩
theorem Lx.setRes {w : World} {B b a R : Nat} {F : List UInt8} {st : Jsp.St} {ln : Bool} {v : Value} {e a' : Int} {x : Wx} (h : Lx w B b F a st ln) (hr : Rs4 w R v e a' x) (hB : B <= R) (v' : Value) : Lx (w.setCell ⟨R, 0, none⟩ v') B b F a st ln := by
 obtain ⟨ao, cap, lo, h⟩ := h
 have hne : ∀ {k : Nat} {cs : Array Value} {t : TypeId} {f : Nat × Nat}, w.heap[k]? = some (.cells cs t f) -> t ≠ 23 -> (w.setCell ⟨R, 0, none⟩ v').heap[k]? = some (.cells cs t f) := fun hk ht => (Below.heap_setCell _ _ _ _ (fun e => by
  subst e
  have h2 := hr.h2
  rw [hk] at h2
  injection h2 with h2
  injection h2 with _ h2 _
  exact ht h2)).trans hk
 exact ⟨ao, cap, lo, h.le, h.lo11, h.tab.below h.lo11 ((Below.refl B w).setCell (p := ⟨R, 0, none⟩) hB v'), hne h.at' (by decide), owns_of_block h.own fun g e => by
  obtain ⟨c, hc⟩ := ownsRow_kind h.own g e
  exact (hne hc (by decide)).trans hc.symm⟩
theorem Rs4.setRes {w : World} {R : Nat} {v : Value} {e a : Int} {x : Wx} (h : Rs4 w R v e a x) (v' : Value) : Rs4 (w.setCell ⟨R, 0, none⟩ v') R v' e a x := by
 have o : ∀ (j : Nat), j ≠ R -> (w.setCell ⟨R, 0, none⟩ v').heap[j]? = w.heap[j]? := fun j hj => Below.heap_setCell w ⟨R, 0, none⟩ v' j hj
 exact ⟨one_set h.h2, (o _ (by omega)).trans h.h3, (o _ (by omega)).trans h.h4, (o _ (by omega)).trans h.h5⟩
theorem owns_setRes {w : World} {R base : Nat} {v : Value} {e a : Int} {x : Wx} (h : Rs4 w R v e a x) (v' : Value) {u : Value} {n size : Nat} {xs : List Value} (ho : w.ownsRow base 29 size u n xs) : (w.setCell ⟨R, 0, none⟩ v').ownsRow base 29 size u n xs :=
 owns_of_block ho fun g e => Below.heap_setCell _ _ _ _ (fun eq => by
  obtain ⟨c, hc⟩ := ownsRow_kind ho g e
  have eq : g = R := eq
  subst eq
  have h2 := h.h2
  rw [hc] at h2
  injection h2 with h2
  injection h2 with _ h2 _
  exact absurd h2 (by decide))
theorem Lx.res3 {w w' : World} {B b a R : Nat} {F : List UInt8} {st : Jsp.St} {ln : Bool} {v : Value} {e a' : Int} {x : Wx} (h : Lx w B b F a st ln) (hr : Rs4 w R v e a' x) (hB : B <= R) (hb : Below R w w') (ho : ∀ j, j ≠ R + 3 -> w'.heap[j]? = w.heap[j]?) : Lx w' B b F a st ln := by
 obtain ⟨ao, cap, lo, h⟩ := h
 have hne : ∀ {k : Nat} {cs : Array Value} {t : TypeId} {f : Nat × Nat}, w.heap[k]? = some (.cells cs t f) -> t ≠ 36 -> w'.heap[k]? = some (.cells cs t f) := fun hk ht => (ho _ (fun e => by
  subst e
  have h2 := hr.h5
  rw [hk] at h2
  injection h2 with h2
  injection h2 with _ h2 _
  exact ht h2)).trans hk
 exact ⟨ao, cap, lo, h.le, h.lo11, h.tab.below h.lo11 (hb.mono hB), hne h.at' (by decide), owns_of_block h.own fun g e => by
  obtain ⟨c, hc⟩ := ownsRow_kind h.own g e
  exact (hne hc (by decide)).trans hc.symm⟩
theorem owns_res3 {w w' : World} {R base : Nat} {v : Value} {e a : Int} {x : Wx} (h : Rs4 w R v e a x) (ho : ∀ j, j ≠ R + 3 -> w'.heap[j]? = w.heap[j]?) {u : Value} {n size : Nat} {xs : List Value} (hw : w.ownsRow base 29 size u n xs) : w'.ownsRow base 29 size u n xs :=
 owns_of_block hw fun g e => ho g (fun eq => by
  obtain ⟨c, hc⟩ := ownsRow_kind hw g e
  subst eq
  have h2 := h.h5
  rw [hc] at h2
  injection h2 with h2
  injection h2 with _ h2 _
  exact absurd h2 (by decide))
theorem Rs4.set0 {w : World} {R : Nat} {v : Value} {e a : Int} {x : Wx} (h : Rs4 w R v e a x) (s : Nat) : Rs4 (w.setCell ⟨R + 3, 0, none⟩ (.int .u8 (s : Int))) R v e a ⟨s, x.q, x.c, x.g, x.k⟩ := by
 have o : ∀ (j : Nat), j ≠ R + 3 -> (w.setCell ⟨R + 3, 0, none⟩ (.int .u8 (s : Int))).heap[j]? = w.heap[j]? := fun j hj => Below.heap_setCell w ⟨R + 3, 0, none⟩ _ j hj
 refine ⟨(o _ (by omega)).trans h.h2, (o _ (by omega)).trans h.h3, (o _ (by omega)).trans h.h4, ?_⟩
 have h5 := h.h5
 simp [World.setCell, Array.getElem?_modify, h5]
theorem Rs4.set3 {w : World} {R : Nat} {v : Value} {e a : Int} {x : Wx} (h : Rs4 w R v e a x) (g : Bool) : Rs4 (w.setCell ⟨R + 3, 3, none⟩ (.bool g)) R v e a ⟨x.s, x.q, x.c, g, x.k⟩ := by
 have o : ∀ (j : Nat), j ≠ R + 3 -> (w.setCell ⟨R + 3, 3, none⟩ (.bool g)).heap[j]? = w.heap[j]? := fun j hj => Below.heap_setCell w ⟨R + 3, 3, none⟩ _ j hj
 refine ⟨(o _ (by omega)).trans h.h2, (o _ (by omega)).trans h.h3, (o _ (by omega)).trans h.h4, ?_⟩
 have h5 := h.h5
 simp [World.setCell, Array.getElem?_modify, h5]
theorem owns_res4 {w w' : World} {R base : Nat} {v : Value} {e a : Int} {x : Wx} (h : Rs4 w R v e a x) (ho : ∀ j, j ≠ R -> j ≠ R + 1 -> j ≠ R + 2 -> j ≠ R + 3 -> w'.heap[j]? = w.heap[j]?) {u : Value} {n size : Nat} {xs : List Value} (hw : w.ownsRow base 29 size u n xs) : w'.ownsRow base 29 size u n xs :=
 owns_of_block hw fun g e => by
  obtain ⟨c, hc⟩ := ownsRow_kind hw g e
  have hne : ∀ {k : Nat} {cs : Array Value} {t : TypeId}, w.heap[k]? = some (.cells cs t (0, 0)) -> t ≠ 29 -> g ≠ k := fun hk ht eq => by
   subst eq
   rw [hk] at hc
   injection hc with hc
   injection hc with _ hc _
   exact ht hc
  exact ho g (hne h.h2 (by decide)) (hne h.h3 (by decide)) (hne h.h4 (by decide)) (hne h.h5 (by decide))
theorem fin_other (w : World) (R : Nat) (v : Value) (e a : Int) (x : Wx) (j : Nat) (h0 : j ≠ R) (h1 : j ≠ R + 1) (h2 : j ≠ R + 2) (h3 : j ≠ R + 3) : (put5 (((w.setCell ⟨R, 0, none⟩ v).setCell ⟨R + 1, 0, none⟩ (.int .i64 e)).setCell ⟨R + 2, 0, none⟩ (.int .i64 a)) (R + 3) x).heap[j]? = w.heap[j]? :=
 (put5_other h3 x).trans ((Below.heap_setCell _ ⟨R + 2, 0, none⟩ _ j h2).trans ((Below.heap_setCell _ ⟨R + 1, 0, none⟩ _ j h1).trans (Below.heap_setCell _ ⟨R, 0, none⟩ _ j h0)))
theorem owns_drew {w : World} {base size n : Nat} {e : TypeId} {u : Value} {xs : List Value} (h : w.ownsRow base e size u n xs) : w.drew.ownsRow base e size u n xs := owns_of_block h fun _ _ => rfl
theorem tokC_at : ∀ (m : List Jsp.Tk) (i : Nat) (c : Jsp.Tk) (j : Nat), m[i]? = some c -> j < 3 -> (tokCells m)[i * 3 + j]? = [.int .u8 (c.kind : Int), S c.t, S c.v][j]?
 | [], i, c, j, hc, _ => by simp at hc
 | x :: m, 0, c, j, hc, hj => by
  simp at hc; subst hc
  have e : tokCells (x :: m) = [.int .u8 (x.kind : Int), S x.t, S x.v] ++ tokCells m := rfl
  rw [e, List.getElem?_append_left (by simp; omega)]; simp
 | x :: m, i + 1, c, j, hc, hj => by
  have e : tokCells (x :: m) = [.int .u8 (x.kind : Int), S x.t, S x.v] ++ tokCells m := rfl
  rw [e, List.getElem?_append_right (by simp; omega), <- tokC_at m i c j (by simpa using hc) hj]
  congr 1
  simp; omega
def RT (w : World) (v : Value) (l : List Jsp.Tk) : Prop :=
 (l = [] /\ ∃ a c, v = .slice a 0 c) \/
 ∃ b o cap, v = .slice (some ⟨b, o, none⟩) l.length cap /\ b < w.heap.size /\ ∀ (i : Nat) (c : Jsp.Tk), l[i]? = some c ->
  w.cell? ⟨b, o + i * 3, none⟩ = some (.int .u8 (c.kind : Int)) /\ w.cell? ⟨b, o + i * 3 + 1, none⟩ = some (S c.t) /\ w.cell? ⟨b, o + i * 3 + 2, none⟩ = some (S c.v)
theorem RT.of_own {w : World} {base : Nat} {v : Value} {l : List Jsp.Tk} (h : w.ownsRow base 29 3 v l.length (tokCells l)) : RT w v l := by
 rcases h.2 with ⟨rfl, h0⟩ | ⟨g, cap, cur, rfl, hb, hh, hn, hcap, hsz, htake⟩
 ·exact .inl ⟨List.eq_nil_of_length_eq_zero h0, none, 0, rfl⟩
 ·refine .inr ⟨g, 0, cap, rfl, heap_lt hh, fun i c hc => ?_⟩
  have hi : i < l.length := by
   rcases Nat.lt_or_ge i l.length with h | h
   ·exact h
   ·rw [List.getElem?_eq_none h] at hc; cases hc
  have cell : ∀ j, j < 3 -> w.cell? ⟨g, 0 + i * 3 + j, none⟩ = [.int .u8 (c.kind : Int), S c.t, S c.v][j]? := fun j hj => by
   rw [h.cellAt _ (by omega), Nat.zero_add, tokC_at l i c j hc hj]
  exact ⟨by simpa using cell 0 (by omega), by simpa using cell 1 (by omega), by simpa using cell 2 (by omega)⟩
theorem RT.below {w w' : World} {v : Value} {l : List Jsp.Tk} (h : RT w v l) (hb : Below w.heap.size w w') : RT w' v l := by
 rcases h with h | ⟨b, o, cap, rfl, hlt, hc⟩
 ·exact .inl h
 ·refine .inr ⟨b, o, cap, rfl, Nat.lt_of_lt_of_le hlt hb.size, fun i c hi => ?_⟩
  obtain ⟨h0, h1, h2⟩ := hc i c hi
  exact ⟨(hb.cell hlt).trans h0, (hb.cell hlt).trans h1, (hb.cell hlt).trans h2⟩
theorem jAll (F : List UInt8) (B b : Nat) (w : World) (h : Lx w B b F 0 Jsp.st0 false) (hv : Cssp.valid F = true) (hl : F.length <= 1000000) :
  Calls Tryz.prog 15 #[.pointer (some ⟨b, 0, none⟩)] w (AllP F B w) := by
 have hB := h.leB
 obtain ⟨i0, hi, hz0, hz1, hz2⟩ := info_parts info_tok
 have hmf : ∀ (fn : Fn) (first cap : Array Value) (w : World), (Instr.makeFunc fn first cap).run Tryz.prog w = .ok (.func fn first cap) w := fun _ _ _ _ => rfl
 have hst := Jsp.lex_start F hv
 obtain ⟨A, hA⟩ : ∃ A, Jsp.lex F = A := ⟨_, rfl⟩
 obtain ⟨E, hE⟩ : ∃ E, Jsp.errOf F = E := ⟨_, rfl⟩
 have hPost : AllP F B w = fun e w' => ∃ (v : Value) (er pl : Nat) (x : Wx), e = .returned (.tuple #[v, .int .i64 (er : Int), .int .i64 (pl : Int), .agg (WxL x).toArray]) /\ Kp B w w' /\ AllQ F w w' v er pl x A := by rw [<- hA]; rfl
 rw [hPost]
 rw [hA, hE] at hst
 have HE := hide hE
 have hBl : ∀ (a : Nat) (st : Jsp.St) W, Lx W B b F a st false -> a <= F.length -> Cssp.valid (F.drop a) = true -> Hid (Calls Tryz.prog 19 #[.pointer (some ⟨b, 0, none⟩)] W (BlP F B b st W (Jsp.gp F a false))) := fun a st W hW ha hva => jBlanks F B b a st W hW ha hva (by omega)
 have HBl := hide hBl
 obtain ⟨W1, hW1⟩ : ∃ W1, W1 = ((((w.alloc (.cells #[.slice none 0 0] 23)).alloc (.cells #[.int .i64 0] 24)).alloc (.cells #[.int .i64 0] 3)).alloc (.cells #[.int .u8 0, .int .u8 0, .bool false, .bool false, S []] 36)) := ⟨_, rfl⟩
 have z1 : (w.alloc (.cells #[.slice none 0 0] 23)).heap.size = w.heap.size + 1 := by simp
 have z2 : ((w.alloc (.cells #[.slice none 0 0] 23)).alloc (.cells #[.int .i64 0] 24)).heap.size = w.heap.size + 2 := by simp
 have z3 : (((w.alloc (.cells #[.slice none 0 0] 23)).alloc (.cells #[.int .i64 0] 24)).alloc (.cells #[.int .i64 0] 3)).heap.size = w.heap.size + 3 := by simp
 have hb1 : Below w.heap.size w W1 := by
  rw [hW1]
  exact ((((Below.refl _ _).alloc (Nat.le_refl _) _).alloc (by rw [z1]; omega) _).alloc (by rw [z2]; omega) _).alloc (by rw [z3]; omega) _
 have hsz : W1.heap.size = w.heap.size + 4 := by rw [hW1]; simp
 have hrs : Rs4 W1 w.heap.size (.slice none 0 0) 0 0 w0x := by
  rw [hW1]
  refine ⟨?_, ?_, ?_, ?_⟩
  ·rw [Below.heap_alloc _ _ _ (by rw [z3]; omega), Below.heap_alloc _ _ _ (by rw [z2]; omega), Below.heap_alloc _ _ _ (by rw [z1]; omega)]; exact heap_alloc_last _ _
  ·rw [Below.heap_alloc _ _ _ (by rw [z3]; omega), Below.heap_alloc _ _ _ (by rw [z2]; omega)]
   have := heap_alloc_last (w.alloc (.cells #[.slice none 0 0] 23)) (.cells #[.int .i64 0] 24)
   rw [z1] at this; exact this
  ·rw [Below.heap_alloc _ _ _ (by rw [z3]; omega)]
   have := heap_alloc_last ((w.alloc (.cells #[.slice none 0 0] 23)).alloc (.cells #[.int .i64 0] 24)) (.cells #[.int .i64 0] 3)
   rw [z2] at this; exact this
  ·have := heap_alloc_last (((w.alloc (.cells #[.slice none 0 0] 23)).alloc (.cells #[.int .i64 0] 24)).alloc (.cells #[.int .i64 0] 3)) (.cells #[.int .u8 0, .int .u8 0, .bool false, .bool false, S []] 36)
   rw [z3] at this; exact this
 clear z1 z2 z3
 have hblt := h.lt
 have HX1 := hide (h.below hb1)
 have HK1 := hide (Kp.of_below hB hb1)
 have HR1 := hide hrs
 have HS1 := hide hsz
 have HW1 := hide hW1
 have HST := hide hst
 have HV := hide hv
 clear h hA hE hPost hst hBl hb1 hsz hrs hW1 hv
 go_enter_defers Tryz.func15, Tryz.ntmps15
 go_wp2_with fail
 change Calls _ _ _ ((((w.alloc (.cells #[.slice none 0 0] 23)).alloc (.cells #[.int .i64 0] 24)).alloc (.cells #[.int .i64 0] 3)).alloc (.cells #[.int .u8 0, .int .u8 0, .bool false, .bool false, S []] 36)) _
 rw [<- HW1.out]
 obtain ⟨R, hR⟩ : ∃ R, w.heap.size = R := ⟨_, rfl⟩
 rw [hR] at HR1 HS1 hB hblt ⊢
 have HBL := hide hblt
 clear hblt
 rw [show R + 1 + 1 + 1 = R + 3 from rfl, show R + 1 + 1 = R + 2 from rfl]
 have HRR := hide hR
 clear hR HW1
 refine (HBl.out 0 Jsp.st0 _ HX1.out (Nat.zero_le _) HV.out).out.mono ?_
 rintro e w1 hp
 have hst := HST.out
 cases hg : Jsp.gp F 0 false with
 | inr o =>
  rw [hg] at hp hst
  obtain ⟨rfl, rfl⟩ := hst
  obtain ⟨x, rfl, hx, hk⟩ := hp
  have HKX := hide (HK1.out.trans hk)
  have HXX := hide hx
  have hrs : Rs4 w1 R (.slice none 0 0) 0 0 w0x := ⟨hk.kept _ _ _ _ HR1.out.h2 (by decide) (by decide), hk.kept _ _ _ _ HR1.out.h3 (by decide) (by decide), hk.kept _ _ _ _ HR1.out.h4 (by decide) (by decide), hk.kept _ _ _ _ HR1.out.h5 (by decide) (by decide)⟩
  have HRX := hide hrs
  clear hg hk hx hrs
  go_wp2_with fail
  refine leaves_cons (f := 18) (args := #[.pointer (some ⟨R, 0, none⟩), .pointer (some ⟨R + 1, 0, none⟩), .pointer (some ⟨R + 2, 0, none⟩), .pointer (some ⟨R + 3, 0, none⟩)]) (by simp) (by simp [go_sem]) ?_
  refine (all_caught R _ 0 0 w0x _ HRX.out 175 o x).mono ?_
  rintro e u' w9 ⟨rfl, rfl, hr9, hb9⟩
  obtain ⟨c2, c3, c4, d0, d1, d2, d3, d4⟩ := hr9.cells
  simp [Leaves, settle, results, Tryz.results15, go_sem, c2, c3, c4, d0, d1, d2, d3, d4]
  exact ⟨.slice none 0 0, 175, o, shown x, ⟨rfl, rfl, rfl, rfl, rfl, rfl, rfl, rfl⟩, HKX.out.far hb9 HRR.out hB, rfl, rfl, rfl, x, rfl, HXX.out, fun st s he => by rw [HE.out] at he; cases he⟩
 | inl y =>
  obtain ⟨a1, ln1⟩ := y
  rw [hg] at hp hst
  obtain ⟨rfl, hx1, hk1⟩ := hp
  have HX2 := hide hx1
  have HK2 := hide (HK1.out.trans hk1)
  have HR2 := hide (HR1.out.kp hk1)
  have HH2 := hide (show Jsp.Hd F [] Jsp.st0 a1 ln1 0 A E from hst)
  have hal := hst.al
  clear hg hx1 hk1 hst HX1 HK1 HR1 HS1 HST HV
  go_wp2_with fail
  go_loopg [6] (F.length - a1) (fun g s6 wx => ∃ (l : List Jsp.Tk) (a : Nat) (st : Jsp.St) (ln : Bool) (p : Nat) (v : Value), g + a = F.length /\ s6 = .int .i64 (p : Int) /\ Hid (Lx wx B b F a st ln) /\ Hid (Kp B w wx) /\ Hid (Rs4 wx R v 0 0 w0x) /\ Hid (wx.ownsRow R 29 3 v l.length (tokCells l)) /\ Hid (Jsp.Hd F l st a ln p A E))
  case atStart => exact ⟨[], a1, Jsp.st0, ln1, 0, .slice none 0 0, by omega, rfl, HX2.out, HK2.out, HR2.out, World.ownsRow_nil _ _ _ _, HH2.out⟩
  case round =>
   obtain ⟨l, a, st, ln, p, v, hga, rfl, hx, hk, hr, ho, hh⟩ := hrel
   clear HX2 HK2 HR2 HH2 hal
   obtain ⟨_, _, _, hxv⟩ := hx.out
   obtain ⟨c0, c1, -⟩ := hxv.cells
   clear hxv
   by_cases hlt : a < F.length
   ·obtain rfl := hh.out.noLine hlt
    have q : decide ((a : Int) < (F.length : Int)) = true := by rw [decide_eq_true_eq]; omega
    go_wp2_with fail
    go_quiet (fail)
    go_upto_region 6 with (fail)
    have HX3 := hide (hx.out.drewN nq)
    have HK3 := hide (hk.out.drewN nq)
    have HR3 := hide (show Rs4 (wr.drewN nq) R v 0 0 w0x from ⟨hr.out.h2, hr.out.h3, hr.out.h4, hr.out.h5⟩)
    have HO3 := hide (show (wr.drewN nq).ownsRow R 29 3 v l.length (tokCells l) from owns_of_block ho.out fun _ _ => rfl)
    generalize wr.drewN nq = w3 at HX3 HK3 HR3 HO3 ⊢
    clear c0 c1 hx hk hr ho q
    have hN1 : Hid (Calls Tryz.prog 20 #[.pointer (some ⟨b, 0, none⟩)] w3.drew (NxP F B b a st false w3.drew)) := jNext F B b a st false w3.drew (HX3.out.drewN 1) hh.out.stk hlt hh.out.va (by omega)
    obtain ⟨c2, -⟩ := HR3.out.cells
    cases hn : Jsp.next st (F.drop a) with
    | no er o =>
     have hN2 : Hid (Calls Tryz.prog 20 #[.pointer (some ⟨b, 0, none⟩)] w3.drew (Pk er (a + o) (ErrX st (F.drop a)) B w3.drew)) := hN1.out.mono fun e w' hp => by unfold NxP at hp; rw [hn] at hp; exact hp
     obtain ⟨hAe, hEe⟩ := hh.out.no hlt hn
     clear hn hN1
     first | go_region_dies | fail
     all_goals
      refine hN2.out.mono ?_
      rintro e w5 ⟨x, rfl, hx5, hk5⟩
      have HKX := hide ((HK3.out.drewN 1).trans hk5)
      have HRX := hide ((HR3.out.drew).kp hk5)
      have HXX := hide hx5
      clear hx5 hk5
      go_wp2_with fail
      refine leaves_cons (f := 18) (args := #[.pointer (some ⟨R, 0, none⟩), .pointer (some ⟨R + 1, 0, none⟩), .pointer (some ⟨R + 2, 0, none⟩), .pointer (some ⟨R + 3, 0, none⟩)]) (by simp) (by simp [go_sem]) ?_
      refine (all_caught R _ 0 0 w0x _ HRX.out er (a + o) x).mono ?_
      rintro e u' w9 ⟨rfl, rfl, hr9, hb9⟩
      have HR9 := hide hr9
      obtain ⟨d2, d3, d4, e0, e1, e2, e3, e4⟩ := hr9.cells
      clear hr9
      simp [Leaves, settle, results, Tryz.results15, go_sem, d2, d3, d4, e0, e1, e2, e3, e4]
      refine ⟨.slice none 0 0, er, a + o, shown x, ⟨rfl, rfl, by omega, rfl, rfl, rfl, rfl, rfl⟩, HKX.out.far hb9 HRR.out hB, ?_⟩
      rw [hAe]
      refine ⟨rfl, rfl, rfl, x, rfl, HXX.out.1, fun st' s' he => ?_⟩
      rw [HE.out, hEe] at he
      injection he with he
      injection he with h1 h2
      rw [<- h1, <- h2]
      exact HXX.out
    | ok x k st2 =>
     have hN2 : Hid (Calls Tryz.prog 20 #[.pointer (some ⟨b, 0, none⟩)] w3.drew (fun e w' => Lf (tokV (x.kind : Int) x.t x.v) w3.drew B b F (a + k) st2 false e w')) := hN1.out.mono fun e w' hp => by unfold NxP at hp; rw [hn] at hp; exact hp.1
     obtain ⟨hk1, h1, h2, h3⟩ := hh.out.ok hlt hn
     have HV2 := hide h2
     have HP2 := hide h3
     have HLN := hide hh.out.len
     clear hn hN1 h2 h3
     have hlF : l.length <= 1000000 := by have := hh.out.len; have := hh.out.le; omega
     have hmx : l.length + 1 <= maxLen := by unfold maxLen; omega
     have hby : (l.length + 1) * 40 <= 140737488355328 := by omega
     have HO4 := hide (show w3.drew.ownsRow R 29 3 v l.length (tokCells l) from owns_of_block HO3.out fun _ _ => rfl)
     have HK4 := hide (show Kp B w w3.drew from HK3.out.drewN 1)
     clear hlF
     refine wp_region_noPanic ?_
     go_region_law (first | (go_simp; go_at_call 20; refine hN2.out.mono ?_; rintro e w5 ⟨rfl, hx5, hk5⟩; obtain ⟨y2, -⟩ := ((HR3.out.drew).kp hk5).cells; obtain ⟨y3, -⟩ := (((HR3.out.drew).kp hk5).below ((Below.refl _ w5).alloc (Nat.le_refl _) (.cells #[.int .u8 (x.kind : Int), S x.t, S x.v] 29))).cells) | (refine step_append_lies _ rfl (.tmp 22) (.tmp 25) 23 rfl R 29 i0 (.agg #[.int .u8 0, .string .empty, .string .empty]) 3 40 Tryz.underlying23 hi hz0 hz1 hz2 rfl (by decide) v l.length (tokCells l) (by simp [Act.eval]) ((owns_kp HO4.out hk5).alloc _) ⟨w5.heap.size, 0, none⟩ 1 1 [.int .u8 (x.kind : Int), S x.t, S x.v] (by simp [Act.eval]) rfl (World.news_of_block (heap_alloc_last w5 (.cells #[.int .u8 (x.kind : Int), S x.t, S x.v] 29))) (by simp [Value.oneCell', S]) (by decide) hmx hby (by rw [<- HRR.out]; exact Nat.le_trans (HK4.out.trans hk5).size (by simp)) _ rfl ?_; intro g cap w7 hown7 hgrow7 hat7 hlt7; have hr7 := Rs4.grownTok (((HR3.out.drew).kp hk5).below ((Below.refl _ w5).alloc (Nat.le_refl _) _)) ((owns_kp HO4.out hk5).alloc _) hgrow7; obtain ⟨z2, -⟩ := hr7.cells; have zf := hr7.frozen.1 0))
     all_goals
      refine NoPanic.normal ?_
      have hal := (Below.refl w5.heap.size w5).alloc (Nat.le_refl _) (.cells #[.int .u8 (x.kind : Int), S x.t, S x.v] 29)
      have hx6 := hx5.below hal
      have ho6 := (owns_kp HO4.out hk5).alloc (.cells #[.int .u8 (x.kind : Int), S x.t, S x.v] 29)
      have hk6 := (HK4.out.trans hk5).fresh (by rw [HRR.out]; exact hB) hal
      have hRle : R <= (w5.alloc (.cells #[.int .u8 (x.kind : Int), S x.t, S x.v] 29)).heap.size := by rw [<- HRR.out]; exact hk6.size
      have hx7 := hx6.grownTok ho6 hB hgrow7
      have hk7 := hk6.far ((Below.refl R _).grown hgrow7 hRle (fun k hk => (ho6.lt k hk).1)) HRR.out hB
      have HX8 := hide (hx7.setRes hr7 hB (.slice (some ⟨g, 0, none⟩) (l.length + 1) cap))
      have HR8 := hide (hr7.setRes (.slice (some ⟨g, 0, none⟩) (l.length + 1) cap))
      have ho8 := owns_setRes hr7 (.slice (some ⟨g, 0, none⟩) (l.length + 1) cap) hown7
      have HK8 := hide (hk7.far ((Below.refl R w7).setCell (p := ⟨R, 0, none⟩) (Nat.le_refl R) (.slice (some ⟨g, 0, none⟩) (l.length + 1) cap)) HRR.out hB)
      generalize w7.setCell ⟨R, 0, none⟩ (.slice (some ⟨g, 0, none⟩) (l.length + 1) cap) = w8 at HX8 HR8 ho8 HK8 ⊢
      have HO8 := hide (show w8.ownsRow R 29 3 (.slice (some ⟨g, 0, none⟩) (l.length + 1) cap) (l ++ [x]).length (tokCells (l ++ [x])) by rw [tokCells_append, List.length_append]; exact ho8)
      clear hal hx6 ho6 hk6 hRle hx7 hk7 ho8 hown7 hgrow7 hat7 hlt7 hr7 z2 zf y2 y3 hx5 hk5 c2
      have hB2 := HBl.out (a + k) st2 w8 HX8.out h1 HV2.out
      have HP3 := HP2.out
      obtain ⟨_, _, _, hxv⟩ := HX8.out
      obtain ⟨d0, d1, -⟩ := hxv.cells
      clear hxv
      go_wp2_with fail
      refine hB2.out.mono ?_
      rintro e w9 hp
      cases hg : Jsp.gp F (a + k) false with
      | inr o =>
       rw [hg] at hp HP3
       obtain ⟨hAe, hEe⟩ := HP3
       obtain ⟨y, rfl, hy, hky⟩ := hp
       have HKX := hide (HK8.out.trans hky)
       have HRX := hide (HR8.out.kp hky)
       have HYY := hide hy
       clear hg hky hy d0 d1
       go_wp2_with fail
       refine leaves_cons (f := 18) (args := #[.pointer (some ⟨R, 0, none⟩), .pointer (some ⟨R + 1, 0, none⟩), .pointer (some ⟨R + 2, 0, none⟩), .pointer (some ⟨R + 3, 0, none⟩)]) (by simp) (by simp [go_sem]) ?_
       refine (all_caught R _ 0 0 w0x _ HRX.out 175 o y).mono ?_
       rintro e u' w9 ⟨rfl, rfl, hr9, hb9⟩
       obtain ⟨d2, d3, d4, e0, e1, e2, e3, e4⟩ := hr9.cells
       clear hr9
       simp [Leaves, settle, results, Tryz.results15, go_sem, d2, d3, d4, e0, e1, e2, e3, e4]
       refine ⟨.slice none 0 0, 175, o, shown y, ⟨rfl, rfl, rfl, rfl, rfl, rfl, rfl, rfl⟩, HKX.out.far hb9 HRR.out hB, ?_⟩
       rw [hAe]
       exact ⟨rfl, rfl, rfl, y, rfl, HYY.out, fun st' s' he => by rw [HE.out, hEe] at he; cases he⟩
      | inl y =>
       obtain ⟨a2, ln2⟩ := y
       rw [hg] at hp HP3
       have HH3 := hide (show Jsp.Hd F (l ++ [x]) st2 a2 ln2 (a + k) A E from HP3)
       obtain ⟨rfl, hx9, hk9⟩ := hp
       have HX9 := hide hx9
       have HK9 := hide (HK8.out.trans hk9)
       have HR9 := hide (HR8.out.kp hk9)
       have HO9 := hide (owns_kp HO8.out hk9)
       have hle2 := HH3.out.le
       have hal2 := HH3.out.al
       clear hg hx9 hk9 d0 d1 HP3
       go_wp2_with fail
       go_roundg (F.length - a2)
       case measure => omega
       case rel => exact ⟨l ++ [x], a2, st2, ln2, a + k, _, by omega, by simp, HX9.out, HK9.out, HR9.out, HO9.out, HH3.out⟩
   ·have hae : a = F.length := by omega
    have hA := hh.out.end hae
    have HA := hide hA
    have hal := hh.out.al
    have HLN := hide hh.out.len
    have HP := hide hh.out.le
    subst hae
    have q : decide ((F.length : Int) < (F.length : Int)) = false := by simp
    clear hA hlt hal hga hh
    go_wp2_with fail
    go_quiet (fail)
    have HX3 := hide (hx.out.drewN nq)
    have HK3 := hide (hk.out.drewN nq)
    have HR3 := hide (show Rs4 (wr.drewN nq) R v 0 0 w0x from ⟨hr.out.h2, hr.out.h3, hr.out.h4, hr.out.h5⟩)
    have HO3 := hide (show (wr.drewN nq).ownsRow R 29 3 v l.length (tokCells l) from owns_of_block ho.out fun _ _ => rfl)
    clear c0 c1 hx hk hr ho q
    generalize wr.drewN nq = w3 at HX3 HK3 HR3 HO3 ⊢
    obtain ⟨ao, cap, lo, hxv⟩ := HX3.out
    obtain ⟨c0, c1, c2, c3, -, -, c6, -⟩ := hxv.cells
    have hcv := own_text hxv.own
    obtain ⟨-, -, -, d0, d1, d2, d3, d4⟩ := HR3.out.cells
    obtain ⟨-, -, -, f5⟩ := HR3.out.frozen
    have g0 := f5 0
    have g1 := f5 1
    have g2 := f5 2
    have g3 := f5 3
    have g4 := f5 4
    have hr4 := HR3.out.put5 ⟨1, 0, false, false, st.stk⟩
    have hb4 := put5_below (Below.refl R w3) (show R <= R + 3 by omega) ⟨1, 0, false, false, st.stk⟩
    have ho4 : ∀ j, j ≠ R + 3 -> (put5 w3 (R + 3) ⟨1, 0, false, false, st.stk⟩).heap[j]? = w3.heap[j]? := fun j hj => put5_other hj _
    have hx4 := HX3.out.res3 HR3.out hB hb4 ho4
    have HO4 := hide (owns_res3 HR3.out ho4 HO3.out)
    have HK4 := hide (HK3.out.far hb4 HRR.out hB)
    have HX4 := hide hx4
    have HR4 := hide hr4
    obtain ⟨X, hX⟩ : ∃ X, whX (Jsp.whereOf st ln (decide (p = F.length) && match l.getLast? with
     | none => false
     | some x => Jsp.wordy x)) = X := ⟨_, rfl⟩
    have HXX := hide hX
    unfold put5 at HR4 HO4 HK4 HX4
    clear f5 hxv hr4 hb4 ho4 hx4 hX
    go_upto_block 2 with fail
    change Code.wp _ _ _ _ (((((w3.setCell ⟨R + 3, 0, none⟩ (.int .u8 ((1 : Nat) : Int))).setCell ⟨R + 3, 1, none⟩ (.int .u8 ((0 : Nat) : Int))).setCell ⟨R + 3, 2, none⟩ (.bool false)).setCell ⟨R + 3, 3, none⟩ (.bool false)).setCell ⟨R + 3, 4, none⟩ (S st.stk))
    generalize ((((w3.setCell ⟨R + 3, 0, none⟩ (.int .u8 ((1 : Nat) : Int))).setCell ⟨R + 3, 1, none⟩ (.int .u8 ((0 : Nat) : Int))).setCell ⟨R + 3, 2, none⟩ (.bool false)).setCell ⟨R + 3, 3, none⟩ (.bool false)).setCell ⟨R + 3, 4, none⟩ (S st.stk) = w4 at HR4 HO4 HK4 HX4 ⊢
    clear c0 c1 c2 c3 c6 hcv d0 d1 d2 d3 d4 g0 g1 g2 g3 g4
    go_cut [] from 42 to 70 (fun wx => Hid (Lx wx B b F F.length st ln) /\ Hid (Kp B w wx) /\ Hid (Rs4 wx R v 0 0 X) /\ Hid (wx.ownsRow R 29 3 v l.length (tokCells l)))
    case first =>
     obtain ⟨ao, cap, lo, hxv⟩ := HX4.out
     obtain ⟨c0, c1, c2, c3, -, -, c6, -⟩ := hxv.cells
     obtain ⟨r2, -, -, d0, d1, d2, d3, d4⟩ := HR4.out.cells
     obtain ⟨-, -, -, f5⟩ := HR4.out.frozen
     have g0 := f5 0
     have g3 := f5 3
     have upd : ∀ (o : Nat) (u : Value), Below R w4 (w4.setCell ⟨R + 3, o, none⟩ u) /\ ∀ j, j ≠ R + 3 -> (w4.setCell ⟨R + 3, o, none⟩ u).heap[j]? = w4.heap[j]? := fun o u => ⟨(Below.refl R w4).setCell (p := ⟨R + 3, o, none⟩) (by show R <= R + 3; omega) u, fun j hj => Below.heap_setCell w4 ⟨R + 3, o, none⟩ u j hj⟩
     have UPD := hide upd
     clear f5 hxv upd
     cases ln with
     | true =>
      have HE2 := hide (show (⟨6, 0, false, false, st.stk⟩ : Wx) = X by rw [<- HXX.out]; rfl)
      go_wp2_with fail
      go_meet
      obtain ⟨u1, u2⟩ := UPD.out 0 (.int .u8 ((6 : Nat) : Int))
      refine ⟨HX4.out.res3 HR4.out hB u1 u2, HK4.out.far u1 HRR.out hB, ?_, owns_res3 HR4.out u2 HO4.out⟩
      rw [<- HE2.out]
      exact HR4.out.set0 6
     | false =>
      rcases RT.of_own HO4.out with ⟨h0, a0, k0, hv0⟩ | ⟨g, o, cap2, hv0, hgl, hc0⟩
      ·have HE2 := hide (show (⟨1, 0, false, st.goal, st.stk⟩ : Wx) = X by rw [<- HXX.out, h0]; simp [Jsp.whereOf, whX])
       clear h0
       subst hv0
       go_wp2_with fail
       go_meet
       obtain ⟨u1, u2⟩ := UPD.out 3 (.bool st.goal)
       refine ⟨HX4.out.res3 HR4.out hB u1 u2, HK4.out.far u1 HRR.out hB, ?_, owns_res3 HR4.out u2 HO4.out⟩
       rw [<- HE2.out]
       exact HR4.out.set3 st.goal
      ·obtain ⟨N, hN⟩ : ∃ N, N = l.length := ⟨_, rfl⟩
       rw [<- hN] at hv0
       subst hv0
       by_cases hN0 : N = 0
       ·have HE2 := hide (show (⟨1, 0, false, st.goal, st.stk⟩ : Wx) = X by rw [<- HXX.out, List.eq_nil_of_length_eq_zero (hN.symm.trans hN0)]; simp [Jsp.whereOf, whX])
        subst hN0
        clear hc0 hgl hN
        go_wp2_with fail
        go_meet
        obtain ⟨u1, u2⟩ := UPD.out 3 (.bool st.goal)
        refine ⟨HX4.out.res3 HR4.out hB u1 u2, HK4.out.far u1 HRR.out hB, ?_, owns_res3 HR4.out u2 HO4.out⟩
        rw [<- HE2.out]
        exact HR4.out.set3 st.goal
       ·obtain ⟨m, hm⟩ : ∃ m, N = m + 1 := ⟨N - 1, by omega⟩
        have hml : m < l.length := by omega
        have hgy := List.getElem?_eq_getElem hml
        obtain ⟨y, hy⟩ : ∃ y, l[m] = y := ⟨_, rfl⟩
        rw [hy] at hgy
        have hlast : l.getLast? = some y := by rw [List.getLast?_eq_getElem?, show l.length - 1 = m by omega]; exact hgy
        obtain ⟨y0, y1, y2⟩ := hc0 m y hgy
        have qn : decide ((0 : Int) < (N : Int)) = true := by rw [decide_eq_true_eq]; omega
        have b0 : (0 : Int) <= (N : Int) - 1 := by omega
        have b1 : (N : Int) - 1 < (N : Int) := by omega
        have bt : ((N : Int) - 1).toNat = m := by omega
        have hNle : N <= 1000000 := by have := HLN.out; have := HP.out; omega
        have HY := hide hlast
        clear hc0 hgl hN hN0 hm hml hgy hy hlast
        by_cases hp : p = F.length
        ·have qp : ((p : Int) == (F.length : Int)) = true := by rw [hp, beq_self_eq_true]
         have HPE := hide hp
         clear hp
         have hWy : Hid (Calls Tryz.prog 21 #[tokV (y.kind : Int) y.t y.v] w4 (Fresh (.bool (Jsp.wordy y)) w4)) := jWordy y.kind y.t y.v w4
         obtain ⟨Z, hZ⟩ : ∃ Z, Jsp.wordy y = Z := ⟨_, rfl⟩
         rw [hZ] at hWy
         have HZ := hide hZ
         clear hZ
         go_wp2_with fail
         refine hWy.out.mono ?_
         rintro e w5 ⟨rfl, hb5⟩
         have HX5 := hide (HX4.out.below hb5)
         have HK5 := hide (HK4.out.fresh (by rw [HRR.out]; exact hB) hb5)
         have HR5 := hide (HR4.out.below hb5)
         have HO5 := hide (owns_of_block HO4.out fun g e => hb5.block g (HO4.out.lt g e).2)
         obtain ⟨ao5, cap5, lo5, hxv⟩ := HX5.out
         obtain ⟨c0', c1', c2', c3', -, -, c6', -⟩ := hxv.cells
         obtain ⟨r2', -, -, d0', d1', d2', d3', d4'⟩ := HR5.out.cells
         obtain ⟨-, -, -, f5⟩ := HR5.out.frozen
         have g0' := f5 0
         have g3' := f5 3
         have upd : ∀ (o : Nat) (u : Value), Below R w5 (w5.setCell ⟨R + 3, o, none⟩ u) /\ ∀ j, j ≠ R + 3 -> (w5.setCell ⟨R + 3, o, none⟩ u).heap[j]? = w5.heap[j]? := fun o u => ⟨(Below.refl R w5).setCell (p := ⟨R + 3, o, none⟩) (by show R <= R + 3; omega) u, fun j hj => Below.heap_setCell w5 ⟨R + 3, o, none⟩ u j hj⟩
         have UPD5 := hide upd
         clear f5 hxv upd hb5 y0 y1 y2 c0 c1 c2 c3 c6 r2 d0 d1 d2 d3 d4 g0 g3 hWy
         cases Z with
         | true =>
          have HE2 := hide (show (⟨2, 0, false, false, st.stk⟩ : Wx) = X by rw [<- HXX.out, decide_eq_true HPE.out, HY.out]; simp [Jsp.whereOf, whX, HZ.out])
          go_wp2_with fail
          go_meet
          obtain ⟨u1, u2⟩ := UPD5.out 0 (.int .u8 ((2 : Nat) : Int))
          refine ⟨HX5.out.res3 HR5.out hB u1 u2, HK5.out.far u1 HRR.out hB, ?_, owns_res3 HR5.out u2 HO5.out⟩
          rw [<- HE2.out]
          exact HR5.out.set0 2
         | false =>
          have HE2 := hide (show (⟨1, 0, false, st.goal, st.stk⟩ : Wx) = X by rw [<- HXX.out, decide_eq_true HPE.out, HY.out]; simp [Jsp.whereOf, whX, HZ.out])
          go_wp2_with fail
          go_meet
          obtain ⟨u1, u2⟩ := UPD5.out 3 (.bool st.goal)
          refine ⟨HX5.out.res3 HR5.out hB u1 u2, HK5.out.far u1 HRR.out hB, ?_, owns_res3 HR5.out u2 HO5.out⟩
          rw [<- HE2.out]
          exact HR5.out.set3 st.goal
        ·have qp : ((p : Int) == (F.length : Int)) = false := by rw [beq_eq_false_iff_ne]; omega
         have HE2 := hide (show (⟨1, 0, false, st.goal, st.stk⟩ : Wx) = X by rw [<- HXX.out, decide_eq_false hp]; simp [Jsp.whereOf, whX])
         clear hp y0 y1 y2
         go_wp2_with fail
         go_meet
         obtain ⟨u1, u2⟩ := UPD.out 3 (.bool st.goal)
         refine ⟨HX4.out.res3 HR4.out hB u1 u2, HK4.out.far u1 HRR.out hB, ?_, owns_res3 HR4.out u2 HO4.out⟩
         rw [<- HE2.out]
         exact HR4.out.set3 st.goal
    case rest =>
     obtain ⟨hx, hk, hr, ho⟩ := hcut
     clear HX4 HK4 HR4 HO4
     obtain ⟨ao, cap, lo, hxv⟩ := hx.out
     obtain ⟨c0, -, c2, -⟩ := hxv.cells
     obtain ⟨y0, y1, y2, d0, d1, d2, d3, d4⟩ := hr.out.cells
     obtain ⟨e2, e3, e4, f5⟩ := hr.out.frozen
     have f0 := e2 0
     have f1 := e3 0
     have f2 := e4 0
     have g0 := f5 0
     have g1 := f5 1
     have g2 := f5 2
     have g3 := f5 3
     have g4 := f5 4
     obtain ⟨M, hM⟩ : ∃ M, M = st.stk.length := ⟨_, rfl⟩
     rw [<- hM] at c2
     have hlF : l.length <= F.length := by have := HLN.out; have := HP.out; omega
     have HLF := hide hlF
     clear hxv e2 e3 e4 f5 hlF hx
     by_cases hM0 : M = 0
     ·subst hM0
      have hse : st.stk = [] := List.eq_nil_of_length_eq_zero hM.symm
      have HSE := hide hse
      clear hM hse
      have hvf : ∃ av cv, v = .slice av l.length cv := by
       rcases RT.of_own ho.out with ⟨h0, a0, k0, hv0⟩ | ⟨g, o, cap2, hv0, _, _⟩
       ·exact ⟨a0, k0, by rw [hv0, h0]; rfl⟩
       ·exact ⟨_, _, hv0⟩
      obtain ⟨av, cv, hv⟩ := hvf
      obtain ⟨N, hN⟩ : ∃ N, N = l.length := ⟨_, rfl⟩
      rw [<- hN] at hv
      subst hv
      clear hN
      have hr9 := ((hr.out.put3 (.slice av N cv) 0 (0)).put5 X).drew
      have hb9 := (put5_below (put3_below (Below.refl R wc) (Nat.le_refl R) (.slice av N cv) 0 (0)) (show R <= R + 3 by omega) X).drew
      have HK9 := hide (hk.out.far hb9 HRR.out hB)
      have HO9 := hide (owns_drew (owns_res4 hr.out (fin_other wc R (.slice av N cv) 0 (0) X) ho.out))
      have HR9 := hide hr9
      unfold put5 at HK9 HR9 HO9
      clear hr9 hb9 ho hk hr
      go_wp2_with fail
      refine wp_region_noPanic ?_
      go_region
      refine NoPanic.normal ?_
      generalize ((((((((wc.setCell ⟨R, 0, none⟩ (.slice av N cv)).setCell ⟨R + 1, 0, none⟩ (.int .i64 0)).setCell ⟨R + 2, 0, none⟩ (.int .i64 (0))).setCell ⟨R + 3, 0, none⟩ (.int .u8 (X.s : Int))).setCell ⟨R + 3, 1, none⟩ (.int .u8 (X.q : Int))).setCell ⟨R + 3, 2, none⟩ (.bool X.c)).setCell ⟨R + 3, 3, none⟩ (.bool X.g)).setCell ⟨R + 3, 4, none⟩ (S X.k)).drew = w9 at HR9 HK9 HO9 ⊢
      clear c0 c2 y0 y1 y2 d0 d1 d2 d3 d4 f0 f1 f2 g0 g1 g2 g3 g4
      go_wp2_with fail
      refine leaves_cons (f := 18) (args := #[.pointer (some ⟨R, 0, none⟩), .pointer (some ⟨R + 1, 0, none⟩), .pointer (some ⟨R + 2, 0, none⟩), .pointer (some ⟨R + 3, 0, none⟩)]) (by simp) (by simp [go_sem]) ?_
      refine (all_idle R _).mono ?_
      rintro e u' w9' ⟨rfl, rfl, rfl⟩
      obtain ⟨c2, c3, c4, d0, d1, d2, d3, d4⟩ := HR9.out.cells
      simp [Leaves, settle, results, Tryz.results15, go_sem, c2, c3, c4, d0, d1, d2, d3, d4]
      refine ⟨.slice av N cv, 0, 0, X, ⟨rfl, rfl, rfl, rfl, rfl, rfl, rfl, rfl⟩, HK9.out, ?_⟩
      rw [HA.out]
      exact ⟨HXX.out.symm, .inl ⟨HSE.out, rfl, rfl, by rw [HRR.out]; exact HO9.out, HLF.out⟩⟩
     ·have qs : decide ((0 : Int) < (M : Int)) = true := by rw [decide_eq_true_eq]; omega
      have hse : st.stk ≠ [] := fun e => hM0 (by rw [hM, e]; rfl)
      have HSE := hide hse
      have hMp : 0 < M := by omega
      have n0 : ¬ b = R := by have := HBL.out; omega
      have n1 : ¬ b = R + 1 := by have := HBL.out; omega
      have n2 : ¬ b = R + 2 := by have := HBL.out; omega
      have n3 : ¬ b = R + 3 := by have := HBL.out; omega
      clear hM hse hM0
      have hr9 := ((hr.out.put3 (.slice none 0 0) 177 ((F.length : Int))).put5 X).drew
      have hb9 := (put5_below (put3_below (Below.refl R wc) (Nat.le_refl R) (.slice none 0 0) 177 ((F.length : Int))) (show R <= R + 3 by omega) X).drew
      have HK9 := hide (hk.out.far hb9 HRR.out hB)
      have HO9 := hide (owns_drew (owns_res4 hr.out (fin_other wc R (.slice none 0 0) 177 ((F.length : Int)) X) ho.out))
      have HR9 := hide hr9
      unfold put5 at HK9 HR9 HO9
      clear hr9 hb9 ho hk hr
      go_wp2_with fail
      refine wp_region_noPanic ?_
      go_region
      refine NoPanic.normal ?_
      generalize ((((((((wc.setCell ⟨R, 0, none⟩ (.slice none 0 0)).setCell ⟨R + 1, 0, none⟩ (.int .i64 177)).setCell ⟨R + 2, 0, none⟩ (.int .i64 ((F.length : Int)))).setCell ⟨R + 3, 0, none⟩ (.int .u8 (X.s : Int))).setCell ⟨R + 3, 1, none⟩ (.int .u8 (X.q : Int))).setCell ⟨R + 3, 2, none⟩ (.bool X.c)).setCell ⟨R + 3, 3, none⟩ (.bool X.g)).setCell ⟨R + 3, 4, none⟩ (S X.k)).drew = w9 at HR9 HK9 HO9 ⊢
      clear c0 c2 y0 y1 y2 d0 d1 d2 d3 d4 f0 f1 f2 g0 g1 g2 g3 g4
      go_wp2_with fail
      refine leaves_cons (f := 18) (args := #[.pointer (some ⟨R, 0, none⟩), .pointer (some ⟨R + 1, 0, none⟩), .pointer (some ⟨R + 2, 0, none⟩), .pointer (some ⟨R + 3, 0, none⟩)]) (by simp) (by simp [go_sem]) ?_
      refine (all_idle R _).mono ?_
      rintro e u' w9' ⟨rfl, rfl, rfl⟩
      obtain ⟨c2, c3, c4, d0, d1, d2, d3, d4⟩ := HR9.out.cells
      simp [Leaves, settle, results, Tryz.results15, go_sem, c2, c3, c4, d0, d1, d2, d3, d4]
      refine ⟨.slice none 0 0, 177, F.length, X, ⟨rfl, rfl, rfl, rfl, rfl, rfl, rfl, rfl⟩, HK9.out, ?_⟩
      rw [HA.out]
      exact ⟨HXX.out.symm, .inr ⟨HSE.out, rfl, rfl, rfl⟩⟩
end Go.Proofs.YtngccmlcopcghaaGreatDoor
