/- all: the tokens of a text, where it ends, its rest. -/
import Derived.Test.YtojgcangnkjmjaaGreatDoorNx
import Derived.Test.YtojgcangnkjmjaaGreatDoorO
import Derived.Test.YtojgcangnkjmjaaGreatDoorPe
import Derived.Test.YtojgcangnkjmjaaGreatDoorSte
namespace Go.Proofs.YtojgcangnkjmjaaGreatDoor
namespace Cssp
open Go
/-- what comes of the tokens so far, and of the rest -/
def done (l : List Tk) (r : Lp) (rest : List UInt8) : Al := ⟨l ++ r.l, r.w, if r.w.quote = 0 then r.rest.getD rest else if r.w.state = 6 then r.tail else []⟩
theorem all_done (s : List UInt8) : all s = done [] (lp s ⟨1, 0⟩ []) s := by rw [all_lp]; rfl
theorem done_nil (l : List Tk) (w : Wh) (t rest : List UInt8) : done l (lp [] w t) rest = ⟨l, w, if w.quote = 0 then rest else if w.state = 6 then t else []⟩ := by
  rw [lp_nil]; simp [done]
theorem done_open (l : List Tk) (s : List UInt8) (w : Wh) (t rest : List UInt8) (hc : [47, 42].isPrefixOf s = true) (hk : shut (s.drop 2) = none) : done l (lp s w t) rest = ⟨l, ⟨5, 0⟩, rest⟩ := by
  have h0 : s ≠ [] := fun e => by subst e; simp at hc
  rw [lp_step s w t h0, if_pos hc, hk]; simp [done]
theorem done_shut (l : List Tk) (s : List UInt8) (w : Wh) (t rest : List UInt8) (k : Nat) (hc : [47, 42].isPrefixOf s = true) (hk : shut (s.drop 2) = some k) :
    done l (lp s w t) rest = done l (lp ((s.drop 2).drop (k + 2)) ⟨1, 0⟩ t) ((s.drop 2).drop (k + 2)) := by
  have h0 : s ≠ [] := fun e => by subst e; simp at hc
  rw [lp_step s w t h0, if_pos hc, hk, List.drop_drop, show 2 + (k + 2) = 2 + k + 2 by omega]; simp [done]
theorem done_one (l : List Tk) (s : List UInt8) (w : Wh) (t rest : List UInt8) (h0 : s ≠ []) (hc : [47, 42].isPrefixOf s = false) :
    done l (lp s w t) rest = done (l ++ [(one s).x]) (lp (s.drop (one s).k) (ends (one s) (at_ s 0)) (s.drop (one s).e)) (if (ends (one s) (at_ s 0)).state = 1 then s.drop (one s).k else rest) := by
  rw [lp_step s w t h0, if_neg (by rw [hc]; decide)]
  by_cases hp : (ends (one s) (at_ s 0)).state = 1
  · rw [if_pos hp, if_pos hp]; simp [done]
  · rw [if_neg hp, if_neg hp]; simp [done]
theorem index_shut : ∀ l : List UInt8, Lib.index l [42, 47] = match shut l with | none => -1 | some k => (k : Int)
  | [] => rfl
  | c :: r => by
    have ih := index_shut r
    rw [Lib.index, shut]
    have hp : ([42, 47] : List UInt8).isPrefixOf (c :: r) = decide (c = 42 ∧ r.head? = some 47) := by
      cases r with
      | nil =>
        have h2 : ([42, 47] : List UInt8).isPrefixOf [c] = false := by
          rw [Bool.eq_false_iff]
          intro h
          have := List.IsPrefix.length_le (List.isPrefixOf_iff_prefix.1 h)
          simp at this
        rw [h2]; simp
      | cons d r =>
        rw [Bool.eq_iff_iff]
        simp only [List.isPrefixOf_iff_prefix, List.cons_prefix_cons, List.nil_prefix, and_true, decide_eq_true_eq, List.head?_cons, Option.some.injEq]
        exact ⟨fun h => ⟨h.1.symm, h.2.symm⟩, fun h => ⟨h.1.symm, h.2.symm⟩⟩
    rw [hp]
    by_cases hc : c = 42 ∧ r.head? = some 47
    · rw [decide_eq_true hc, if_pos rfl, if_pos hc]; rfl
    · rw [decide_eq_false hc, if_neg (by decide), if_neg hc, ih]
      cases shut r with
      | none => rfl
      | some k =>
        show (if ((k : Int) == -1) = true then (-1 : Int) else (k : Int) + 1) = ((k + 1 : Nat) : Int)
        rw [if_neg (by rw [beq_iff_eq]; omega)]
        omega
theorem cut_none {l : List UInt8} (h : shut l = none) : Lib.cut l [42, 47] = (l, [], false) := by
  have := index_shut l
  rw [h] at this
  have h' : Lib.index l [42, 47] = -1 := this
  unfold Lib.cut
  rw [h', if_neg (by decide)]
theorem cut_some {l : List UInt8} {k : Nat} (h : shut l = some k) : Lib.cut l [42, 47] = (l.take k, l.drop (k + 2), true) := by
  have := index_shut l
  rw [h] at this
  have h' : Lib.index l [42, 47] = (k : Int) := this
  unfold Lib.cut
  rw [h', if_pos (by omega)]
  simp
theorem one_kind (s : List UInt8) (h0 : s ≠ []) : (one s).x.kind < 256 := by
  have hite : ∀ (p : Prop) [Decidable p] (a b : Tk), a.kind < 256 → b.kind < 256 → (if p then a else b).kind < 256 := fun p _ a b h1 h2 => by split <;> assumption
  rw [one_eq]
  have hnum : (numeric s).x.kind < 256 := by rcases (numeric_le s h0).2.2.2 with h | h | h <;> omega
  have hurl : ∀ r, (url r).x.kind < 256 := fun r => hite _ _ _ (show (9 : Nat) < 256 by decide) (show (8 : Nat) < 256 by decide)
  have hword : (word s).x.kind < 256 := by
    rw [word_eq]
    split
    · exact (show (2 : Nat) < 256 by decide)
    split
    · exact (show (3 : Nat) < 256 by decide)
    split
    · exact (show (3 : Nat) < 256 by decide)
    · exact hurl _
  have htext : (text s).x.kind < 256 := by
    rw [text_eq]
    exact hite _ _ _ (show (7 : Nat) < 256 by decide) (show (6 : Nat) < 256 by decide)
  split
  · exact (show (1 : Nat) < 256 by decide)
  split
  · exact htext
  split
  · split
    · exact (show (5 : Nat) < 256 by decide)
    · exact (show (10 : Nat) < 256 by decide)
  split
  · split
    · exact (show (4 : Nat) < 256 by decide)
    · exact (show (10 : Nat) < 256 by decide)
  split
  · exact (show (16 : Nat) < 256 by decide)
  split
  · exact hnum
  split
  · exact (show (15 : Nat) < 256 by decide)
  split
  · exact (show (14 : Nat) < 256 by decide)
  split
  · exact hword
  · exact (show (10 : Nat) < 256 by decide)
end Cssp
open Go.RowKit

theorem info_tok : (Tryz.prog.info? 27).map (fun i => (i.zero, i.size, i.bytes)) = some (some (.agg #[.int .u8 0, .string .empty, .string .empty, .bool false]), 4, 48) := by kernel_rfl
/-- the cells of a list of tokens -/
def tokCells (l : List Cssp.Tk) : List Value := l.flatMap fun x => [.int .u8 x.kind, S x.t, S x.u, .bool x.flag]
theorem tokCells_append (l m : List Cssp.Tk) : tokCells (l ++ m) = tokCells l ++ tokCells m := by unfold tokCells; rw [List.flatMap_append]
theorem tokCells_one (c : Cssp.Tk) : tokCells [c] = [.int .u8 c.kind, S c.t, S c.u, .bool c.flag] := rfl
theorem ownsRow_below {w w' : World} {base : Nat} {e : TypeId} {size : Nat} {v : Value} {n : Nat} {xs : List Value} (h : w.ownsRow base e size v n xs) (hb : Below w.heap.size w w') : w'.ownsRow base e size v n xs :=
  h.kept (row := none) ⟨hb.os, hb.tape, hb.output, hb.size, fun k hk _ => hb.block k hk⟩ (by cases v.ownBlock <;> simp)
theorem ownsRow_base {w : World} {b b' : Nat} {e : TypeId} {size : Nat} {v : Value} {n : Nat} {xs : List Value} (h : w.ownsRow b e size v n xs) (hb : b' ≤ b) : w.ownsRow b' e size v n xs := by
  obtain ⟨h1, h2⟩ := h
  refine ⟨h1, ?_⟩
  rcases h2 with h2 | ⟨g, cap, cur, hv, hg, r⟩
  · exact .inl h2
  · exact .inr ⟨g, cap, cur, hv, Nat.le_trans hb hg, r⟩
theorem cell_four (w : World) (t : TypeId) (a b c d : Value) : ∀ j u, [a, b, c, d][j]? = some u → (w.alloc (.cells #[a, b, c, d] t)).cell? ((⟨w.heap.size, 0, none⟩ : Addr).add j) = some u := by
  intro j u hu
  have hadd : (⟨w.heap.size, 0, none⟩ : Addr).add j = ⟨w.heap.size, j, none⟩ := by unfold Addr.add; split <;> simp_all
  rw [hadd, World.cell?_alloc_at _ _ _ _ rfl]
  match j, hu with
  | 0, hu => simpa using hu
  | 1, hu => simpa using hu
  | 2, hu => simpa using hu
  | 3, hu => simpa using hu
theorem cutP (l : List UInt8) (w : World) : Calls Tryz.prog 24 #[S l, S [47, 42]] w (Ret (.tuple #[S (if ([47, 42] : List UInt8).isPrefixOf l = true then l.drop 2 else l), .bool (([47, 42] : List UInt8).isPrefixOf l)]) w) :=
  (Tryz.strings_CutPrefix ⟨l.toArray⟩ ⟨([47, 42] : List UInt8).toArray⟩ w).mono fun _ _ h => ⟨h.1, h.2.symm⟩
theorem cutC (l : List UInt8) (w : World) (ht : Tab w) (hl : l.length ≤ 1048576) : Calls Tryz.prog 25 #[S l, S [42, 47]] w fun e w' => e = .returned (.tuple #[S (Lib.cut l [42, 47]).1, S (Lib.cut l [42, 47]).2.1, .bool (Lib.cut l [42, 47]).2.2]) ∧ Below w.heap.size w w' := by
  obtain ⟨m, hm⟩ := ht.mx
  refine (Tryz.strings_Cut ⟨l.toArray⟩ ⟨([42, 47] : List UInt8).toArray⟩ m w (by rw [bl_size]; omega) hm).mono fun e w' h => ⟨h.1, ?_⟩
  obtain ⟨n, rfl⟩ := h.2
  exact belowN w n
/-- what all hands back -/
def AllP (A : Cssp.Al) (w : World) (e : Ending) (w' : World) : Prop := ∃ v, e = .returned (.tuple #[v, WV A.w, S A.rest]) ∧ w'.ownsRow w.heap.size 27 4 v A.l.length (tokCells A.l) ∧ Below w.heap.size w w'
/-- where a text ends, in a box -/
abbrev WB (w : World) (B : Nat) (x : Cssp.Wh) : Prop := Wx w B (x.state : Int) (x.quote.toNat : Int)
theorem Wx.set0 {w : World} {B : Nat} {a q : Int} (h : Wx w B a q) (a' : Int) : Wx (w.setCell ⟨B, 0, none⟩ (.int .u8 a')) B a' q := by
  have h' : w.heap[B]? = _ := h
  simp [Wx, World.setCell, Array.getElem?_modify, h']
theorem Wx.set1 {w : World} {B : Nat} {a q : Int} (h : Wx w B a q) (q' : Int) : Wx (w.setCell ⟨B, 1, none⟩ (.int .u8 q')) B a q' := by
  have h' : w.heap[B]? = _ := h
  simp [Wx, World.setCell, Array.getElem?_modify, h']
theorem owns_upto {w w' : World} {base q : Nat} {v : Value} {n : Nat} {xs : List Value} (h : w.ownsRow base 27 4 v n xs) (hu : Upto q w w') {cs : Array Value} {ty : TypeId} {f : Nat × Nat} (hq : w.heap[q]? = some (.cells cs ty f)) (hne : ty ≠ 27) : w'.ownsRow base 27 4 v n xs :=
  owns_of_block h fun g e => by
    obtain ⟨c, hc⟩ := ownsRow_kind h g e
    refine hu.2 g (heap_lt hc) fun eq => ?_
    subst eq
    rw [hq] at hc
    injection hc with hc
    injection hc with _ hc _
    exact hne hc
theorem put_all0 {w wr : World} {B : Nat} {a q : Int} {v : Value} {n : Nat} {xs : List Value} (h : Wx wr B a q) (hown : wr.ownsRow w.heap.size 27 4 v n xs) (hb : Below w.heap.size w wr) (hB : w.heap.size ≤ B) (a' q' : Int) :
    Wx ((wr.setCell ⟨B, 0, none⟩ (.int .u8 a')).setCell ⟨B, 1, none⟩ (.int .u8 q')) B a' q' ∧ ((wr.setCell ⟨B, 0, none⟩ (.int .u8 a')).setCell ⟨B, 1, none⟩ (.int .u8 q')).ownsRow w.heap.size 27 4 v n xs ∧
    Below w.heap.size w ((wr.setCell ⟨B, 0, none⟩ (.int .u8 a')).setCell ⟨B, 1, none⟩ (.int .u8 q')) ∧ Upto B wr ((wr.setCell ⟨B, 0, none⟩ (.int .u8 a')).setCell ⟨B, 1, none⟩ (.int .u8 q')) := by
  have hu : Upto B wr ((wr.setCell ⟨B, 0, none⟩ (.int .u8 a')).setCell ⟨B, 1, none⟩ (.int .u8 q')) := ((Upto.refl B wr).setCell 0 _).setCell 1 _
  have h' : wr.heap[B]? = some (.cells #[.int .u8 a, .int .u8 q] 36 (0, 0)) := h
  exact ⟨(h.set0 a').set1 q', owns_upto hown hu h' (by decide), (hb.setCell (p := ⟨B, 0, none⟩) hB _).setCell (p := ⟨B, 1, none⟩) hB _, hu⟩
theorem put_all {w wr : World} {B : Nat} {a q : Int} {v : Value} {n : Nat} {xs : List Value} (h : Wx wr B a q) (hown : wr.ownsRow w.heap.size 27 4 v n xs) (hb : Below w.heap.size w wr) (hB : w.heap.size ≤ B) (a' q' : Int) :
    Wx ((wr.setCell ⟨B, 0, none⟩ (.int .u8 a')).setCell ⟨B, 1, none⟩ (.int .u8 q')).drew B a' q' ∧ ((wr.setCell ⟨B, 0, none⟩ (.int .u8 a')).setCell ⟨B, 1, none⟩ (.int .u8 q')).drew.ownsRow w.heap.size 27 4 v n xs ∧
    Below w.heap.size w ((wr.setCell ⟨B, 0, none⟩ (.int .u8 a')).setCell ⟨B, 1, none⟩ (.int .u8 q')).drew := by
  have hu : Upto B wr ((wr.setCell ⟨B, 0, none⟩ (.int .u8 a')).setCell ⟨B, 1, none⟩ (.int .u8 q')) := ((Upto.refl B wr).setCell 0 _).setCell 1 _
  have h2 := (h.set0 a').set1 q'
  have hd : Below ((wr.setCell ⟨B, 0, none⟩ (.int .u8 a')).setCell ⟨B, 1, none⟩ (.int .u8 q')).heap.size ((wr.setCell ⟨B, 0, none⟩ (.int .u8 a')).setCell ⟨B, 1, none⟩ (.int .u8 q')) ((wr.setCell ⟨B, 0, none⟩ (.int .u8 a')).setCell ⟨B, 1, none⟩ (.int .u8 q')).drew := (Below.refl _ _).drew
  have h' : wr.heap[B]? = some (.cells #[.int .u8 a, .int .u8 q] 36 (0, 0)) := h
  refine ⟨h2.below hd, ownsRow_below (owns_upto hown hu h' (by decide)) hd, ?_⟩
  exact ((hb.setCell (p := ⟨B, 0, none⟩) hB _).setCell (p := ⟨B, 1, none⟩) hB _).drew
theorem KM.of_heap {w w' : World} {B : Nat} {l : List (UInt8 × Nat)} (h : KM w B l) (e : w'.heap[B]? = w.heap[B]?) : KM w' B l := by
  obtain ⟨es, c, h1, h2⟩ := h
  exact ⟨es, c, e.trans h1, h2⟩
set_option maxRecDepth 100000 in
set_option maxHeartbeats 4000000 in
theorem all_ (s : List UInt8) (w : World) (ht : Tab w) (hl : s.length ≤ 116000) : Calls Tryz.prog 18 #[S s] w (AllP (Cssp.all (Cssp.clean (Cssp.decode s))) w) := by
  obtain ⟨i0, hi, hz0, hz1, hz2⟩ := info_parts info_tok
  have hd := Cssp.decode_len _ s (Nat.le_refl _)
  have hc := cleanC_len false (Cssp.decode s)
  obtain ⟨C, hC⟩ : ∃ C, Cssp.clean (Cssp.decode s) = C := ⟨_, rfl⟩
  have hcl : C.length ≤ 3 * (Cssp.decode s).length := by rw [← hC]; exact hc
  have hcl2 : C.length ≤ 1048576 := by omega
  have hLx := fun W (hT : Tab W) => newLexer_ s W hT hl
  rw [hC] at hLx ⊢
  obtain ⟨A, hA⟩ : ∃ A, Cssp.all C = A := ⟨_, rfl⟩
  rw [hA]
  rw [Cssp.all_done] at hA
  have HA := hide hA
  have hWx := Wx.new w 0 0
  have hal := (Below.refl w.heap.size w).alloc (Nat.le_refl _) (.cells #[.int .u8 0, .int .u8 0] 36)
  have hlt := ht.lt
  clear hC hd hc hcl hA
  go_enter Tryz.func18, Tryz.ntmps18
  go_upto_region 1 with (fail)
  generalize hgen : w.alloc (.cells #[.int .u8 0, .int .u8 0] 36) = w1 at hWx hal ⊢
  clear hgen
  have hT1 := ht.below (by omega) hal
  have HLx := hide (hLx w1 hT1)
  have HW1 := hide hWx
  have HB1 := hide hal
  have hs1 := hal.size
  have hw1l : w.heap.size < w1.heap.size := heap_lt hWx
  clear hWx hal hT1 hLx
  go_wp2_with fail
  refine HLx.out.mono ?_
  rintro e w2 ⟨b, rfl, hb1, hx2, hb2⟩
  have HX2 := hide hx2
  have HW2 := hide (HW1.out.below hb2)
  have HB2 := hide (HB1.out.trans (hb2.mono hs1))
  have hs2 := HB2.out.size
  have hx2l := hx2.lt
  have HTk := hide (takers_ w2)
  clear HLx hx2 hb2 HW1 HB1
  go_wp2_with fail
  refine HTk.out.mono ?_
  rintro e w3 ⟨rfl, hk3, hb3⟩
  have HX3 := hide (HX2.out.below hb3)
  have HK3 := hide hk3
  have hw3 := HW2.out.below hb3
  have HB3 := hide (HB2.out.trans (hb3.mono hs2))
  have hs3 := HB3.out.size
  clear HTk hk3 hb3 HX2 HW2 HB2
  obtain ⟨c0, c1, c2, c3⟩ := HX3.out.cells
  obtain ⟨y0, y1⟩ := hw3.cells
  have g0 := hw3.frozen 0
  go_upto_region 4 with (fail)
  have hw4 := hw3.set0 1
  have hu4 := (Upto.refl w.heap.size w3).setCell 0 (.int .u8 1)
  have hx4 := HX3.out.of_heap (hu4.2 b HX3.out.lt (by omega))
  have hk4 := HK3.out.upto hu4 (by omega)
  have hb4 := HB3.out.setCell (p := ⟨w.heap.size, 0, none⟩) (Nat.le_refl _) (.int .u8 1)
  change Code.wp _ _ _ _ (w3.setCell ⟨w.heap.size, 0, none⟩ (.int .u8 1))
  generalize hgen : w3.setCell ⟨w.heap.size, 0, none⟩ (.int .u8 1) = w4 at hw4 hx4 hk4 hb4 ⊢
  clear hgen c0 c1 c2 c3 y0 y1 g0 hu4 hw3 HX3 HK3 HB3
  have HX4 := hide hx4
  have HK4 := hide hk4
  have HB4 := hide hb4
  have HW4 := hide (p := WB w4 w.heap.size ⟨1, 0⟩) hw4
  have hs4 := hb4.size
  obtain ⟨c0, c1, c2, c3⟩ := hx4.cells
  clear hx4 hk4 hb4 hw4
  obtain ⟨Bm, hBm⟩ : ∃ B, w2.heap.size = B := ⟨_, rfl⟩
  have hbm1 : b < Bm := by omega
  rw [hBm] at HK4 ⊢
  clear hBm hx2l hs2 hs3
  go_upto_region 5 with (fail)
  clear c0 c1 c2 c3
  go_loopg [2, 4] C.length (fun g s2 s4 wr => ∃ (l : List Cssp.Tk) (s' rest tl tt : List UInt8) (W : Cssp.Wh) (i o : Bool), s'.length ≤ g ∧ g ≤ C.length ∧ l.length + s'.length ≤ C.length ∧ s4 = S rest ∧ wr.ownsRow w.heap.size 27 4 s2 l.length (tokCells l) ∧
    Hid (Lx wr b s' i o tt) ∧ Hid (WB wr w.heap.size W) ∧ Hid (KM wr Bm known) ∧ Hid (Below w.heap.size w wr) ∧ Hid (Cssp.done l (Cssp.lp s' W tl) rest = A) ∧ Hid (W.quote ≠ 0 → W.state = 6 → tt = tl))
  case atStart => exact ⟨[], C, C, [], [], ⟨1, 0⟩, false, false, Nat.le_refl _, Nat.le_refl _, by simp, rfl, World.ownsRow_nil _ _ _ _, HX4.out, HW4.out, HK4.out, HB4.out, HA.out, fun h => absurd rfl h⟩
  case round =>
    obtain ⟨l, s', rest, tl, tt, W, i, o, hsg, hgc, hll, rfl, hown, hLx, hWB, hKM, hBl, hSt, hTl⟩ := hrel
    clear HX4 HK4 HB4 HW4 HA
    obtain ⟨c0, c1, c2, c3⟩ := hLx.out.cells
    obtain ⟨y0, y1⟩ := hWB.out.cells
    have g0 := hWB.out.frozen 0
    have g1 := hWB.out.frozen 1
    have hsr := hBl.out.size
    have hwbl : w.heap.size < wr.heap.size := heap_lt hWB.out
    obtain ⟨WS, WQ⟩ := W
    simp only at y0 y1
    cases s' with
    | nil =>
      have hA := hSt.out
      rw [Cssp.done_nil] at hA
      obtain ⟨ao, cap, rfl⟩ : ∃ ao cap, u2 = .slice ao l.length cap := by
        rcases hown.2 with ⟨hv, h0⟩ | ⟨g, cap, cur, hv, _⟩
        · exact ⟨none, 0, by rw [hv, h0]⟩
        · exact ⟨_, _, hv⟩
      by_cases hq : WQ = 0
      · have q1 : ((WQ.toNat : Int) == 0) = true := u8t hq
        rw [if_pos hq] at hA
        have HA := hide hA
        clear hA hSt hTl hq
        go_wp2_with fail
        go_region
        have hpa := put_all hWB.out hown hBl.out (Nat.le_refl _) (WS : Int) (WQ.toNat : Int)
        generalize hgen : ((wr.setCell ⟨w.heap.size, 0, none⟩ (.int .u8 (WS : Int))).setCell ⟨w.heap.size, 1, none⟩ (.int .u8 (WQ.toNat : Int))).drew = wz at hpa ⊢
        clear hgen
        obtain ⟨hwz, hoz, hbz⟩ := hpa
        obtain ⟨z0, z1⟩ := hwz.cells
        have HOZ := hide hoz
        have HBZ := hide hbz
        clear hoz hbz hwz y0 y1 hown
        go_wp2_with fail
        refine bodyPost_ret (v := .tuple #[.slice ao l.length cap, WV ⟨WS, WQ⟩, S rest]) (by simp [results, Tryz.results18, go_sem, z0, z1]) rfl ?_
        rw [← HA.out]
        exact ⟨.slice ao l.length cap, rfl, HOZ.out, HBZ.out⟩
      · have q1 : ((WQ.toNat : Int) == 0) = false := u8f hq
        rw [if_neg hq] at hA
        by_cases hs6 : WS = 6
        · have q2 : ((WS : Int) == 6) = true := by rw [beq_iff_eq]; omega
          rw [if_pos hs6] at hA
          have htl : tt = tl := hTl.out hq hs6
          subst htl
          have HA := hide hA
          clear hA hSt hTl hq hs6
          go_wp2_with fail
          go_region
          have hpa := put_all hWB.out hown hBl.out (Nat.le_refl _) (WS : Int) (WQ.toNat : Int)
          generalize hgen : ((wr.setCell ⟨w.heap.size, 0, none⟩ (.int .u8 (WS : Int))).setCell ⟨w.heap.size, 1, none⟩ (.int .u8 (WQ.toNat : Int))).drew = wz at hpa ⊢
          clear hgen
          obtain ⟨hwz, hoz, hbz⟩ := hpa
          obtain ⟨z0, z1⟩ := hwz.cells
          have HOZ := hide hoz
          have HBZ := hide hbz
          clear hoz hbz hwz y0 y1 hown
          go_wp2_with fail
          refine bodyPost_ret (v := .tuple #[.slice ao l.length cap, WV ⟨WS, WQ⟩, S tt]) (by simp [results, Tryz.results18, go_sem, z0, z1]) rfl ?_
          rw [← HA.out]
          exact ⟨.slice ao l.length cap, rfl, HOZ.out, HBZ.out⟩
        · have q2 : ((WS : Int) == 6) = false := by rw [beq_eq_false_iff_ne]; omega
          rw [if_neg hs6] at hA
          have HA := hide hA
          clear hA hSt hTl hq hs6
          go_wp2_with fail
          go_region
          have hpa := put_all hWB.out hown hBl.out (Nat.le_refl _) (WS : Int) (WQ.toNat : Int)
          generalize hgen : ((wr.setCell ⟨w.heap.size, 0, none⟩ (.int .u8 (WS : Int))).setCell ⟨w.heap.size, 1, none⟩ (.int .u8 (WQ.toNat : Int))).drew = wz at hpa ⊢
          clear hgen
          obtain ⟨hwz, hoz, hbz⟩ := hpa
          obtain ⟨z0, z1⟩ := hwz.cells
          have HOZ := hide hoz
          have HBZ := hide hbz
          clear hoz hbz hwz y0 y1 hown
          go_wp2_with fail
          refine bodyPost_ret (v := .tuple #[.slice ao l.length cap, WV ⟨WS, WQ⟩, S []]) (by simp [results, Tryz.results18, go_sem, z0, z1]) rfl ?_
          rw [← HA.out]
          exact ⟨.slice ao l.length cap, rfl, HOZ.out, HBZ.out⟩
    | cons c r =>
      have hslen : (c :: r).length ≤ 1048576 := by omega
      have hCP := hide (cutP (c :: r) wr)
      obtain ⟨ao, cap, rfl⟩ : ∃ ao cap, u2 = .slice ao l.length cap := by
        rcases hown.2 with ⟨hv, h0⟩ | ⟨g, cap, cur, hv, _⟩
        · exact ⟨none, 0, by rw [hv, h0]⟩
        · exact ⟨_, _, hv⟩
      cases hcp : ([47, 42] : List UInt8).isPrefixOf (c :: r) with
      | true =>
        rw [hcp, if_pos rfl] at hCP
        have hst := hSt.out
        obtain ⟨u, hu⟩ : ∃ u, (c :: r).drop 2 = u := ⟨_, rfl⟩
        have hul : u.length + 2 ≤ (c :: r).length := by
          have := List.IsPrefix.length_le (List.isPrefixOf_iff_prefix.1 hcp)
          rw [← hu, List.length_drop]
          simp only [List.length_cons, List.length_nil] at this ⊢
          omega
        have hCC := cutC u wr (ht.below (by omega) hBl.out) (by omega)
        rw [hu] at hCP
        cases hk : Cssp.shut u with
        | none =>
          rw [Cssp.done_open _ _ _ _ _ hcp (by rw [hu]; exact hk)] at hst
          rw [Cssp.cut_none hk] at hCC
          have HCC := hide hCC
          have HA := hide hst
          clear hcp hst hu hk hCC hSt hTl
          go_wp2_with fail
          refine hCP.out.mono ?_
          rintro e w' ⟨rfl, rfl⟩
          clear hCP
          go_wp2_with fail
          refine HCC.out.mono ?_
          rintro e w5 ⟨rfl, hb5⟩
          have hw5 := hWB.out.below hb5
          have ho5 := ownsRow_below hown hb5
          have hbl5 := hBl.out.trans (hb5.mono hsr)
          obtain ⟨y0, y1⟩ := hw5.cells
          have g0 := hw5.frozen 0
          have g1 := hw5.frozen 1
          have hpa := put_all0 hw5 ho5 hbl5 (Nat.le_refl _) 5 0
          have HPA := hide hpa
          clear hpa HCC hb5 hw5 ho5 hbl5 hown
          go_wp2_with fail
          obtain ⟨hwz, hoz, hbz, -⟩ := HPA.out
          obtain ⟨z0, z1⟩ := hwz.cells
          refine bodyPost_ret (v := .tuple #[.slice ao l.length cap, WV ⟨5, 0⟩, S rest]) (by simp [results, Tryz.results18, go_sem, z0, z1]) rfl ?_
          rw [← HA.out]
          exact ⟨.slice ao l.length cap, rfl, hoz, hbz⟩
        | some k =>
          rw [Cssp.done_shut _ _ _ _ _ k hcp (by rw [hu]; exact hk), hu] at hst
          rw [Cssp.cut_some hk] at hCC
          have hkl := (Cssp.shut_app u [] k hk).2
          obtain ⟨u2, hu2⟩ : ∃ x, u.drop (k + 2) = x := ⟨_, rfl⟩
          obtain ⟨u1, hu1⟩ : ∃ x, u.take k = x := ⟨_, rfl⟩
          have hu2l : u2.length + 2 ≤ u.length := by rw [← hu2, List.length_drop]; omega
          rw [hu1, hu2] at hCC
          rw [hu2] at hst
          have HCC := hide hCC
          have HST := hide hst
          simp only [List.length_cons] at hsg hll hul
          clear hcp hst hu hk hCC hSt hTl hu2 hu1 hkl
          go_wp2_with fail
          refine hCP.out.mono ?_
          rintro e w' ⟨rfl, rfl⟩
          clear hCP
          go_wp2_with fail
          refine HCC.out.mono ?_
          rintro e w5 ⟨rfl, hb5⟩
          have hw5 := hWB.out.below hb5
          have ho5 := ownsRow_below hown hb5
          have hbl5 := hBl.out.trans (hb5.mono hsr)
          have hx5 := hLx.out.below hb5
          have hk5 := hKM.out.below hb5
          have hu6 := (Upto.refl b w5).setCell 0 (S u2)
          have hx6 := hx5.set0 u2
          have hw6 := (hu6.2 w.heap.size (heap_lt hw5) (by omega)).trans (show w5.heap[w.heap.size]? = _ from hw5)
          have ho6 := owns_upto ho5 hu6 (show w5.heap[b]? = _ from hx5) (by decide)
          have hk6 := hk5.upto hu6 (by omega)
          have hbl6 := hbl5.setCell (p := ⟨b, 0, none⟩) (show w.heap.size ≤ b by omega) (S u2)
          obtain ⟨c0, c1, c2, c3⟩ := hx5.cells
          have f0 := hx5.frozen 0
          clear HCC hb5 hown y0 y1 g0 g1 hw5 ho5 hbl5 hk5 hLx hWB hKM hBl
          go_upto_region 12 with (fail)
          change Code.wp _ _ _ _ (w5.setCell ⟨b, 0, none⟩ (S u2))
          generalize hgen : w5.setCell ⟨b, 0, none⟩ (S u2) = w6 at hx6 hw6 ho6 hk6 hbl6 ⊢
          clear hgen c0 c1 c2 c3 f0 hx5 hu6
          have hw6' : Wx w6 w.heap.size (WS : Int) (WQ.toNat : Int) := hw6
          obtain ⟨y0, y1⟩ := hw6'.cells
          have g0 := hw6'.frozen 0
          have g1 := hw6'.frozen 1
          obtain ⟨p1, p2, p3, p4⟩ := put_all0 hw6' ho6 hbl6 (Nat.le_refl _) 1 0
          have hx7 := hx6.of_heap (p4.2 b hx6.lt (by omega))
          have hk7 := hk6.upto p4 (by omega)
          have P1 := hide (p := WB ((w6.setCell ⟨w.heap.size, 0, none⟩ (.int .u8 1)).setCell ⟨w.heap.size, 1, none⟩ (.int .u8 0)) w.heap.size ⟨1, 0⟩) p1
          have P2 := hide p2
          have P3 := hide p3
          have HX7 := hide hx7
          have HK7 := hide hk7
          clear p1 p2 p3 p4 hx7 hk7 hw6 ho6 hk6 hbl6 hx6 hw6'
          go_wp2_with fail
          go_roundg (gk - 1)
          case measure => omega
          case rel => exact ⟨l, u2, u2, tl, tt, ⟨1, 0⟩, i, o, by omega, by omega, by omega, rfl, P2.out, HX7.out, P1.out, HK7.out, P3.out, HST.out, fun h => absurd rfl h⟩
      | false =>
        rw [hcp, if_neg (by decide)] at hCP
        have hst := hSt.out
        rw [Cssp.done_one _ _ _ _ _ (by simp) hcp] at hst
        have hNx := next_ c r tt b Bm i o wr hLx.out hKM.out (by omega) hslen
        have hkd := Cssp.one_kind (c :: r) (by simp)
        obtain ⟨ol1, ol2, -, -⟩ := Cssp.one_le (c :: r) (by simp)
        obtain ⟨X, hX⟩ : ∃ X, Cssp.one (c :: r) = X := ⟨_, rfl⟩
        rw [hX] at hst hNx hkd ol1 ol2
        obtain ⟨xx, uk, uo, ui, ue⟩ := X
        have hat : Cssp.at_ (c :: r) 0 = c := rfl
        rw [hat] at hst
        have hEn := fun (W : World) (sx tx : List UInt8) (hW : Lx W b sx ui uo tx) => ends_ xx uk ue c sx tx b ui uo W hW hkd
        have hqt : ∀ (hq : (Cssp.ends ⟨xx, uk, uo, ui, ue⟩ c).quote ≠ 0) (h6 : (Cssp.ends ⟨xx, uk, uo, ui, ue⟩ c).state = 6), ui = true ∧ uo = true ∧ xx.kind = 6 := fun hq h6 => by
          obtain ⟨e1, e2⟩ := Cssp.ends_quote hq
          refine ⟨e1, ?_, e2⟩
          unfold Cssp.ends at h6
          rw [if_pos ⟨e1, e2⟩] at h6
          cases uo with
          | true => rfl
          | false => exact absurd h6 (show (3 : Nat) ≠ 6 by decide)
        obtain ⟨W', hW'⟩ : ∃ W', Cssp.ends ⟨xx, uk, uo, ui, ue⟩ c = W' := ⟨_, rfl⟩
        rw [hW'] at hst hEn hqt
        obtain ⟨WS', WQ'⟩ := W'
        simp only at hst hqt ol1 ol2
        obtain ⟨s2, hs2⟩ : ∃ x, (c :: r).drop uk = x := ⟨_, rfl⟩
        obtain ⟨tl2, htl2⟩ : ∃ x, (c :: r).drop ue = x := ⟨_, rfl⟩
        have hs2l : s2.length + 1 ≤ (c :: r).length := by rw [← hs2, List.length_drop]; omega
        rw [hs2, htl2] at hst
        simp only [List.length_cons] at hsg hll hs2l
        have HNX := hide hNx
        have HST := hide hst
        have HQT := hide hqt
        have HS2 := hide hs2
        have HTL2 := hide htl2
        have HEN := fun W sx tx hW => hide (hEn W sx tx hW)
        clear hcp hst hNx hX hat hEn hqt hW' hs2 htl2 hSt hTl ol1 ol2
        go_wp2_with fail
        refine hCP.out.mono ?_
        rintro e w' ⟨rfl, rfl⟩
        clear hCP
        go_wp2_with fail
        refine HNX.out.mono ?_
        rintro e w5 ⟨t5, ⟨rfl, hx5, hu5⟩, htl5⟩
        simp only at hx5 htl5
        rw [HS2.out] at hx5
        rw [HTL2.out] at htl5
        have hw5 : Wx w5 w.heap.size (WS : Int) (WQ.toNat : Int) := (hu5.2 w.heap.size hwbl (by omega)).trans (show wr.heap[w.heap.size]? = _ from hWB.out)
        have ho5 := owns_upto hown hu5 (show wr.heap[b]? = _ from hLx.out) (by decide)
        have hk5 := hKM.out.upto hu5 (by omega)
        have hbl5 := hBl.out.trans (hu5.below (B := w.heap.size) (by omega) hsr)
        have hs5 := hu5.size
        have HTL5 := hide htl5
        clear HNX hown y0 y1 g0 g1 c0 c1 c2 c3 hLx hWB hKM hBl hu5 htl5 HS2 HTL2
        -- the token in its box; the list grows
        have hxt := Xt.new w5 xx
        have hal5 := (Below.refl w5.heap.size w5).alloc (Nat.le_refl _) (.cells (cellsT xx) 27)
        go_upto_region 15 with (fail)
        change Code.wp _ _ _ _ (w5.alloc (.cells (cellsT xx) 27))
        generalize hgen : w5.alloc (.cells (cellsT xx) 27) = w6 at hxt hal5 ⊢
        clear hgen
        have hx6 := hx5.below hal5
        have hw6 := hw5.below hal5
        have ho6 := ownsRow_below ho5 hal5
        have hk6 := hk5.below hal5
        have hbl6 := hbl5.trans (hal5.mono (by omega))
        have hs6 := hal5.size
        have hrl := fun k hk => (ho5.lt k hk).2
        obtain ⟨x0, x1, x2, x3⟩ := xx
        obtain ⟨t0, t1, t2, t3⟩ := hxt.cells
        simp only at t0 t1 t2 t3
        have HX6 := hide hx6
        have HW6 := hide hw6
        have HK6 := hide hk6
        have HB6 := hide hbl6
        have HXT := hide hxt
        have hxtl := heap_lt hxt
        clear hx5 hw5 ho5 hk5 hbl5 hal5 hx6 hw6 hk6 hbl6 hxt
        go_wp2_with (at_builtin; refine wpList_append_own _ rfl _ _ 23 rfl w.heap.size 27 i0 (.agg #[.int .u8 0, .string .empty, .string .empty, .bool false]) 4 48 Tryz.underlying23 hi hz0 hz1 hz2 rfl (by decide) _ _ _ rfl (ho6.alloc _) ⟨w6.heap.size, 0, none⟩ 1 1 [.int .u8 x0, S x1, S x2, .bool x3] rfl rfl (cell_four w6 27 (.int .u8 x0) (S x1) (S x2) (.bool x3)) ?c2 ?c3 ?c4 ?c5 ?_)
        case c2 => exact ⟨rfl, rfl, rfl, rfl⟩
        case c3 => unfold maxLen; omega
        case c4 => omega
        case c5 => have := HB6.out.size; simp; omega
        intro v' w8 hown' hgrow _
        have hn : ∀ k, k < w6.heap.size → (Value.slice ao l.length cap).ownBlock ≠ some k → w8.heap[k]? = w6.heap[k]? := fun k hk hne => (hgrow.block k (by simp; omega) (fun e => hne e.symm)).trans (Below.heap_alloc _ _ _ hk)
        have hnt : ∀ (k : Nat) (cs : Array Value) (ty : TypeId) (f : Nat × Nat), w6.heap[k]? = some (Obj.cells cs ty f) → ty ≠ 27 → w8.heap[k]? = w6.heap[k]? := fun k cs ty f hk hty => hn k (heap_lt hk) (fun e => by
          obtain ⟨c', hc'⟩ := ownsRow_kind ho6 k e
          rw [hk] at hc'
          injection hc' with hc'
          injection hc' with _ hc' _
          exact hty hc')
        have hx8 := HX6.out.of_heap (hnt b _ _ _ (show w6.heap[b]? = some (Obj.cells #[S s2, .bool ui, .bool uo, S t5] 50 (0, 0)) from HX6.out) (by decide))
        have hw8 : Wx w8 w.heap.size (WS : Int) (WQ.toNat : Int) := (hnt _ _ _ _ (show w6.heap[w.heap.size]? = some (Obj.cells #[.int .u8 (WS : Int), .int .u8 (WQ.toNat : Int)] 36 (0, 0)) from HW6.out) (by decide)).trans HW6.out
        have hk8 : KM w8 Bm known := HK6.out.of_heap (hn Bm HK6.out.lt (fun e => by
          obtain ⟨c', hc'⟩ := ownsRow_kind ho6 Bm e
          obtain ⟨es, cl, h1, -⟩ := HK6.out
          rw [h1] at hc'
          cases hc'))
        have hxt8 : Xt w8 w5.heap.size ⟨x0, x1, x2, x3⟩ := (hn _ hxtl (fun e => absurd (hrl _ e) (Nat.lt_irrefl _))).trans HXT.out
        have hbl8 : Below w.heap.size w w8 := (HB6.out.alloc HB6.out.size _).grown hgrow (by have := HB6.out.size; simp; omega) (fun k hk => (ho6.lt k hk).1)
        have ho8 : w8.ownsRow w.heap.size 27 4 v' (l ++ [(⟨x0, x1, x2, x3⟩ : Cssp.Tk)]).length (tokCells (l ++ [(⟨x0, x1, x2, x3⟩ : Cssp.Tk)])) := by rw [tokCells_append, tokCells_one]; simpa using hown'
        clear hn hnt hown' hgrow ho6 hrl t0 t1 t2 t3 HX6 HW6 HK6 HB6 HXT hxtl
        obtain ⟨t0, t1, t2, t3⟩ := hxt8.cells
        simp only at t0 t1 t2 t3
        have HE := HEN w8 s2 t5 hx8
        have HX8 := hide hx8
        have HW8 := hide hw8
        have HK8 := hide hk8
        have HB8 := hide hbl8
        have HO8 := hide ho8
        clear hx8 hw8 hk8 hbl8 ho8 hxt8 HEN
        go_wp2_with fail
        refine HE.out.mono ?_
        rintro e w9 ⟨rfl, hb9⟩
        have hx9 := HX8.out.below hb9
        have hw9 := HW8.out.below hb9
        have hk9 := HK8.out.below hb9
        have ho9 := ownsRow_below HO8.out hb9
        have hbl9 := HB8.out.trans (hb9.mono HB8.out.size)
        obtain ⟨y0, y1⟩ := hw9.cells
        have g0 := hw9.frozen 0
        have g1 := hw9.frozen 1
        obtain ⟨p1, p2, p3, p4⟩ := put_all0 hw9 ho9 hbl9 (Nat.le_refl _) (WS' : Int) (WQ'.toNat : Int)
        have hx10 := hx9.of_heap (p4.2 b hx9.lt (by omega))
        have hk10 := hk9.upto p4 (by omega)
        clear HE hb9 hx9 hw9 hk9 ho9 hbl9 p4 HX8 HW8 HK8 HB8 HO8 t0 t1 t2 t3
        go_upto_region 17 with (fail)
        change Code.wp _ _ _ _ ((w9.setCell ⟨w.heap.size, 0, none⟩ (.int .u8 (WS' : Int))).setCell ⟨w.heap.size, 1, none⟩ (.int .u8 (WQ'.toNat : Int)))
        generalize hgen : (w9.setCell ⟨w.heap.size, 0, none⟩ (.int .u8 (WS' : Int))).setCell ⟨w.heap.size, 1, none⟩ (.int .u8 (WQ'.toNat : Int)) = w10 at p1 p2 p3 hx10 hk10 ⊢
        clear hgen y0 y1 g0 g1
        obtain ⟨y0, y1⟩ := p1.cells
        obtain ⟨c0, c1, c2, c3⟩ := hx10.cells
        have P1 := hide (p := WB w10 w.heap.size ⟨WS', WQ'⟩) p1
        have P2 := hide p2
        have P3 := hide p3
        have HX10 := hide hx10
        have HK10 := hide hk10
        have HTT : Hid (WQ' ≠ 0 → WS' = 6 → t5 = tl2) := fun h1 h2 => by
          obtain ⟨a1, a2, a3⟩ := HQT.out h1 h2
          exact HTL5.out a1 a2 a3
        clear p1 p2 p3 hx10 hk10 HTL5 HQT
        have hll2 : (l ++ [(⟨x0, x1, x2, x3⟩ : Cssp.Tk)]).length + s2.length ≤ C.length := by rw [List.length_append]; simp only [List.length_cons, List.length_nil]; omega
        by_cases hp : WS' = 1
        · have hst := HST.out
          rw [if_pos hp] at hst
          have HST2 := hide hst
          have q1 : ((WS' : Int) == 1) = true := by rw [beq_iff_eq]; omega
          clear hst HST hp
          go_wp2_with fail
          go_roundg (gk - 1)
          case measure => omega
          case rel => exact ⟨l ++ [(⟨x0, x1, x2, x3⟩ : Cssp.Tk)], s2, s2, tl2, t5, ⟨WS', WQ'⟩, ui, uo, by omega, by omega, hll2, rfl, P2.out, HX10.out, P1.out, HK10.out, P3.out, HST2.out, HTT.out⟩
        · have hst := HST.out
          rw [if_neg hp] at hst
          have HST2 := hide hst
          have q1 : ((WS' : Int) == 1) = false := by rw [beq_eq_false_iff_ne]; omega
          clear hst HST hp
          go_wp2_with fail
          go_roundg (gk - 1)
          case measure => omega
          case rel => exact ⟨l ++ [(⟨x0, x1, x2, x3⟩ : Cssp.Tk)], s2, rest, tl2, t5, ⟨WS', WQ'⟩, ui, uo, by omega, by omega, hll2, rfl, P2.out, HX10.out, P1.out, HK10.out, P3.out, HST2.out, HTT.out⟩
end Go.Proofs.YtojgcangnkjmjaaGreatDoor
