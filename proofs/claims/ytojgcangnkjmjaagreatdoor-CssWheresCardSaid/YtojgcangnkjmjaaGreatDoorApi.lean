/- Tokens, Where, Rest; two lists of tokens compared. -/
import Derived.Test.YtojgcangnkjmjaaGreatDoorAll
import Derived.BigRegion
namespace Go.Proofs.YtojgcangnkjmjaaGreatDoor
open Go.RowKit

/-- what is made of a text -/
def Cssp.read (s : List UInt8) : Cssp.Al := Cssp.all (Cssp.clean (Cssp.decode s))
/-- tokens handed back in memory of the call's own -/
def TokR (l : List Cssp.Tk) (w : World) (e : Ending) (w' : World) : Prop :=
  ∃ v, e = .returned v ∧ w'.ownsRow w.heap.size 27 4 v l.length (tokCells l) ∧ Below w.heap.size w w'
set_option maxRecDepth 100000 in
set_option maxHeartbeats 2000000 in
theorem tokens_ (s : List UInt8) (w : World) (ht : Tab w) (hl : s.length ≤ 116000) : Calls Tryz.prog 10 #[S s] w (TokR (Cssp.read s).l w) := by
  have HT := hide (all_ s w ht hl)
  obtain ⟨A, hA⟩ : ∃ A, Cssp.all (Cssp.clean (Cssp.decode s)) = A := ⟨_, rfl⟩
  have hr : Cssp.read s = A := hA
  rw [hA] at HT
  rw [hr]
  clear hA hr
  obtain ⟨L, ⟨WS, WQ⟩, R⟩ := A
  go_enter Tryz.func10, Tryz.ntmps10
  go_wp2_with fail
  refine HT.out.mono ?_
  rintro e w1 ⟨v, rfl, ho, hb⟩
  have HO := hide (ownsRow_below ho ((Below.refl _ w1).alloc (Nat.le_refl _) (.cells #[.int .u8 WS, .int .u8 WQ.toNat] 36)))
  have HB := hide (hb.alloc hb.size (.cells #[.int .u8 WS, .int .u8 WQ.toNat] 36))
  obtain ⟨ao, cap, rfl⟩ : ∃ ao cap, v = .slice ao L.length cap := by
    rcases ho.2 with ⟨hv, h0⟩ | ⟨g, cap, cur, hv, _⟩
    · exact ⟨none, 0, by rw [hv, h0]⟩
    · exact ⟨_, _, hv⟩
  clear ho hb HT
  go_wp2_with fail
  go_ret
  exact ⟨_, rfl, HO.out, HB.out⟩
set_option maxRecDepth 100000 in
set_option maxHeartbeats 2000000 in
theorem where_ (s : List UInt8) (w : World) (ht : Tab w) (hl : s.length ≤ 116000) : Calls Tryz.prog 13 #[S s] w (Fresh (WV (Cssp.read s).w) w) := by
  have hal := (Below.refl w.heap.size w).alloc (Nat.le_refl _) (.cells #[.int .u8 0, .int .u8 0] 36)
  have hwx := Wx.new w 0 0
  have hlt := ht.lt
  have HT := hide (all_ s (w.alloc (.cells #[.int .u8 0, .int .u8 0] 36)) (ht.below (by omega) hal) hl)
  obtain ⟨A, hA⟩ : ∃ A, Cssp.all (Cssp.clean (Cssp.decode s)) = A := ⟨_, rfl⟩
  have hr : Cssp.read s = A := hA
  rw [hA] at HT
  rw [hr]
  clear hA hr
  obtain ⟨L, ⟨WS, WQ⟩, R⟩ := A
  go_enter Tryz.func13, Tryz.ntmps13
  go_wp2_with fail
  refine HT.out.mono ?_
  rintro e w1 ⟨v, rfl, ho, hb⟩
  have HW1 := hide (hwx.below hb)
  have HB1 := hide (hal.trans (hb.mono hal.size))
  obtain ⟨ao, cap, rfl⟩ : ∃ ao cap, v = .slice ao L.length cap := by
    rcases ho.2 with ⟨hv, h0⟩ | ⟨g, cap, cur, hv, _⟩
    · exact ⟨none, 0, by rw [hv, h0]⟩
    · exact ⟨_, _, hv⟩
  have hw2 := HW1.out.below ((Below.refl _ w1).alloc (Nat.le_refl _) (.cells #[.int .u8 WS, .int .u8 WQ.toNat] 36))
  have hb2 := HB1.out.alloc HB1.out.size (.cells #[.int .u8 WS, .int .u8 WQ.toNat] 36)
  have hn2 := Wx.new w1 (WS : Int) (WQ.toNat : Int)
  clear ho hb HT hal hwx HW1 HB1
  go_upto_region 2 with (fail)
  change Code.wp _ _ _ _ (w1.alloc (.cells #[.int .u8 WS, .int .u8 WQ.toNat] 36))
  generalize hgen : w1.alloc (.cells #[.int .u8 WS, .int .u8 WQ.toNat] 36) = w2 at hw2 hb2 hn2 ⊢
  clear hgen
  obtain ⟨y0, y1⟩ := hw2.cells
  obtain ⟨n0, n1⟩ := hn2.cells
  have g0 := hw2.frozen 0
  have g1 := hw2.frozen 1
  obtain ⟨q0, q1⟩ := ((hw2.set0 (WS : Int)).set1 (WQ.toNat : Int)).cells
  have HB3 := hide ((hb2.setCell (p := ⟨w.heap.size, 0, none⟩) (Nat.le_refl _) (.int .u8 WS)).setCell (p := ⟨w.heap.size, 1, none⟩) (Nat.le_refl _) (.int .u8 WQ.toNat))
  clear hw2 hb2 hn2
  go_wp2_with fail
  refine bodyPost_ret (v := WV ⟨WS, WQ⟩) (by simp [results, Tryz.results13, go_sem, q0, q1]) rfl ⟨rfl, HB3.out⟩
set_option maxRecDepth 100000 in
set_option maxHeartbeats 2000000 in
theorem rest_ (s : List UInt8) (w : World) (ht : Tab w) (hl : s.length ≤ 116000) : Calls Tryz.prog 15 #[S s] w (Fresh (S (Cssp.read s).rest) w) := by
  have HT := hide (all_ s w ht hl)
  obtain ⟨A, hA⟩ : ∃ A, Cssp.all (Cssp.clean (Cssp.decode s)) = A := ⟨_, rfl⟩
  have hr : Cssp.read s = A := hA
  rw [hA] at HT
  rw [hr]
  clear hA hr
  obtain ⟨L, ⟨WS, WQ⟩, R⟩ := A
  go_enter Tryz.func15, Tryz.ntmps15
  go_wp2_with fail
  refine HT.out.mono ?_
  rintro e w1 ⟨v, rfl, ho, hb⟩
  have HB := hide (hb.alloc hb.size (.cells #[.int .u8 WS, .int .u8 WQ.toNat] 36))
  obtain ⟨ao, cap, rfl⟩ : ∃ ao cap, v = .slice ao L.length cap := by
    rcases ho.2 with ⟨hv, h0⟩ | ⟨g, cap, cur, hv, _⟩
    · exact ⟨none, 0, by rw [hv, h0]⟩
    · exact ⟨_, _, hv⟩
  clear ho hb HT
  go_wp2_with fail
  go_ret
  exact ⟨rfl, HB.out⟩

/-! ### lists of tokens -/
/-- a slice that reads as a list of tokens -/
def RT (w : World) (v : Value) (l : List Cssp.Tk) : Prop :=
  (l = [] ∧ ∃ a c, v = .slice a 0 c) ∨
  ∃ b o cap, v = .slice (some ⟨b, o, none⟩) l.length cap ∧ b < w.heap.size ∧ ∀ (i : Nat) (c : Cssp.Tk), l[i]? = some c →
    w.cell? ⟨b, o + i * 4, none⟩ = some (.int .u8 c.kind) ∧ w.cell? ⟨b, o + i * 4 + 1, none⟩ = some (S c.t) ∧ w.cell? ⟨b, o + i * 4 + 2, none⟩ = some (S c.u) ∧ w.cell? ⟨b, o + i * 4 + 3, none⟩ = some (.bool c.flag)
theorem fields_tok : Tryz.prog.underlying 27 = some (.struct (Tryz.prog.fieldsOf 27)) := by kernel_rfl
theorem held_tok : Tryz.prog.stoodInHeld 27 = false := by kernel_rfl
theorem eq_tok (d : Nat) (a a' u u' : List UInt8) (k k' : Int) (f f' : Bool) (w : World) :
    Sem.run Tryz.prog (Op.equalIn (d + 2) 27 (.agg #[.int .u8 k, S a, S u, .bool f]) (.agg #[.int .u8 k', S a', S u', .bool f'])) w = .ok ((k == k') && (a == a') && (u == u') && (f == f')) w := by
  rw [run_equalIn_struct w (d + 1) 27 _ _ fields_tok held_tok]
  simp [go_sem, Tryz.underlying27]
  by_cases h1 : a = a' <;> by_cases h2 : k = k' <;> by_cases h3 : u = u' <;> by_cases h4 : f = f' <;> simp [h1, h2, h3, h4]
theorem tok_neq (a a' u u' : List UInt8) (k k' : Int) (f f' : Bool) (w : World) :
    Sem.run Tryz.prog (binOp .neq 27 (.agg #[.int .u8 k, S a, S u, .bool f]) (.agg #[.int .u8 k', S a', S u', .bool f'])) w = .ok (.bool !((k == k') && (a == a') && (u == u') && (f == f'))) w := by
  simp only [binOp]
  simp only [Op.equal, Op.maxDepth, Sem.run_bind, eq_tok 9998, Result.andThen_ok, Sem.run_pure]
theorem where_eql (a q a' q' : Int) (w : World) : Sem.run Tryz.prog (binOp .eql 36 (.agg #[.int .u8 a, .int .u8 q]) (.agg #[.int .u8 a', .int .u8 q'])) w = .ok (.bool ((a == a') && (q == q'))) w := by
  have hf : Tryz.prog.underlying 36 = some (.struct (Tryz.prog.fieldsOf 36)) := by kernel_rfl
  have hh : Tryz.prog.stoodInHeld 36 = false := by kernel_rfl
  have heq : ∀ d, Sem.run Tryz.prog (Op.equalIn (d + 2) 36 (.agg #[.int .u8 a, .int .u8 q]) (.agg #[.int .u8 a', .int .u8 q'])) w = .ok ((a == a') && (q == q')) w := fun d => by
    rw [run_equalIn_struct w (d + 1) 36 _ _ hf hh]
    simp [go_sem, Tryz.underlying36]
    by_cases h1 : a = a' <;> by_cases h2 : q = q' <;> simp [h1, h2]
  simp only [binOp]
  simp only [Op.equal, Op.maxDepth, Sem.run_bind, heq 9998, Result.andThen_ok, Sem.run_pure]
def Quiet (v : Value) (w : World) (e : Ending) (w' : World) : Prop := e = .returned v ∧ ∃ n, w' = w.drewN n
set_option maxHeartbeats 2000000 in
theorem same_lit (b o cap b' o' cap' : Nat) (l m : List Cssp.Tk) (w : World) (hlm : l.length = m.length) (hl : l.length ≤ maxLen)
    (h1 : ∀ (i : Nat) (c : Cssp.Tk), l[i]? = some c → w.cell? ⟨b, o + i * 4, none⟩ = some (.int .u8 c.kind) ∧ w.cell? ⟨b, o + i * 4 + 1, none⟩ = some (S c.t) ∧ w.cell? ⟨b, o + i * 4 + 2, none⟩ = some (S c.u) ∧ w.cell? ⟨b, o + i * 4 + 3, none⟩ = some (.bool c.flag))
    (h2 : ∀ (i : Nat) (c : Cssp.Tk), m[i]? = some c → w.cell? ⟨b', o' + i * 4, none⟩ = some (.int .u8 c.kind) ∧ w.cell? ⟨b', o' + i * 4 + 1, none⟩ = some (S c.t) ∧ w.cell? ⟨b', o' + i * 4 + 2, none⟩ = some (S c.u) ∧ w.cell? ⟨b', o' + i * 4 + 3, none⟩ = some (.bool c.flag)) :
    Calls Tryz.prog 11 #[.slice (some ⟨b, o, none⟩) l.length cap, .slice (some ⟨b', o', none⟩) m.length cap'] w (Quiet (.bool (decide (l = m))) w) := by
  unfold maxLen at hl
  have hn : ((l.length : Int) != (m.length : Int)) = false := by rw [bne_eq_false_iff_eq]; omega
  have HLM := hide hlm
  clear hlm
  have HNE := tok_neq
  go_enter Tryz.func11, Tryz.ntmps11
  go_wp2_with fail
  go_loopg [5] l.length (fun g s5 wx => ∃ (i q : Nat), i + g = l.length ∧ s5 = .int .i64 i ∧ wx = w.drewN q ∧ Hid (l.take i = m.take i))
  case atStart => exact ⟨0, 0, by omega, rfl, rfl, by unfold Hid; simp⟩
  case round =>
    obtain ⟨i, q, hi, rfl, rfl, ht⟩ := hrel
    by_cases hlt : i < l.length
    · have hltm : i < m.length := by have := HLM.out; omega
      obtain ⟨x, hx⟩ : ∃ x, l[i] = x := ⟨_, rfl⟩
      obtain ⟨y, hy⟩ : ∃ y, m[i] = y := ⟨_, rfl⟩
      have hx' : l[i]? = some x := by rw [List.getElem?_eq_getElem hlt, hx]
      have hy' : m[i]? = some y := by rw [List.getElem?_eq_getElem hltm, hy]
      obtain ⟨c0, c1, c2, c3⟩ := h1 i x hx'
      obtain ⟨d0, d1, d2, d3⟩ := h2 i y hy'
      have HX := hide hx'
      have HY := hide hy'
      clear h1 h2 hx hy hx' hy'
      by_cases hxy : x = y
      · have HE := hide hxy
        subst hxy
        go_wp2_with fail
        go_quiet (fail)
        go_wp2_with fail
        go_roundg (gk - 1)
        case measure => omega
        case rel =>
          refine ⟨i + 1, _, by omega, by go_num, by first | rfl | exact World.drewN_drewN _ _ _, ?_⟩
          unfold Hid
          rw [List.take_add_one, List.take_add_one, ht.out, HX.out, HY.out]
      · have HE : Hid (l ≠ m) := fun e => by
          have h1 := HX.out
          rw [e, HY.out] at h1
          injection h1 with h1
          exact hxy h1.symm
        obtain ⟨xk, xt, xu, xf⟩ := x
        obtain ⟨yk, yt, yu, yf⟩ := y
        have hb : (((xk : Int) == (yk : Int)) && (xt == yt) && (xu == yu) && (xf == yf)) = false := by
          rw [Bool.eq_false_iff]
          intro hb
          simp only [Bool.and_eq_true, beq_iff_eq] at hb
          obtain ⟨⟨⟨e1, e2⟩, e3⟩, e4⟩ := hb
          exact hxy (by rw [e2, e3, e4, show xk = yk by omega])
        simp only at c0 c1 c2 c3 d0 d1 d2 d3
        have HNE2 : ∀ W, Sem.run Tryz.prog (binOp .neq 27 (.agg #[.int .u8 xk, S xt, S xu, .bool xf]) (.agg #[.int .u8 yk, S yt, S yu, .bool yf])) W = .ok (.bool true) W := fun W => by rw [tok_neq, hb]; rfl
        clear hxy hb HNE
        go_wp2_with fail
        go_quiet (fail)
        go_wp2_with fail
        go_ret
        exact ⟨by rw [decide_eq_false HE.out]; rfl, _, World.drewN_drewN _ _ _⟩
    · have HE : Hid (l = m) := by
        unfold Hid
        have := ht.out
        rwa [List.take_of_length_le (by omega), List.take_of_length_le (by have := HLM.out; omega)] at this
      clear h1 h2
      go_wp2_with fail
      go_ret
      exact ⟨by rw [decide_eq_true HE.out]; rfl, q, rfl⟩
theorem same_any (va vb : Value) (l m : List Cssp.Tk) (w : World) (h1 : RT w va l) (h2 : RT w vb m) (hl : l.length ≤ maxLen) (hm : m.length ≤ maxLen) :
    Calls Tryz.prog 11 #[va, vb] w (Quiet (.bool (decide (l = m))) w) := by
  have len : ∀ {v : Value} {l : List Cssp.Tk}, RT w v l → ∃ a c, v = .slice a l.length c := fun h => by
    rcases h with ⟨rfl, a, c, rfl⟩ | ⟨b, o, cap, rfl, _⟩
    · exact ⟨a, c, rfl⟩
    · exact ⟨_, _, rfl⟩
  by_cases hlm : l.length = m.length
  · rcases h1 with ⟨rfl, a, c, rfl⟩ | ⟨b, o, cap, rfl, _, h1⟩
    · have : m = [] := List.eq_nil_of_length_eq_zero hlm.symm
      subst this
      obtain ⟨a', c', rfl⟩ := len h2
      clear h2 hl hm hlm
      go_enter Tryz.func11, Tryz.ntmps11
      go_wp2_with fail
      go_loopg [5] 0 (fun g s5 wx => s5 = .int .i64 0 ∧ wx = w)
      case atStart => exact ⟨rfl, rfl⟩
      case round =>
        obtain ⟨rfl, rfl⟩ := hrel
        go_wp2_with fail
        go_ret
        exact ⟨rfl, 0, rfl⟩
    · rcases h2 with ⟨rfl, a, c, rfl⟩ | ⟨b', o', cap', rfl, _, h2⟩
      · have : l = [] := List.eq_nil_of_length_eq_zero hlm
        subst this
        clear h1 hl hm hlm
        go_enter Tryz.func11, Tryz.ntmps11
        go_wp2_with fail
        go_loopg [5] 0 (fun g s5 wx => s5 = .int .i64 0 ∧ wx = w)
        case atStart => exact ⟨rfl, rfl⟩
        case round =>
          obtain ⟨rfl, rfl⟩ := hrel
          go_wp2_with fail
          go_ret
          exact ⟨rfl, 0, rfl⟩
      · exact same_lit b o cap b' o' cap' l m w hlm hl h1 h2
  · obtain ⟨a, c, rfl⟩ := len h1
    obtain ⟨a', c', rfl⟩ := len h2
    have hn : ((l.length : Int) != (m.length : Int)) = true := by rw [bne_iff_ne]; omega
    have HE : Hid (l ≠ m) := fun e => hlm (by rw [e])
    clear h1 h2 hlm len
    go_enter Tryz.func11, Tryz.ntmps11
    go_wp2_with fail
    go_ret
    exact ⟨by rw [decide_eq_false HE.out]; rfl, 0, rfl⟩
theorem tok_at : ∀ (m : List Cssp.Tk) (i : Nat) (c : Cssp.Tk) (j : Nat), m[i]? = some c → j < 4 → (tokCells m)[i * 4 + j]? = [.int .u8 c.kind, S c.t, S c.u, .bool c.flag][j]?
  | [], i, c, j, hc, _ => by simp at hc
  | x :: m, 0, c, j, hc, hj => by
    simp at hc; subst hc
    have e : tokCells (x :: m) = [.int .u8 x.kind, S x.t, S x.u, .bool x.flag] ++ tokCells m := rfl
    rw [e, List.getElem?_append_left (by simp; omega)]; simp
  | x :: m, i + 1, c, j, hc, hj => by
    have e : tokCells (x :: m) = [.int .u8 x.kind, S x.t, S x.u, .bool x.flag] ++ tokCells m := rfl
    rw [e, List.getElem?_append_right (by simp; omega), ← tok_at m i c j (by simpa using hc) hj]
    congr 1
    simp; omega
theorem RT.of_own {w : World} {base : Nat} {v : Value} {l : List Cssp.Tk} (h : w.ownsRow base 27 4 v l.length (tokCells l)) : RT w v l := by
  rcases h.2 with ⟨rfl, h0⟩ | ⟨g, cap, cur, rfl, hb, hh, hn, hcap, hsz, htake⟩
  · exact .inl ⟨List.eq_nil_of_length_eq_zero h0, none, 0, rfl⟩
  · refine .inr ⟨g, 0, cap, rfl, heap_lt hh, fun i c hc => ?_⟩
    have hi : i < l.length := by
      rcases Nat.lt_or_ge i l.length with h | h
      · exact h
      · rw [List.getElem?_eq_none h] at hc; cases hc
    have cell : ∀ j, j < 4 → w.cell? ⟨g, 0 + i * 4 + j, none⟩ = [.int .u8 c.kind, S c.t, S c.u, .bool c.flag][j]? := fun j hj => by
      rw [h.cellAt _ (by omega), Nat.zero_add, tok_at l i c j hc hj]
    exact ⟨by simpa using cell 0 (by omega), by simpa using cell 1 (by omega), by simpa using cell 2 (by omega), by simpa using cell 3 (by omega)⟩
theorem RT.below {w w' : World} {v : Value} {l : List Cssp.Tk} (h : RT w v l) (hb : Below w.heap.size w w') : RT w' v l := by
  rcases h with h | ⟨b, o, cap, rfl, hlt, hc⟩
  · exact .inl h
  · refine .inr ⟨b, o, cap, rfl, Nat.lt_of_lt_of_le hlt hb.size, fun i c hi => ?_⟩
    obtain ⟨h0, h1, h2, h3⟩ := hc i c hi
    exact ⟨(hb.cell hlt).trans h0, (hb.cell hlt).trans h1, (hb.cell hlt).trans h2, (hb.cell hlt).trans h3⟩
/-- a row of one block that the walk has laid -/
theorem RT.of_row (w : World) (l : List Cssp.Tk) (cap : Nat) (_hl : l ≠ []) : RT (w.alloc (.cells (tokCells l).toArray 27)) (.slice (some ⟨w.heap.size, 0, none⟩) l.length cap) l := by
  refine .inr ⟨w.heap.size, 0, cap, rfl, by simp, fun i c hc => ?_⟩
  have cell : ∀ j, j < 4 → (w.alloc (.cells (tokCells l).toArray 27)).cell? ⟨w.heap.size, 0 + i * 4 + j, none⟩ = [.int .u8 c.kind, S c.t, S c.u, .bool c.flag][j]? := fun j hj => by
    rw [Lib.cell_of_heap (heap_alloc_last _ _), List.getElem?_toArray, Nat.zero_add, tok_at l i c j hc hj]
  exact ⟨by simpa using cell 0 (by omega), by simpa using cell 1 (by omega), by simpa using cell 2 (by omega), by simpa using cell 3 (by omega)⟩
end Go.Proofs.YtojgcangnkjmjaaGreatDoor
