/- Tokens, Where, Value; two lists of tokens compared. -/
import Derived.Test.YtngccmlcopcghaaGreatDoorWs
import Derived.Test.YtngccmlcopcghaaGreatDoorUc
import Derived.Test.YtngccmlcopcghaaGreatDoorPs
import Derived.BigRegion
import Derived.Laws.StructEq
import Derived.BigQuiet
set_option maxRecDepth 100000
set_option maxHeartbeats 8000000
namespace Go.Proofs.YtngccmlcopcghaaGreatDoor
open Go.RowKit
theorem ownsRow_base {w : World} {b b' : Nat} {e : TypeId} {size : Nat} {v : Value} {n : Nat} {xs : List Value} (h : w.ownsRow b e size v n xs) (hb : b' <= b) : w.ownsRow b' e size v n xs := by
 obtain ⟨h1, h2⟩ := h
 refine ⟨h1, ?_⟩
 rcases h2 with h2 | ⟨g, cap, cur, hv, hg, r⟩
 ·exact .inl h2
 ·exact .inr ⟨g, cap, cur, hv, Nat.le_trans hb hg, r⟩
theorem newLexer_ (s : List UInt8) (w : World) (ht : Tab w) (hl : s.length <= 333000) : Calls Tryz.prog 14 #[S s] w fun e w' => ∃ b, e = .returned (.pointer (some ⟨b, 0, none⟩)) /\ Lx w' w.heap.size b (Cssp.decode s) 0 Jsp.st0 false /\ Below w.heap.size w w' := by
 have hD := hide (tDecode s w ht (by omega))
 have hlt := ht.lt
 have HTB := hide ht
 obtain ⟨F, hF⟩ : ∃ F, Cssp.decode s = F := ⟨_, rfl⟩
 rw [hF] at hD ⊢
 clear hF ht
 go_enter Tryz.func14, Tryz.ntmps14
 go_wp2_with fail
 refine hD.out.mono ?_
 rintro e w1 ⟨rfl, hb1⟩
 have hb2 := hb1.alloc hb1.size (.cells (LxC F 0 (.slice none 0 0) Jsp.st0 false 0) 50)
 have hn := heap_alloc_last w1 (.cells (LxC F 0 (.slice none 0 0) Jsp.st0 false 0) 50)
 have hlx : Lx (w1.alloc (.cells (LxC F 0 (.slice none 0 0) Jsp.st0 false 0) 50)) w.heap.size w1.heap.size F 0 Jsp.st0 false :=
  ⟨none, 0, 0, hb1.size, hlt, HTB.out.below hlt hb2, hn, World.ownsRow_nil _ _ _ _⟩
 have HB2 := hide hb2
 have HLX := hide hlx
 clear hb1 hb2 hn hlx
 go_wp2_with fail
 go_ret
 exact ⟨_, rfl, HLX.out, HB2.out⟩
def TokR (R : List Jsp.Tk × Nat × Nat) (n : Nat) (w : World) (e : Ending) (w' : World) : Prop :=
 ∃ v, e = .returned (.tuple #[v, .int .i64 (R.2.1 : Int), .int .i64 (R.2.2 : Int)]) /\ w'.ownsRow w.heap.size 29 3 v R.1.length (tokCells R.1) /\ Below w.heap.size w w' /\ R.1.length <= n
theorem AllQ.tokens {F : List UInt8} {w0 w' : World} {v : Value} {er pl : Nat} {x : Wx} (h : AllQ F w0 w' v er pl x (Jsp.lex F)) :
  (match Jsp.lex F with
   | .no e p => (([], e, p) : List Jsp.Tk × Nat × Nat)
   | .ok l st _ _ => if st.stk = [] then (l, 0, 0) else ([], 177, F.length)).2 = (er, pl) /\
  w'.ownsRow w0.heap.size 29 3 v (match Jsp.lex F with
   | .no e p => (([], e, p) : List Jsp.Tk × Nat × Nat)
   | .ok l st _ _ => if st.stk = [] then (l, 0, 0) else ([], 177, F.length)).1.length (tokCells (match Jsp.lex F with
   | .no e p => (([], e, p) : List Jsp.Tk × Nat × Nat)
   | .ok l st _ _ => if st.stk = [] then (l, 0, 0) else ([], 177, F.length)).1) /\
  (match Jsp.lex F with
   | .no e p => (([], e, p) : List Jsp.Tk × Nat × Nat)
   | .ok l st _ _ => if st.stk = [] then (l, 0, 0) else ([], 177, F.length)).1.length <= F.length := by
 cases hl : Jsp.lex F with
 | no e p =>
  rw [hl] at h
  obtain ⟨rfl, rfl, rfl, _⟩ := h
  exact ⟨rfl, World.ownsRow_nil _ _ _ _, Nat.zero_le _⟩
 | ok l st ln wd =>
  rw [hl] at h
  obtain ⟨_, ⟨h1, rfl, rfl, h4, h5⟩ | ⟨h1, rfl, rfl, rfl⟩⟩ := h
  ·dsimp only; rw [if_pos h1]; exact ⟨rfl, h4, h5⟩
  ·dsimp only; rw [if_neg h1]; exact ⟨rfl, World.ownsRow_nil _ _ _ _, Nat.zero_le _⟩
theorem tokens_ (s : List UInt8) (w : World) (ht : Tab w) (hl : s.length <= 333000) : Calls Tryz.prog 8 #[S s] w (TokR (Jsp.tokens s) (3 * s.length) w) := by
 have hN := hide (newLexer_ s w ht hl)
 have hdl := Cssp.decode_len _ s (Nat.le_refl _)
 have hvd : Cssp.valid (Cssp.decode s) = true := Jsp.valid_decode _ s (Nat.le_refl _)
 have hA := fun b B W (hW : Lx W B b (Cssp.decode s) 0 Jsp.st0 false) => hide (jAll (Cssp.decode s) B b W hW hvd (by omega))
 have HA := hide hA
 have HDL := hide hdl
 clear hA hdl hvd ht
 go_enter Tryz.func8, Tryz.ntmps8
 go_wp2_with fail
 refine hN.out.mono ?_
 rintro e w1 ⟨b, rfl, hx1, hb1⟩
 have hA1 := HA.out b _ w1 hx1
 have HB1 := hide hb1
 clear hx1 hb1 hN HA
 go_wp2_with fail
 refine hA1.out.mono ?_
 rintro e w2 ⟨v, er, pl, x, rfl, hk2, hq⟩
 obtain ⟨q1, q2, q3⟩ := hq.tokens
 have hb2 : Below w.heap.size w w2 := HB1.out.trans hk2.below
 have hal := (Below.refl w2.heap.size w2).alloc (Nat.le_refl _) (.cells (WxL x).toArray 36)
 have HB3 := hide (hb2.trans (hal.mono hb2.size))
 have HO3 := hide (show (w2.alloc (.cells (WxL x).toArray 36)).ownsRow w.heap.size 29 3 v (Jsp.tokens s).1.length (tokCells (Jsp.tokens s).1) from ownsRow_base (q2.alloc _) HB1.out.size)
 have HQ1 := hide (show (Jsp.tokens s).2 = (er, pl) from q1)
 have HQ3 := hide (show (Jsp.tokens s).1.length <= 3 * s.length from Nat.le_trans q3 HDL.out)
 clear q1 q2 q3 hq hk2 hb2 hal hA1 HB1 HDL
 obtain ⟨xs, xq, xc, xg, xk⟩ := x
 go_wp2_with fail
 refine bodyPost_ret (v := .tuple #[v, .int .i64 (er : Int), .int .i64 (pl : Int)]) (by simp [results, Tryz.results8, go_sem]) rfl ?_
 exact ⟨v, by rw [HQ1.out], HO3.out, HB3.out, HQ3.out⟩
def WhQ (F : List UInt8) (x : Wx) : Prop := match Jsp.lex F with
 | .ok _ st line word => x = whX (Jsp.whereOf st line word)
 | .no _ _ => ∃ x0, x = shown x0 /\ x0.s ≠ 1 /\ ∀ st s, Jsp.errOf F = some (st, s) -> ErrX st s x0
theorem AllQ.where' {F : List UInt8} {w0 w' : World} {v : Value} {er pl : Nat} {x : Wx} (h : AllQ F w0 w' v er pl x (Jsp.lex F)) : WhQ F x := by
 unfold WhQ
 cases hl : Jsp.lex F with
 | no e p =>
  rw [hl] at h
  obtain ⟨_, _, _, h⟩ := h
  exact h
 | ok l st ln wd =>
  rw [hl] at h
  exact h.1
def WhR (F : List UInt8) (w : World) (e : Ending) (w' : World) : Prop := ∃ x, e = .returned (.agg (WxL x).toArray) /\ Below w.heap.size w w' /\ WhQ F x
theorem five {w : World} {N : Nat} {a b c d e : Value} {t : TypeId} (h : w.heap[N]? = some (.cells #[a, b, c, d, e] t (0, 0))) :
  (w.cell? ⟨N, 0, none⟩ = some a /\ w.cell? ⟨N, 1, none⟩ = some b /\ w.cell? ⟨N, 2, none⟩ = some c /\ w.cell? ⟨N, 3, none⟩ = some d /\ w.cell? ⟨N, 4, none⟩ = some e) /\ ∀ j, w.frozen? ⟨N, j, none⟩ = false := by
 refine ⟨⟨?_, ?_, ?_, ?_, ?_⟩, fun j => by simp [World.frozen?, h]⟩ <;> (rw [Lib.cell_of_heap h]; rfl)
theorem where_ (s : List UInt8) (w : World) (ht : Tab w) (hl : s.length <= 333000) : Calls Tryz.prog 13 #[S s] w (WhR (Cssp.decode s) w) := by
 have hal0 := (Below.refl w.heap.size w).alloc (Nat.le_refl _) (.cells #[.int .u8 0, .int .u8 0, .bool false, .bool false, S []] 36)
 have hn0 := heap_alloc_last w (.cells #[.int .u8 0, .int .u8 0, .bool false, .bool false, S []] 36)
 have hN := hide (newLexer_ s (w.alloc (.cells #[.int .u8 0, .int .u8 0, .bool false, .bool false, S []] 36)) (ht.below ht.lt hal0) hl)
 have hdl := Cssp.decode_len _ s (Nat.le_refl _)
 have hvd : Cssp.valid (Cssp.decode s) = true := Jsp.valid_decode _ s (Nat.le_refl _)
 have hA := fun b B W (hW : Lx W B b (Cssp.decode s) 0 Jsp.st0 false) => hide (jAll (Cssp.decode s) B b W hW hvd (by omega))
 have HA := hide hA
 have HAL := hide hal0
 have HN0 := hide hn0
 clear hA hdl hvd ht hal0 hn0
 go_enter Tryz.func13, Tryz.ntmps13
 go_wp2_with fail
 refine hN.out.mono ?_
 rintro e w1 ⟨b, rfl, hx1, hb1⟩
 have hA1 := HA.out b _ w1 hx1
 have HB1 := hide (HAL.out.trans (hb1.mono HAL.out.size))
 have HN1 := hide ((hb1.block _ (heap_lt HN0.out)).trans HN0.out)
 clear hx1 hb1 hN HA HAL HN0
 go_wp2_with fail
 refine hA1.out.mono ?_
 rintro e w2 ⟨v, er, pl, x, rfl, hk2, hq⟩
 have HQ := hide hq.where'
 have hb2 : Below w.heap.size w w2 := HB1.out.trans (hk2.below.mono (by simp))
 have hn2 := hk2.kept _ _ _ _ HN1.out (by decide) (by decide)
 have hal := (Below.refl w2.heap.size w2).alloc (Nat.le_refl _) (.cells (WxL x).toArray 36)
 have hb3 := hb2.trans (hal.mono hb2.size)
 have hn3 := (hal.block _ (heap_lt hn2)).trans hn2
 have hm3 := heap_alloc_last w2 (.cells (WxL x).toArray 36)
 have hlt3 := heap_lt hn2
 obtain ⟨xs, xq, xc, xg, xk⟩ := x
 generalize hM : w2.heap.size = M at hm3 hlt3
 have HM := hide hM
 clear hq hk2 hb2 hal hA1 HB1 HN1 hn2  hM
 go_upto_region 2 with (fail)
 change Code.wp _ _ _ _ (w2.alloc (.cells #[.int .u8 (xs : Int), .int .u8 (xq : Int), .bool xc, .bool xg, S xk] 36))
 rw [HM.out]
 have hb3 : Below w.heap.size w (w2.alloc (.cells #[.int .u8 (xs : Int), .int .u8 (xq : Int), .bool xc, .bool xg, S xk] 36)) := hb3
 have hn3 : (w2.alloc (.cells #[.int .u8 (xs : Int), .int .u8 (xq : Int), .bool xc, .bool xg, S xk] 36)).heap[w.heap.size]? = _ := hn3
 have hm3 : (w2.alloc (.cells #[.int .u8 (xs : Int), .int .u8 (xq : Int), .bool xc, .bool xg, S xk] 36)).heap[M]? = _ := hm3
 generalize w2.alloc (.cells #[.int .u8 (xs : Int), .int .u8 (xq : Int), .bool xc, .bool xg, S xk] 36) = w3 at hb3 hn3 hm3 ⊢
 obtain ⟨⟨y0, y1, y2, y3, y4⟩, yf⟩ := five hn3
 obtain ⟨⟨z0, z1, z2, z3, z4⟩, -⟩ := five hm3
 have f0 := yf 0
 have f1 := yf 1
 have f2 := yf 2
 have f3 := yf 3
 have f4 := yf 4
 have hz := put5_heap hn3 ⟨xs, xq, xc, xg, xk⟩
 have HB4 := hide (put5_below hb3 (Nat.le_refl _) ⟨xs, xq, xc, xg, xk⟩)
 obtain ⟨⟨q0, q1, q2, q3, q4⟩, -⟩ := five hz
 unfold put5 at HB4 q0 q1 q2 q3 q4
 clear hb3 hn3 hm3 yf hz
 go_wp2_with fail
 refine bodyPost_ret (v := .agg (WxL ⟨xs, xq, xc, xg, xk⟩).toArray) (by simp [results, Tryz.results13, go_sem, q0, q1, q2, q3, q4]) rfl ?_
 exact ⟨_, rfl, HB4.out, HQ.out⟩
theorem value_no {s : List UInt8} (h : (Jsp.tokens s).2.1 ≠ 0) : Jsp.value s = ([], false) := by
 unfold Jsp.value
 split
 ·rename_i h1 _; exact absurd h1 h
 ·rfl
theorem value_len {s : List UInt8} (h : (Jsp.tokens s).1.length ≠ 1) : Jsp.value s = ([], false) := by
 unfold Jsp.value
 split
 ·rename_i h2; rw [h2] at h; exact absurd rfl h
 ·rfl
theorem value_one {s : List UInt8} {x : Jsp.Tk} (h : (Jsp.tokens s).2.1 = 0) (hx : (Jsp.tokens s).1 = [x]) : Jsp.value s = if x.kind = 5 then (x.v, true) else ([], false) := by
 unfold Jsp.value
 rw [h, hx]
 rfl
theorem value_ (s : List UInt8) (w : World) (ht : Tab w) (hl : s.length <= 333000) : Calls Tryz.prog 10 #[S s] w (Fresh (.tuple #[S (Jsp.value s).1, .bool (Jsp.value s).2]) w) := by
 have hT := hide (tokens_ s w ht hl)
 have hno := fun h => value_no (s := s) h
 have hln := fun h => value_len (s := s) h
 have hon := fun x h1 h2 => value_one (s := s) (x := x) h1 h2
 generalize Jsp.tokens s = R at hT hno hln hon
 generalize Jsp.value s = V at hno hln hon ⊢
 obtain ⟨l, er, pl⟩ := R
 have HNO := hide hno
 have HLN := hide hln
 have HON := hide hon
 clear hno hln hon ht hl
 go_enter Tryz.func10, Tryz.ntmps10
 go_wp2_with fail
 refine hT.out.mono ?_
 rintro e w1 ⟨v, rfl, ho, hb, _⟩
 have HB := hide hb
 by_cases he : er = 0
 ·have q1 : ((er : Int) != 0) = false := by rw [he]; rfl
  have HE := hide he
  clear he
  rcases RT.of_own ho with ⟨h0, a0, c0, hv⟩ | ⟨g, o, cap, hv, hg, hc⟩
  ·simp only at h0
   subst h0 hv
   have HV := hide (HLN.out (by simp))
   clear ho hb hT
   go_wp2_with fail
   refine bodyPost_ret (v := .tuple #[S [], .bool false]) (by simp [results, Tryz.results10, go_sem]) rfl ?_
   rw [HV.out]
   exact ⟨rfl, HB.out⟩
  ·simp only at hv hc
   subst hv
   match l, HLN, HON, hT, ho, hc with
   | [], HLN, HON, hT, ho, hc =>
    have HV := hide (HLN.out (by simp))
    clear ho hb hT hc hg
    go_wp2_with fail
    refine bodyPost_ret (v := .tuple #[S [], .bool false]) (by simp [results, Tryz.results10, go_sem]) rfl ?_
    rw [HV.out]
    exact ⟨rfl, HB.out⟩
   | [x], HLN, HON, hT, ho, hc =>
    obtain ⟨y0, y1, y2⟩ := hc 0 x rfl
    rw [Nat.zero_mul, Nat.add_zero] at y0 y1 y2
    have hV := HON.out x HE.out rfl
    by_cases h5 : x.kind = 5
    ·have q5 : ((x.kind : Int) != 5) = false := by rw [h5]; rfl
     rw [if_pos h5] at hV
     have HV := hide hV
     clear ho hb hT hc hg h5 hV
     go_wp2_with fail
     refine bodyPost_ret (v := .tuple #[S x.v, .bool true]) (by simp [results, Tryz.results10, go_sem]) rfl ?_
     rw [HV.out]
     exact ⟨rfl, HB.out⟩
    ·have q5 : ((x.kind : Int) != 5) = true := by rw [bne_iff_ne]; omega
     rw [if_neg h5] at hV
     have HV := hide hV
     clear ho hb hT hc hg h5 hV
     go_wp2_with fail
     refine bodyPost_ret (v := .tuple #[S [], .bool false]) (by simp [results, Tryz.results10, go_sem]) rfl ?_
     rw [HV.out]
     exact ⟨rfl, HB.out⟩
   | x :: y :: r, HLN, HON, hT, ho, hc =>
    have HV := hide (HLN.out (by simp))
    obtain ⟨N, hN⟩ : ∃ N, N = (x :: y :: r).length := ⟨_, rfl⟩
    rw [<- hN]
    have qn : ((N : Int) != 1) = true := by rw [bne_iff_ne]; simp at hN; omega
    clear ho hb hT hc hg hN
    go_wp2_with fail
    refine bodyPost_ret (v := .tuple #[S [], .bool false]) (by simp [results, Tryz.results10, go_sem]) rfl ?_
    rw [HV.out]
    exact ⟨rfl, HB.out⟩
 ·have q1 : ((er : Int) != 0) = true := by rw [bne_iff_ne]; omega
  have HV := hide (HNO.out he)
  obtain ⟨av, cv, hv⟩ : ∃ av cv, v = .slice av l.length cv := by
   rcases RT.of_own ho with ⟨h0, a0, k0, hv0⟩ | ⟨g, o, cap2, hv0, _, _⟩
   ·exact ⟨a0, k0, by rw [hv0, show l = [] from h0]; rfl⟩
   ·exact ⟨_, _, hv0⟩
  subst hv
  clear ho hb hT he
  go_wp2_with fail
  refine bodyPost_ret (v := .tuple #[S [], .bool false]) (by simp [results, Tryz.results10, go_sem]) rfl ?_
  rw [HV.out]
  exact ⟨rfl, HB.out⟩
theorem fields_tok : Tryz.prog.underlying 29 = some (.struct (Tryz.prog.fieldsOf 29)) := by kernel_rfl
theorem held_tok : Tryz.prog.stoodInHeld 29 = false := by kernel_rfl
theorem eq_tok (d : Nat) (a a' u u' : List UInt8) (k k' : Int) (w : World) :
  Sem.run Tryz.prog (Op.equalIn (d + 2) 29 (.agg #[.int .u8 k, S a, S u]) (.agg #[.int .u8 k', S a', S u'])) w = .ok ((k == k') && (a == a') && (u == u')) w := by
 rw [run_equalIn_struct w (d + 1) 29 _ _ fields_tok held_tok]
 simp [go_sem, Tryz.underlying29]
 by_cases h1 : a = a' <;> by_cases h2 : k = k' <;> by_cases h3 : u = u' <;> simp [h1, h2, h3]
theorem tok_neq (a a' u u' : List UInt8) (k k' : Int) (w : World) :
  Sem.run Tryz.prog (binOp .neq 29 (.agg #[.int .u8 k, S a, S u]) (.agg #[.int .u8 k', S a', S u'])) w = .ok (.bool !((k == k') && (a == a') && (u == u'))) w := by
 simp only [binOp]
 simp only [Op.equal, Op.maxDepth, Sem.run_bind, eq_tok 9998, Result.andThen_ok, Sem.run_pure]
theorem tok_eql (a a' u u' : List UInt8) (k k' : Int) (w : World) :
  Sem.run Tryz.prog (binOp .eql 29 (.agg #[.int .u8 k, S a, S u]) (.agg #[.int .u8 k', S a', S u'])) w = .ok (.bool ((k == k') && (a == a') && (u == u'))) w := by
 simp only [binOp]
 simp only [Op.equal, Op.maxDepth, Sem.run_bind, eq_tok 9998, Result.andThen_ok, Sem.run_pure]
theorem fields_wh : Tryz.prog.underlying 36 = some (.struct (Tryz.prog.fieldsOf 36)) := by kernel_rfl
theorem held_wh : Tryz.prog.stoodInHeld 36 = false := by kernel_rfl
theorem eq_wh (d : Nat) (a q a' q' : Int) (c c' g g' : Bool) (k k' : List UInt8) (w : World) :
  Sem.run Tryz.prog (Op.equalIn (d + 2) 36 (.agg #[.int .u8 a, .int .u8 q, .bool c, .bool g, S k]) (.agg #[.int .u8 a', .int .u8 q', .bool c', .bool g', S k'])) w = .ok ((a == a') && (q == q') && (c == c') && (g == g') && (k == k')) w := by
 rw [run_equalIn_struct w (d + 1) 36 _ _ fields_wh held_wh]
 simp [go_sem, Tryz.underlying36]
 by_cases h1 : a = a' <;> by_cases h2 : q = q' <;> by_cases h3 : c = c' <;> by_cases h4 : g = g' <;> by_cases h5 : k = k' <;> simp [h1, h2, h3, h4, h5]
theorem wh_eql (a q a' q' : Int) (c c' g g' : Bool) (k k' : List UInt8) (w : World) :
  Sem.run Tryz.prog (binOp .eql 36 (.agg #[.int .u8 a, .int .u8 q, .bool c, .bool g, S k]) (.agg #[.int .u8 a', .int .u8 q', .bool c', .bool g', S k'])) w = .ok (.bool ((a == a') && (q == q') && (c == c') && (g == g') && (k == k'))) w := by
 simp only [binOp]
 simp only [Op.equal, Op.maxDepth, Sem.run_bind, eq_wh 9998, Result.andThen_ok, Sem.run_pure]
theorem same_lit (b o cap b' o' cap' : Nat) (l m : List Jsp.Tk) (w : World) (hlm : l.length = m.length) (hl : l.length <= maxLen)
  (h1 : ∀ (i : Nat) (c : Jsp.Tk), l[i]? = some c -> w.cell? ⟨b, o + i * 3, none⟩ = some (.int .u8 (c.kind : Int)) /\ w.cell? ⟨b, o + i * 3 + 1, none⟩ = some (S c.t) /\ w.cell? ⟨b, o + i * 3 + 2, none⟩ = some (S c.v))
  (h2 : ∀ (i : Nat) (c : Jsp.Tk), m[i]? = some c -> w.cell? ⟨b', o' + i * 3, none⟩ = some (.int .u8 (c.kind : Int)) /\ w.cell? ⟨b', o' + i * 3 + 1, none⟩ = some (S c.t) /\ w.cell? ⟨b', o' + i * 3 + 2, none⟩ = some (S c.v)) :
  Calls Tryz.prog 12 #[.slice (some ⟨b, o, none⟩) l.length cap, .slice (some ⟨b', o', none⟩) m.length cap'] w (Quiet (.bool (decide (l = m))) w) := by
 unfold maxLen at hl
 have hn : ((l.length : Int) != (m.length : Int)) = false := by rw [bne_eq_false_iff_eq]; omega
 have HLM := hide hlm
 clear hlm
 have HNE := tok_neq
 go_enter Tryz.func12, Tryz.ntmps12
 go_wp2_with fail
 go_loopg [5] l.length (fun g s5 wx => ∃ (i q : Nat), i + g = l.length /\ s5 = .int .i64 i /\ wx = w.drewN q /\ Hid (l.take i = m.take i))
 case atStart => exact ⟨0, 0, by omega, rfl, rfl, by unfold Hid; simp⟩
 case round =>
  obtain ⟨i, q, hi, rfl, rfl, ht⟩ := hrel
  by_cases hlt : i < l.length
  ·have hltm : i < m.length := by have := HLM.out; omega
   obtain ⟨x, hx⟩ : ∃ x, l[i] = x := ⟨_, rfl⟩
   obtain ⟨y, hy⟩ : ∃ y, m[i] = y := ⟨_, rfl⟩
   have hx' : l[i]? = some x := by rw [List.getElem?_eq_getElem hlt, hx]
   have hy' : m[i]? = some y := by rw [List.getElem?_eq_getElem hltm, hy]
   obtain ⟨c0, c1, c2⟩ := h1 i x hx'
   obtain ⟨d0, d1, d2⟩ := h2 i y hy'
   have HX := hide hx'
   have HY := hide hy'
   clear h1 h2 hx hy hx' hy'
   by_cases hxy : x = y
   ·have HE := hide hxy
    subst hxy
    go_wp2_with fail
    go_quiet (fail)
    go_wp2_with fail
    go_roundg (gk - 1)
    case measure => omega
    case rel =>
     refine ⟨i + 1, _, by omega, by go_num, by first | rfl | exact World.drewN_drewN _ _ _, ?_⟩
     unfold Hid
     rw [List.take_add_one, List.take_add_one, ht.out, HX.out, HY.out]
   ·have HE : Hid (l ≠ m) := fun e => by
     have h1 := HX.out
     rw [e, HY.out] at h1
     injection h1 with h1
     exact hxy h1.symm
    obtain ⟨xk, xt, xu⟩ := x
    obtain ⟨yk, yt, yu⟩ := y
    have hb : (((xk : Int) == (yk : Int)) && (xt == yt) && (xu == yu)) = false := by
     rw [Bool.eq_false_iff]
     intro hb
     simp only [Bool.and_eq_true, beq_iff_eq] at hb
     obtain ⟨⟨e1, e2⟩, e3⟩ := hb
     exact hxy (by rw [e2, e3, show xk = yk by omega])
    simp only at c0 c1 c2 d0 d1 d2
    have HNE2 : ∀ W, Sem.run Tryz.prog (binOp .neq 29 (.agg #[.int .u8 xk, S xt, S xu]) (.agg #[.int .u8 yk, S yt, S yu])) W = .ok (.bool true) W := fun W => by rw [tok_neq, hb]; rfl
    clear hxy hb HNE
    go_wp2_with fail
    go_quiet (fail)
    go_wp2_with fail
    go_ret
    exact ⟨by rw [decide_eq_false HE.out]; rfl, _, World.drewN_drewN _ _ _⟩
  ·have HE : Hid (l = m) := by
    unfold Hid
    have := ht.out
    rwa [List.take_of_length_le (by omega), List.take_of_length_le (by have := HLM.out; omega)] at this
   clear h1 h2
   go_wp2_with fail
   go_ret
   exact ⟨by rw [decide_eq_true HE.out]; rfl, q, rfl⟩
theorem same_any (va vb : Value) (l m : List Jsp.Tk) (w : World) (h1 : RT w va l) (h2 : RT w vb m) (hl : l.length <= maxLen) (hm : m.length <= maxLen) :
  Calls Tryz.prog 12 #[va, vb] w (Quiet (.bool (decide (l = m))) w) := by
 have len : ∀ {v : Value} {l : List Jsp.Tk}, RT w v l -> ∃ a c, v = .slice a l.length c := fun h => by
  rcases h with ⟨rfl, a, c, rfl⟩ | ⟨b, o, cap, rfl, _⟩
  ·exact ⟨a, c, rfl⟩
  ·exact ⟨_, _, rfl⟩
 by_cases hlm : l.length = m.length
 ·rcases h1 with ⟨rfl, a, c, rfl⟩ | ⟨b, o, cap, rfl, _, h1⟩
  ·have : m = [] := List.eq_nil_of_length_eq_zero hlm.symm
   subst this
   obtain ⟨a', c', rfl⟩ := len h2
   clear h2 hl hm hlm
   go_enter Tryz.func12, Tryz.ntmps12
   go_wp2_with fail
   go_loopg [5] 0 (fun g s5 wx => s5 = .int .i64 0 /\ wx = w)
   case atStart => exact ⟨rfl, rfl⟩
   case round =>
    obtain ⟨rfl, rfl⟩ := hrel
    go_wp2_with fail
    go_ret
    exact ⟨rfl, 0, rfl⟩
  ·rcases h2 with ⟨rfl, a, c, rfl⟩ | ⟨b', o', cap', rfl, _, h2⟩
   ·have : l = [] := List.eq_nil_of_length_eq_zero hlm
    subst this
    clear h1 hl hm hlm
    go_enter Tryz.func12, Tryz.ntmps12
    go_wp2_with fail
    go_loopg [5] 0 (fun g s5 wx => s5 = .int .i64 0 /\ wx = w)
    case atStart => exact ⟨rfl, rfl⟩
    case round =>
     obtain ⟨rfl, rfl⟩ := hrel
     go_wp2_with fail
     go_ret
     exact ⟨rfl, 0, rfl⟩
   ·exact same_lit b o cap b' o' cap' l m w hlm hl h1 h2
 ·obtain ⟨a, c, rfl⟩ := len h1
  obtain ⟨a', c', rfl⟩ := len h2
  have hn : ((l.length : Int) != (m.length : Int)) = true := by rw [bne_iff_ne]; omega
  have HE : Hid (l ≠ m) := fun e => hlm (by rw [e])
  clear h1 h2 hlm len
  go_enter Tryz.func12, Tryz.ntmps12
  go_wp2_with fail
  go_ret
  exact ⟨by rw [decide_eq_false HE.out]; rfl, 0, rfl⟩
theorem slice_of {w : World} {base : Nat} {v : Value} {l : List Jsp.Tk} (h : w.ownsRow base 29 3 v l.length (tokCells l)) : ∃ ao cap, v = .slice ao l.length cap := by
 rcases h.2 with ⟨hv, h0⟩ | ⟨g, cap, cur, hv, _⟩
 ·exact ⟨none, 0, by rw [hv, h0]⟩
 ·exact ⟨_, _, hv⟩
theorem below_drawn {w w' : World} (h : ∃ n, w' = w.drewN n) : Below w.heap.size w w' := by
 obtain ⟨n, rfl⟩ := h
 exact belowN w n
def ex1 : List UInt8 := [97, 61, 98, 47, 99, 47, 100, 59, 32, 47, 101, 91, 47, 93, 102, 47, 103]
def ex2 : List UInt8 := [96, 120, 36, 123, 123, 97, 58, 49, 125, 125, 121, 96]
def ex3 : List UInt8 := [39, 92, 49, 39]
def ex4 : List UInt8 := [41]
def ex5 : List UInt8 := [102, 40, 39, 97]
def ex6 : List UInt8 := [120, 32, 61, 32]
def ex7 : List UInt8 := [39, 92, 117, 123, 52, 49, 125, 92, 120, 52, 50, 39]
theorem ex1_tk : ∃ L, Jsp.tokens ex1 = (L, 0, 0) /\ L.length = 9 /\ L[8]? = some ⟨10, [47, 101, 91, 47, 93, 102, 47, 103], []⟩ :=
 ⟨(Jsp.tokens ex1).1, by decide +kernel, by decide +kernel, by decide +kernel⟩
theorem ex2_tk : ∃ L, Jsp.tokens ex2 = (L, 0, 0) /\ L.length = 7 /\ L[0]? = some ⟨7, [96, 120, 36, 123], [120]⟩ /\ L[6]? = some ⟨9, [125, 121, 96], [121]⟩ :=
 ⟨(Jsp.tokens ex2).1, by decide +kernel, by decide +kernel, by decide +kernel, by decide +kernel⟩
theorem ex3_tk : Jsp.tokens ex3 = ([], 172, 1) := by decide +kernel
theorem ex4_tk : Jsp.tokens ex4 = ([], 177, 0) := by decide +kernel
theorem ex5_er : Jsp.errOf (Cssp.decode ex5) = some (⟨[112], true, [40], true⟩, [39, 97]) := by decide +kernel
theorem ex5_wh : Jsp.lex (Cssp.decode ex5) = .no 171 2 := by decide +kernel
theorem ex5_op : Jsp.OpenStr [39, 97] 39 := ⟨[97], rfl, .inr rfl, by decide +kernel, by decide⟩
theorem ex6_wh : ∃ l st, Jsp.lex (Cssp.decode ex6) = .ok l st false false /\ st.goal = true /\ st.stk = [] := by
 cases h : Jsp.lex (Cssp.decode ex6) with
 | no e p =>
  have : (match Jsp.lex (Cssp.decode ex6) with | .ok _ _ _ _ => true | .no _ _ => false) = true := by decide +kernel
  rw [h] at this; cases this
 | ok l st ln wd =>
  have : (match Jsp.lex (Cssp.decode ex6) with | .ok _ st ln wd => !ln && !wd && st.goal && st.stk.isEmpty | .no _ _ => false) = true := by decide +kernel
  rw [h] at this
  simp at this
  obtain ⟨⟨⟨rfl, rfl⟩, h3⟩, h4⟩ := this
  exact ⟨l, st, rfl, h3, h4⟩
theorem ex7_v : Jsp.value ex7 = ([65, 66], true) := by decide +kernel
theorem ex5_x {x : Wx} (h : WhQ (Cssp.decode ex5) x) : x = ⟨3, 39, false, false, [112]⟩ := by
 unfold WhQ at h
 rw [ex5_wh] at h
 obtain ⟨x0, rfl, h1, h2⟩ := h
 have := (h2 _ _ ex5_er).2 39 ex5_op
 subst this
 rfl
theorem ex6_x {x : Wx} (h : WhQ (Cssp.decode ex6) x) : x = ⟨1, 0, false, true, []⟩ := by
 unfold WhQ at h
 obtain ⟨l, st, h1, h2, h3⟩ := ex6_wh
 rw [h1] at h
 rw [h]
 simp [whX, Jsp.whereOf, h2, h3]
theorem RT.at' {w : World} {v : Value} {l : List Jsp.Tk} {n : Nat} (h : RT w v l) (hn : l.length = n) (h0 : 0 < n) : ∃ g o cap, v = .slice (some ⟨g, o, none⟩) n cap /\ ∀ (i : Nat) (c : Jsp.Tk), l[i]? = some c ->
  w.cell? ⟨g, o + i * 3, none⟩ = some (.int .u8 (c.kind : Int)) /\ w.cell? ⟨g, o + (i * 3 + 1), none⟩ = some (S c.t) /\ w.cell? ⟨g, o + (i * 3 + 2), none⟩ = some (S c.v) := by
 rcases h with ⟨rfl, _⟩ | ⟨g, o, cap, rfl, _, hc⟩
 ·simp at hn; omega
 ·exact ⟨g, o, cap, by rw [hn], fun i c hi => ⟨(hc i c hi).1, by rw [<- Nat.add_assoc]; exact (hc i c hi).2.1, by rw [<- Nat.add_assoc]; exact (hc i c hi).2.2⟩⟩
theorem works_ (w : World) (ht : Tab w) : Calls Tryz.prog 7 #[] w (Fresh (.bool true) w) := by
 have hlt := ht.lt
 obtain ⟨L1, e1, l1, g1⟩ := ex1_tk
 obtain ⟨L2, e2, l2, g20, g26⟩ := ex2_tk
 have H1 := fun W (hT : Tab W) => hide (tokens_ ex1 W hT (by decide))
 rw [e1] at H1
 have H2 := fun W (hT : Tab W) => hide (tokens_ ex2 W hT (by decide))
 rw [e2] at H2
 have H3 := fun W (hT : Tab W) => hide (tokens_ ex3 W hT (by decide))
 rw [ex3_tk] at H3
 have H4 := fun W (hT : Tab W) => hide (tokens_ ex4 W hT (by decide))
 rw [ex4_tk] at H4
 have H5 := fun W (hT : Tab W) => hide (where_ ex5 W hT (by decide))
 have H6 := fun W (hT : Tab W) => hide (where_ ex6 W hT (by decide))
 have H7 := fun W (hT : Tab W) => hide (value_ ex7 W hT (by decide))
 rw [ex7_v] at H7
 have K1 := hide (H1 w ht)
 have K2 := hide H2
 have K3 := hide H3
 have K4 := hide H4
 have K5 := hide H5
 have K6 := hide H6
 have K7 := hide H7
 have G1 := hide (And.intro l1 g1)
 have G2 := hide (And.intro l2 (And.intro g20 g26))
 have HT := hide ht
 clear H1 H2 H3 H4 H5 H6 H7 l1 g1 l2 g20 g26 ht e1 e2
 go_enter Tryz.func7, Tryz.ntmps7
 go_wp2_with fail
 refine Calls.mono K1.out.out ?_
 rintro e w1 ⟨v1, rfl, ho1, hb1, -⟩
 have HR1 := hide (RT.of_own ho1)
 have HB1 := hide hb1
 have K2' := K2.out w1 (HT.out.below hlt hb1)
 clear K1 K2 ho1 hb1
 go_wp2_with fail
 refine Calls.mono K2'.out ?_
 rintro e w2 ⟨v2, rfl, ho2, hb2, -⟩
 have HR2 := hide (RT.of_own ho2)
 have HR1' := hide (HR1.out.below hb2)
 have HB2 := hide (HB1.out.trans (hb2.mono HB1.out.size))
 have K3' := K3.out w2 (HT.out.below hlt HB2.out)
 clear K2' K3 ho2 hb2 HR1 HB1
 go_wp2_with fail
 refine Calls.mono K3'.out ?_
 rintro e w3 ⟨v3, rfl, -, hb3, -⟩
 have HR1 := hide (HR1'.out.below hb3)
 have HR2' := hide (HR2.out.below hb3)
 have HB3 := hide (HB2.out.trans (hb3.mono HB2.out.size))
 have K4' := K4.out w3 (HT.out.below hlt HB3.out)
 clear K3' K4 hb3 HR1' HR2 HB2
 go_wp2_with fail
 refine Calls.mono K4'.out ?_
 rintro e w4 ⟨v4, rfl, -, hb4, -⟩
 have HR1' := hide (HR1.out.below hb4)
 have HR2 := hide (HR2'.out.below hb4)
 have HB4 := hide (HB3.out.trans (hb4.mono HB3.out.size))
 have K5' := K5.out w4 (HT.out.below hlt HB4.out)
 clear K4' K5 hb4 HR1 HR2' HB3
 go_wp2_with fail
 refine Calls.mono K5'.out ?_
 rintro e w5 ⟨x5, rfl, hb5, hq5⟩
 obtain rfl := ex5_x hq5
 have hal5 := (Below.refl w5.heap.size w5).alloc (Nat.le_refl _) (.cells #[.int .u8 ((3 : Nat) : Int), .int .u8 ((39 : Nat) : Int), .bool false, .bool false, S [112]] 36)
 have hn5 := heap_alloc_last w5 (.cells #[.int .u8 ((3 : Nat) : Int), .int .u8 ((39 : Nat) : Int), .bool false, .bool false, S [112]] 36)
 have hb56 := hb5.trans (hal5.mono hb5.size)
 have HR1 := hide (HR1'.out.below hb56)
 have HR2' := hide (HR2.out.below hb56)
 have HB5 := hide (HB4.out.trans (hb56.mono HB4.out.size))
 clear K5' hb5 hq5 hb56 HR1' HR2 HB4 hal5
 go_upto_region 6 with (fail)
 change Code.wp _ _ _ _ (w5.alloc (.cells #[.int .u8 ((3 : Nat) : Int), .int .u8 ((39 : Nat) : Int), .bool false, .bool false, S [112]] 36))
 generalize w5.alloc (.cells #[.int .u8 ((3 : Nat) : Int), .int .u8 ((39 : Nat) : Int), .bool false, .bool false, S [112]] 36) = w6 at hn5 HR1 HR2' HB5 ⊢
 generalize w5.heap.size = M5 at hn5 ⊢
 have HN5 := hide hn5
 have K6' := K6.out w6 (HT.out.below hlt HB5.out)
 clear hn5 K6
 go_wp2_with fail
 refine Calls.mono K6'.out ?_
 rintro e w7 ⟨x7, rfl, hb7, hq7⟩
 obtain rfl := ex6_x hq7
 have hal7 := (Below.refl w7.heap.size w7).alloc (Nat.le_refl _) (.cells #[.int .u8 ((1 : Nat) : Int), .int .u8 ((0 : Nat) : Int), .bool false, .bool true, S []] 36)
 have hn7 := heap_alloc_last w7 (.cells #[.int .u8 ((1 : Nat) : Int), .int .u8 ((0 : Nat) : Int), .bool false, .bool true, S []] 36)
 have hb78 := hb7.trans (hal7.mono hb7.size)
 have HR1' := hide (HR1.out.below hb78)
 have HR2 := hide (HR2'.out.below hb78)
 have HB7 := hide (HB5.out.trans (hb78.mono HB5.out.size))
 have HN57 := hide ((hb78.block _ (heap_lt HN5.out)).trans HN5.out)
 clear K6' hb7 hq7 hb78 HR1 HR2' HB5 hal7 HN5
 go_upto_region 7 with (fail)
 change Code.wp _ _ _ _ (w7.alloc (.cells #[.int .u8 ((1 : Nat) : Int), .int .u8 ((0 : Nat) : Int), .bool false, .bool true, S []] 36))
 generalize w7.alloc (.cells #[.int .u8 ((1 : Nat) : Int), .int .u8 ((0 : Nat) : Int), .bool false, .bool true, S []] 36) = w8 at hn7 HR1' HR2 HB7 HN57 ⊢
 generalize w7.heap.size = M7 at hn7 ⊢
 have HN7 := hide hn7
 have K7' := K7.out w8 (HT.out.below hlt HB7.out)
 clear hn7 K7
 go_wp2_with fail
 refine Calls.mono K7'.out ?_
 rintro e w9 ⟨rfl, hb9⟩
 have HB9 := hide (HB7.out.trans (hb9.mono HB7.out.size))
 obtain ⟨⟨y0, y1, y2, y3, y4⟩, -⟩ := five ((hb9.block _ (heap_lt HN57.out)).trans HN57.out)
 obtain ⟨⟨z0, z1, z2, z3, z4⟩, -⟩ := five ((hb9.block _ (heap_lt HN7.out)).trans HN7.out)
 obtain ⟨a1, o1, c1, rfl, hc1⟩ := (HR1'.out.below hb9).at' G1.out.1 (by decide)
 obtain ⟨a2, o2, c2, rfl, hc2⟩ := (HR2.out.below hb9).at' G2.out.1 (by decide)
 obtain ⟨p0, p1, p2⟩ := hc1 8 _ G1.out.2
 obtain ⟨q0, q1, q2⟩ := hc2 0 _ G2.out.2.1
 obtain ⟨r0, r1, r2⟩ := hc2 6 _ G2.out.2.2
 have t1 := fun W => tok_eql [47, 101, 91, 47, 93, 102, 47, 103] [47, 101, 91, 47, 93, 102, 47, 103] [] [] 10 10 W
 have t2 := fun W => tok_eql [96, 120, 36, 123] [96, 120, 36, 123] [120] [120] 7 7 W
 have t3 := fun W => tok_eql [125, 121, 96] [125, 121, 96] [121] [121] 9 9 W
 have s1 := fun W => wh_eql 3 39 3 39 false false false false [112] [112] W
 have s2 := fun W => wh_eql 1 0 1 0 false false true true [] [] W
 clear hb9 K7' HR1' HR2 HB7 HN57 HN7 G1 G2 hc1 hc2
 simp only [Nat.zero_mul, Nat.zero_add, Nat.add_zero, Nat.reduceMul, Nat.reduceAdd] at p0 p1 p2 q0 q1 q2 r0 r1 r2
 go_wp2_with fail
 go_ret
 exact ⟨by simp, HB9.out⟩
end Go.Proofs.YtngccmlcopcghaaGreatDoor
