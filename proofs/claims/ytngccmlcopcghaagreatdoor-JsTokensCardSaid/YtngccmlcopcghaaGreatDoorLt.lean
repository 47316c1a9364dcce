/- The law JsTokens, walked. -/
import Derived.Test.YtngccmlcopcghaaGreatDoorZi
set_option maxRecDepth 100000
set_option maxHeartbeats 8000000
namespace Go.Proofs.YtngccmlcopcghaaGreatDoor
open Go.RowKit
theorem AlQ.tokens {s : List UInt8} {w0 w' : World} {v : Value} {er pl : Nat} (h : AlQ (Cssp.decode s) w0 w' v er pl (Jsp.lex (Cssp.decode s))) :
  (Jsp.tokens s).2 = (er, pl) /\ w'.ownsRow w0.heap.size 29 3 v (Jsp.tokens s).1.length (tokCells (Jsp.tokens s).1) /\ (Jsp.tokens s).1.length <= (Cssp.decode s).length := by
 unfold Jsp.tokens
 cases hl : Jsp.lex (Cssp.decode s) with
 | no e p =>
  rw [hl] at h
  obtain ⟨rfl, rfl, rfl⟩ := h
  exact ⟨rfl, World.ownsRow_nil _ _ _ _, Nat.zero_le _⟩
 | ok l st ln wd =>
  rw [hl] at h
  obtain ⟨h1, rfl, rfl, h4, h5⟩ | ⟨h1, rfl, rfl, rfl⟩ := h
  ·dsimp only; rw [if_pos h1]; exact ⟨rfl, h4, h5⟩
  ·dsimp only; rw [if_neg h1]; exact ⟨rfl, World.ownsRow_nil _ _ _ _, Nat.zero_le _⟩
def RaP (s : List UInt8) (w : World) (e : Ending) (w' : World) : Prop := ∃ (v : Value) (er pl : Nat) (es eq : Int) (ec eg : Bool) (ek : List UInt8),
 e = .returned (.tuple #[v, .int .i64 (er : Int), .int .i64 (pl : Int), .agg (whV es eq ec eg ek)]) /\ (Jsp.tokens s).2 = (er, pl) /\ w'.ownsRow w.heap.size 29 3 v (Jsp.tokens s).1.length (tokCells (Jsp.tokens s).1) /\ Below w.heap.size w w' /\ (Jsp.tokens s).1.length <= 3 * s.length
theorem rAllS (s : List UInt8) (w : World) (hl : s.length <= 333000) : Calls Tryz.prog 16 #[S s] w (RaP s w) := by
 have hdl := Cssp.decode_len _ s (Nat.le_refl _)
 have hvd : Cssp.valid (Cssp.decode s) = true := Jsp.valid_decode _ s (Nat.le_refl _)
 have HA := hide (fun b W (hW : MB W b (Cssp.decode s) 0 [] false [] false 0 0 ⟨0, 0, false, false, [], false, 0, 0⟩) => rAll (Cssp.decode s) b _ W hW hvd (by omega))
 have HD := hide (fun W => rDecode s W (by omega))
 have HDL := hide hdl
 have hb1 := (Below.refl w.heap.size w).alloc (Nat.le_refl _) (.cells (whV 0 0 false false []) 36)
 have hw1 := WhB.new w 0 0 false false []
 clear hdl hvd
 go_enter Tryz.func16, Tryz.ntmps16
 go_upto_region 1 with (fail)
 change Code.wp _ _ _ _ (w.alloc (.cells (whV 0 0 false false []) 36))
 obtain ⟨r, hr⟩ : ∃ r, w.heap.size = r := ⟨_, rfl⟩
 rw [hr] at hb1 hw1 ⊢
 generalize w.alloc (.cells (whV 0 0 false false []) 36) = w1 at hb1 hw1 ⊢
 have HB1 := hide hb1
 have HW1 := hide hw1
 have HR := hide hr
 clear hb1 hw1 hr
 go_wp2_with fail
 refine (HD.out _).mono ?_
 rintro e w2 ⟨rfl, hb2⟩
 have hm3 : MB (w2.alloc (.cells (mCells (Cssp.decode s) 0 [] false [] false 0 0 ⟨0, 0, false, false, [], false, 0, 0⟩) 57)) w2.heap.size (Cssp.decode s) 0 [] false [] false 0 0 ⟨0, 0, false, false, [], false, 0, 0⟩ := heap_alloc_last w2 _
 have hal3 := (Below.refl w2.heap.size w2).alloc (Nat.le_refl _) (.cells (mCells (Cssp.decode s) 0 [] false [] false 0 0 ⟨0, 0, false, false, [], false, 0, 0⟩) 57)
 have hw2 := HW1.out.same (hb2.block r HW1.out.lt)
 have hw3 := hw2.same (hal3.block r hw2.lt)
 have hrb := hw2.lt
 have hb3 := HB1.out.trans ((hb2.trans (hal3.mono hb2.size)).mono (by have := HB1.out.size; have := HR.out; omega))
 have HB3 := hide hb3
 have HM3 := hide hm3
 have HW3 := hide hw3
 clear hb2 hal3 hm3 hw2 hw3 hb3 HB1 HW1
 go_upto_region 2 with (fail)
 change Code.wp _ _ _ _ (w2.alloc (.cells (mCells (Cssp.decode s) 0 [] false [] false 0 0 ⟨0, 0, false, false, [], false, 0, 0⟩) 57))
 generalize w2.alloc (.cells (mCells (Cssp.decode s) 0 [] false [] false 0 0 ⟨0, 0, false, false, [], false, 0, 0⟩) 57) = w3 at HB3 HM3 HW3 ⊢
 generalize w2.heap.size = b at HM3 hrb ⊢
 have HRB := hide hrb
 have HAL := hide (HA.out b w3 HM3.out)
 clear HA hrb
 go_wp2_with fail
 refine HAL.out.mono ?_
 rintro e w4 ⟨v, er, pl, es, eq, ec, eg, ek, rfl, hk, hq⟩
 obtain ⟨q1, q2, q3⟩ := hq.tokens
 have HQ1 := hide q1
 have HQ3 := hide (Nat.le_trans q3 HDL.out)
 have hw4 : WhB w4 r 0 0 false false [] := HW3.out.same (hk.block r HW3.out.lt (by have := HRB.out; simp; omega))
 have hr3 : r < w3.heap.size := HW3.out.lt
 have hb4 : Below r w w4 := HB3.out.trans ⟨hk.os, hk.tape, hk.output, hk.size, fun i hi => hk.block i (by omega) (by have := HRB.out; simp; omega)⟩
 have hbp : Below r w4 (pWh w4 r es eq ec eg ek) := ((((Below.refl r w4).setCell (p := ⟨r, 0, none⟩) (Nat.le_refl r) _).setCell (p := ⟨r, 1, none⟩) (Nat.le_refl r) _).setCell (p := ⟨r, 2, none⟩) (Nat.le_refl r) _).setCell (p := ⟨r, 3, none⟩) (Nat.le_refl r) _ |>.setCell (p := ⟨r, 4, none⟩) (Nat.le_refl r) _
 have HB5 := hide (hb4.trans hbp)
 have HO5 := hide (show (pWh w4 r es eq ec eg ek).ownsRow w.heap.size 29 3 v (Jsp.tokens s).1.length (tokCells (Jsp.tokens s).1) from
  ownsRow_base (owns_of_block q2 fun g e => pWh_other w4 (fun eq => by have := (q2.lt g e).1; omega) es eq ec eg ek) (by rw [HR.out]; omega))
 have HW5 := hide (pWh_box hw4 es eq ec eg ek)
 obtain ⟨z0, z1, z2, z3, z4⟩ := hw4.cells
 have f0 := hw4.frozen 0
 have f1 := hw4.frozen 1
 have f2 := hw4.frozen 2
 have f3 := hw4.frozen 3
 have f4 := hw4.frozen 4
 obtain ⟨k0, k1, k2, k3, k4⟩ := HW5.out.cells
 clear hq q1 q2 q3 hk hw4 hr3 hb4 hbp HAL HM3 HW3 HB3
 go_wp2_with fail
 change bodyPost _ _ _ _ ⟨_, _⟩ (pWh w4 r es eq ec eg ek)
 generalize pWh w4 r es eq ec eg ek = w5 at HB5 HO5 k0 k1 k2 k3 k4 ⊢
 refine bodyPost_ret (v := .tuple #[v, .int .i64 (er : Int), .int .i64 (pl : Int), .agg (whV es eq ec eg ek)]) (by simp [results, Tryz.results16, go_sem, k0, k1, k2, k3, k4]) rfl ?_
 exact ⟨v, er, pl, _, _, _, _, _, rfl, HQ1.out, HO5.out, by rw [HR.out]; exact HB5.out, HQ3.out⟩
theorem rTokens (s : List UInt8) (w : World) (hl : s.length <= 333000) : Calls Tryz.prog 9 #[S s] w (TokR (Jsp.tokens s) (3 * s.length) w) := by
 have HA := hide (rAllS s w hl)
 go_enter Tryz.func9, Tryz.ntmps9
 go_wp2_with fail
 refine HA.out.mono ?_
 rintro e w2 ⟨v, er, pl, es, eq, ec, eg, ek, rfl, q1, q2, hb2, q3⟩
 have hal := (Below.refl w2.heap.size w2).alloc (Nat.le_refl _) (.cells (whV es eq ec eg ek) 36)
 have HB3 := hide (hb2.trans (hal.mono hb2.size))
 have HO3 := hide (q2.alloc (.cells (whV es eq ec eg ek) 36))
 have HQ1 := hide q1
 have HQ3 := hide q3
 clear q1 q2 q3 hb2 hal HA
 go_wp2_with fail
 refine bodyPost_ret (v := .tuple #[v, .int .i64 (er : Int), .int .i64 (pl : Int)]) (by simp [results, Tryz.results9, go_sem]) rfl ?_
 exact ⟨v, by rw [HQ1.out], HO3.out, HB3.out, HQ3.out⟩
theorem rValue (s : List UInt8) (w : World) (hl : s.length <= 333000) : Calls Tryz.prog 11 #[S s] w (Fresh (.tuple #[S (Jsp.value s).1, .bool (Jsp.value s).2]) w) := by
 have hT := hide (rTokens s w hl)
 have hno := fun h => value_no (s := s) h
 have hln := fun h => value_len (s := s) h
 have hon := fun x h1 h2 => value_one (s := s) (x := x) h1 h2
 generalize Jsp.tokens s = R at hT hno hln hon
 generalize Jsp.value s = V at hno hln hon ⊢
 obtain ⟨l, er, pl⟩ := R
 have HNO := hide hno
 have HLN := hide hln
 have HON := hide hon
 clear hno hln hon hl
 go_enter Tryz.func11, Tryz.ntmps11
 go_wp2_with fail
 refine hT.out.mono ?_
 rintro e w1 ⟨v, rfl, ho, hb, _⟩
 have HB := hide hb
 by_cases he : er = 0
 ·have q1 : ((er : Int) != 0) = false := by rw [he]; rfl
  have HE := hide he
  clear he
  rcases RT.of_own ho with ⟨h0, a0, c0, hv⟩ | ⟨g, o, cap, hv, hg, hc⟩
  ·simp only at h0
   subst h0 hv
   have HV := hide (HLN.out (by simp))
   clear ho hb hT
   go_wp2_with fail
   refine bodyPost_ret (v := .tuple #[S [], .bool false]) (by simp [results, Tryz.results11, go_sem]) rfl ?_
   rw [HV.out]
   exact ⟨rfl, HB.out⟩
  ·simp only at hv hc
   subst hv
   match l, HLN, HON, hT, ho, hc with
   | [], HLN, HON, hT, ho, hc =>
    have HV := hide (HLN.out (by simp))
    clear ho hb hT hc hg
    go_wp2_with fail
    refine bodyPost_ret (v := .tuple #[S [], .bool false]) (by simp [results, Tryz.results11, go_sem]) rfl ?_
    rw [HV.out]
    exact ⟨rfl, HB.out⟩
   | [x], HLN, HON, hT, ho, hc =>
    obtain ⟨y0, y1, y2⟩ := hc 0 x rfl
    rw [Nat.zero_mul, Nat.add_zero] at y0 y1 y2
    have hV := HON.out x HE.out rfl
    by_cases h5 : x.kind = 5
    ·have q5 : ((x.kind : Int) != 5) = false := by rw [h5]; rfl
     rw [if_pos h5] at hV
     have HV := hide hV
     clear ho hb hT hc hg h5 hV
     go_wp2_with fail
     refine bodyPost_ret (v := .tuple #[S x.v, .bool true]) (by simp [results, Tryz.results11, go_sem]) rfl ?_
     rw [HV.out]
     exact ⟨rfl, HB.out⟩
    ·have q5 : ((x.kind : Int) != 5) = true := by rw [bne_iff_ne]; omega
     rw [if_neg h5] at hV
     have HV := hide hV
     clear ho hb hT hc hg h5 hV
     go_wp2_with fail
     refine bodyPost_ret (v := .tuple #[S [], .bool false]) (by simp [results, Tryz.results11, go_sem]) rfl ?_
     rw [HV.out]
     exact ⟨rfl, HB.out⟩
   | x :: y :: r, HLN, HON, hT, ho, hc =>
    have HV := hide (HLN.out (by simp))
    obtain ⟨N, hN⟩ : ∃ N, N = (x :: y :: r).length := ⟨_, rfl⟩
    rw [<- hN]
    have qn : ((N : Int) != 1) = true := by rw [bne_iff_ne]; simp at hN; omega
    clear ho hb hT hc hg hN
    go_wp2_with fail
    refine bodyPost_ret (v := .tuple #[S [], .bool false]) (by simp [results, Tryz.results11, go_sem]) rfl ?_
    rw [HV.out]
    exact ⟨rfl, HB.out⟩
 ·have q1 : ((er : Int) != 0) = true := by rw [bne_iff_ne]; omega
  have HV := hide (HNO.out he)
  obtain ⟨av, cv, hv⟩ : ∃ av cv, v = .slice av l.length cv := by
   rcases RT.of_own ho with ⟨h0, a0, k0, hv0⟩ | ⟨g, o, cap2, hv0, _, _⟩
   ·exact ⟨a0, k0, by rw [hv0, show l = [] from h0]; rfl⟩
   ·exact ⟨_, _, hv0⟩
  subst hv
  clear ho hb hT he
  go_wp2_with fail
  refine bodyPost_ret (v := .tuple #[S [], .bool false]) (by simp [results, Tryz.results11, go_sem]) rfl ?_
  rw [HV.out]
  exact ⟨rfl, HB.out⟩
def Wr (B : Nat) (a : Option Addr) (m : Nat) (wx : World) : Prop :=
 m = 0 \/ ∃ g, a = some ⟨g, 0, none⟩ /\ B <= g /\ ∀ j, j < m -> (∃ v, wx.cell? ⟨g, j, none⟩ = some v) /\ wx.frozen? ⟨g, j, none⟩ = false
theorem tok_len (l : List Jsp.Tk) : (tokCells l).length = l.length * 3 := by
 induction l with
 | nil => rfl
 | cons x l ih => simp only [tokCells, List.flatMap_cons, List.length_append, List.length_cons, List.length_nil] at ih ⊢; omega
theorem Wr.of_own {w : World} {B : Nat} {a : Option Addr} {c : Nat} {l : List Jsp.Tk} (h : w.ownsRow B 29 3 (.slice a l.length c) l.length (tokCells l)) : Wr B a (l.length * 3) w := by
 have hlen := tok_len l
 rcases h.2 with ⟨_, h0⟩ | ⟨g, cap, cur, hv, hb, hh, hn, hcap, hsz, htake⟩
 ·left; omega
 ·right
  injection hv with h1 h2 h3
  refine ⟨g, h1, hb, fun j hj => ⟨?_, ?_⟩⟩
  ·subst h1
   have := h.cellAt j (by omega)
   rw [this]
   exact ⟨_, List.getElem?_eq_getElem (by omega)⟩
  ·unfold World.frozen?
   rw [hh]
   show (decide (0 <= j) && decide (j < 0)) = false
   simp
theorem cell_set {w : World} {a b : Addr} {v : Value} (h : ∃ u, w.cell? b = some u) : ∃ u, (w.setCell a v).cell? b = some u := by
 obtain ⟨u, hu⟩ := h
 by_cases e : a = b
 ·subst e; exact ⟨v, World.cell?_setCell_same _ _ _ hu⟩
 ·exact ⟨u, (World.cell?_setCell_other _ _ _ _ e).trans hu⟩
theorem Wr.set {w : World} {B : Nat} {a : Option Addr} {m : Nat} {p : Addr} {v : Value} (h : Wr B a m w) : Wr B a m (w.setCell p v) := by
 rcases h with h | ⟨g', h1, h2, h3⟩
 ·exact .inl h
 ·exact .inr ⟨g', h1, h2, fun j hj => ⟨cell_set (h3 j hj).1, by rw [World.frozen?_setCell]; exact (h3 j hj).2⟩⟩
theorem law_tokens (s : List UInt8) (w : World) (hs : s.length <= 9223372036854775807) (ht : Tab w) : Calls Tryz.prog 3 #[S s] w (Fresh (.bool true) w) := by
 have hlt := ht.lt
 have HW := hide (works_ w ht)
 go_enter Tryz.func3, Tryz.ntmps3
 go_wp2_with fail
 refine HW.out.mono ?_
 rintro e w1 ⟨rfl, hb1⟩
 have HB1 := hide hb1
 have ht1 := ht.below (by omega) hb1
 have HT1 := hide ht1
 have hsz1 := hb1.size
 clear HW hb1 ht1
 by_cases hlen : 4096 < s.length
 ·have d1 : (4096 : Int) < (s.length : Int) := by omega
  go_wp2_with fail
  go_ret
  exact ⟨rfl, HB1.out⟩
 have d1 : decide ((4096 : Int) < (s.length : Int)) = false := by rw [decide_eq_false_iff_not]; omega
 have HK := fun W (hT : Tab W) => hide (tokens_ s W hT (by omega))
 have HR := fun W => hide (rTokens s W (by omega))
 have HV := fun W (hT : Tab W) => hide (value_ s W hT (by omega))
 have HRV := fun W => hide (rValue s W (by omega))
 obtain ⟨R, hR⟩ : ∃ R, Jsp.tokens s = R := ⟨_, rfl⟩
 obtain ⟨V, hV⟩ : ∃ V, Jsp.value s = V := ⟨_, rfl⟩
 rw [hR] at HK HR
 rw [hV] at HV HRV
 clear hR hV
 obtain ⟨L, er, pl⟩ := R
 obtain ⟨vv, vb⟩ := V
 have HV := hide HV
 have HRV := hide HRV
 have HR := hide HR
 have HK1 := HK w1 HT1.out
 have HLEN := hide (show 3 * s.length <= 12288 by omega)
 go_wp2_with fail
 refine Calls.mono HK1.out ?_
 rintro e w2 ⟨v2, rfl, own2, hb2, hn2⟩
 have r2 := hide (RT.of_own own2)
 have HB2 := hide (HB1.out.trans (hb2.mono hsz1))
 have HT2 := hide (HT1.out.below (by omega) hb2)
 have HK2 := HK w2 HT2.out
 have hsz2 := HB2.out.size
 have hRl : L.length <= 12288 := Nat.le_trans hn2 HLEN.out
 clear own2 hb2 HK1 HK HB1 HT1 hn2
 go_wp2_with fail
 refine Calls.mono HK2.out ?_
 rintro e w3 ⟨v3, rfl, own3, hb3, -⟩
 obtain ⟨a3, c3, rfl⟩ := slice_of own3
 have wr3 := hide (Wr.of_own own3)
 have HB3 := hide hb3
 clear own3 hb3 HK2
 go_wp2_with fail
 go_loopg [10] L.length (fun g s10 wx => ∃ i : Nat, i + g = L.length /\ s10 = .int .i64 i /\ Hid (Wr w2.heap.size a3 (L.length * 3) wx) /\ Hid (Below w2.heap.size w2 wx))
 case atStart => exact ⟨0, by omega, rfl, wr3, HB3⟩
 case round =>
  obtain ⟨i, hi, rfl, hwr, hbl⟩ := hrel
  by_cases hil : i < L.length
  ·rcases hwr.out with h0 | ⟨g, rfl, hg, hc⟩
   ·omega
   ·obtain ⟨⟨u0, h0⟩, f0⟩ := hc (i * 3) (by omega)
    obtain ⟨⟨u1, h1⟩, f1⟩ := hc (i * 3 + 1) (by omega)
    obtain ⟨⟨u2, h2⟩, f2⟩ := hc (i * 3 + 2) (by omega)
    clear hc
    go_wp2_with fail
    go_roundg (gk - 1)
    case measure => omega
    case rel => exact ⟨i + 1, by omega, by go_num, hwr.out.set.set.set, ((hbl.out.setCell hg _).setCell hg _).setCell hg _⟩
  ·have r3 := hide (r2.out.below hbl.out)
   have HB4 := hide (HB2.out.trans (hbl.out.mono hsz2))
   have HT4 := hide (HT2.out.below HT2.out.lt hbl.out)
   have HR4 := HR.out wr
   clear hwr wr3 HB3 r2 hbl HR HT2
   go_wp2_with fail
   refine Calls.mono HR4.out ?_
   rintro e w4 ⟨v4, rfl, own4, hb4, -⟩
   have RA := hide (r3.out.below hb4)
   have RB := hide (RT.of_own own4)
   have HB5 := hide (HB4.out.trans (hb4.mono HB4.out.size))
   have HT5 := hide (HT4.out.below HT4.out.lt hb4)
   have HV5 := HV.out w4 HT5.out
   clear own4 hb4 r3 HB4 HR4 HV HT4
   go_wp2_with fail
   refine Calls.mono HV5.out ?_
   rintro e w5 ⟨rfl, hb5⟩
   have RA5 := hide (RA.out.below hb5)
   have RB5 := hide (RB.out.below hb5)
   have HB6 := hide (HB5.out.trans (hb5.mono HB5.out.size))
   have HRV5 := HRV.out w5
   clear hb5 HV5 HB5 HT5 HRV RA RB
   go_wp2_with fail
   refine Calls.mono HRV5.out ?_
   rintro e w6 ⟨rfl, hb6⟩
   have HS := hide (same_any v2 v4 L L w6 (RA5.out.below hb6) (RB5.out.below hb6) (by unfold maxLen; omega) (by unfold maxLen; omega))
   rw [decide_eq_true rfl] at HS
   have HB7 := hide (HB6.out.trans (hb6.mono HB6.out.size))
   clear hb6 HRV5 HB6 RA5 RB5
   go_wp2_with fail
   refine Calls.mono HS.out ?_
   rintro e w7 ⟨rfl, hd7⟩
   have HB8 := hide (HB7.out.trans ((below_drawn hd7).mono HB7.out.size))
   clear hd7 HS HB7
   go_wp2_with fail
   go_ret
   exact ⟨by simp, HB8.out⟩
end Go.Proofs.YtngccmlcopcghaaGreatDoor
