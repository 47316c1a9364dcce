/- The reference's all. -/
import Derived.Test.YtngccmlcopcghaaGreatDoorZh
import Derived.Deep.RegionHeld3
import Derived.Deep.Cut
import Derived.Deep.CutBlock
set_option maxRecDepth 100000
set_option maxHeartbeats 8000000
namespace Go.Proofs.YtngccmlcopcghaaGreatDoor
open Go.RowKit
theorem rAll (F : List UInt8) (b : Nat) (fr0 : Fr) (w : World) (h : MB w b F 0 [] false [] false 0 0 fr0) (hv : Cssp.valid F = true) (hl : F.length <= 1000000) :
  Calls Tryz.prog 23 #[.pointer (some ⟨b, 0, none⟩)] w (AlP F b (Jsp.lex F) w) := by
 obtain ⟨i0, hi, hz0, hz1, hz2⟩ := info_parts info_tok
 have hst := Jsp.lex_start F hv
 obtain ⟨A, hA⟩ : ∃ A, Jsp.lex F = A := ⟨_, rfl⟩
 obtain ⟨E, hE⟩ : ∃ E, Jsp.errOf F = E := ⟨_, rfl⟩
 rw [hA, hE] at hst
 rw [hA]
 have HST := hide hst
 have HT1 := hide (Ta.start h)
 clear hst hA hE hv h
 go_enter Tryz.func23, Tryz.ntmps23
 go_upto_region 1 with (fail)
 change Code.wp _ _ _ _ (w.alloc (.cells (whV 0 0 false false []) 36))
 generalize w.alloc (.cells (whV 0 0 false false []) 36) = w1 at HT1 ⊢
 obtain ⟨r, hr⟩ : ∃ r, w.heap.size = r := ⟨_, rfl⟩
 rw [hr] at HT1 ⊢
 clear hr
 go_wp2_with fail
 go_loopg [6] (F.length) (fun g s6 wx => ∃ (l : List Jsp.Tk) (p : Nat) (st : Jsp.St) (pl : Int) (fr : Fr), g + p = F.length /\ Hid (Ta w wx b r F (p : Int) st.stk (!st.goal) st.last st.some 0 pl fr s6 l) /\ Hid (Jsp.HdP F l st p A E (Jsp.gp F p false)) /\ Hid (st.some = false -> st.last = []))
 case atStart => exact ⟨[], 0, Jsp.st0, 0, fr0, by omega, HT1.out, HST.out, fun _ => rfl⟩
 case round =>
  obtain ⟨l, p, st, pl, fr, hgp, hta, hh, hso⟩ := hrel
  clear HT1 HST
  have HBK := hide (rBlanks b F p st.stk (!st.goal) st.last st.some pl fr wr hta.out.m (by omega) (Nat.le_trans hl (by decide)))
  go_wp2_with fail
  refine HBK.out.mono ?_
  rintro e w2 hp
  clear HBK
  unfold BkP at hp
  cases hg : Jsp.gap1 (F.drop p) with
  | inr o =>
   rw [hg] at hp
   obtain ⟨rfl, hk, a', k', d', l', so', fr', hm⟩ := hp
   have hA := hh.out
   rw [Jsp.gp_inr hg] at hA
   have HA := hide hA.1
   have HT2 := hide (hta.out.call (e2 := ((175 : Nat) : Int)) hm hk)
   clear hg hm hk hA hta hh hso
   obtain ⟨ez, hez⟩ : ∃ ez : Int, ((175 : Nat) : Int) = ez := ⟨_, rfl⟩
   obtain ⟨pz, hpz⟩ : ∃ pz : Int, ((p + o : Nat) : Int) = pz := ⟨_, rfl⟩
   rw [hez, hpz] at HT2
   have q6 : (ez != 0) = true := by rw [bne_iff_ne]; omega
   have HEZ := hide hez
   have HPZ := hide hpz
   clear hez hpz
   obtain ⟨es, eq, ec, eg, ek, wd, rs, tt⟩ := fr'
   have c6 := HT2.out.m.cells.2.2.2.2.2.2.1
   have c7 := HT2.out.m.cells.2.2.2.2.2.2.2
   obtain ⟨d0, d1, d2, d3, d4, -⟩ := HT2.out.m.more
   have f0 := HT2.out.wh.frozen 0
   have f1 := HT2.out.wh.frozen 1
   have f2 := HT2.out.wh.frozen 2
   have f3 := HT2.out.wh.frozen 3
   have f4 := HT2.out.wh.frozen 4
   obtain ⟨z0, z1, z2, z3, z4⟩ := HT2.out.wh.cells
   simp only at d0 d1 d2 d3 d4
   go_wp2_with fail
   go_region
   obtain ⟨E1, E2, -⟩ := HT2.out.fin es eq ec eg ek
   change Exit.then _ _ _ _ ((pWh w2 r es eq ec eg ek).drewN 1)
   have E1 : WhB ((pWh w2 r es eq ec eg ek).drewN 1) r es eq ec eg ek := E1
   have E2 := E2.drewN 1
   generalize (pWh w2 r es eq ec eg ek).drewN 1 = w9 at E1 E2 ⊢
   obtain ⟨k0, k1, k2, k3, k4⟩ := E1.cells
   have HE2 := hide E2
   clear HT2 c6 c7 d0 d1 d2 d3 d4 f0 f1 f2 f3 f4 z0 z1 z2 z3 z4 E1 E2
   go_wp2_with fail
   refine bodyPost_ret (v := .tuple #[.slice none 0 0, .int .i64 ez, .int .i64 pz, .agg (whV es eq ec eg ek)]) (by simp [results, Tryz.results23, go_sem, k0, k1, k2, k3, k4]) rfl ?_
   exact ⟨_, 175, p + o, _, _, _, _, _, by rw [HEZ.out, HPZ.out], HE2.out, by rw [HA.out]; exact ⟨rfl, rfl, rfl⟩⟩
  | inl g =>
   rw [hg] at hp
   obtain ⟨rfl, hk, pl2, fr2, hm⟩ := hp
   obtain ⟨ln, hgp2⟩ := Jsp.gp_inl hg
   have hH := hh.out
   rw [hgp2] at hH
   obtain ⟨a, ha⟩ : ∃ a, p + g = a := ⟨_, rfl⟩
   rw [ha] at hm hH
   have HH := hide (show Jsp.Hd F l st a ln p A E from hH)
   have HT2 := hide (hta.out.call hm hk)
   have hle := HH.out.le
   have hal := HH.out.al
   clear hg hgp2 hH hm hk hta hh ha
   have c0 := HT2.out.m.cells.1
   have c1 := HT2.out.m.cells.2.1
   have c6 := HT2.out.m.cells.2.2.2.2.2.2.1
   by_cases hlt : a < F.length
   ·have q : ((a : Int) == (F.length : Int)) = false := by rw [beq_eq_false_iff_ne]; omega
    go_wp2_with fail
    go_quiet (fail)
    have HT3 := hide (HT2.out.drewN nq)
    generalize w2.drewN nq = w3 at HT3 ⊢
    clear HT2 c0 c1 c6 q
    have HON := hide (rOne b F a st pl2 fr2 w3 HT3.out.m hlt HH.out.stk hso.out (Nat.le_trans hl (by decide)))
    go_wp2_with fail
    refine HON.out.mono ?_
    rintro e w4 hp
    clear HON
    unfold NxR at hp
    cases hn : Jsp.next st (F.drop a) with
    | no er o =>
     rw [hn] at hp
     obtain ⟨x, t, v4, rfl, hk, a', k', d', l', so', fr', hm⟩ := hp
     have HA := hide (HH.out.no hlt hn).1
     have hne := Jsp.next_er hn
     have HT4 := hide ((HT3.out.call hm hk).below ((Below.refl w4.heap.size w4).alloc (Nat.le_refl _) (.cells #[.int .u8 x, S t, S v4] 29)))
     clear hm hk HT3 hn hso
     go_upto_region 7 with (fail)
     change Code.wp _ _ _ _ (w4.alloc (.cells #[.int .u8 x, S t, S v4] 29))
     generalize w4.alloc (.cells #[.int .u8 x, S t, S v4] 29) = w5 at HT4 ⊢
     obtain ⟨ez, hez⟩ : ∃ ez : Int, ((er : Nat) : Int) = ez := ⟨_, rfl⟩
     obtain ⟨pz, hpz⟩ : ∃ pz : Int, ((a + o : Nat) : Int) = pz := ⟨_, rfl⟩
     rw [hez, hpz] at HT4
     have q6 : (ez != 0) = true := by rw [bne_iff_ne]; omega
     have HEZ := hide hez
     have HPZ := hide hpz
     clear hez hpz
     obtain ⟨es, eq, ec, eg, ek, wd, rs, tt⟩ := fr'
     have c6 := HT4.out.m.cells.2.2.2.2.2.2.1
     have c7 := HT4.out.m.cells.2.2.2.2.2.2.2
     obtain ⟨d0, d1, d2, d3, d4, -⟩ := HT4.out.m.more
     have f0 := HT4.out.wh.frozen 0
     have f1 := HT4.out.wh.frozen 1
     have f2 := HT4.out.wh.frozen 2
     have f3 := HT4.out.wh.frozen 3
     have f4 := HT4.out.wh.frozen 4
     obtain ⟨z0, z1, z2, z3, z4⟩ := HT4.out.wh.cells
     simp only at d0 d1 d2 d3 d4
     go_wp2_with fail
     go_region
     obtain ⟨E1, E2, -⟩ := HT4.out.fin es eq ec eg ek
     change Exit.then _ _ _ _ ((pWh w5 r es eq ec eg ek).drewN 1)
     have E1 : WhB ((pWh w5 r es eq ec eg ek).drewN 1) r es eq ec eg ek := E1
     have E2 := E2.drewN 1
     generalize (pWh w5 r es eq ec eg ek).drewN 1 = w9 at E1 E2 ⊢
     obtain ⟨k0, k1, k2, k3, k4⟩ := E1.cells
     have HE2 := hide E2
     clear HT4 c6 c7 d0 d1 d2 d3 d4 f0 f1 f2 f3 f4 z0 z1 z2 z3 z4 E1 E2
     go_wp2_with fail
     refine bodyPost_ret (v := .tuple #[.slice none 0 0, .int .i64 ez, .int .i64 pz, .agg (whV es eq ec eg ek)]) (by simp [results, Tryz.results23, go_sem, k0, k1, k2, k3, k4]) rfl ?_
     exact ⟨_, er, a + o, _, _, _, _, _, by rw [HEZ.out, HPZ.out], HE2.out, by rw [HA.out]; exact ⟨rfl, rfl, rfl⟩⟩
    | ok x k st2 =>
     rw [hn] at hp
     obtain ⟨rfl, hk, pl4, fr4, hm⟩ := hp
     obtain ⟨hk1, h1, h2, h3⟩ := HH.out.ok hlt hn
     have HS2 := hide (Jsp.next_some hn)
     have HP3 := hide h3
     have hll := HH.out.len
     have HT4 := hide (HT3.out.call hm hk)
     obtain ⟨K, xt, xv⟩ := x
     have hal5 := (Below.refl w4.heap.size w4).alloc (Nat.le_refl _) (.cells #[.int .u8 (K : Int), S xt, S xv] 29)
     have hx5 : TkX (w4.alloc (.cells #[.int .u8 (K : Int), S xt, S xv] 29)) w4.heap.size (K : Int) xt xv := heap_alloc_last w4 _
     have HT5 := hide (HT4.out.below hal5)
     have hrq := HT4.out.wh.lt
     clear hm hk HT3 hn hso h2 h3 hal5 HH
     go_upto_region 7 with (fail)
     change Code.wp _ _ _ _ (w4.alloc (.cells #[.int .u8 (K : Int), S xt, S xv] 29))
     generalize w4.alloc (.cells #[.int .u8 (K : Int), S xt, S xv] 29) = w5 at HT5 hx5 ⊢
     have hoq := fun g e => (HT4.out.ow.lt g e).2
     generalize w4.heap.size = q at hx5 hrq hoq ⊢
     have HX5 := hide hx5
     have HRQ := hide hrq
     have HOQ := hide hoq
     obtain ⟨y0, y1, y2⟩ := hx5.cells
     have c6 := HT5.out.m.cells.2.2.2.2.2.2.1
     have hll2 : l.length <= 1000000 := by omega
     clear hx5 hrq hoq HT4
     go_upto_region 9 with (fail)
     go_wp2_with (at_builtin; refine wpList_append_own _ rfl _ _ 23 rfl (r + 1) 29 i0 (.agg #[.int .u8 0, .string .empty, .string .empty]) 3 40 Tryz.underlying23 hi hz0 hz1 hz2 rfl (by decide) _ _ _ rfl (HT5.out.ow.alloc _) ⟨w5.heap.size, 0, none⟩ 1 1 [.int .u8 (K : Int), S xt, S xv] rfl rfl (cell_three w5 29 (.int .u8 (K : Int)) (S xt) (S xv)) ?c2 ?c3 ?c4 ?c5 ?_)
     case c2 =>
      intro u hu
      simp only [List.mem_cons, List.not_mem_nil, or_false] at hu
      rcases hu with rfl | rfl | rfl <;> rfl
     case c3 => unfold maxLen; omega
     case c4 => omega
     case c5 => have := HT5.out.wh.lt; simp; omega
     intro v8 w8 hown8 hgrow8 _
     have hal6 := (Below.refl w5.heap.size w5).alloc (Nat.le_refl _) (.cells #[.int .u8 (K : Int), S xt, S xv] 29)
     have HT8 := hide ((HT5.out.below hal6).grown (x := ⟨K, xt, xv⟩) hgrow8 (by rw [tokCells_append, tokCells_one]; simpa using hown8))
     have hx8 : TkX w8 q (K : Int) xt xv := ((hgrow8.block q (Nat.lt_of_lt_of_le (heap_lt HX5.out) (by simp)) (fun e => absurd (HOQ.out q e.symm) (Nat.lt_irrefl _))).trans (hal6.block q (heap_lt HX5.out))).trans HX5.out
     have HX8 := hide hx8
     clear hown8 hgrow8 hal6 HT5 HX5 HOQ y0 y1 y2 c6 hll2
     obtain ⟨y0, y1, y2⟩ := hx8.cells
     clear hx8
     go_upto_region 10 with (fail)
     go_cut [8] from 62 to 115 (fun s8 wx => (∃ sh : Bool, s8 = .bool sh) /\ wx = w8)
     case first =>
      by_cases k5 : 5 <= K
      ·have q5 : decide ((5 : Int) <= (K : Int)) = true := decide_eq_true (by omega)
       by_cases k9 : K <= 9
       ·have q9 : decide ((K : Int) <= 9) = true := decide_eq_true (by omega)
        clear k5 k9
        go_wp2_with fail
        go_meet
        case rel => exact ⟨⟨true, rfl⟩, rfl⟩
       ·have q9 : decide ((K : Int) <= 9) = false := decide_eq_false (by omega)
        have q3 : ((K : Int) == 3) = false := by rw [beq_eq_false_iff_ne]; omega
        clear k5 k9
        go_wp2_with fail
        go_meet
        case rel => exact ⟨⟨false, rfl⟩, rfl⟩
      ·have q5 : decide ((5 : Int) <= (K : Int)) = false := decide_eq_false (by omega)
       by_cases k3 : K = 3
       ·have q3 : ((K : Int) == 3) = true := by rw [k3]; rfl
        obtain ⟨av, hav⟩ := rAmongS xt w8
        have HAV := hide hav
        clear k5 k3 hav
        go_wp2_with fail
        refine HAV.out.mono ?_
        rintro e w8' ⟨rfl, rfl⟩
        go_wp2_with fail
        go_meet
        case rel => exact ⟨⟨av, rfl⟩, rfl⟩
       ·have q3 : ((K : Int) == 3) = false := by rw [beq_eq_false_iff_ne]; omega
        clear k5 k3
        go_wp2_with fail
        go_meet
        case rel => exact ⟨⟨false, rfl⟩, rfl⟩
     case rest =>
      obtain ⟨⟨sh, rfl⟩, rfl⟩ := hcut
      have c1 := HT8.out.m.cells.2.1
      have f14 := HT8.out.m.frozen 14
      have c14 := HT8.out.m.more.2.2.2.2.2.2.1
      have HQB := hide (show q ≠ b from by have := HT8.out.br; have := HRQ.out; omega)
      go_upto_if 80 with (fail)
      go_cut [] from 81 to 115 (fun wx => ∃ fr, Hid (Ta w wx b r F ((a + k : Nat) : Int) st2.stk (!st2.goal) st2.last st2.some 0 pl4 fr v8 (l ++ [⟨K, xt, xv⟩])) /\ Hid (TkX wx q (K : Int) xt xv))
      case first =>
       cases sh
       ·go_wp2_with fail
        go_meet
        case rel => exact ⟨_, HT8.out, HX8.out⟩
       ·go_wp2_with fail
        go_meet
        case rel => exact ⟨_, HT8.out.set14 _, HX8.out.same (setM_other _ HQB.out _ _)⟩
      case rest =>
       obtain ⟨frA, hta, hxa⟩ := hcut
       clear HT8 HX8 c1 f14 c14 y0 y1 y2
       obtain ⟨y0, y1, y2⟩ := hxa.out.cells
       have f13 := hta.out.m.frozen 13
       have c13 := hta.out.m.more.2.2.2.2.2.1
       go_upto_region 13 with (fail)
       go_cut [] from 88 to 115 (fun wx => ∃ fr, Hid (Ta w wx b r F ((a + k : Nat) : Int) st2.stk (!st2.goal) st2.last st2.some 0 pl4 fr v8 (l ++ [⟨K, xt, xv⟩])))
       case first =>
        by_cases k1 : K = 1
        ·have q1 : ((K : Int) == 1) = true := by rw [k1]; rfl
         clear k1
         go_wp2_with fail
         go_meet
         case rel => exact ⟨_, hta.out.set13 _⟩
        have q1 : ((K : Int) == 1) = false := by rw [beq_eq_false_iff_ne]; omega
        by_cases k2 : K = 2
        ·have q2 : ((K : Int) == 2) = true := by rw [k2]; rfl
         clear k1 k2
         go_wp2_with fail
         go_meet
         case rel => exact ⟨_, hta.out.set13 _⟩
        have q2 : ((K : Int) == 2) = false := by rw [beq_eq_false_iff_ne]; omega
        by_cases k4 : K = 4
        ·have q4 : ((K : Int) == 4) = true := by rw [k4]; rfl
         clear k1 k2 k4
         go_wp2_with fail
         go_meet
         case rel => exact ⟨_, hta.out.set13 _⟩
        have q4 : ((K : Int) == 4) = false := by rw [beq_eq_false_iff_ne]; omega
        by_cases k10 : K = 10
        ·have q10 : ((K : Int) == 10) = true := by rw [k10]; rfl
         clear k1 k2 k4 k10
         go_wp2_with fail
         go_meet
         case rel => exact ⟨_, hta.out.set13 _⟩
        have q10 : ((K : Int) == 10) = false := by rw [beq_eq_false_iff_ne]; omega
        clear k1 k2 k4 k10
        go_wp2_with fail
        go_meet
        case rel => exact ⟨_, hta.out.set13 _⟩
       case rest =>
        obtain ⟨frB, htb⟩ := hcut
        clear hta hxa y0 y1 y2 f13 c13
        have c1 := htb.out.m.cells.2.1
        have f15 := htb.out.m.frozen 15
        have c15 := htb.out.m.more.2.2.2.2.2.2.2
        go_wp2_with fail
        go_roundg (F.length - (a + k))
        case measure => omega
        case rel => exact ⟨l ++ [(⟨K, xt, xv⟩ : Jsp.Tk)], a + k, st2, pl4, _, by omega, htb.out.set15 ((a : Int) + (k : Int)), HP3.out, fun e => by rw [HS2.out] at e; cases e⟩
   ·have hae : a = F.length := by omega
    have hA := HH.out.end hae
    have HA := hide hA
    have hll := HH.out.len
    have q : ((a : Int) == (F.length : Int)) = true := by rw [hae, beq_self_eq_true]
    clear hA hae
    go_wp2_with fail
    go_quiet (fail)
    have HT3 := hide (HT2.out.drewN nq)
    generalize w2.drewN nq = w3 at HT3 ⊢
    clear HT2 c0 c1 c6 q
    have c2 := HT3.out.m.cells.2.2.1
    have c3 := HT3.out.m.cells.2.2.2.1
    have hblt := HT3.out.m.lt
    have hbne := Nat.ne_of_lt hblt
    go_wp2_with fail
    go_region
    change Exit.then _ _ _ _ ((w3.alloc (.cells (whV 1 0 false st.goal st.stk) 36)).drewN 1)
    have hal := (Below.refl w3.heap.size w3).alloc (Nat.le_refl _) (.cells (whV 1 0 false st.goal st.stk) 36)
    have HT4 := hide ((HT3.out.below hal).drewN 1)
    have hw4 : WhB ((w3.alloc (.cells (whV 1 0 false st.goal st.stk) 36)).drewN 1) w3.heap.size 1 0 false st.goal st.stk := WhB.new w3 1 0 false st.goal st.stk
    have hr9 := HT3.out.wh.lt
    generalize (w3.alloc (.cells (whV 1 0 false st.goal st.stk) 36)).drewN 1 = w4 at HT4 hw4 ⊢
    generalize w3.heap.size = B9 at hw4 hr9 ⊢
    have HW4 := hide hw4
    have HR9 := hide hr9
    clear hal hw4 hr9 c2 c3 hblt hbne HT3
    obtain ⟨ao, cap, hv⟩ := slice_of HT4.out.ow
    obtain ⟨N, hN⟩ : ∃ N, N = l.length := ⟨_, rfl⟩
    rw [<- hN] at hv
    subst hv
    have hrt := RT.of_own HT4.out.ow
    obtain ⟨es, eq, ec, eg, ek, wd, rs, tt⟩ := fr2
    have c0 := HT4.out.m.cells.1
    have c2 := HT4.out.m.cells.2.2.1
    have c13 := HT4.out.m.more.2.2.2.2.2.1
    have c15 := HT4.out.m.more.2.2.2.2.2.2.2
    obtain ⟨z0, z1, z2, z3, z4⟩ := HW4.out.cells
    have g0 := HW4.out.frozen 0
    have g1 := HW4.out.frozen 1
    have g2 := HW4.out.frozen 2
    have g3 := HW4.out.frozen 3
    have g4 := HW4.out.frozen 4
    simp only at c13 c15
    go_wp2_with fail
    go_upto_region 16 with (fail)
    go_cut [156] from 126 (fun s156 wx => (∃ cn : Bool, s156 = .bool cn) /\ Hid (Ta w wx b r F (a : Int) st.stk (!st.goal) st.last st.some 0 pl2 ⟨es, eq, ec, eg, ek, wd, rs, tt⟩ (.slice ao N cap) l) /\ Hid (WhB wx B9 1 0 false st.goal st.stk))
    case first =>
     by_cases hN0 : N = 0
     ·have qn : decide ((0 : Int) < (N : Int)) = false := decide_eq_false (by omega)
      have qnn : decide (0 < N) = false := decide_eq_false (by omega)
      clear hrt hN hN0
      go_wp2_with fail
      go_quiet (fail)
      go_wp2_with fail
      go_meet
      case rel => exact ⟨⟨_, rfl⟩, HT4.out.drewN _, HW4.out⟩
     have qn : decide ((0 : Int) < (N : Int)) = true := decide_eq_true (by omega)
     have qnn : decide (0 < N) = true := decide_eq_true (by omega)
     by_cases hp : tt = (F.length : Int)
     rotate_left
     ·have qp : (tt == (F.length : Int)) = false := by rw [beq_eq_false_iff_ne]; exact hp
      clear hrt hN hN0 hp
      go_wp2_with fail
      go_quiet (fail)
      go_wp2_with fail
      go_meet
      case rel => exact ⟨⟨_, rfl⟩, HT4.out.drewN _, HW4.out⟩
     have qp : (tt == (F.length : Int)) = true := by rw [hp, beq_self_eq_true]
     cases wd
     rotate_left
     ·clear hrt hN hN0 hp
      go_wp2_with fail
      go_quiet (fail)
      go_wp2_with fail
      go_meet
      case rel => exact ⟨⟨_, rfl⟩, HT4.out.drewN _, HW4.out⟩
     rcases hrt with ⟨h0, -⟩ | ⟨g9, o9, cap9, hv9, -, hc9⟩
     ·exact absurd (by rw [hN, h0]; rfl) hN0
     obtain ⟨m, hm⟩ : ∃ m, N = m + 1 := ⟨N - 1, by omega⟩
     have hml : m < l.length := by omega
     have hgy := List.getElem?_eq_getElem hml
     obtain ⟨y, hy⟩ : ∃ y, l[m] = y := ⟨_, rfl⟩
     rw [hy] at hgy
     obtain ⟨y0, y1, y2⟩ := hc9 m y hgy
     have hv9' := hv9
     rw [<- hN] at hv9'
     injection hv9' with hao _ hcap
     subst hao hcap
     have b0 : (0 : Int) <= (N : Int) - 1 := by omega
     have b1 : (N : Int) - 1 < (N : Int) := by omega
     have bt : ((N : Int) - 1).toNat = m := by omega
     have hNle : N <= 1000000 := by omega
     have hwn := wl1 (n := N) (by omega) (by omega)
     clear hc9 hv9 hN hN0 hp hm hml hgy hy
     go_wp2_with fail
     go_quiet (fail)
     go_wp2_with fail
     go_meet
     case rel => exact ⟨⟨_, rfl⟩, HT4.out.drewN _, HW4.out⟩
    case rest =>
     obtain ⟨⟨cn, rfl⟩, ht4, hw4⟩ := hcut
     clear HT4 HW4 hrt c0 c2 c13 c15 z0 z1 z2 z3 z4 g0 g1 g2 g3 g4
     have c2 := ht4.out.m.cells.2.2.1
     obtain ⟨z0, z1, z2, z3, z4⟩ := hw4.out.cells
     have g0 := hw4.out.frozen 0
     have g1 := hw4.out.frozen 1
     have g2 := hw4.out.frozen 2
     have g3 := hw4.out.frozen 3
     have g4 := hw4.out.frozen 4
     go_upto_if 156 with (fail)
     go_cut [] from 157 (fun wx => ∃ s q c g k, Hid (Ta w wx b r F (a : Int) st.stk (!st.goal) st.last st.some 0 pl2 ⟨es, eq, ec, eg, ek, wd, rs, tt⟩ (.slice ao N cap) l) /\ Hid (WhB wx B9 s q c g k))
     case first =>
      cases cn
      ·go_wp2_with fail
       go_meet
       case rel => exact ⟨_, _, _, _, _, ht4.out, hw4.out⟩
      ·go_wp2_with fail
       go_meet
       case rel => exact ⟨_, _, _, _, _, ht4.out.put hw4.out HR9.out 2 0 false false st.stk, pWh_box hw4.out 2 0 false false st.stk⟩
     case rest =>
     obtain ⟨s5, q5, c5, g5, k5, ht5, hw5⟩ := hcut
     clear ht4 hw4 c2 z0 z1 z2 z3 z4 g0 g1 g2 g3 g4
     have c2 := ht5.out.m.cells.2.2.1
     have d0 := ht5.out.m.more.1
     obtain ⟨z0, z1, z2, z3, z4⟩ := hw5.out.cells
     have g0 := hw5.out.frozen 0
     have g1 := hw5.out.frozen 1
     have g2 := hw5.out.frozen 2
     have g3 := hw5.out.frozen 3
     have g4 := hw5.out.frozen 4
     simp only at d0
     go_upto_if 167 with (fail)
     generalize (es == 6) = c6
     go_cut [] from 168 (fun wx => ∃ s q c g k, Hid (Ta w wx b r F (a : Int) st.stk (!st.goal) st.last st.some 0 pl2 ⟨es, eq, ec, eg, ek, wd, rs, tt⟩ (.slice ao N cap) l) /\ Hid (WhB wx B9 s q c g k))
     case first =>
      cases c6
      ·go_wp2_with fail
       go_meet
       case rel => exact ⟨_, _, _, _, _, ht5.out, hw5.out⟩
      ·go_wp2_with fail
       go_meet
       case rel => exact ⟨_, _, _, _, _, ht5.out.put hw5.out HR9.out 6 0 false false st.stk, pWh_box hw5.out 6 0 false false st.stk⟩
     case rest =>
      obtain ⟨s6, q6, c6, g6, k6, ht6, hw6⟩ := hcut
      clear ht5 hw5 c2 d0 z0 z1 z2 z3 z4 g0 g1 g2 g3 g4
      have c0 := ht6.out.m.cells.1
      have c2 := ht6.out.m.cells.2.2.1
      obtain ⟨z0, z1, z2, z3, z4⟩ := hw6.out.cells
      obtain ⟨x0, x1, x2, x3, x4⟩ := ht6.out.wh.cells
      have f0 := ht6.out.wh.frozen 0
      have f1 := ht6.out.wh.frozen 1
      have f2 := ht6.out.wh.frozen 2
      have f3 := ht6.out.wh.frozen 3
      have f4 := ht6.out.wh.frozen 4
      obtain ⟨E1, E2, E3⟩ := ht6.out.fin s6 q6 c6 g6 k6
      have E1 : WhB ((pWh wc r s6 q6 c6 g6 k6).drewN 1) r s6 q6 c6 g6 k6 := E1
      have E2 := E2.drewN 1
      have E3 : ((pWh wc r s6 q6 c6 g6 k6).drewN 1).ownsRow w.heap.size 29 3 (.slice ao N cap) l.length (tokCells l) := owns_of_block E3 fun _ _ => rfl
      have HE2 := hide E2
      have HE3 := hide E3
      have HE1 := hide E1
      clear E1 E2 E3
      by_cases hM0 : st.stk.length = 0
      ·have hse : st.stk = [] := List.eq_nil_of_length_eq_zero (by omega)
       have HSE := hide hse
       have qm : decide ((0 : Int) < (st.stk.length : Int)) = false := decide_eq_false (by omega)
       have qmn : decide (0 < st.stk.length) = false := decide_eq_false (by omega)
       clear hM0 hse
       go_wp2_with fail
       go_region
       change Exit.then _ _ _ _ ((pWh wc r s6 q6 c6 g6 k6).drewN 1)
       generalize (pWh wc r s6 q6 c6 g6 k6).drewN 1 = w9 at HE1 HE2 HE3 ⊢
       obtain ⟨k0, k1, k2, k3, k4⟩ := HE1.out.cells
       clear ht6 hw6 c0 c2 z0 z1 z2 z3 z4 x0 x1 x2 x3 x4 f0 f1 f2 f3 f4
       go_wp2_with fail
       refine bodyPost_ret (v := .tuple #[.slice ao N cap, .int .i64 0, .int .i64 0, .agg (whV s6 q6 c6 g6 k6)]) (by simp [results, Tryz.results23, go_sem, k0, k1, k2, k3, k4]) rfl ?_
       exact ⟨_, 0, 0, _, _, _, _, _, rfl, HE2.out, by rw [HA.out]; exact .inl ⟨HSE.out, rfl, rfl, HE3.out, by omega⟩⟩
      ·have hse : st.stk ≠ [] := fun e => hM0 (by rw [e]; rfl)
       have HSE := hide hse
       have qm : decide ((0 : Int) < (st.stk.length : Int)) = true := decide_eq_true (by omega)
       have qmn : decide (0 < st.stk.length) = true := decide_eq_true (by omega)
       clear hM0 hse
       go_wp2_with fail
       go_region
       change Exit.then _ _ _ _ ((pWh wc r s6 q6 c6 g6 k6).drewN 1)
       generalize (pWh wc r s6 q6 c6 g6 k6).drewN 1 = w9 at HE1 HE2 HE3 ⊢
       obtain ⟨k0, k1, k2, k3, k4⟩ := HE1.out.cells
       clear ht6 hw6 c0 c2 z0 z1 z2 z3 z4 x0 x1 x2 x3 x4 f0 f1 f2 f3 f4
       go_wp2_with fail
       refine bodyPost_ret (v := .tuple #[.slice none 0 0, .int .i64 177, .int .i64 (F.length : Int), .agg (whV s6 q6 c6 g6 k6)]) (by simp [results, Tryz.results23, go_sem, k0, k1, k2, k3, k4]) rfl ?_
       exact ⟨_, 177, F.length, _, _, _, _, _, rfl, HE2.out, by rw [HA.out]; exact .inr ⟨HSE.out, rfl, rfl, rfl⟩⟩
end Go.Proofs.YtngccmlcopcghaaGreatDoor
