/- The reference's template. -/
import Derived.Test.YtngccmlcopcghaaGreatDoorXp
import Derived.Test.YtngccmlcopcghaaGreatDoorXq
set_option maxRecDepth 100000
set_option maxHeartbeats 8000000
namespace Go.Proofs.YtngccmlcopcghaaGreatDoor
open Go.RowKit
def TmpP (b : Nat) (F : List UInt8) (n : Nat) (st : Jsp.St) (w : World) (e : Ending) (w' : World) : Prop := match Jsp.tmpl st (F.drop n) with
 | .no er o => ErP b F er (n + o) w e w'
 | .ok x k st2 => OkP b F (x.kind : Int) x.t x.v (n + k) st2.stk (!st.goal) st.last st.some w e w'
def KdB (w : World) (K : Nat) (x0 x1 : Int) : Prop := w.heap[K]? = some (.cells #[.int .u8 x0, .int .u8 x1] 27 (0, 0))
theorem KdB.cells {w : World} {K : Nat} {x0 x1 : Int} (h : KdB w K x0 x1) : w.cell? ⟨K, 0, none⟩ = some (.int .u8 x0) /\ w.cell? ⟨K, 1, none⟩ = some (.int .u8 x1) := by
 have h' : w.heap[K]? = some _ := h
 refine ⟨?_, ?_⟩ <;> (unfold World.cell?; rw [h']; rfl)
theorem KdB.same {w w' : World} {K : Nat} {x0 x1 : Int} (h : KdB w K x0 x1) (hs : w'.heap[K]? = w.heap[K]?) : KdB w' K x0 x1 := hs.trans h
def TkX (w : World) (r : Nat) (x : Int) (t v : List UInt8) : Prop := w.heap[r]? = some (.cells #[.int .u8 x, S t, S v] 29 (0, 0))
theorem TkX.cells {w : World} {r : Nat} {x : Int} {t v : List UInt8} (h : TkX w r x t v) : w.cell? ⟨r, 0, none⟩ = some (.int .u8 x) /\ w.cell? ⟨r, 1, none⟩ = some (S t) /\ w.cell? ⟨r, 2, none⟩ = some (S v) := by
 have h' : w.heap[r]? = some _ := h
 refine ⟨?_, ?_, ?_⟩ <;> (unfold World.cell?; rw [h']; rfl)
theorem TkX.frozen {w : World} {r : Nat} {x : Int} {t v : List UInt8} (h : TkX w r x t v) (j : Nat) : w.frozen? ⟨r, j, none⟩ = false := by
 have h' : w.heap[r]? = some _ := h
 simp [World.frozen?, h']
theorem TkX.same {w w' : World} {r : Nat} {x : Int} {t v : List UInt8} (h : TkX w r x t v) (hs : w'.heap[r]? = w.heap[r]?) : TkX w' r x t v := hs.trans h
theorem TkX.set0 {w : World} {r : Nat} {x : Int} {t v : List UInt8} (h : TkX w r x t v) (y : Int) : TkX (w.setCell ⟨r, 0, none⟩ (.int .u8 y)) r y t v := by
 have h' : w.heap[r]? = some _ := h
 unfold TkX
 simp [World.setCell, Array.getElem?_modify, h']
theorem TkX.set1 {w : World} {r : Nat} {x : Int} {t v : List UInt8} (h : TkX w r x t v) (y : List UInt8) : TkX (w.setCell ⟨r, 1, none⟩ (S y)) r x y v := by
 have h' : w.heap[r]? = some _ := h
 unfold TkX
 simp [World.setCell, Array.getElem?_modify, h']
structure Tt (w w' : World) (b r K : Nat) (F : List UInt8) (a : Int) (k : List UInt8) (d : Bool) (l : List UInt8) (so : Bool) (e pl : Int) (fr : Fr) (x0 x1 : Int) : Prop where
 ti : Ti w w' b r F a k d l so e pl fr
 kd : KdB w' K x0 x1
 kb : K ≠ b
 kr : K ≠ r
 kl : w.heap.size <= K
section
variable {w w' w2 : World} {b r K : Nat} {F k l : List UInt8} {a e pl : Int} {d so : Bool} {fr : Fr} {x0 x1 : Int}
theorem Tt.lt (h : Tt w w' b r K F a k d l so e pl fr x0 x1) : K < w'.heap.size := heap_lt h.kd
theorem Tt.below (h : Tt w w' b r K F a k d l so e pl fr x0 x1) (hb : Below w'.heap.size w' w2) : Tt w w2 b r K F a k d l so e pl fr x0 x1 :=
 ⟨h.ti.below hb, h.kd.same (hb.block K h.lt), h.kb, h.kr, h.kl⟩
theorem Tt.call {a2 : Int} {k2 : List UInt8} {d2 : Bool} {l2 : List UInt8} {so2 : Bool} {e2 pl2 : Int} {fr2 : Fr} (h : Tt w w' b r K F a k d l so e pl fr x0 x1) (hm : MB w2 b F a2 k2 d2 l2 so2 e2 pl2 fr2) (hk : Km b w' w2) : Tt w w2 b r K F a2 k2 d2 l2 so2 e2 pl2 fr2 x0 x1 :=
 ⟨h.ti.call hm hk, h.kd.same (hk.block K h.lt (by simp; exact fun e => h.kb e)), h.kb, h.kr, h.kl⟩
theorem Tt.drewN (h : Tt w w' b r K F a k d l so e pl fr x0 x1) (n : Nat) : Tt w (w'.drewN n) b r K F a k d l so e pl fr x0 x1 := ⟨h.ti.drewN n, h.kd, h.kb, h.kr, h.kl⟩
theorem Tt.putWh (h : Tt w w' b r K F a k d l so e pl fr x0 x1) {B : Nat} (hB : w.heap.size <= B) (h1 : B ≠ b) (h2 : B ≠ r) (h3 : B ≠ K) (es eq : Int) (ec eg : Bool) (ek : List UInt8) : Tt w (pWh w' B es eq ec eg ek) b r K F a k d l so e pl fr x0 x1 :=
 ⟨h.ti.putWh hB h1 h2 es eq ec eg ek, h.kd.same (pWh_other _ h3.symm _ _ _ _ _), h.kb, h.kr, h.kl⟩
theorem Tt.set1 (h : Tt w w' b r K F a k d l so e pl fr x0 x1) (x : Int) : Tt w (w'.setCell ⟨b, 1, none⟩ (.int .i64 x)) b r K F x k d l so e pl fr x0 x1 :=
 ⟨h.ti.set1 x, h.kd.same (setM_other _ h.kb _ _), h.kb, h.kr, h.kl⟩
theorem Tt.other (h : Tt w w' b r K F a k d l so e pl fr x0 x1) {B : Nat} (hB : w.heap.size <= B) (h1 : B ≠ b) (h2 : B ≠ r) (h3 : B ≠ K) (o : Nat) (u : Value) : Tt w (w'.setCell ⟨B, o, none⟩ u) b r K F a k d l so e pl fr x0 x1 :=
 ⟨h.ti.other hB h1 h2 o u, h.kd.same (setM_other _ h3.symm _ _), h.kb, h.kr, h.kl⟩
end
theorem wz2 {n j L : Nat} (h : n + 1 + j < L) (hL : L <= 1048576) : wrap64 ((n : Int) + 1 + (j : Int) + 2) = (n : Int) + 1 + (j : Int) + 2 := by unfold wrap64; omega
theorem rTemplate (b : Nat) (F : List UInt8) (n : Nat) (q : UInt8) (T : List UInt8) (st : Jsp.St) (k1 : List UInt8) (x0 x1 : Nat) (p0 : Int) (fr : Fr) (w : World) (h : MB w b F (n : Int) st.stk (!st.goal) st.last st.some 0 p0 fr) (hF : F.drop n = q :: T)
  (hq : (q = 96 /\ k1 = st.stk /\ x0 = 6 /\ x1 = 7) \/ (q = 125 /\ st.stk ≠ [] /\ k1 = st.stk.dropLast /\ x0 = 9 /\ x1 = 8)) (hk : st.stk.length <= 200) (hl : F.length <= 1048575) :
  Calls Tryz.prog 90 #[.pointer (some ⟨b, 0, none⟩)] w (TmpP b F n st w) := by
 have hlen : F.length = n + (T.length + 1) := by
  have := congrArg List.length hF
  rw [List.length_drop, List.length_cons] at this
  omega
 have hd1 : F.drop (n + 1) = T := by rw [<- List.drop_drop, hF]; rfl
 have hlt : n < F.length := by omega
 have hqn : F[n] = q := by
  have := List.drop_eq_getElem_cons hlt
  rw [hF] at this
  injection this with this _
  exact this.symm
 have hk1 : k1.length <= 200 := by
  rcases hq with ⟨_, rfl, _⟩ | ⟨_, _, rfl, _⟩
  ·exact hk
  ·rw [List.length_dropLast]; omega
 have hQ : Jsp.tmpl st (F.drop n) = match Jsp.raw 96 T with
   | .ends k => (match Jsp.cook true (T.take k) with
    | .inr o => .no 172 (o + 1)
    | .inl v =>
     if Cssp.at_ (F.drop n) (k + 1) = 96 then .ok ⟨x0, (F.drop n).take (k + 2), v⟩ (k + 2) { st with stk := k1, goal := false, last := [], some := true }
     else if k1.length = 200 then .no 177 (k + 1) else .ok ⟨x1, (F.drop n).take (k + 3), v⟩ (k + 3) { st with stk := k1 ++ [36], goal := true, last := [], some := true })
   | _ => .no 176 0 := by
  rcases hq with ⟨rfl, rfl, rfl, rfl⟩ | ⟨rfl, hne, rfl, rfl, rfl⟩
  ·rw [hF]
   unfold Jsp.tmpl
   simp only [show Jsp.isB (· == 125) (96 :: T) = false from rfl, show (96 :: T).drop 1 = T from rfl, Bool.false_eq_true, if_false]
   cases Jsp.raw 96 T with
   | ends k =>
    simp only
    cases Jsp.cook true (T.take k) with
    | inr o => rfl
    | inl v =>
     simp only
     unfold Jsp.push Jsp.most
     by_cases h96 : Cssp.at_ (96 :: T) (k + 1) = 96
     ·simp only [if_pos h96]; rfl
     ·by_cases h200 : st.stk.length = 200
      ·simp only [if_neg h96, if_pos h200]
      ·simp only [if_neg h96, if_neg h200]; rfl
   | script => rfl
   | line => rfl
  ·rw [hF]
   unfold Jsp.tmpl
   simp only [show Jsp.isB (· == 125) (125 :: T) = true from rfl, show (125 :: T).drop 1 = T from rfl, if_true]
   cases Jsp.raw 96 T with
   | ends k =>
    simp only
    cases Jsp.cook true (T.take k) with
    | inr o => rfl
    | inl v =>
     simp only
     unfold Jsp.push Jsp.most Jsp.pop
     by_cases h96 : Cssp.at_ (125 :: T) (k + 1) = 96
     ·simp only [if_pos h96]; rfl
     ·by_cases h200 : st.stk.dropLast.length = 200
      ·simp only [if_neg h96, if_pos h200]
      ·simp only [if_neg h96, if_neg h200]; rfl
   | script => rfl
   | line => rfl
 have HT1 := hide (Ti.start h)
 obtain ⟨w1, hw1⟩ : ∃ w1, w1 = w.alloc (.cells tokC 29) := ⟨_, rfl⟩
 obtain ⟨r, hr⟩ : ∃ r, w.heap.size = r := ⟨_, rfl⟩
 rw [<- hw1, hr] at HT1
 have HW := hide hw1
 have HR := hide hr
 have a0 : (0 : Int) <= (n : Int) := by omega
 have a1 : (n : Int) < (F.length : Int) := by omega
 have HD1 := hide hd1
 have HLE := hide hlen
 have HL := hide hl
 have HQ := hide hQ
 have HF := hide hF
 have HK1 := hide hk1
 have HWn := hide (wr1 (i := n) (by omega))
 have hwk := wl1 (n := st.stk.length)
 have HWK := hide hwk
 have HHK := hide hk
 have c0 := HT1.out.m.cells.1
 have c1 := HT1.out.m.cells.2.1
 have hqb := u8_lt q
 clear h hF hl hlen hd1 hQ hw1 hr hk1 hk hwk
 go_enter Tryz.func90, Tryz.ntmps90
 go_upto_region 1 with (fail)
 change Code.wp _ _ _ _ (w.alloc (.cells tokC 29))
 rw [<- HW.out, HR.out]
 go_upto_region 3 with (fail)
 change Code.wp _ _ _ _ (w1.alloc (.cells #[.int .u8 6, .int .u8 7] 27))
 have htt : Tt w (w1.alloc (.cells #[.int .u8 6, .int .u8 7] 27)) b r w1.heap.size F (n : Int) st.stk (!st.goal) st.last st.some 0 p0 fr 6 7 :=
  ⟨HT1.out.below ((Below.refl _ w1).alloc (Nat.le_refl _) _), heap_alloc_last w1 _, Nat.ne_of_gt HT1.out.m.lt, Nat.ne_of_gt HT1.out.lt, HT1.out.km.size⟩
 generalize w1.alloc (.cells #[.int .u8 6, .int .u8 7] 27) = w2 at htt ⊢
 generalize w1.heap.size = K at htt ⊢
 have HT2 := hide htt
 clear htt HT1 HW
 have c0 := HT2.out.ti.m.cells.1
 go_upto_if 23 with (fail)
 go_cut [4] from 24 (fun s4 wx => ∃ K, s4 = .slice (some ⟨K, 0, none⟩) 2 2 /\ Hid (Tt w wx b r K F (n : Int) k1 (!st.goal) st.last st.some 0 p0 fr x0 x1))
 case first =>
  rcases hq with ⟨rfl, rfl, rfl, rfl⟩ | ⟨rfl, hne, rfl, rfl, rfl⟩
  ·go_wp2_with fail
   go_meet
   case rel => exact ⟨K, rfl, HT2⟩
  ·have hpos : 0 < st.stk.length := List.length_pos_iff.2 hne
   have hw := HWK.out hpos (by have := HHK.out; omega)
   have b0 : (0 : Int) <= (st.stk.length : Int) - 1 := by omega
   have b1 : (st.stk.length : Int) - 1 <= (st.stk.length : Int) := by omega
   have b2 : ((st.stk.length : Int) - 1).toNat = st.stk.length - 1 := by omega
   have c2 := HT2.out.ti.m.cells.2.2.1
   have f2 := HT2.out.ti.m.frozen 2
   clear hne hpos
   go_wp2_with fail
   go_region
   go_wp2_with fail
   have ht3 := HT2.out.ti.set2 (List.take (st.stk.length - 1) st.stk)
   have hsz : (w2.setCell ⟨b, 2, none⟩ (S (List.take (st.stk.length - 1) st.stk))).heap.size = w2.heap.size := by simp [World.setCell]
   have ht4 := ht3.below ((Below.refl _ _).alloc (Nat.le_refl _) (.cells #[.int .u8 9, .int .u8 8] 27))
   have hkd := heap_alloc_last (w2.setCell ⟨b, 2, none⟩ (S (List.take (st.stk.length - 1) st.stk))) (.cells #[.int .u8 9, .int .u8 8] 27)
   rw [hsz] at hkd
   have hdl : List.take (st.stk.length - 1) st.stk = st.stk.dropLast := by rw [List.dropLast_eq_take]
   go_meet
   case rel => exact ⟨w2.heap.size, rfl, ⟨by rw [<- hdl]; exact ht4.drewN 1, hkd, Nat.ne_of_gt HT2.out.ti.m.lt, Nat.ne_of_gt HT2.out.ti.lt, HT2.out.ti.km.size⟩⟩
 case rest =>
  obtain ⟨K, rfl, ht3⟩ := hcut
  clear HT2 c0
  have hw1 := HWn.out
  have HRAW := hide (rRawT b F (n : Int) k1 (!st.goal) st.last st.some 0 p0 fr (n + 1) wc ht3.out.ti.m (by have := HLE.out; omega) (by have := HL.out; omega))
  go_wp2_with fail
  refine HRAW.out.mono ?_
  rintro e w4 ⟨tp, last, rfl, hb2, hok, hraw⟩
  have HT4 := hide (ht3.out.below hb2)
  have HOK := hide hok
  clear hb2 hok HRAW ht3
  have c0 := HT4.out.ti.m.cells.1
  rw [HD1.out] at hraw
  rcases hraw with ⟨j, hj, rfl, -⟩ | hno
  rotate_left
  ·have hql : Jsp.tmpl st (F.drop n) = .no 176 0 := by
    rw [HQ.out]
    rcases hno with ⟨h, _⟩ | ⟨h, _⟩ <;> rw [h]
   have htp : tp = -2 \/ tp = -1 := by
    rcases hno with ⟨_, h⟩ | ⟨_, h, _⟩
    ·exact .inl h
    ·exact .inr h
   have htn : Hid (decide (tp < 0) = true) := by unfold Hid; rcases htp with rfl | rfl <;> decide
   have HQL := hide hql
   clear hql hno
   have HWI := hide (rWithin b F _ k1 (!st.goal) st.last st.some _ _ _ 4 0 false false [] last w4 HT4.out.ti.m HOK.out (by have := HLE.out; omega) HL.out)
   have htn := htn.out
   clear htp
   go_wp2_with fail
   refine HWI.out.mono ?_
   rintro e w3 ⟨es, eq, ec, eg, ek, rfl, ⟨fr3, hm3⟩, hk3⟩
   have HT3 := hide (HT4.out.call hm3 hk3)
   clear hm3 hk3 c0 HT4
   go_upto_region 9 with (fail)
   change Code.wp _ _ _ _ (w3.alloc (.cells (whV es eq ec eg ek) 36))
   have hb4 := (Below.refl _ w3).alloc (Nat.le_refl w3.heap.size) (.cells (whV es eq ec eg ek) 36)
   have hx4 := WhB.new w3 es eq ec eg ek
   have HN4 := hide (show w3.heap.size ≠ b /\ w3.heap.size ≠ r /\ w3.heap.size ≠ K /\ w.heap.size <= w3.heap.size from ⟨Nat.ne_of_gt HT3.out.ti.m.lt, Nat.ne_of_gt HT3.out.ti.lt, Nat.ne_of_gt HT3.out.lt, HT3.out.ti.km.size⟩)
   have HT4 := hide (HT3.out.below hb4)
   generalize w3.alloc (.cells (whV es eq ec eg ek) 36) = w4 at HT4 hx4 ⊢
   generalize w3.heap.size = B at HN4 hx4 ⊢
   have HX4 := hide hx4
   clear hb4 hx4 HT3
   have HSO := hide (rSound b F _ k1 (!st.goal) st.last st.some _ _ _ (n + 1) last true w4 HT4.out.ti.m HOK.out (by have := HLE.out; have := HL.out; omega) HL.out)
   go_wp2_with fail
   refine HSO.out.mono ?_
   rintro e w4' ⟨v, rfl, hb5⟩
   have HX4 := hide (show WhB w4' B es eq ec eg ek from (hb5.block B HX4.out.lt).trans HX4.out)
   have HT4 := hide (HT4.out.below hb5)
   clear hb5 HSO
   generalize w4' = w4 at HT4 HX4 ⊢
   cases v
   ·obtain ⟨z0, z1, z2, z3, z4⟩ := HX4.out.cells
    have g0 := HX4.out.frozen 0
    have g1 := HX4.out.frozen 1
    have g2 := HX4.out.frozen 2
    have g3 := HX4.out.frozen 3
    have g4 := HX4.out.frozen 4
    go_upto_region 12 with (fail)
    change Code.wp _ _ _ _ (pWh w4 B 0 0 false false [])
    have HT5 := hide (HT4.out.putWh HN4.out.2.2.2 HN4.out.1 HN4.out.2.1 HN4.out.2.2.1 0 0 false false [])
    have hx5 := pWh_box HX4.out 0 0 false false []
    generalize pWh w4 B 0 0 false false [] = w5 at HT5 hx5 ⊢
    have HX5 := hide hx5
    clear z0 z1 z2 z3 z4 g0 g1 g2 g3 g4 hx5 HT4 HX4
    obtain ⟨z0, z1, z2, z3, z4⟩ := HX5.out.cells
    have hFL := hide (rFail b F _ k1 (!st.goal) st.last st.some _ _ _ 176 (n : Int) 0 0 false false [] w5 HT5.out.ti.m)
    go_wp2_with fail
    refine hFL.out.mono ?_
    rintro e w9 ⟨rfl, ⟨fr9, hm9⟩, hk9⟩
    have HT9 := hide (HT5.out.ti.call hm9 hk9)
    clear hm9 hk9 z0 z1 z2 z3 z4
    obtain ⟨s0, s1, s2, s3, s4, s5⟩ := HT9.out.cells
    go_wp2_with fail
    change bodyPost _ _ _ _ ⟨_, _⟩ (tokW w9 r 0 [] [])
    obtain ⟨E1, E2⟩ := HT9.out.fin 0 [] []
    refine bodyPost_ret (v := tokV 0 [] []) (tok_ret Tryz.results90 _ _ _ HT9.out.tk 0 _ _ rfl) rfl ?_
    unfold TmpP
    rw [HQL.out]
    exact ⟨_, _, _, rfl, E2, _, _, _, _, _, _, E1⟩
   ·obtain ⟨z0, z1, z2, z3, z4⟩ := HX4.out.cells
    have hFL := hide (rFail b F _ k1 (!st.goal) st.last st.some _ _ _ 176 (n : Int) es eq ec eg ek w4 HT4.out.ti.m)
    go_wp2_with fail
    refine hFL.out.mono ?_
    rintro e w9 ⟨rfl, ⟨fr9, hm9⟩, hk9⟩
    have HT9 := hide (HT4.out.ti.call hm9 hk9)
    clear hm9 hk9 z0 z1 z2 z3 z4
    obtain ⟨s0, s1, s2, s3, s4, s5⟩ := HT9.out.cells
    go_wp2_with fail
    change bodyPost _ _ _ _ ⟨_, _⟩ (tokW w9 r 0 [] [])
    obtain ⟨E1, E2⟩ := HT9.out.fin 0 [] []
    refine bodyPost_ret (v := tokV 0 [] []) (tok_ret Tryz.results90 _ _ _ HT9.out.tk 0 _ _ rfl) rfl ?_
    unfold TmpP
    rw [HQL.out]
    exact ⟨_, _, _, rfl, E2, _, _, _, _, _, _, E1⟩
  ·have hjl := raw_lt 96 hj
   have hre := Jsp.raw_end 96 T.length T j (Nat.le_refl _) hj
   have hql := HQ.out
   rw [hj] at hql
   simp only at hql
   have hlt2 : n + 1 + j < F.length := raw_places HF.out hjl
   have HC := hide (fun W => rCooked F (n + 1) (n + 1 + j) true W (Nat.le_of_lt hlt2) (by have := HL.out; omega) (Nat.le_succ_of_le HL.out))
   simp only [take_to] at HC
   rw [HD1.out] at HC
   have q0 := no_neg (x := n + 1 + j)
   have a2 : ((n + 1 + j : Nat) : Int) = (n : Int) + 1 + (j : Int) := by omega
   rw [a2] at q0
   have HWZ := hide (w_z hlt2 (Nat.le_succ_of_le HL.out))
   have HWZ2 := hide (wz2 hlt2 (Nat.le_succ_of_le HL.out))
   obtain ⟨c, hc⟩ : ∃ c, F[n + 1 + j] = c := ⟨_, rfl⟩
   have hTc : T[j]? = some c := by rw [<- HD1.out, List.getElem?_drop, List.getElem?_eq_getElem hlt2]; exact congrArg some hc
   have hat : Cssp.at_ (F.drop n) (j + 1) = c := by
    unfold Cssp.at_
    rw [List.getD_eq_getElem?_getD, HF.out, List.getElem?_cons_succ, hTc]
    rfl
   rw [hat] at hql
   have hcw : (c = 96) \/ (c = 36 /\ n + 1 + j + 1 < F.length) := by
    rcases hre with h | ⟨_, h, h2⟩
    ·rw [hTc] at h; injection h with h; exact .inl h
    ·rw [hTc] at h; injection h with h
     have := (List.getElem?_eq_some_iff.1 h2).1
     have := HLE.out
     exact .inr ⟨h, by omega⟩
   have HCW := hide hcw
   clear hj hjl a2 hre hTc hat hcw
   cases hck : Jsp.cook true (T.take j) with
   | inr ob =>
    rw [hck] at hql HC
    simp only [ckV] at HC
    simp only at hql
    have HQL := hide hql
    have HCC := hide HC
    have q1 := is_nn (x := n + 1 + ob)
    rw [show ((n + 1 + ob : Nat) : Int) = (n : Int) + 1 + (ob : Int) by omega] at q1
    clear hck hql HC
    have hw1 := HWn.out
    go_wp2_with fail
    refine (HCC.out _).mono ?_
    rintro e w3 ⟨rfl, hb3⟩
    have HT3 := hide (HT4.out.below hb3)
    clear hb3 c0 HT4
    have hFL := hide (rFail b F _ k1 (!st.goal) st.last st.some _ _ _ 172 ((n : Int) + 1 + (ob : Int)) 0 0 false false [] w3 HT3.out.ti.m)
    go_wp2_with fail
    refine hFL.out.mono ?_
    rintro e w9 ⟨rfl, ⟨fr9, hm9⟩, hk9⟩
    have HT9 := hide (HT3.out.ti.call hm9 hk9)
    clear hm9 hk9
    obtain ⟨s0, s1, s2, s3, s4, s5⟩ := HT9.out.cells
    go_wp2_with fail
    change bodyPost _ _ _ _ ⟨_, _⟩ (tokW w9 r 0 [] [])
    obtain ⟨E1, E2⟩ := HT9.out.fin 0 [] []
    refine bodyPost_ret (v := tokV 0 [] []) (tok_ret Tryz.results90 _ _ _ HT9.out.tk 0 _ _ rfl) rfl ?_
    unfold TmpP
    rw [HQL.out]
    exact ⟨_, _, _, rfl, E2, _, _, _, _, _, _, by rw [show ((n + (ob + 1) : Nat) : Int) = (n : Int) + 1 + (ob : Int) by omega]; exact E1⟩
   | inl v =>
    rw [hck] at hql HC
    simp only [ckV] at HC
    simp only at hql
    have HQL0 := hide hql
    have HCC := hide HC
    clear hck hql HC
    have hw1 := HWn.out
    go_wp2_with fail
    refine (HCC.out _).mono ?_
    rintro e w3 ⟨rfl, hb3⟩
    have HT3 := hide (HT4.out.below hb3)
    clear hb3 c0 HT4
    obtain ⟨d0, d1⟩ := HT3.out.kd.cells
    go_upto_region 19 with (fail)
    change Code.wp _ _ _ _ (w3.alloc (.cells #[.int .u8 (x0 : Int), S [], S v] 29))
    have hx5 : TkX (w3.alloc (.cells #[.int .u8 (x0 : Int), S [], S v] 29)) w3.heap.size x0 [] v := heap_alloc_last w3 _
    have ht5 := HT3.out.below ((Below.refl _ w3).alloc (Nat.le_refl _) (.cells #[.int .u8 (x0 : Int), S [], S v] 29))
    have HN5 := hide (show w3.heap.size ≠ b /\ w3.heap.size ≠ r /\ w3.heap.size ≠ K /\ w.heap.size <= w3.heap.size from ⟨Nat.ne_of_gt HT3.out.ti.m.lt, Nat.ne_of_gt HT3.out.ti.lt, Nat.ne_of_gt HT3.out.lt, HT3.out.ti.km.size⟩)
    generalize w3.alloc (.cells #[.int .u8 (x0 : Int), S [], S v] 29) = w5 at hx5 ht5 ⊢
    generalize w3.heap.size = r2 at hx5 HN5 ⊢
    have HT5 := hide ht5
    have HX5 := hide hx5
    clear hx5 ht5 d0 d1 HT3
    have c1 := HT5.out.ti.m.cells.2.1
    have f1 := HT5.out.ti.m.frozen 1
    have hwz := HWZ.out
    go_upto_region 20 with (fail)
    change Code.wp _ _ _ _ (w5.setCell ⟨b, 1, none⟩ (.int .i64 ((n : Int) + 1 + (j : Int) + 1)))
    have ht6 := HT5.out.set1 ((n : Int) + 1 + (j : Int) + 1)
    have hx6 : TkX (w5.setCell ⟨b, 1, none⟩ (.int .i64 ((n : Int) + 1 + (j : Int) + 1))) r2 x0 [] v := HX5.out.same (setM_other _ HN5.out.1 _ _)
    generalize w5.setCell ⟨b, 1, none⟩ (.int .i64 ((n : Int) + 1 + (j : Int) + 1)) = w6 at ht6 hx6 ⊢
    have HT6 := hide ht6
    have HX6 := hide hx6
    clear ht6 hx6 c1 f1 HT5 HX5
    have e0 : (0 : Int) <= (n : Int) + 1 + (j : Int) := by omega
    have e1 : (n : Int) + 1 + (j : Int) < (F.length : Int) := by omega
    have e2 : ((n : Int) + 1 + (j : Int)).toNat = n + 1 + j := by omega
    have hcb := u8_lt c
    rcases HCW.out with hc96 | ⟨hc36, hlt3⟩
    ·have qc : ((c.toNat : Int) == 36) = false := by rw [hc96]; rfl
     have qc2 : ((F[n + 1 + j].toNat : Int) == 36) = false := by rw [hc]; exact qc
     have HQL := hide (show Jsp.tmpl st (F.drop n) = .ok ⟨x0, (F.drop n).take (j + 2), v⟩ (j + 2) { st with stk := k1, goal := false, last := [], some := true } from by rw [HQL0.out, if_pos hc96])
     clear hc96
     have b4 : (n : Int) <= (n : Int) + 1 + (j : Int) + 1 := by omega
     have b5 : (n : Int) + 1 + (j : Int) + 1 <= (F.length : Int) := by omega
     have b6 : ((n : Int) + 1 + (j : Int) + 1).toNat - n = j + 2 := by omega
     have c0 := HT6.out.ti.m.cells.1
     have c1 := HT6.out.ti.m.cells.2.1
     have y1 := HX6.out.cells.2.1
     have g1 := HX6.out.frozen 1
     go_wp2_with fail
     go_region
     have hx8 := HX6.out.set1 ((F.drop n).take (j + 2))
     have ht8 := (HT6.out.other HN5.out.2.2.2 HN5.out.1 HN5.out.2.1 HN5.out.2.2.1 1 (S ((F.drop n).take (j + 2)))).drewN 1
     change Exit.then _ _ _ _ ((w6.setCell ⟨r2, 1, none⟩ (S ((F.drop n).take (j + 2)))).drewN 1)
     have hx8 : TkX ((w6.setCell ⟨r2, 1, none⟩ (S ((F.drop n).take (j + 2)))).drewN 1) r2 x0 ((F.drop n).take (j + 2)) v := hx8
     generalize (w6.setCell ⟨r2, 1, none⟩ (S ((F.drop n).take (j + 2)))).drewN 1 = w8 at ht8 hx8 ⊢
     have HT8 := hide ht8
     have HX8 := hide hx8
     clear ht8 hx8 c0 c1 y1 g1 HT6 HX6
     obtain ⟨y0, y1, y2⟩ := HX8.out.cells
     obtain ⟨s0, s1, s2, s3, s4, s5⟩ := HT8.out.ti.cells
     go_wp2_with fail
     change bodyPost _ _ _ _ ⟨_, _⟩ (tokW w8 r x0 ((F.drop n).take (j + 2)) v)
     obtain ⟨E1, E2⟩ := HT8.out.ti.fin x0 ((F.drop n).take (j + 2)) v
     refine bodyPost_ret (v := tokV x0 ((F.drop n).take (j + 2)) v) (tok_ret Tryz.results90 _ _ _ HT8.out.ti.tk x0 _ v rfl) rfl ?_
     unfold TmpP
     rw [HQL.out]
     exact ⟨rfl, E2, _, _, by rw [show ((n + (j + 2) : Nat) : Int) = (n : Int) + 1 + (j : Int) + 1 by omega]; exact E1⟩
    ·have qc : ((c.toNat : Int) == 36) = true := by rw [hc36]; rfl
     have qc2 : ((F[n + 1 + j].toNat : Int) == 36) = true := by rw [hc]; exact qc
     have hql1 := HQL0.out
     rw [if_neg (by rw [hc36]; decide)] at hql1
     clear hc36
     have HQL1 := hide hql1
     clear hql1
     have HLT3 := hide hlt3
     clear hlt3
     obtain ⟨d0, d1⟩ := HT6.out.kd.cells
     have c0 := HT6.out.ti.m.cells.1
     have y0 := HX6.out.cells.1
     have g0 := HX6.out.frozen 0
     go_upto_region 22 with (fail)
     change Code.wp _ _ _ _ (w6.setCell ⟨r2, 0, none⟩ (.int .u8 (x1 : Int)))
     have ht7 := HT6.out.other HN5.out.2.2.2 HN5.out.1 HN5.out.2.1 HN5.out.2.2.1 0 (.int .u8 (x1 : Int))
     have hx7 := HX6.out.set0 (x1 : Int)
     generalize w6.setCell ⟨r2, 0, none⟩ (.int .u8 (x1 : Int)) = w7 at ht7 hx7 ⊢
     have HT7 := hide ht7
     have HX7 := hide hx7
     clear ht7 hx7 d0 d1 c0 y0 g0 HT6 HX6
     have HPU := hide (rPush b F _ k1 (!st.goal) st.last st.some _ _ _ 36 ((n : Int) + 1 + (j : Int)) w7 HT7.out.ti.m HK1.out)
     go_wp2_with fail
     refine HPU.out.mono ?_
     rintro e w9 ⟨rfl, hp, hk9⟩
     have HX9 := hide (HX7.out.same (hk9.block r2 (heap_lt HX7.out) (by simp; exact fun e => HN5.out.1 e)))
     have hwz2 := HWZ2.out
     have b4 : (n : Int) <= (n : Int) + 1 + (j : Int) + 2 := by omega
     have b5 : (n : Int) + 1 + (j : Int) + 2 <= (F.length : Int) := by have := HLT3.out; omega
     have b6 : ((n : Int) + 1 + (j : Int) + 2).toNat - n = j + 3 := by omega
     unfold PushP at hp
     by_cases h200 : k1.length = 200
     ·rw [if_pos h200] at hp
      obtain ⟨fr9, hm9⟩ := hp
      have HQL := hide (show Jsp.tmpl st (F.drop n) = .no 177 (j + 1) from by rw [HQL1.out, if_pos h200])
      have HT9 := hide (HT7.out.call hm9 hk9)
      clear hm9 hk9 h200 HX7 HT7 HPU
      have c1 := HT9.out.ti.m.cells.2.1
      have f1 := HT9.out.ti.m.frozen 1
      go_upto_region 24 with (fail)
      change Code.wp _ _ _ _ (w9.setCell ⟨b, 1, none⟩ (.int .i64 ((n : Int) + 1 + (j : Int) + 2)))
      have ht6 := HT9.out.set1 ((n : Int) + 1 + (j : Int) + 2)
      have hx6 : TkX (w9.setCell ⟨b, 1, none⟩ (.int .i64 ((n : Int) + 1 + (j : Int) + 2))) r2 x1 [] v := HX9.out.same (setM_other _ HN5.out.1 _ _)
      generalize w9.setCell ⟨b, 1, none⟩ (.int .i64 ((n : Int) + 1 + (j : Int) + 2)) = w6 at ht6 hx6 ⊢
      have HT6 := hide ht6
      have HX6 := hide hx6
      clear ht6 hx6 c1 f1 HT9 HX9
      have c0 := HT6.out.ti.m.cells.1
      have c1 := HT6.out.ti.m.cells.2.1
      have y1 := HX6.out.cells.2.1
      have g1 := HX6.out.frozen 1
      go_wp2_with fail
      go_region
      have hx8 := HX6.out.set1 ((F.drop n).take (j + 3))
      have ht8 := (HT6.out.other HN5.out.2.2.2 HN5.out.1 HN5.out.2.1 HN5.out.2.2.1 1 (S ((F.drop n).take (j + 3)))).drewN 1
      change Exit.then _ _ _ _ ((w6.setCell ⟨r2, 1, none⟩ (S ((F.drop n).take (j + 3)))).drewN 1)
      have hx8 : TkX ((w6.setCell ⟨r2, 1, none⟩ (S ((F.drop n).take (j + 3)))).drewN 1) r2 x1 ((F.drop n).take (j + 3)) v := hx8
      generalize (w6.setCell ⟨r2, 1, none⟩ (S ((F.drop n).take (j + 3)))).drewN 1 = w8 at ht8 hx8 ⊢
      have HT8 := hide ht8
      have HX8 := hide hx8
      clear ht8 hx8 c0 c1 y1 g1 HT6 HX6
      obtain ⟨y0, y1, y2⟩ := HX8.out.cells
      obtain ⟨s0, s1, s2, s3, s4, s5⟩ := HT8.out.ti.cells
      go_wp2_with fail
      change bodyPost _ _ _ _ ⟨_, _⟩ (tokW w8 r x1 ((F.drop n).take (j + 3)) v)
      obtain ⟨E1, E2⟩ := HT8.out.ti.fin x1 ((F.drop n).take (j + 3)) v
      refine bodyPost_ret (v := tokV x1 ((F.drop n).take (j + 3)) v) (tok_ret Tryz.results90 _ _ _ HT8.out.ti.tk x1 _ v rfl) rfl ?_
      unfold TmpP
      rw [HQL.out]
      exact ⟨_, _, _, rfl, E2, _, _, _, _, _, _, by rw [show ((n + (j + 1) : Nat) : Int) = (n : Int) + 1 + (j : Int) by omega]; exact E1⟩
     ·rw [if_neg h200] at hp
      have HQL := hide (show Jsp.tmpl st (F.drop n) = .ok ⟨x1, (F.drop n).take (j + 3), v⟩ (j + 3) { st with stk := k1 ++ [36], goal := true, last := [], some := true } from by rw [HQL1.out, if_neg h200])
      have HT9 := hide (HT7.out.call hp hk9)
      clear hp hk9 h200 HX7 HT7 HPU
      have c1 := HT9.out.ti.m.cells.2.1
      have f1 := HT9.out.ti.m.frozen 1
      go_upto_region 24 with (fail)
      change Code.wp _ _ _ _ (w9.setCell ⟨b, 1, none⟩ (.int .i64 ((n : Int) + 1 + (j : Int) + 2)))
      have ht6 := HT9.out.set1 ((n : Int) + 1 + (j : Int) + 2)
      have hx6 : TkX (w9.setCell ⟨b, 1, none⟩ (.int .i64 ((n : Int) + 1 + (j : Int) + 2))) r2 x1 [] v := HX9.out.same (setM_other _ HN5.out.1 _ _)
      generalize w9.setCell ⟨b, 1, none⟩ (.int .i64 ((n : Int) + 1 + (j : Int) + 2)) = w6 at ht6 hx6 ⊢
      have HT6 := hide ht6
      have HX6 := hide hx6
      clear ht6 hx6 c1 f1 HT9 HX9
      have c0 := HT6.out.ti.m.cells.1
      have c1 := HT6.out.ti.m.cells.2.1
      have y1 := HX6.out.cells.2.1
      have g1 := HX6.out.frozen 1
      go_wp2_with fail
      go_region
      have hx8 := HX6.out.set1 ((F.drop n).take (j + 3))
      have ht8 := (HT6.out.other HN5.out.2.2.2 HN5.out.1 HN5.out.2.1 HN5.out.2.2.1 1 (S ((F.drop n).take (j + 3)))).drewN 1
      change Exit.then _ _ _ _ ((w6.setCell ⟨r2, 1, none⟩ (S ((F.drop n).take (j + 3)))).drewN 1)
      have hx8 : TkX ((w6.setCell ⟨r2, 1, none⟩ (S ((F.drop n).take (j + 3)))).drewN 1) r2 x1 ((F.drop n).take (j + 3)) v := hx8
      generalize (w6.setCell ⟨r2, 1, none⟩ (S ((F.drop n).take (j + 3)))).drewN 1 = w8 at ht8 hx8 ⊢
      have HT8 := hide ht8
      have HX8 := hide hx8
      clear ht8 hx8 c0 c1 y1 g1 HT6 HX6
      obtain ⟨y0, y1, y2⟩ := HX8.out.cells
      obtain ⟨s0, s1, s2, s3, s4, s5⟩ := HT8.out.ti.cells
      go_wp2_with fail
      change bodyPost _ _ _ _ ⟨_, _⟩ (tokW w8 r x1 ((F.drop n).take (j + 3)) v)
      obtain ⟨E1, E2⟩ := HT8.out.ti.fin x1 ((F.drop n).take (j + 3)) v
      refine bodyPost_ret (v := tokV x1 ((F.drop n).take (j + 3)) v) (tok_ret Tryz.results90 _ _ _ HT8.out.ti.tk x1 _ v rfl) rfl ?_
      unfold TmpP
      rw [HQL.out]
      exact ⟨rfl, E2, _, _, by rw [show ((n + (j + 3) : Nat) : Int) = (n : Int) + 1 + (j : Int) + 2 by omega]; exact E1⟩
end Go.Proofs.YtngccmlcopcghaaGreatDoor
