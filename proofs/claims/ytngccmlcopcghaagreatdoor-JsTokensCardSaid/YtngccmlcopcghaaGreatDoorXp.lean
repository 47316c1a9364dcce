/- The reference's text. -/
import Derived.Test.YtngccmlcopcghaaGreatDoorXn
set_option maxRecDepth 100000
set_option maxHeartbeats 8000000
namespace Go.Proofs.YtngccmlcopcghaaGreatDoor
open Go.RowKit
structure Ti (w w' : World) (b r : Nat) (F : List UInt8) (a : Int) (k : List UInt8) (d : Bool) (l : List UInt8) (so : Bool) (e pl : Int) (fr : Fr) : Prop where
 m : MB w' b F a k d l so e pl fr
 km : Km b w w'
 tk : w'.heap[r]? = some (.cells tokC 29 (0, 0))
 ne : b ≠ r
 le : w.heap.size <= r
section
variable {w w' w2 : World} {b r : Nat} {F k l : List UInt8} {a e pl : Int} {d so : Bool} {fr : Fr}
theorem Ti.start (h : MB w b F a k d l so e pl fr) : Ti w (w.alloc (.cells tokC 29)) b w.heap.size F a k d l so e pl fr :=
 ⟨h.below ((Below.refl _ w).alloc (Nat.le_refl _) _), (Km.refl b w).below ((Below.refl _ w).alloc (Nat.le_refl _) _), heap_alloc_last _ _, Nat.ne_of_lt h.lt, Nat.le_refl _⟩
theorem Ti.lt (h : Ti w w' b r F a k d l so e pl fr) : r < w'.heap.size := heap_lt h.tk
theorem Ti.below (h : Ti w w' b r F a k d l so e pl fr) (hb : Below w'.heap.size w' w2) : Ti w w2 b r F a k d l so e pl fr :=
 ⟨h.m.below hb, h.km.below hb, (hb.block r h.lt).trans h.tk, h.ne, h.le⟩
theorem Ti.drewN (h : Ti w w' b r F a k d l so e pl fr) (n : Nat) : Ti w (w'.drewN n) b r F a k d l so e pl fr := ⟨h.m, h.km.drewN n, h.tk, h.ne, h.le⟩
theorem Ti.call {a2 : Int} {k2 : List UInt8} {d2 : Bool} {l2 : List UInt8} {so2 : Bool} {e2 pl2 : Int} {fr2 : Fr} (h : Ti w w' b r F a k d l so e pl fr) (hm : MB w2 b F a2 k2 d2 l2 so2 e2 pl2 fr2) (hk : Km b w' w2) : Ti w w2 b r F a2 k2 d2 l2 so2 e2 pl2 fr2 :=
 ⟨hm, World.grownBy.trans h.km hk, (hk.block r h.lt (by simp; exact fun e => h.ne e.symm)).trans h.tk, h.ne, h.le⟩
theorem Ti.other (h : Ti w w' b r F a k d l so e pl fr) {B : Nat} (hB : w.heap.size <= B) (h1 : B ≠ b) (h2 : B ≠ r) (o : Nat) (u : Value) : Ti w (w'.setCell ⟨B, o, none⟩ u) b r F a k d l so e pl fr :=
 ⟨h.m.same (setM_other _ h1.symm _ _), h.km.setNew hB o u, (setM_other _ h2.symm _ _).trans h.tk, h.ne, h.le⟩
theorem Ti.putWh (h : Ti w w' b r F a k d l so e pl fr) {B : Nat} (hB : w.heap.size <= B) (h1 : B ≠ b) (h2 : B ≠ r) (es eq : Int) (ec eg : Bool) (ek : List UInt8) : Ti w (pWh w' B es eq ec eg ek) b r F a k d l so e pl fr :=
 ((((h.other hB h1 h2 0 _).other hB h1 h2 1 _).other hB h1 h2 2 _).other hB h1 h2 3 _).other hB h1 h2 4 _
theorem Ti.set1 (h : Ti w w' b r F a k d l so e pl fr) (x : Int) : Ti w (w'.setCell ⟨b, 1, none⟩ (.int .i64 x)) b r F x k d l so e pl fr :=
 ⟨h.m.set1 x, h.km.set 1 _, (setM_other _ h.ne.symm _ _).trans h.tk, h.ne, h.le⟩
theorem Ti.set2 (h : Ti w w' b r F a k d l so e pl fr) (x : List UInt8) : Ti w (w'.setCell ⟨b, 2, none⟩ (S x)) b r F a x d l so e pl fr :=
 ⟨h.m.set2 x, h.km.set 2 _, (setM_other _ h.ne.symm _ _).trans h.tk, h.ne, h.le⟩
theorem Ti.set3 (h : Ti w w' b r F a k d l so e pl fr) (x : Bool) : Ti w (w'.setCell ⟨b, 3, none⟩ (.bool x)) b r F a k x l so e pl fr :=
 ⟨h.m.set3 x, h.km.set 3 _, (setM_other _ h.ne.symm _ _).trans h.tk, h.ne, h.le⟩
theorem Ti.set4 (h : Ti w w' b r F a k d l so e pl fr) (x : List UInt8) : Ti w (w'.setCell ⟨b, 4, none⟩ (S x)) b r F a k d x so e pl fr :=
 ⟨h.m.set4 x, h.km.set 4 _, (setM_other _ h.ne.symm _ _).trans h.tk, h.ne, h.le⟩
theorem Ti.set5 (h : Ti w w' b r F a k d l so e pl fr) (x : Bool) : Ti w (w'.setCell ⟨b, 5, none⟩ (.bool x)) b r F a k d l x e pl fr :=
 ⟨h.m.set5 x, h.km.set 5 _, (setM_other _ h.ne.symm _ _).trans h.tk, h.ne, h.le⟩
theorem Ti.set14 (h : Ti w w' b r F a k d l so e pl fr) (x : Int) : Ti w (w'.setCell ⟨b, 14, none⟩ (.int .i64 x)) b r F a k d l so e pl { fr with rs := x } :=
 ⟨h.m.set14 x, h.km.set 14 _, (setM_other _ h.ne.symm _ _).trans h.tk, h.ne, h.le⟩
theorem Ti.fin (h : Ti w w' b r F a k d l so e pl fr) (x : Int) (t v : List UInt8) : MB (tokW w' r x t v) b F a k d l so e pl fr /\ Km b w (tokW w' r x t v) :=
 ⟨h.m.same (tokW_other w' r x t v b h.ne), ((h.km.setNew h.le 0 _).setNew h.le 1 _).setNew h.le 2 _⟩
theorem Ti.cells (h : Ti w w' b r F a k d l so e pl fr) : w'.cell? ⟨r, 0, none⟩ = some (.int .u8 0) /\ w'.cell? ⟨r, 1, none⟩ = some (S []) /\ w'.cell? ⟨r, 2, none⟩ = some (S []) /\ w'.frozen? ⟨r, 0, none⟩ = false /\ w'.frozen? ⟨r, 1, none⟩ = false /\ w'.frozen? ⟨r, 2, none⟩ = false := tok_cells h.tk
end
def ErP (b : Nat) (F : List UInt8) (er pl : Nat) (w : World) (e : Ending) (w' : World) : Prop :=
 ∃ (x : Int) (t v : List UInt8), e = .returned (tokV x t v) /\ Km b w w' /\ ∃ a k d l so fr, MB w' b F a k d l so (er : Int) (pl : Int) fr
def OkP (b : Nat) (F : List UInt8) (x : Int) (t v : List UInt8) (a : Nat) (k : List UInt8) (d : Bool) (l : List UInt8) (so : Bool) (w : World) (e : Ending) (w' : World) : Prop :=
 e = .returned (tokV x t v) /\ Km b w w' /\ ∃ pl fr, MB w' b F (a : Int) k d l so 0 pl fr
def TxtP (b : Nat) (F : List UInt8) (n : Nat) (k : List UInt8) (d : Bool) (l : List UInt8) (so : Bool) (w : World) (e : Ending) (w' : World) : Prop := match Jsp.quote (F.drop n) with
 | .inl (.no er o) => ErP b F er (n + o) w e w'
 | .inl (.ok _ _ _) => False
 | .inr (kk, v) => OkP b F 5 ((F.drop n).take (kk + 2)) v (n + (kk + 2)) k d l so w e w'
theorem raw_places {F T : List UInt8} {n j : Nat} {q : UInt8} (hF : F.drop n = q :: T) (hj : j < T.length) : n + 1 + j < F.length := by
 have := congrArg List.length hF
 rw [List.length_drop, List.length_cons] at this
 omega
theorem take_to {F : List UInt8} {m j : Nat} : (F.take (m + j)).drop m = (F.drop m).take j := by rw [List.drop_take]; congr 1; omega
theorem raw_lt (q : UInt8) {s : List UInt8} {k : Nat} (h : Jsp.raw q s = .ends k) : k < s.length := by
 rcases Jsp.raw_end q s.length s k (Nat.le_refl _) h with h | ⟨_, h, _⟩
 ·exact (List.getElem?_eq_some_iff.1 h).1
 ·exact (List.getElem?_eq_some_iff.1 h).1
theorem w_z {n j L : Nat} (h : n + 1 + j < L) (hL : L <= 1048576) : wrap64 ((n : Int) + 1 + (j : Int) + 1) = (n : Int) + 1 + (j : Int) + 1 := by unfold wrap64; omega
theorem no_neg {x : Nat} : decide ((x : Int) < 0) = false := decide_eq_false (by omega)
theorem is_nn {x : Nat} : decide ((0 : Int) <= (x : Int)) = true := decide_eq_true (by omega)
theorem rText (b : Nat) (F : List UInt8) (n : Nat) (q : UInt8) (T : List UInt8) (k : List UInt8) (d : Bool) (l : List UInt8) (so : Bool) (p0 : Int) (fr : Fr) (w : World) (h : MB w b F (n : Int) k d l so 0 p0 fr) (hF : F.drop n = q :: T) (hq : q = 34 \/ q = 39) (hl : F.length <= 1048575) :
  Calls Tryz.prog 89 #[.pointer (some ⟨b, 0, none⟩)] w (TxtP b F n k d l so w) := by
 have hq96 : ¬ q = 96 := by rintro rfl; rcases hq with h | h <;> cases h
 have hq92 : ¬ q = 92 := by rintro rfl; rcases hq with h | h <;> cases h
 have hlen : F.length = n + (T.length + 1) := by
  have := congrArg List.length hF
  rw [List.length_drop, List.length_cons] at this
  omega
 have hd1 : F.drop (n + 1) = T := by rw [<- List.drop_drop, hF]; rfl
 have hlt : n < F.length := by omega
 have hqn : F[n] = q := by
  have := List.drop_eq_getElem_cons hlt
  rw [hF] at this
  injection this with this _
  exact this.symm
 have hQ : Jsp.quote (F.drop n) = match Jsp.raw q T with
   | .ends k => (match Jsp.cook false (T.take k) with
    | .inl v => .inr (k, v)
    | .inr o => .inl (.no 172 (o + 1)))
   | _ => .inl (.no 171 0) := by rw [hF]; rfl
 have HT1 := hide (Ti.start h)
 obtain ⟨w1, hw1⟩ : ∃ w1, w1 = w.alloc (.cells tokC 29) := ⟨_, rfl⟩
 obtain ⟨r, hr⟩ : ∃ r, w.heap.size = r := ⟨_, rfl⟩
 rw [<- hw1, hr] at HT1
 have HW := hide hw1
 have HR := hide hr
 have a0 : (0 : Int) <= (n : Int) := by omega
 have a1 : (n : Int) < (F.length : Int) := by omega
 have HRAW := hide (rRawQ q hq96 hq92 b F (n : Int) k d l so 0 p0 fr (n + 1) w1 HT1.out.m (by omega) (by omega))
 have HD1 := hide hd1
 have HLE := hide hlen
 have HL := hide hl
 have HQ := hide hQ
 have HF := hide hF
 have HWn := hide (wr1 (i := n) (by omega))
 have c0 := HT1.out.m.cells.1
 have c1 := HT1.out.m.cells.2.1
 have hqb := u8_lt q
 clear h hF hq hl hq96 hq92 hlen hd1 hQ hw1 hr
 have hw1 := HWn.out
 go_enter Tryz.func89, Tryz.ntmps89
 go_upto_region 1 with (fail)
 change Code.wp _ _ _ _ (w.alloc (.cells tokC 29))
 rw [<- HW.out]
 go_wp2_with fail
 refine HRAW.out.mono ?_
 rintro e w2 ⟨tp, last, rfl, hb2, hok, hraw⟩
 rw [HR.out]
 have HT2 := hide (HT1.out.below hb2)
 have HOK := hide hok
 have c0 := HT2.out.m.cells.1
 clear hb2 hok HRAW HT1
 rw [HD1.out] at hraw
 rcases hraw with ⟨j, hj, rfl, -⟩ | hno
 ·have hjl := raw_lt q hj
  have hql := HQ.out
  rw [hj] at hql
  simp only at hql
  have hlt2 : n + 1 + j < F.length := raw_places HF.out hjl
  have HC := hide (fun W => rCooked F (n + 1) (n + 1 + j) false W (Nat.le_of_lt hlt2) (by have := HL.out; omega) (Nat.le_succ_of_le HL.out))
  simp only [take_to] at HC
  rw [HD1.out] at HC
  have q0 := no_neg (x := n + 1 + j)
  have a2 : ((n + 1 + j : Nat) : Int) = (n : Int) + 1 + (j : Int) := by omega
  rw [a2] at q0
  have HWZ := hide (w_z hlt2 (Nat.le_succ_of_le HL.out))
  have b3 : (0 : Int) <= (n : Int) := by omega
  have b4 : (n : Int) <= (n : Int) + 1 + (j : Int) + 1 := by omega
  have b5 : (n : Int) + 1 + (j : Int) + 1 <= (F.length : Int) := by omega
  have b6 : ((n : Int) + 1 + (j : Int) + 1).toNat - n = j + 2 := by omega
  have hTj : Hid (Jsp.cook false ((F.drop (n + 1)).take j) = Jsp.cook false (T.take j)) := by unfold Hid; rw [HD1.out]
  clear hj hjl hlt2 a2
  cases hck : Jsp.cook false (T.take j) with
  | inl v =>
   rw [hck] at hql HC
   simp only [ckV] at HC
   simp only at hql
   have HQL := hide hql
   have HCC := hide HC
   clear hck hql HC
   have hwz := HWZ.out
   have hw1 := HWn.out
   go_wp2_with fail
   refine (HCC.out _).mono ?_
   rintro e w3 ⟨rfl, hb3⟩
   have HT3 := hide (HT2.out.below hb3)
   clear hb3 c0 HT2
   have c0 := HT3.out.m.cells.1
   have c1 := HT3.out.m.cells.2.1
   have f1 := HT3.out.m.frozen 1
   go_upto_region 15 with (fail)
   change Code.wp _ _ _ _ (w3.setCell ⟨b, 1, none⟩ (.int .i64 ((n : Int) + 1 + (j : Int) + 1)))
   have hT4 := HT3.out.set1 ((n : Int) + 1 + (j : Int) + 1)
   generalize w3.setCell ⟨b, 1, none⟩ (.int .i64 ((n : Int) + 1 + (j : Int) + 1)) = w4 at hT4 ⊢
   have HT4 := hide hT4
   clear hT4 c0 c1 f1 HT3
   have c0 := HT4.out.m.cells.1
   obtain ⟨s0, s1, s2, s3, s4, s5⟩ := HT4.out.cells
   go_wp2_with fail
   change bodyPost _ _ _ _ ⟨_, _⟩ (tokW w4 r 5 ((F.drop n).take (j + 2)) v)
   obtain ⟨E1, E2⟩ := HT4.out.fin 5 ((F.drop n).take (j + 2)) v
   refine bodyPost_ret (v := tokV 5 ((F.drop n).take (j + 2)) v) (tok_ret Tryz.results89 _ _ _ HT4.out.tk 5 _ v rfl) rfl ?_
   unfold TxtP
   rw [HQL.out]
   exact ⟨rfl, E2, _, _, by rw [show ((n + (j + 2) : Nat) : Int) = (n : Int) + 1 + (j : Int) + 1 by omega]; exact E1⟩
  | inr ob =>
   rw [hck] at hql HC
   simp only [ckV] at HC
   simp only at hql
   have HQL := hide hql
   have HCC := hide HC
   have q1 := is_nn (x := n + 1 + ob)
   rw [show ((n + 1 + ob : Nat) : Int) = (n : Int) + 1 + (ob : Int) by omega] at q1
   clear hck hql HC
   have hw1 := HWn.out
   go_wp2_with fail
   refine (HCC.out _).mono ?_
   rintro e w3 ⟨rfl, hb3⟩
   have HT3 := hide (HT2.out.below hb3)
   clear hb3 c0 HT2
   have hFL := hide (rFail b F _ k d l so _ _ _ 172 ((n : Int) + 1 + (ob : Int)) 0 0 false false [] w3 HT3.out.m)
   go_wp2_with fail
   refine hFL.out.mono ?_
   rintro e w9 ⟨rfl, ⟨fr9, hm9⟩, hk9⟩
   have HT9 := hide (HT3.out.call hm9 hk9)
   clear hm9 hk9
   obtain ⟨s0, s1, s2, s3, s4, s5⟩ := HT9.out.cells
   go_wp2_with fail
   change bodyPost _ _ _ _ ⟨_, _⟩ (tokW w9 r 0 [] [])
   obtain ⟨E1, E2⟩ := HT9.out.fin 0 [] []
   refine bodyPost_ret (v := tokV 0 [] []) (tok_ret Tryz.results89 _ _ _ HT9.out.tk 0 _ _ rfl) rfl ?_
   unfold TxtP
   rw [HQL.out]
   exact ⟨_, _, _, rfl, E2, _, _, _, _, _, _, by rw [show ((n + (ob + 1) : Nat) : Int) = (n : Int) + 1 + (ob : Int) by omega]; exact E1⟩
 ·have hql : Jsp.quote (F.drop n) = .inl (.no 171 0) := by
   rw [HQ.out]
   rcases hno with ⟨h, _⟩ | ⟨h, _⟩ <;> rw [h]
  have htp : tp = -2 \/ tp = -1 := by
   rcases hno with ⟨_, h⟩ | ⟨_, h, _⟩
   ·exact .inl h
   ·exact .inr h
  have HQL := hide hql
  clear hql hno
  have HWI := hide (rWithin b F _ k d l so _ _ _ 3 (q.toNat : Int) false false [] last w2 HT2.out.m HOK.out (by have := HLE.out; omega) HL.out)
  have hw1 := HWn.out
  rcases htp with rfl | rfl
  ·go_wp2_with fail
   refine HWI.out.mono ?_
   rintro e w3 ⟨es, eq, ec, eg, ek, rfl, ⟨fr3, hm3⟩, hk3⟩
   have HT3 := hide (HT2.out.call hm3 hk3)
   clear hm3 hk3 c0 HT2
   go_upto_region 6 with (fail)
   change Code.wp _ _ _ _ (w3.alloc (.cells (whV es eq ec eg ek) 36))
   have hb4 := (Below.refl _ w3).alloc (Nat.le_refl w3.heap.size) (.cells (whV es eq ec eg ek) 36)
   have hx4 := WhB.new w3 es eq ec eg ek
   have HN4 := hide (show w3.heap.size ≠ b /\ w3.heap.size ≠ r /\ w.heap.size <= w3.heap.size from ⟨Nat.ne_of_gt HT3.out.m.lt, Nat.ne_of_gt HT3.out.lt, HT3.out.km.size⟩)
   have HT4 := hide (HT3.out.below hb4)
   generalize w3.alloc (.cells (whV es eq ec eg ek) 36) = w4 at HT4 hx4 ⊢
   generalize w3.heap.size = B at HN4 hx4 ⊢
   have HX4 := hide hx4
   clear hb4 hx4 HT3
   obtain ⟨z0, z1, z2, z3, z4⟩ := HX4.out.cells
   have g0 := HX4.out.frozen 0
   have g1 := HX4.out.frozen 1
   have g2 := HX4.out.frozen 2
   have g3 := HX4.out.frozen 3
   have g4 := HX4.out.frozen 4
   go_upto_region 8 with (fail)
   change Code.wp _ _ _ _ (pWh w4 B 0 0 false false [])
   have HT5 := hide (HT4.out.putWh HN4.out.2.2 HN4.out.1 HN4.out.2.1 0 0 false false [])
   have hx5 := pWh_box HX4.out 0 0 false false []
   generalize pWh w4 B 0 0 false false [] = w5 at HT5 hx5 ⊢
   have HX5 := hide hx5
   clear z0 z1 z2 z3 z4 g0 g1 g2 g3 g4 hx5 HT4 HX4
   obtain ⟨z0, z1, z2, z3, z4⟩ := HX5.out.cells
   have hFL := hide (rFail b F _ k d l so _ _ _ 171 (n : Int) 0 0 false false [] w5 HT5.out.m)
   go_wp2_with fail
   refine hFL.out.mono ?_
   rintro e w9 ⟨rfl, ⟨fr9, hm9⟩, hk9⟩
   have HT9 := hide (HT5.out.call hm9 hk9)
   clear hm9 hk9 z0 z1 z2 z3 z4
   obtain ⟨s0, s1, s2, s3, s4, s5⟩ := HT9.out.cells
   go_wp2_with fail
   change bodyPost _ _ _ _ ⟨_, _⟩ (tokW w9 r 0 [] [])
   obtain ⟨E1, E2⟩ := HT9.out.fin 0 [] []
   refine bodyPost_ret (v := tokV 0 [] []) (tok_ret Tryz.results89 _ _ _ HT9.out.tk 0 _ _ rfl) rfl ?_
   unfold TxtP
   rw [HQL.out]
   exact ⟨_, _, _, rfl, E2, _, _, _, _, _, _, E1⟩
  ·go_wp2_with fail
   refine HWI.out.mono ?_
   rintro e w3 ⟨es, eq, ec, eg, ek, rfl, ⟨fr3, hm3⟩, hk3⟩
   have HT3 := hide (HT2.out.call hm3 hk3)
   clear hm3 hk3 c0 HT2
   go_upto_region 6 with (fail)
   change Code.wp _ _ _ _ (w3.alloc (.cells (whV es eq ec eg ek) 36))
   have hb4 := (Below.refl _ w3).alloc (Nat.le_refl w3.heap.size) (.cells (whV es eq ec eg ek) 36)
   have hx4 := WhB.new w3 es eq ec eg ek
   have HN4 := hide (show w3.heap.size ≠ b /\ w3.heap.size ≠ r /\ w.heap.size <= w3.heap.size from ⟨Nat.ne_of_gt HT3.out.m.lt, Nat.ne_of_gt HT3.out.lt, HT3.out.km.size⟩)
   have HT4 := hide (HT3.out.below hb4)
   generalize w3.alloc (.cells (whV es eq ec eg ek) 36) = w4 at HT4 hx4 ⊢
   generalize w3.heap.size = B at HN4 hx4 ⊢
   have HX4 := hide hx4
   clear hb4 hx4 HT3
   have HSO := hide (rSound b F _ k d l so _ _ _ (n + 1) last false w4 HT4.out.m HOK.out (by have := HLE.out; have := HL.out; omega) HL.out)
   go_wp2_with fail
   refine HSO.out.mono ?_
   rintro e w4' ⟨v, rfl, hb5⟩
   have HX4 := hide (show WhB w4' B es eq ec eg ek from (hb5.block B HX4.out.lt).trans HX4.out)
   have HT4 := hide (HT4.out.below hb5)
   clear hb5 HSO
   generalize w4' = w4 at HT4 HX4 ⊢
   cases v
   ·obtain ⟨z0, z1, z2, z3, z4⟩ := HX4.out.cells
    have g0 := HX4.out.frozen 0
    have g1 := HX4.out.frozen 1
    have g2 := HX4.out.frozen 2
    have g3 := HX4.out.frozen 3
    have g4 := HX4.out.frozen 4
    go_upto_region 8 with (fail)
    change Code.wp _ _ _ _ (pWh w4 B 0 0 false false [])
    have HT5 := hide (HT4.out.putWh HN4.out.2.2 HN4.out.1 HN4.out.2.1 0 0 false false [])
    have hx5 := pWh_box HX4.out 0 0 false false []
    generalize pWh w4 B 0 0 false false [] = w5 at HT5 hx5 ⊢
    have HX5 := hide hx5
    clear z0 z1 z2 z3 z4 g0 g1 g2 g3 g4 hx5 HT4 HX4
    obtain ⟨z0, z1, z2, z3, z4⟩ := HX5.out.cells
    have hFL := hide (rFail b F _ k d l so _ _ _ 171 (n : Int) 0 0 false false [] w5 HT5.out.m)
    go_wp2_with fail
    refine hFL.out.mono ?_
    rintro e w9 ⟨rfl, ⟨fr9, hm9⟩, hk9⟩
    have HT9 := hide (HT5.out.call hm9 hk9)
    clear hm9 hk9 z0 z1 z2 z3 z4
    obtain ⟨s0, s1, s2, s3, s4, s5⟩ := HT9.out.cells
    go_wp2_with fail
    change bodyPost _ _ _ _ ⟨_, _⟩ (tokW w9 r 0 [] [])
    obtain ⟨E1, E2⟩ := HT9.out.fin 0 [] []
    refine bodyPost_ret (v := tokV 0 [] []) (tok_ret Tryz.results89 _ _ _ HT9.out.tk 0 _ _ rfl) rfl ?_
    unfold TxtP
    rw [HQL.out]
    exact ⟨_, _, _, rfl, E2, _, _, _, _, _, _, E1⟩
   ·obtain ⟨z0, z1, z2, z3, z4⟩ := HX4.out.cells
    have hFL := hide (rFail b F _ k d l so _ _ _ 171 (n : Int) es eq ec eg ek w4 HT4.out.m)
    go_wp2_with fail
    refine hFL.out.mono ?_
    rintro e w9 ⟨rfl, ⟨fr9, hm9⟩, hk9⟩
    have HT9 := hide (HT4.out.call hm9 hk9)
    clear hm9 hk9 z0 z1 z2 z3 z4
    obtain ⟨s0, s1, s2, s3, s4, s5⟩ := HT9.out.cells
    go_wp2_with fail
    change bodyPost _ _ _ _ ⟨_, _⟩ (tokW w9 r 0 [] [])
    obtain ⟨E1, E2⟩ := HT9.out.fin 0 [] []
    refine bodyPost_ret (v := tokV 0 [] []) (tok_ret Tryz.results89 _ _ _ HT9.out.tk 0 _ _ rfl) rfl ?_
    unfold TxtP
    rw [HQL.out]
    exact ⟨_, _, _, rfl, E2, _, _, _, _, _, _, E1⟩
end Go.Proofs.YtngccmlcopcghaaGreatDoor
