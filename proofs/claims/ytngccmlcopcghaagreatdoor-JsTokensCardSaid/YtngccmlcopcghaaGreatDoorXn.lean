/- The reference's within and sound. -/
import Derived.Test.YtngccmlcopcghaaGreatDoorXm
set_option maxRecDepth 100000
set_option maxHeartbeats 8000000
namespace Go.Proofs.YtngccmlcopcghaaGreatDoor
open Go.RowKit
def pWh (w : World) (B : Nat) (es eq : Int) (ec eg : Bool) (ek : List UInt8) : World :=
 ((((w.setCell ⟨B, 0, none⟩ (.int .u8 es)).setCell ⟨B, 1, none⟩ (.int .u8 eq)).setCell ⟨B, 2, none⟩ (.bool ec)).setCell ⟨B, 3, none⟩ (.bool eg)).setCell ⟨B, 4, none⟩ (S ek)
section
variable {w w' : World} {b B : Nat} {F k l : List UInt8} {a e pl : Int} {d so : Bool} {fr : Fr} {es eq : Int} {ec eg : Bool} {ek : List UInt8}
theorem pWh_box (h : WhB w B es eq ec eg ek) (es' eq' : Int) (ec' eg' : Bool) (ek' : List UInt8) : WhB (pWh w B es' eq' ec' eg' ek') B es' eq' ec' eg' ek' := by
 have h' : w.heap[B]? = some _ := h
 unfold WhB
 simp [pWh, World.setCell, Array.getElem?_modify, h']
theorem pWh_other (w : World) {j : Nat} (hB : j ≠ B) (es eq : Int) (ec eg : Bool) (ek : List UInt8) : (pWh w B es eq ec eg ek).heap[j]? = w.heap[j]? := by
 unfold pWh
 rw [Below.heap_setCell _ _ _ _ hB, Below.heap_setCell _ _ _ _ hB, Below.heap_setCell _ _ _ _ hB, Below.heap_setCell _ _ _ _ hB, Below.heap_setCell _ _ _ _ hB]
theorem WhB.set0 (h : WhB w B es eq ec eg ek) (x : Int) : WhB (w.setCell ⟨B, 0, none⟩ (.int .u8 x)) B x eq ec eg ek := by
 have h' : w.heap[B]? = some _ := h
 unfold WhB
 simp [World.setCell, Array.getElem?_modify, h']
theorem WhB.set1 (h : WhB w B es eq ec eg ek) (x : Int) : WhB (w.setCell ⟨B, 1, none⟩ (.int .u8 x)) B es x ec eg ek := by
 have h' : w.heap[B]? = some _ := h
 unfold WhB
 simp [World.setCell, Array.getElem?_modify, h']
theorem MB.same (h : MB w b F a k d l so e pl fr) (hs : w'.heap[b]? = w.heap[b]?) : MB w' b F a k d l so e pl fr := hs.trans h
theorem Km.setNew (h : Km b w w') (hB : w.heap.size <= B) (o : Nat) (u : Value) : Km b w (w'.setCell ⟨B, o, none⟩ u) :=
 ⟨h.os, h.tape, h.output, by have := h.size; simpa [World.setCell] using this, fun i hi hne => (Below.heap_setCell w' ⟨B, o, none⟩ u i (by show i ≠ B; omega)).trans (h.block i hi hne)⟩
theorem pWh_Km (h : Km b w w') (hB : w.heap.size <= B) (es eq : Int) (ec eg : Bool) (ek : List UInt8) : Km b w (pWh w' B es eq ec eg ek) :=
 ((((h.setNew hB 0 _).setNew hB 1 _).setNew hB 2 _).setNew hB 3 _).setNew hB 4 _
end
structure Wi (w w' : World) (b B : Nat) (F : List UInt8) (a : Int) (k : List UInt8) (d : Bool) (l : List UInt8) (so : Bool) (e pl : Int) (fr : Fr) (es eq : Int) (ec eg : Bool) (ek : List UInt8) : Prop where
 m : MB w' b F a k d l so e pl fr
 km : Km b w w'
 bx : WhB w' B es eq ec eg ek
 rs : WhB w' (B + 1) 0 0 false false []
 ne : b ≠ B
 n2 : b ≠ B + 1
 le : w.heap.size <= B
section
variable {w w' : World} {b B : Nat} {F k l : List UInt8} {a e pl : Int} {d so : Bool} {fr : Fr} {es eq : Int} {ec eg : Bool} {ek : List UInt8}
theorem Wi.set14 (h : Wi w w' b B F a k d l so e pl fr es eq ec eg ek) (x : Int) : Wi w (w'.setCell ⟨b, 14, none⟩ (.int .i64 x)) b B F a k d l so e pl { fr with rs := x } es eq ec eg ek :=
 ⟨h.m.set14 x, h.km.set 14 _, h.bx.same (setM_other _ h.ne.symm _ _), h.rs.same (setM_other _ h.n2.symm _ _), h.ne, h.n2, h.le⟩
theorem Wi.box0 (h : Wi w w' b B F a k d l so e pl fr es eq ec eg ek) (x : Int) : Wi w (w'.setCell ⟨B, 0, none⟩ (.int .u8 x)) b B F a k d l so e pl fr x eq ec eg ek :=
 ⟨h.m.same (setM_other _ h.ne _ _), h.km.setNew h.le 0 _, h.bx.set0 x, h.rs.same (setM_other _ (by omega) _ _), h.ne, h.n2, h.le⟩
theorem Wi.box1 (h : Wi w w' b B F a k d l so e pl fr es eq ec eg ek) (x : Int) : Wi w (w'.setCell ⟨B, 1, none⟩ (.int .u8 x)) b B F a k d l so e pl fr es x ec eg ek :=
 ⟨h.m.same (setM_other _ h.ne _ _), h.km.setNew h.le 1 _, h.bx.set1 x, h.rs.same (setM_other _ (by omega) _ _), h.ne, h.n2, h.le⟩
theorem Wi.drewN (h : Wi w w' b B F a k d l so e pl fr es eq ec eg ek) (n : Nat) : Wi w (w'.drewN n) b B F a k d l so e pl fr es eq ec eg ek :=
 ⟨h.m, h.km.drewN n, h.bx, h.rs, h.ne, h.n2, h.le⟩
end
def WhA (b : Nat) (F : List UInt8) (a : Int) (k : List UInt8) (d : Bool) (l : List UInt8) (so : Bool) (e pl : Int) (w : World) (en : Ending) (w' : World) : Prop :=
 ∃ (es eq : Int) (ec eg : Bool) (ek : List UInt8), en = .returned (.agg (whV es eq ec eg ek)) /\ (∃ fr', MB w' b F a k d l so e pl fr') /\ Km b w w'
theorem wl1 {n : Nat} (h : 0 < n) (hn : n <= 1048575) : wrap64 ((n : Int) - 1) = (n : Int) - 1 := by unfold wrap64; omega
theorem wl2 {n : Nat} (h : 0 < n) (hn : n <= 1048575) : wrap64 ((n : Int) - 2) = (n : Int) - 2 := by unfold wrap64; omega
theorem wrj {j n : Nat} (h : j < n) (hn : n <= 1048575) : wrap64 ((j : Int) + 1) = (j : Int) + 1 := by unfold wrap64; omega
theorem rWithin (b : Nat) (F : List UInt8) (a : Int) (k : List UInt8) (d : Bool) (l : List UInt8) (so : Bool) (e pl : Int) (fr : Fr) (es eq : Int) (ec eg : Bool) (ek : List UInt8) (last : Int) (w : World) (h : MB w b F a k d l so e pl fr) (hlast : last = -1 \/ ∃ j : Nat, last = (j : Int) /\ j < F.length) (hF : 0 < F.length) (hl : F.length <= 1048575) :
  Calls Tryz.prog 127 #[.pointer (some ⟨b, 0, none⟩), .agg (whV es eq ec eg ek), .int .i64 last] w (WhA b F a k d l so e pl w) := by
 obtain ⟨B, hB⟩ : ∃ B, w.heap.size = B := ⟨_, rfl⟩
 obtain ⟨w2, hw2⟩ : ∃ w2, w2 = (w.alloc (.cells (whV es eq ec eg ek) 36)).alloc (.cells (whV 0 0 false false []) 36) := ⟨_, rfl⟩
 have hlt := h.lt
 have hsz : (w.alloc (.cells (whV es eq ec eg ek) 36)).heap.size = B + 1 := by rw [<- hB]; simp
 have hb1 : Below w.heap.size w w2 := by
  rw [hw2]
  exact ((Below.refl _ w).alloc (Nat.le_refl _) _).alloc (by rw [hsz]; omega) _
 have hwi : Wi w w2 b B F a k d l so e pl fr es eq ec eg ek := by
  refine ⟨h.below hb1, (Km.refl b w).below hb1, ?_, ?_, by omega, by omega, by omega⟩
  ·have h1 := WhB.new w es eq ec eg ek
   rw [hB] at h1
   rw [hw2]
   exact h1.same (Below.heap_alloc _ _ _ (by rw [hsz]; omega))
  ·have h1 := WhB.new (w.alloc (.cells (whV es eq ec eg ek) 36)) 0 0 false false []
   rw [hsz] at h1
   rw [hw2]; exact h1
 have HWI := hide hwi
 have HW := hide hw2
 have HB := hide hB
 have c0 := hwi.m.cells.1
 have c14 := hwi.m.more.2.2.2.2.2.2.1
 have f14 := hwi.m.frozen 14
 have HL := hide hl
 clear h hlt hsz hb1 hwi hw2 hB
 go_enter Tryz.func127, Tryz.ntmps127
 go_upto_region 1 with (fail)
 change Code.wp _ _ _ _ ((w.alloc (.cells (whV es eq ec eg ek) 36)).alloc (.cells (whV 0 0 false false []) 36))
 rw [<- HW.out]
 rw [HB.out]
 clear HW
 rcases hlast with rfl | ⟨j, rfl, hj⟩
 ·have q0 : decide ((0 : Int) <= -1) = false := by decide
  go_upto_region 10 with (fail)
  change Code.wp _ _ _ _ (w2.setCell ⟨b, 14, none⟩ (.int .i64 (F.length : Int)))
  have hwi3 := HWI.out.set14 (F.length : Int)
  generalize w2.setCell ⟨b, 14, none⟩ (.int .i64 (F.length : Int)) = w3 at hwi3 ⊢
  have HW3 := hide hwi3
  clear c0 c14 f14 HWI
  have c0 := hwi3.m.cells.1
  have c14 : w3.cell? ⟨b, 14, none⟩ = some (.int .i64 (F.length : Int)) := hwi3.m.more.2.2.2.2.2.2.1
  have f14 := hwi3.m.frozen 14
  have z0 := hwi3.bx.cells.1
  clear hwi3
  have e0 : (0 : Int) <= (F.length : Int) - 1 := by omega
  have e1 : (F.length : Int) - 1 < (F.length : Int) := by omega
  have e2 : ((F.length : Int) - 1).toNat = F.length - 1 := by omega
  have hlt1 : F.length - 1 < F.length := by omega
  obtain ⟨c, hc⟩ : ∃ c, F[F.length - 1] = c := ⟨_, rfl⟩
  have hcb := u8_lt c
  have e3 := wl1 hF HL.out
  have e4 := wl2 hF HL.out
  have hq4 : (es == 4) = false \/ ((es == 4) = true /\ ((c.toNat : Int) == 36) = false) \/ ((es == 4) = true /\ ((c.toNat : Int) == 36) = true /\ -1 = (F.length : Int) - 2) \/ ((es == 4) = true /\ ((c.toNat : Int) == 36) = true /\ ¬ -1 = (F.length : Int) - 2) := by
   cases h1 : es == 4
   ·exact .inl rfl
   ·cases h2 : ((c.toNat : Int) == 36)
    ·exact .inr (.inl ⟨rfl, rfl⟩)
    ·by_cases h3 : -1 = (F.length : Int) - 2
     ·exact .inr (.inr (.inl ⟨rfl, rfl, h3⟩))
     ·exact .inr (.inr (.inr ⟨rfl, rfl, h3⟩))
  clear hl hF
  rcases hq4 with q4 | ⟨q4, q5⟩ | ⟨q4, q5, q6⟩ | ⟨q4, q5, q6⟩
  ·go_wp2_with fail
   go_quiet (fail)
   have HW4 := hide (HW3.out.drewN nq)
   clear c0 c14 f14 z0 HW3
   generalize w3.drewN nq = w4 at HW4 ⊢
   obtain ⟨z0, z1, z2, z3, z4⟩ := HW4.out.bx.cells
   have g0 := HW4.out.rs.frozen 0
   have g1 := HW4.out.rs.frozen 1
   have g2 := HW4.out.rs.frozen 2
   have g3 := HW4.out.rs.frozen 3
   have g4 := HW4.out.rs.frozen 4
   obtain ⟨y0, y1, y2, y3, y4⟩ := HW4.out.rs.cells
   go_wp2_with fail
   change bodyPost _ _ _ _ ⟨_, _⟩ (pWh w4 (B + 1) es eq ec eg ek)
   obtain ⟨p0, p1, p2, p3, p4⟩ := (pWh_box HW4.out.rs es eq ec eg ek).cells
   refine bodyPost_ret (v := .agg (whV es eq ec eg ek)) (by simp [results, Tryz.results127, go_sem, p0, p1, p2, p3, p4]) rfl ?_
   exact ⟨_, _, _, _, _, rfl, ⟨_, HW4.out.m.same (pWh_other _ HW4.out.n2 _ _ _ _ _)⟩, pWh_Km HW4.out.km (Nat.le_succ_of_le HW4.out.le) _ _ _ _ _⟩
  ·go_wp2_with fail
   go_quiet (fail)
   have HW4 := hide (HW3.out.drewN nq)
   clear c0 c14 f14 z0 HW3
   generalize w3.drewN nq = w4 at HW4 ⊢
   obtain ⟨z0, z1, z2, z3, z4⟩ := HW4.out.bx.cells
   have g0 := HW4.out.rs.frozen 0
   have g1 := HW4.out.rs.frozen 1
   have g2 := HW4.out.rs.frozen 2
   have g3 := HW4.out.rs.frozen 3
   have g4 := HW4.out.rs.frozen 4
   obtain ⟨y0, y1, y2, y3, y4⟩ := HW4.out.rs.cells
   go_wp2_with fail
   change bodyPost _ _ _ _ ⟨_, _⟩ (pWh w4 (B + 1) es eq ec eg ek)
   obtain ⟨p0, p1, p2, p3, p4⟩ := (pWh_box HW4.out.rs es eq ec eg ek).cells
   refine bodyPost_ret (v := .agg (whV es eq ec eg ek)) (by simp [results, Tryz.results127, go_sem, p0, p1, p2, p3, p4]) rfl ?_
   exact ⟨_, _, _, _, _, rfl, ⟨_, HW4.out.m.same (pWh_other _ HW4.out.n2 _ _ _ _ _)⟩, pWh_Km HW4.out.km (Nat.le_succ_of_le HW4.out.le) _ _ _ _ _⟩
  ·go_wp2_with fail
   go_quiet (fail)
   have HW4 := hide (HW3.out.drewN nq)
   clear c0 c14 f14 z0 HW3
   generalize w3.drewN nq = w4 at HW4 ⊢
   obtain ⟨z0, z1, z2, z3, z4⟩ := HW4.out.bx.cells
   have g0 := HW4.out.rs.frozen 0
   have g1 := HW4.out.rs.frozen 1
   have g2 := HW4.out.rs.frozen 2
   have g3 := HW4.out.rs.frozen 3
   have g4 := HW4.out.rs.frozen 4
   obtain ⟨y0, y1, y2, y3, y4⟩ := HW4.out.rs.cells
   go_wp2_with fail
   change bodyPost _ _ _ _ ⟨_, _⟩ (pWh w4 (B + 1) es eq ec eg ek)
   obtain ⟨p0, p1, p2, p3, p4⟩ := (pWh_box HW4.out.rs es eq ec eg ek).cells
   refine bodyPost_ret (v := .agg (whV es eq ec eg ek)) (by simp [results, Tryz.results127, go_sem, p0, p1, p2, p3, p4]) rfl ?_
   exact ⟨_, _, _, _, _, rfl, ⟨_, HW4.out.m.same (pWh_other _ HW4.out.n2 _ _ _ _ _)⟩, pWh_Km HW4.out.km (Nat.le_succ_of_le HW4.out.le) _ _ _ _ _⟩
  ·go_wp2_with fail
   go_quiet (fail)
   have HW4 := hide (HW3.out.drewN nq)
   clear c0 c14 f14 z0 HW3
   have c14 : (w3.drewN nq).cell? ⟨b, 14, none⟩ = some (.int .i64 (F.length : Int)) := HW4.out.m.more.2.2.2.2.2.2.1
   have f14 := HW4.out.m.frozen 14
   generalize w3.drewN nq = w4 at HW4 c14 f14 ⊢
   go_upto_region 12 with (fail)
   change Code.wp _ _ _ _ (w4.setCell ⟨b, 14, none⟩ (.int .i64 ((F.length : Int) - 1)))
   have hwi5 := HW4.out.set14 ((F.length : Int) - 1)
   generalize w4.setCell ⟨b, 14, none⟩ (.int .i64 ((F.length : Int) - 1)) = w5 at hwi5 ⊢
   have HW5 := hide hwi5
   clear c14 f14 HW4 hwi5
   obtain ⟨z0, z1, z2, z3, z4⟩ := HW5.out.bx.cells
   have g0 := HW5.out.rs.frozen 0
   have g1 := HW5.out.rs.frozen 1
   have g2 := HW5.out.rs.frozen 2
   have g3 := HW5.out.rs.frozen 3
   have g4 := HW5.out.rs.frozen 4
   obtain ⟨y0, y1, y2, y3, y4⟩ := HW5.out.rs.cells
   go_wp2_with fail
   change bodyPost _ _ _ _ ⟨_, _⟩ (pWh w5 (B + 1) es eq ec eg ek)
   obtain ⟨p0, p1, p2, p3, p4⟩ := (pWh_box HW5.out.rs es eq ec eg ek).cells
   refine bodyPost_ret (v := .agg (whV es eq ec eg ek)) (by simp [results, Tryz.results127, go_sem, p0, p1, p2, p3, p4]) rfl ?_
   exact ⟨_, _, _, _, _, rfl, ⟨_, HW5.out.m.same (pWh_other _ HW5.out.n2 _ _ _ _ _)⟩, pWh_Km HW5.out.km (Nat.le_succ_of_le HW5.out.le) _ _ _ _ _⟩
 have q0 : decide ((0 : Int) <= (j : Int)) = true := decide_eq_true (by omega)
 have a0 : (0 : Int) <= (j : Int) + 1 := by omega
 have a1 : (j : Int) + 1 <= (F.length : Int) := by omega
 have a2 : ((j : Int) + 1).toNat = j + 1 := by omega
 have HP := hide (fun W => rPending (F.drop (j + 1)) W (by rw [List.length_drop]; have := HL.out; omega))
 have hw1 := wrj hj HL.out
 go_wp2_with fail
 refine (HP.out _).mono ?_
 rintro e' w2' ⟨v, rfl, rfl⟩
 cases v
 ·clear HP a0 a1 a2 hw1
  go_upto_region 10 with (fail)
  change Code.wp _ _ _ _ (w2.setCell ⟨b, 14, none⟩ (.int .i64 (F.length : Int)))
  have hwi3 := HWI.out.set14 (F.length : Int)
  generalize w2.setCell ⟨b, 14, none⟩ (.int .i64 (F.length : Int)) = w3 at hwi3 ⊢
  have HW3 := hide hwi3
  clear c0 c14 f14 HWI
  have c0 := hwi3.m.cells.1
  have c14 : w3.cell? ⟨b, 14, none⟩ = some (.int .i64 (F.length : Int)) := hwi3.m.more.2.2.2.2.2.2.1
  have f14 := hwi3.m.frozen 14
  have z0 := hwi3.bx.cells.1
  clear hwi3
  have e0 : (0 : Int) <= (F.length : Int) - 1 := by omega
  have e1 : (F.length : Int) - 1 < (F.length : Int) := by omega
  have e2 : ((F.length : Int) - 1).toNat = F.length - 1 := by omega
  have hlt1 : F.length - 1 < F.length := by omega
  obtain ⟨c, hc⟩ : ∃ c, F[F.length - 1] = c := ⟨_, rfl⟩
  have hcb := u8_lt c
  have e3 := wl1 hF HL.out
  have e4 := wl2 hF HL.out
  have hq4 : (es == 4) = false \/ ((es == 4) = true /\ ((c.toNat : Int) == 36) = false) \/ ((es == 4) = true /\ ((c.toNat : Int) == 36) = true /\ (j : Int) = (F.length : Int) - 2) \/ ((es == 4) = true /\ ((c.toNat : Int) == 36) = true /\ ¬ (j : Int) = (F.length : Int) - 2) := by
   cases h1 : es == 4
   ·exact .inl rfl
   ·cases h2 : ((c.toNat : Int) == 36)
    ·exact .inr (.inl ⟨rfl, rfl⟩)
    ·by_cases h3 : (j : Int) = (F.length : Int) - 2
     ·exact .inr (.inr (.inl ⟨rfl, rfl, h3⟩))
     ·exact .inr (.inr (.inr ⟨rfl, rfl, h3⟩))
  clear hl hF
  rcases hq4 with q4 | ⟨q4, q5⟩ | ⟨q4, q5, q6⟩ | ⟨q4, q5, q6⟩
  ·go_wp2_with fail
   go_quiet (fail)
   have HW4 := hide (HW3.out.drewN nq)
   clear c0 c14 f14 z0 HW3
   generalize w3.drewN nq = w4 at HW4 ⊢
   obtain ⟨z0, z1, z2, z3, z4⟩ := HW4.out.bx.cells
   have g0 := HW4.out.rs.frozen 0
   have g1 := HW4.out.rs.frozen 1
   have g2 := HW4.out.rs.frozen 2
   have g3 := HW4.out.rs.frozen 3
   have g4 := HW4.out.rs.frozen 4
   obtain ⟨y0, y1, y2, y3, y4⟩ := HW4.out.rs.cells
   go_wp2_with fail
   change bodyPost _ _ _ _ ⟨_, _⟩ (pWh w4 (B + 1) es eq ec eg ek)
   obtain ⟨p0, p1, p2, p3, p4⟩ := (pWh_box HW4.out.rs es eq ec eg ek).cells
   refine bodyPost_ret (v := .agg (whV es eq ec eg ek)) (by simp [results, Tryz.results127, go_sem, p0, p1, p2, p3, p4]) rfl ?_
   exact ⟨_, _, _, _, _, rfl, ⟨_, HW4.out.m.same (pWh_other _ HW4.out.n2 _ _ _ _ _)⟩, pWh_Km HW4.out.km (Nat.le_succ_of_le HW4.out.le) _ _ _ _ _⟩
  ·go_wp2_with fail
   go_quiet (fail)
   have HW4 := hide (HW3.out.drewN nq)
   clear c0 c14 f14 z0 HW3
   generalize w3.drewN nq = w4 at HW4 ⊢
   obtain ⟨z0, z1, z2, z3, z4⟩ := HW4.out.bx.cells
   have g0 := HW4.out.rs.frozen 0
   have g1 := HW4.out.rs.frozen 1
   have g2 := HW4.out.rs.frozen 2
   have g3 := HW4.out.rs.frozen 3
   have g4 := HW4.out.rs.frozen 4
   obtain ⟨y0, y1, y2, y3, y4⟩ := HW4.out.rs.cells
   go_wp2_with fail
   change bodyPost _ _ _ _ ⟨_, _⟩ (pWh w4 (B + 1) es eq ec eg ek)
   obtain ⟨p0, p1, p2, p3, p4⟩ := (pWh_box HW4.out.rs es eq ec eg ek).cells
   refine bodyPost_ret (v := .agg (whV es eq ec eg ek)) (by simp [results, Tryz.results127, go_sem, p0, p1, p2, p3, p4]) rfl ?_
   exact ⟨_, _, _, _, _, rfl, ⟨_, HW4.out.m.same (pWh_other _ HW4.out.n2 _ _ _ _ _)⟩, pWh_Km HW4.out.km (Nat.le_succ_of_le HW4.out.le) _ _ _ _ _⟩
  ·go_wp2_with fail
   go_quiet (fail)
   have HW4 := hide (HW3.out.drewN nq)
   clear c0 c14 f14 z0 HW3
   generalize w3.drewN nq = w4 at HW4 ⊢
   obtain ⟨z0, z1, z2, z3, z4⟩ := HW4.out.bx.cells
   have g0 := HW4.out.rs.frozen 0
   have g1 := HW4.out.rs.frozen 1
   have g2 := HW4.out.rs.frozen 2
   have g3 := HW4.out.rs.frozen 3
   have g4 := HW4.out.rs.frozen 4
   obtain ⟨y0, y1, y2, y3, y4⟩ := HW4.out.rs.cells
   go_wp2_with fail
   change bodyPost _ _ _ _ ⟨_, _⟩ (pWh w4 (B + 1) es eq ec eg ek)
   obtain ⟨p0, p1, p2, p3, p4⟩ := (pWh_box HW4.out.rs es eq ec eg ek).cells
   refine bodyPost_ret (v := .agg (whV es eq ec eg ek)) (by simp [results, Tryz.results127, go_sem, p0, p1, p2, p3, p4]) rfl ?_
   exact ⟨_, _, _, _, _, rfl, ⟨_, HW4.out.m.same (pWh_other _ HW4.out.n2 _ _ _ _ _)⟩, pWh_Km HW4.out.km (Nat.le_succ_of_le HW4.out.le) _ _ _ _ _⟩
  ·go_wp2_with fail
   go_quiet (fail)
   have HW4 := hide (HW3.out.drewN nq)
   clear c0 c14 f14 z0 HW3
   have c14 : (w3.drewN nq).cell? ⟨b, 14, none⟩ = some (.int .i64 (F.length : Int)) := HW4.out.m.more.2.2.2.2.2.2.1
   have f14 := HW4.out.m.frozen 14
   generalize w3.drewN nq = w4 at HW4 c14 f14 ⊢
   go_upto_region 12 with (fail)
   change Code.wp _ _ _ _ (w4.setCell ⟨b, 14, none⟩ (.int .i64 ((F.length : Int) - 1)))
   have hwi5 := HW4.out.set14 ((F.length : Int) - 1)
   generalize w4.setCell ⟨b, 14, none⟩ (.int .i64 ((F.length : Int) - 1)) = w5 at hwi5 ⊢
   have HW5 := hide hwi5
   clear c14 f14 HW4 hwi5
   obtain ⟨z0, z1, z2, z3, z4⟩ := HW5.out.bx.cells
   have g0 := HW5.out.rs.frozen 0
   have g1 := HW5.out.rs.frozen 1
   have g2 := HW5.out.rs.frozen 2
   have g3 := HW5.out.rs.frozen 3
   have g4 := HW5.out.rs.frozen 4
   obtain ⟨y0, y1, y2, y3, y4⟩ := HW5.out.rs.cells
   go_wp2_with fail
   change bodyPost _ _ _ _ ⟨_, _⟩ (pWh w5 (B + 1) es eq ec eg ek)
   obtain ⟨p0, p1, p2, p3, p4⟩ := (pWh_box HW5.out.rs es eq ec eg ek).cells
   refine bodyPost_ret (v := .agg (whV es eq ec eg ek)) (by simp [results, Tryz.results127, go_sem, p0, p1, p2, p3, p4]) rfl ?_
   exact ⟨_, _, _, _, _, rfl, ⟨_, HW5.out.m.same (pWh_other _ HW5.out.n2 _ _ _ _ _)⟩, pWh_Km HW5.out.km (Nat.le_succ_of_le HW5.out.le) _ _ _ _ _⟩
 ·clear HP a0 a1 a2 hw1 hF hl
  go_upto_region 3 with (fail)
  change Code.wp _ _ _ _ (w2.setCell ⟨b, 14, none⟩ (.int .i64 (j : Int)))
  have hwi3 := HWI.out.set14 (j : Int)
  generalize w2.setCell ⟨b, 14, none⟩ (.int .i64 (j : Int)) = w3 at hwi3 ⊢
  have HW3 := hide hwi3
  clear c0 c14 f14 HWI
  have z0 := hwi3.bx.cells.1
  have z1 := hwi3.bx.cells.2.1
  have f0 := hwi3.bx.frozen 0
  have f1 := hwi3.bx.frozen 1
  clear hwi3
  have hq4 : (es == 4) = true /\ (es == 5) = false \/ (es == 4) = false /\ (es == 5) = true \/ (es == 4) = false /\ (es == 5) = false := by
   by_cases h4 : es = 4
   ·subst h4; exact .inl ⟨rfl, rfl⟩
   ·by_cases h5 : es = 5
    ·subst h5; exact .inr (.inl ⟨rfl, rfl⟩)
    ·exact .inr (.inr ⟨by rw [beq_eq_false_iff_ne]; exact h4, by rw [beq_eq_false_iff_ne]; exact h5⟩)
  rcases hq4 with ⟨q4, q5⟩ | ⟨q4, q5⟩ | ⟨q4, q5⟩
  ·go_upto_region 8 with (fail)
   change Code.wp _ _ _ _ ((w3.setCell ⟨B, 1, none⟩ (.int .u8 96)).setCell ⟨B, 0, none⟩ (.int .u8 8))
   have hwi5 := (HW3.out.box1 96).box0 8
   generalize (w3.setCell ⟨B, 1, none⟩ (.int .u8 96)).setCell ⟨B, 0, none⟩ (.int .u8 8) = w5 at hwi5 ⊢
   have HW5 := hide hwi5
   clear z0 z1 f0 f1 HW3 hwi5
   obtain ⟨z0, z1, z2, z3, z4⟩ := HW5.out.bx.cells
   have g0 := HW5.out.rs.frozen 0
   have g1 := HW5.out.rs.frozen 1
   have g2 := HW5.out.rs.frozen 2
   have g3 := HW5.out.rs.frozen 3
   have g4 := HW5.out.rs.frozen 4
   obtain ⟨y0, y1, y2, y3, y4⟩ := HW5.out.rs.cells
   go_wp2_with fail
   change bodyPost _ _ _ _ ⟨_, _⟩ (pWh w5 (B + 1) 8 96 ec eg ek)
   obtain ⟨p0, p1, p2, p3, p4⟩ := (pWh_box HW5.out.rs 8 96 ec eg ek).cells
   refine bodyPost_ret (v := .agg (whV 8 96 ec eg ek)) (by simp [results, Tryz.results127, go_sem, p0, p1, p2, p3, p4]) rfl ?_
   exact ⟨_, _, _, _, _, rfl, ⟨_, HW5.out.m.same (pWh_other _ HW5.out.n2 _ _ _ _ _)⟩, pWh_Km HW5.out.km (Nat.le_succ_of_le HW5.out.le) _ _ _ _ _⟩
  ·go_upto_region 8 with (fail)
   change Code.wp _ _ _ _ ((w3.setCell ⟨B, 1, none⟩ (.int .u8 47)).setCell ⟨B, 0, none⟩ (.int .u8 8))
   have hwi5 := (HW3.out.box1 47).box0 8
   generalize (w3.setCell ⟨B, 1, none⟩ (.int .u8 47)).setCell ⟨B, 0, none⟩ (.int .u8 8) = w5 at hwi5 ⊢
   have HW5 := hide hwi5
   clear z0 z1 f0 f1 HW3 hwi5
   obtain ⟨z0, z1, z2, z3, z4⟩ := HW5.out.bx.cells
   have g0 := HW5.out.rs.frozen 0
   have g1 := HW5.out.rs.frozen 1
   have g2 := HW5.out.rs.frozen 2
   have g3 := HW5.out.rs.frozen 3
   have g4 := HW5.out.rs.frozen 4
   obtain ⟨y0, y1, y2, y3, y4⟩ := HW5.out.rs.cells
   go_wp2_with fail
   change bodyPost _ _ _ _ ⟨_, _⟩ (pWh w5 (B + 1) 8 47 ec eg ek)
   obtain ⟨p0, p1, p2, p3, p4⟩ := (pWh_box HW5.out.rs 8 47 ec eg ek).cells
   refine bodyPost_ret (v := .agg (whV 8 47 ec eg ek)) (by simp [results, Tryz.results127, go_sem, p0, p1, p2, p3, p4]) rfl ?_
   exact ⟨_, _, _, _, _, rfl, ⟨_, HW5.out.m.same (pWh_other _ HW5.out.n2 _ _ _ _ _)⟩, pWh_Km HW5.out.km (Nat.le_succ_of_le HW5.out.le) _ _ _ _ _⟩
  ·go_upto_region 8 with (fail)
   change Code.wp _ _ _ _ (w3.setCell ⟨B, 0, none⟩ (.int .u8 8))
   have hwi5 := HW3.out.box0 8
   generalize w3.setCell ⟨B, 0, none⟩ (.int .u8 8) = w5 at hwi5 ⊢
   have HW5 := hide hwi5
   clear z0 z1 f0 f1 HW3 hwi5
   obtain ⟨z0, z1, z2, z3, z4⟩ := HW5.out.bx.cells
   have g0 := HW5.out.rs.frozen 0
   have g1 := HW5.out.rs.frozen 1
   have g2 := HW5.out.rs.frozen 2
   have g3 := HW5.out.rs.frozen 3
   have g4 := HW5.out.rs.frozen 4
   obtain ⟨y0, y1, y2, y3, y4⟩ := HW5.out.rs.cells
   go_wp2_with fail
   change bodyPost _ _ _ _ ⟨_, _⟩ (pWh w5 (B + 1) 8 eq ec eg ek)
   obtain ⟨p0, p1, p2, p3, p4⟩ := (pWh_box HW5.out.rs 8 eq ec eg ek).cells
   refine bodyPost_ret (v := .agg (whV 8 eq ec eg ek)) (by simp [results, Tryz.results127, go_sem, p0, p1, p2, p3, p4]) rfl ?_
   exact ⟨_, _, _, _, _, rfl, ⟨_, HW5.out.m.same (pWh_other _ HW5.out.n2 _ _ _ _ _)⟩, pWh_Km HW5.out.km (Nat.le_succ_of_le HW5.out.le) _ _ _ _ _⟩
def FrB (w : World) (e : Ending) (w' : World) : Prop := ∃ v : Bool, e = .returned (.bool v) /\ Below w.heap.size w w'
theorem rSound (b : Nat) (F : List UInt8) (a : Int) (k : List UInt8) (d : Bool) (l : List UInt8) (so : Bool) (e pl : Int) (fr : Fr) (n : Nat) (last : Int) (t : Bool) (w : World) (h : MB w b F a k d l so e pl fr) (hlast : last = -1 \/ ∃ j : Nat, last = (j : Int) /\ j < F.length) (hn : n <= 1048576) (hl : F.length <= 1048575) :
  Calls Tryz.prog 128 #[.pointer (some ⟨b, 0, none⟩), .int .i64 (n : Int), .int .i64 last, .bool t] w (FrB w) := by
 have c0 := h.cells.1
 have HL := hide hl
 clear h
 have fin : ∀ (m : Nat) (W : World), m <= F.length -> Hid (Calls Tryz.prog 129 #[S F, .int .i64 (n : Int), .int .i64 (m : Int), .bool t] W (fun e w' => ∃ (x : List UInt8) (z : Int), e = .returned (.tuple #[S x, .int .i64 z]) /\ Below W.heap.size W w')) := fun m W hm => (rCooked F n m t W hm hn (Nat.le_succ_of_le hl)).mono fun e w' ⟨h1, h2⟩ => by
  cases hx : Jsp.cook t ((F.take m).drop n) with
  | inl v => rw [hx] at h1; exact ⟨v, -1, h1, h2⟩
  | inr k => rw [hx] at h1; exact ⟨[], _, h1, h2⟩
 have FIN := hide fin
 clear fin
 rcases hlast with rfl | ⟨j, rfl, hj⟩
 ·have q0 : decide ((0 : Int) <= -1) = false := by decide
  clear hl
  go_enter Tryz.func128, Tryz.ntmps128
  go_wp2_with fail
  refine (FIN.out F.length _ (Nat.le_refl _)).out.mono ?_
  rintro e w2 ⟨x, z, rfl, hb⟩
  go_wp2_with fail
  go_ret
  exact ⟨_, rfl, hb⟩
 have q0 : decide ((0 : Int) <= (j : Int)) = true := decide_eq_true (by omega)
 have a0 : (0 : Int) <= (j : Int) + 1 := by omega
 have a1 : (j : Int) + 1 <= (F.length : Int) := by omega
 have a2 : ((j : Int) + 1).toNat = j + 1 := by omega
 have HP := hide (fun W => rPending (F.drop (j + 1)) W (by rw [List.length_drop]; have := HL.out; omega))
 have hw1 := wrj hj HL.out
 have HJ := hide (Nat.le_of_lt hj)
 clear hl hn
 go_enter Tryz.func128, Tryz.ntmps128
 go_wp2_with fail
 refine (HP.out _).mono ?_
 rintro e w2 ⟨v, rfl, rfl⟩
 cases v
 ·go_wp2_with fail
  refine (FIN.out F.length _ (Nat.le_refl _)).out.mono ?_
  rintro e w2 ⟨x, z, rfl, hb⟩
  go_wp2_with fail
  go_ret
  exact ⟨_, rfl, hb⟩
 ·go_wp2_with fail
  refine (FIN.out j _ HJ.out).out.mono ?_
  rintro e w2 ⟨x, z, rfl, hb⟩
  go_wp2_with fail
  go_ret
  exact ⟨_, rfl, hb⟩
end Go.Proofs.YtngccmlcopcghaaGreatDoor
