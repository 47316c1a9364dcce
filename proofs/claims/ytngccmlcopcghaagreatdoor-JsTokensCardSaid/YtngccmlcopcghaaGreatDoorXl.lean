/- The reference's fail and push. -/
import Derived.Test.YtngccmlcopcghaaGreatDoorXf
set_option maxRecDepth 100000
set_option maxHeartbeats 8000000
namespace Go.Proofs.YtngccmlcopcghaaGreatDoor
open Go.RowKit
structure Fr where
 es : Int
 eq : Int
 ec : Bool
 eg : Bool
 ek : List UInt8
 wd : Bool
 rs : Int
 tt : Int
abbrev mCells (F : List UInt8) (a : Int) (k : List UInt8) (d : Bool) (l : List UInt8) (so : Bool) (e pl : Int) (fr : Fr) : Array Value :=
 #[S F, .int .i64 a, S k, .bool d, S l, .bool so, .int .i64 e, .int .i64 pl, .int .u8 fr.es, .int .u8 fr.eq, .bool fr.ec, .bool fr.eg, S fr.ek, .bool fr.wd, .int .i64 fr.rs, .int .i64 fr.tt]
def MB (w : World) (b : Nat) (F : List UInt8) (a : Int) (k : List UInt8) (d : Bool) (l : List UInt8) (so : Bool) (e pl : Int) (fr : Fr) : Prop :=
 w.heap[b]? = some (.cells (mCells F a k d l so e pl fr) 57 (0, 0))
section
variable {w w' : World} {b : Nat} {F k l : List UInt8} {a e pl : Int} {d so : Bool} {fr : Fr}
theorem MB.lt (h : MB w b F a k d l so e pl fr) : b < w.heap.size := heap_lt h
theorem MB.cells (h : MB w b F a k d l so e pl fr) :
  w.cell? ⟨b, 0, none⟩ = some (S F) /\ w.cell? ⟨b, 1, none⟩ = some (.int .i64 a) /\ w.cell? ⟨b, 2, none⟩ = some (S k) /\ w.cell? ⟨b, 3, none⟩ = some (.bool d) /\ w.cell? ⟨b, 4, none⟩ = some (S l) /\
  w.cell? ⟨b, 5, none⟩ = some (.bool so) /\ w.cell? ⟨b, 6, none⟩ = some (.int .i64 e) /\ w.cell? ⟨b, 7, none⟩ = some (.int .i64 pl) := by
 have h' : w.heap[b]? = some _ := h
 refine ⟨?_, ?_, ?_, ?_, ?_, ?_, ?_, ?_⟩ <;> simp [World.cell?, h']
theorem MB.more (h : MB w b F a k d l so e pl fr) :
  w.cell? ⟨b, 8, none⟩ = some (.int .u8 fr.es) /\ w.cell? ⟨b, 9, none⟩ = some (.int .u8 fr.eq) /\ w.cell? ⟨b, 10, none⟩ = some (.bool fr.ec) /\ w.cell? ⟨b, 11, none⟩ = some (.bool fr.eg) /\ w.cell? ⟨b, 12, none⟩ = some (S fr.ek) /\
  w.cell? ⟨b, 13, none⟩ = some (.bool fr.wd) /\ w.cell? ⟨b, 14, none⟩ = some (.int .i64 fr.rs) /\ w.cell? ⟨b, 15, none⟩ = some (.int .i64 fr.tt) := by
 have h' : w.heap[b]? = some _ := h
 refine ⟨?_, ?_, ?_, ?_, ?_, ?_, ?_, ?_⟩ <;> simp [World.cell?, h']
theorem MB.frozen (h : MB w b F a k d l so e pl fr) (j : Nat) : w.frozen? ⟨b, j, none⟩ = false := by
 have h' : w.heap[b]? = some _ := h
 simp [World.frozen?, h']
theorem MB.put (h : MB w b F a k d l so e pl fr) (o : Nat) (u : Value) : (w.setCell ⟨b, o, none⟩ u).heap[b]? = some (.cells ((mCells F a k d l so e pl fr).setIfInBounds o u) 57 (0, 0)) := by
 have h' : w.heap[b]? = some _ := h
 simp [World.setCell, Array.getElem?_modify, h']
theorem MB.set1 (h : MB w b F a k d l so e pl fr) (x : Int) : MB (w.setCell ⟨b, 1, none⟩ (.int .i64 x)) b F x k d l so e pl fr := h.put 1 _
theorem MB.set2 (h : MB w b F a k d l so e pl fr) (x : List UInt8) : MB (w.setCell ⟨b, 2, none⟩ (S x)) b F a x d l so e pl fr := h.put 2 _
theorem MB.set3 (h : MB w b F a k d l so e pl fr) (x : Bool) : MB (w.setCell ⟨b, 3, none⟩ (.bool x)) b F a k x l so e pl fr := h.put 3 _
theorem MB.set4 (h : MB w b F a k d l so e pl fr) (x : List UInt8) : MB (w.setCell ⟨b, 4, none⟩ (S x)) b F a k d x so e pl fr := h.put 4 _
theorem MB.set5 (h : MB w b F a k d l so e pl fr) (x : Bool) : MB (w.setCell ⟨b, 5, none⟩ (.bool x)) b F a k d l x e pl fr := h.put 5 _
theorem MB.set6 (h : MB w b F a k d l so e pl fr) (x : Int) : MB (w.setCell ⟨b, 6, none⟩ (.int .i64 x)) b F a k d l so x pl fr := h.put 6 _
theorem MB.set7 (h : MB w b F a k d l so e pl fr) (x : Int) : MB (w.setCell ⟨b, 7, none⟩ (.int .i64 x)) b F a k d l so e x fr := h.put 7 _
theorem MB.set8 (h : MB w b F a k d l so e pl fr) (x : Int) : MB (w.setCell ⟨b, 8, none⟩ (.int .u8 x)) b F a k d l so e pl { fr with es := x } := h.put 8 _
theorem MB.set9 (h : MB w b F a k d l so e pl fr) (x : Int) : MB (w.setCell ⟨b, 9, none⟩ (.int .u8 x)) b F a k d l so e pl { fr with eq := x } := h.put 9 _
theorem MB.set10 (h : MB w b F a k d l so e pl fr) (x : Bool) : MB (w.setCell ⟨b, 10, none⟩ (.bool x)) b F a k d l so e pl { fr with ec := x } := h.put 10 _
theorem MB.set11 (h : MB w b F a k d l so e pl fr) (x : Bool) : MB (w.setCell ⟨b, 11, none⟩ (.bool x)) b F a k d l so e pl { fr with eg := x } := h.put 11 _
theorem MB.set12 (h : MB w b F a k d l so e pl fr) (x : List UInt8) : MB (w.setCell ⟨b, 12, none⟩ (S x)) b F a k d l so e pl { fr with ek := x } := h.put 12 _
theorem MB.set13 (h : MB w b F a k d l so e pl fr) (x : Bool) : MB (w.setCell ⟨b, 13, none⟩ (.bool x)) b F a k d l so e pl { fr with wd := x } := h.put 13 _
theorem MB.set14 (h : MB w b F a k d l so e pl fr) (x : Int) : MB (w.setCell ⟨b, 14, none⟩ (.int .i64 x)) b F a k d l so e pl { fr with rs := x } := h.put 14 _
theorem MB.set15 (h : MB w b F a k d l so e pl fr) (x : Int) : MB (w.setCell ⟨b, 15, none⟩ (.int .i64 x)) b F a k d l so e pl { fr with tt := x } := h.put 15 _
theorem MB.below (h : MB w b F a k d l so e pl fr) (hb : Below w.heap.size w w') : MB w' b F a k d l so e pl fr := (hb.block b h.lt).trans h
theorem MB.drewN (h : MB w b F a k d l so e pl fr) (n : Nat) : MB (w.drewN n) b F a k d l so e pl fr := h
end
abbrev Km (b : Nat) (w w' : World) : Prop := w.grownBy w' (some b)
theorem Km.refl (b : Nat) (w : World) : Km b w w := World.grownBy.refl w _
theorem Km.set {b : Nat} {w w' : World} (h : Km b w w') (o : Nat) (u : Value) : Km b w (w'.setCell ⟨b, o, none⟩ u) := World.grownBy.trans h (setCell_kept u)
theorem Km.below {b : Nat} {w w' w2 : World} (h : Km b w w') (hb : Below w'.heap.size w' w2) : Km b w w2 := World.grownBy.trans h ⟨hb.os, hb.tape, hb.output, hb.size, fun i hi _ => hb.block i hi⟩
theorem Km.drewN {b : Nat} {w w' : World} (h : Km b w w') (n : Nat) : Km b w (w'.drewN n) := h.below ⟨rfl, rfl, rfl, Nat.le_refl _, fun _ _ => rfl⟩
abbrev whV (es eq : Int) (ec eg : Bool) (ek : List UInt8) : Array Value := #[.int .u8 es, .int .u8 eq, .bool ec, .bool eg, S ek]
def mEnd (w : World) (b : Nat) (es eq : Int) (ec eg : Bool) (ek : List UInt8) : World :=
 ((((w.setCell ⟨b, 8, none⟩ (.int .u8 es)).setCell ⟨b, 9, none⟩ (.int .u8 eq)).setCell ⟨b, 10, none⟩ (.bool ec)).setCell ⟨b, 11, none⟩ (.bool eg)).setCell ⟨b, 12, none⟩ (S ek)
section
variable {w w' : World} {b : Nat} {F k l : List UInt8} {a e pl : Int} {d so : Bool} {fr : Fr}
theorem mEnd_MB (h : MB w b F a k d l so e pl fr) (es eq : Int) (ec eg : Bool) (ek : List UInt8) : MB (mEnd w b es eq ec eg ek) b F a k d l so e pl ⟨es, eq, ec, eg, ek, fr.wd, fr.rs, fr.tt⟩ :=
 ((((h.set8 es).set9 eq).set10 ec).set11 eg).set12 ek
theorem mEnd_Km (h : Km b w w') (es eq : Int) (ec eg : Bool) (ek : List UInt8) : Km b w (mEnd w' b es eq ec eg ek) := ((((h.set 8 _).set 9 _).set 10 _).set 11 _).set 12 _
theorem mEnd_other (w : World) {B : Nat} (hB : B ≠ b) (es eq : Int) (ec eg : Bool) (ek : List UInt8) : (mEnd w b es eq ec eg ek).heap[B]? = w.heap[B]? := by
 unfold mEnd
 rw [Below.heap_setCell _ _ _ _ hB, Below.heap_setCell _ _ _ _ hB, Below.heap_setCell _ _ _ _ hB, Below.heap_setCell _ _ _ _ hB, Below.heap_setCell _ _ _ _ hB]
theorem setM_other (w : World) {B : Nat} (hB : B ≠ b) (o : Nat) (u : Value) : (w.setCell ⟨b, o, none⟩ u).heap[B]? = w.heap[B]? := Below.heap_setCell _ _ _ _ hB
def WhB (w : World) (B : Nat) (es eq : Int) (ec eg : Bool) (ek : List UInt8) : Prop := w.heap[B]? = some (.cells (whV es eq ec eg ek) 36 (0, 0))
theorem WhB.cells {B : Nat} {es eq : Int} {ec eg : Bool} {ek : List UInt8} (h : WhB w B es eq ec eg ek) : w.cell? ⟨B, 0, none⟩ = some (.int .u8 es) /\ w.cell? ⟨B, 1, none⟩ = some (.int .u8 eq) /\ w.cell? ⟨B, 2, none⟩ = some (.bool ec) /\ w.cell? ⟨B, 3, none⟩ = some (.bool eg) /\ w.cell? ⟨B, 4, none⟩ = some (S ek) := by
 have h' : w.heap[B]? = some _ := h
 refine ⟨?_, ?_, ?_, ?_, ?_⟩ <;> (unfold World.cell?; rw [h']; rfl)
theorem WhB.frozen {B : Nat} {es eq : Int} {ec eg : Bool} {ek : List UInt8} (h : WhB w B es eq ec eg ek) (j : Nat) : w.frozen? ⟨B, j, none⟩ = false := by
 have h' : w.heap[B]? = some _ := h
 simp [World.frozen?, h']
theorem WhB.same {B : Nat} {es eq : Int} {ec eg : Bool} {ek : List UInt8} (h : WhB w B es eq ec eg ek) (hs : w'.heap[B]? = w.heap[B]?) : WhB w' B es eq ec eg ek := hs.trans h
theorem WhB.new (w : World) (es eq : Int) (ec eg : Bool) (ek : List UInt8) : WhB (w.alloc (.cells (whV es eq ec eg ek) 36)) w.heap.size es eq ec eg ek := heap_alloc_last w _
theorem WhB.lt {B : Nat} {es eq : Int} {ec eg : Bool} {ek : List UInt8} (h : WhB w B es eq ec eg ek) : B < w.heap.size := heap_lt h
end
theorem rFail (b : Nat) (F : List UInt8) (a : Int) (k : List UInt8) (d : Bool) (l : List UInt8) (so : Bool) (e0 p0 : Int) (fr : Fr) (er pl es eq : Int) (ec eg : Bool) (ek : List UInt8) (w : World) (h : MB w b F a k d l so e0 p0 fr) :
  Calls Tryz.prog 84 #[.pointer (some ⟨b, 0, none⟩), .int .i64 er, .int .i64 pl, .agg (whV es eq ec eg ek)] w (fun e w' => e = .returned (.tuple #[]) /\ (∃ fr', MB w' b F a k d l so er pl fr') /\ Km b w w') := by
 obtain ⟨w1, hw1⟩ : ∃ w1, w1 = w.alloc (.cells (whV es eq ec eg ek) 36) := ⟨_, rfl⟩
 have hx := WhB.new w es eq ec eg ek
 have hb : Below w.heap.size w w1 := by rw [hw1]; exact (Below.refl _ w).alloc (Nat.le_refl _) _
 have hm := h.below hb
 have hk := (Km.refl b w).below hb
 obtain ⟨B, hB⟩ : ∃ B, w.heap.size = B := ⟨_, rfl⟩
 have hne : B ≠ b := fun e => by have := h.lt; omega
 rw [<- hw1, hB] at hx
 have HX := hide hx
 have HM := hide hm
 have HK := hide hk
 have HN := hide hne
 obtain ⟨z0, z1, z2, z3, z4⟩ := hx.cells
 have f6 := hm.frozen 6
 have f7 := hm.frozen 7
 have f8 := hm.frozen 8
 have f9 := hm.frozen 9
 have f10 := hm.frozen 10
 have f11 := hm.frozen 11
 have f12 := hm.frozen 12
 have c6 := hm.cells.2.2.2.2.2.2.1
 have c7 := hm.cells.2.2.2.2.2.2.2
 obtain ⟨d0, d1, d2, d3, d4, -, -, -⟩ := hm.more
 have HW := hide hw1
 have HB := hide hB
 clear h hb hm hk hw1 hB hx
 go_enter Tryz.func84, Tryz.ntmps84
 go_upto_region 1 with (fail)
 rw [HB.out]
 change Code.wp _ _ _ _ (w.alloc (.cells (whV es eq ec eg ek) 36))
 rw [<- HW.out]
 clear HW
 go_upto_region 4 with (fail)
 change Code.wp _ _ _ _ (mEnd ((w1.setCell ⟨b, 6, none⟩ (.int .i64 er)).setCell ⟨b, 7, none⟩ (.int .i64 pl)) b es eq ec eg ek)
 have hm2 := mEnd_MB ((HM.out.set6 er).set7 pl) es eq ec eg ek
 have hk2 := mEnd_Km ((HK.out.set 6 (.int .i64 er)).set 7 (.int .i64 pl)) es eq ec eg ek
 have hx2 : WhB (mEnd ((w1.setCell ⟨b, 6, none⟩ (.int .i64 er)).setCell ⟨b, 7, none⟩ (.int .i64 pl)) b es eq ec eg ek) B es eq ec eg ek := HX.out.same ((mEnd_other _ HN.out _ _ _ _ _).trans ((setM_other _ HN.out _ _).trans (setM_other _ HN.out _ _)))
 generalize mEnd ((w1.setCell ⟨b, 6, none⟩ (.int .i64 er)).setCell ⟨b, 7, none⟩ (.int .i64 pl)) b es eq ec eg ek = w2 at hm2 hk2 hx2 ⊢
 clear z0 z1 z2 z3 z4 f6 f7 f8 f9 f10 f11 f12 c6 c7 d0 d1 d2 d3 d4
 have c2 := hm2.cells.2.2.1
 have e4 := hm2.more.2.2.2.2.1
 have f12 := hm2.frozen 12
 have HM2 := hide hm2
 have HK2 := hide hk2
 have HX2 := hide hx2
 clear hm2 hk2 hx2
 go_upto_region 5 with (fail)
 have hm3 := HM2.out.set12 k
 have hk3 := HK2.out.set 12 (S k)
 have hx3 : WhB (w2.setCell ⟨b, 12, none⟩ (S k)) B es eq ec eg ek := HX2.out.same (setM_other _ HN.out _ _)
 change Code.wp _ _ _ _ (w2.setCell ⟨b, 12, none⟩ (S k))
 generalize w2.setCell ⟨b, 12, none⟩ (S k) = w3 at hm3 hk3 hx3 ⊢
 clear c2 e4 f12 HM2 HK2 HX2
 have z0 := hx3.cells.1
 have f8 := hm3.frozen 8
 have f9 := hm3.frozen 9
 have f10 := hm3.frozen 10
 have f11 := hm3.frozen 11
 have f12 := hm3.frozen 12
 obtain ⟨d0, d1, d2, d3, d4, -, -, -⟩ := hm3.more
 have HM3 := hide hm3
 have HK3 := hide hk3
 clear hm3 hk3 hx3 HX HM HK
 by_cases q : es = 0
 ·have q1 : (es == 0) = true := by rw [beq_iff_eq]; exact q
  clear q
  go_wp2_with fail
  refine bodyPost_end (results_none (by kernel_rfl) _ _ _) rfl ?_
  exact ⟨rfl, ⟨_, mEnd_MB HM3.out 9 0 false false []⟩, mEnd_Km HK3.out 9 0 false false []⟩
 ·have q1 : (es == 0) = false := by rw [beq_eq_false_iff_ne]; exact q
  clear q
  go_wp2_with fail
  refine bodyPost_end (results_none (by kernel_rfl) _ _ _) rfl ?_
  exact ⟨rfl, ⟨_, HM3.out⟩, HK3.out⟩
theorem app_no {k c : List UInt8} (h : k.length <= 200) (hc : c.length <= 4) : ¬ 9223372036854775807 < k.length + c.length := by omega
def PushP (b : Nat) (F : List UInt8) (a : Int) (k : List UInt8) (d : Bool) (l : List UInt8) (so : Bool) (e0 p0 : Int) (fr : Fr) (c : UInt8) (pl : Int) (w' : World) : Prop :=
 if k.length = 200 then ∃ fr', MB w' b F a k d l so 177 pl fr' else MB w' b F a (k ++ [c]) d l so e0 p0 fr
theorem rPush (b : Nat) (F : List UInt8) (a : Int) (k : List UInt8) (d : Bool) (l : List UInt8) (so : Bool) (e0 p0 : Int) (fr : Fr) (c : UInt8) (pl : Int) (w : World) (h : MB w b F a k d l so e0 p0 fr) (hk : k.length <= 200) :
  Calls Tryz.prog 130 #[.pointer (some ⟨b, 0, none⟩), S [c], .int .i64 pl] w (fun e w' => e = .returned (.tuple #[]) /\ PushP b F a k d l so e0 p0 fr c pl w' /\ Km b w w') := by
 have HM := hide h
 have c2 := h.cells.2.2.1
 have f2 := h.frozen 2
 by_cases q : k.length = 200
 ·have q1 : decide ((200 : Int) <= (k.length : Int)) = true := decide_eq_true (by omega)
  have HF := hide (rFail b F a k d l so e0 p0 fr 177 pl 0 0 false false [] w h)
  have HQ := hide q
  clear h hk q
  go_enter Tryz.func130, Tryz.ntmps130
  go_wp2_with fail
  refine HF.out.mono ?_
  rintro e w1 ⟨rfl, hm, hk⟩
  go_wp2_with fail
  refine bodyPost_ret (v := .tuple #[]) (by simp [results, Tryz.results130, go_sem]) rfl ?_
  exact ⟨rfl, by unfold PushP; rw [if_pos HQ.out]; exact hm, hk⟩
 ·have q1 : decide ((200 : Int) <= (k.length : Int)) = false := decide_eq_false (by omega)
  have hap : ¬ 9223372036854775807 < k.length + 1 := app_no (c := [c]) hk (by simp)
  have HQ := hide q
  clear h hk q
  go_enter Tryz.func130, Tryz.ntmps130
  go_wp2_with fail
  refine bodyPost_end (results_none (by kernel_rfl) _ _ _) rfl ?_
  exact ⟨rfl, by unfold PushP; rw [if_neg HQ.out]; exact HM.out.set2 _, (Km.refl b w).set 2 _⟩
end Go.Proofs.YtngccmlcopcghaaGreatDoor
