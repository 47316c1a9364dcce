/- Tokens: token, space, mark, delim, hash, at. -/
import Derived.Test.YtojgcangnkjmjaaGreatDoorJ
namespace Go.Proofs.YtojgcangnkjmjaaGreatDoor
open Go.RowKit

/-- a token's value -/
abbrev TV (x : Cssp.Tk) : Value := .agg #[.int .u8 x.kind, S x.t, S x.u, .bool x.flag]
/-- a token is taken: what is left, in, open; the tail of a string whose escape could go on -/
def TokP (x : Cssp.Th) (s : List UInt8) (w : World) (b : Nat) (e : Ending) (w' : World) : Prop :=
  ∃ t', Left (TV x.x) w b (s.drop x.k) x.i x.o t' e w' ∧ (x.i = true → x.o = true → x.x.kind = 6 → t' = s.drop x.e)
theorem token_ (k : Nat) (t : List UInt8) (w : World) (_hk : k < 256) : Calls Tryz.prog 68 #[.int .u8 k, S t] w (Fresh (TV (Cssp.tk k t)) w) := by
  have hal : Below w.heap.size w (w.alloc (.cells #[.int .u8 k, S t, S [], .bool false] 27)) := (Below.refl _ w).alloc (Nat.le_refl _) _
  go_enter Tryz.func68, Tryz.ntmps68
  go_wp2_with fail
  refine bodyPost_ret (v := TV (Cssp.tk k t)) (by simp [results, Tryz.results68, go_sem, Cssp.tk]) rfl ?_
  exact ⟨rfl, hal⟩
/-- a result's box, as it is laid -/
def Zt (w : World) (B : Nat) : Prop := w.heap[B]? = some (.cells #[.int .u8 0, S [], S [], .bool false] 27 (0, 0))
theorem Zt.cells {w : World} {B : Nat} (h : Zt w B) : w.cell? ⟨B, 0, none⟩ = some (.int .u8 0) ∧ w.cell? ⟨B, 1, none⟩ = some (S []) ∧ w.cell? ⟨B, 2, none⟩ = some (S []) ∧ w.cell? ⟨B, 3, none⟩ = some (.bool false) := by
  have h' : w.heap[B]? = _ := h
  refine ⟨?_, ?_, ?_, ?_⟩ <;> simp [World.cell?, h']
theorem Zt.frozen {w : World} {B : Nat} (h : Zt w B) (k : Nat) : w.frozen? ⟨B, k, none⟩ = false := by
  have h' : w.heap[B]? = _ := h
  simp [World.frozen?, h']
theorem Zt.lt {w : World} {B : Nat} (h : Zt w B) : B < w.heap.size := heap_lt h
theorem Zt.upto {w w' : World} {B b : Nat} (h : Zt w B) (hu : Upto b w w') (hb : B ≠ b) : Zt w' B := (hu.2 B h.lt hb).trans h
theorem Zt.below {w w' : World} {B : Nat} (h : Zt w B) (hb : Below w.heap.size w w') : Zt w' B := (hb.block B h.lt).trans h
theorem Zt.new (w : World) : Zt (w.alloc (.cells #[.int .u8 0, S [], S [], .bool false] 27)) w.heap.size := by
  show (w.heap.push _)[w.heap.size]? = _
  simp
def putT (w : World) (B : Nat) (x : Cssp.Tk) : World := (((w.setCell ⟨B, 0, none⟩ (.int .u8 x.kind)).setCell ⟨B, 1, none⟩ (S x.t)).setCell ⟨B, 2, none⟩ (S x.u)).setCell ⟨B, 3, none⟩ (.bool x.flag)
theorem putT_at {w : World} {B : Nat} (h : Zt w B) (x : Cssp.Tk) : (putT w B x).heap[B]? = some (.cells #[.int .u8 x.kind, S x.t, S x.u, .bool x.flag] 27 (0, 0)) := by
  have h' : w.heap[B]? = _ := h
  simp [putT, World.setCell, Array.getElem?_modify, h']
theorem putT_cells {w : World} {B : Nat} (h : Zt w B) (x : Cssp.Tk) : (putT w B x).cell? ⟨B, 0, none⟩ = some (.int .u8 x.kind) ∧ (putT w B x).cell? ⟨B, 1, none⟩ = some (S x.t) ∧ (putT w B x).cell? ⟨B, 2, none⟩ = some (S x.u) ∧ (putT w B x).cell? ⟨B, 3, none⟩ = some (.bool x.flag) := by
  have h' := putT_at h x
  refine ⟨?_, ?_, ?_, ?_⟩ <;> simp [World.cell?, h']
theorem putT_below {w0 w : World} {B : Nat} (h : Below w0.heap.size w0 w) (hB : w0.heap.size ≤ B) (x : Cssp.Tk) : Below w0.heap.size w0 (putT w B x) :=
  (((h.setCell (p := ⟨B, 0, none⟩) hB _).setCell (p := ⟨B, 1, none⟩) hB _).setCell (p := ⟨B, 2, none⟩) hB _).setCell (p := ⟨B, 3, none⟩) hB _
theorem putT_keep {w0 w : World} {B b : Nat} {s t : List UInt8} {i o : Bool} (hu : Upto b w0 w) (hx : Lx w b s i o t) (hb : b < w0.heap.size) (hB : w0.heap.size ≤ B) (x : Cssp.Tk) : Lx (putT w B x) b s i o t ∧ Upto b w0 (putT w B x) := by
  have hk : Below w0.heap.size w (putT w B x) := (((Below.refl w0.heap.size w).setCell (p := ⟨B, 0, none⟩) hB _).setCell (p := ⟨B, 1, none⟩) hB _).setCell (p := ⟨B, 2, none⟩) hB _ |>.setCell (p := ⟨B, 3, none⟩) hB _
  exact ⟨hx.keep hk hb, hu.keep hk⟩
/-- a token in a box of the walk's own -/
abbrev cellsT (x : Cssp.Tk) : Array Value := #[.int .u8 x.kind, S x.t, S x.u, .bool x.flag]
def Xt (w : World) (B : Nat) (x : Cssp.Tk) : Prop := w.heap[B]? = some (.cells (cellsT x) 27 (0, 0))
theorem Xt.new (w : World) (x : Cssp.Tk) : Xt (w.alloc (.cells (cellsT x) 27)) w.heap.size x := by
  show (w.heap.push _)[w.heap.size]? = _
  simp
theorem Xt.cells {w : World} {B : Nat} {x : Cssp.Tk} (h : Xt w B x) : w.cell? ⟨B, 0, none⟩ = some (.int .u8 x.kind) ∧ w.cell? ⟨B, 1, none⟩ = some (S x.t) ∧ w.cell? ⟨B, 2, none⟩ = some (S x.u) ∧ w.cell? ⟨B, 3, none⟩ = some (.bool x.flag) := by
  have h' : w.heap[B]? = _ := h
  refine ⟨?_, ?_, ?_, ?_⟩ <;> simp [World.cell?, h']
theorem Xt.frozen {w : World} {B : Nat} {x : Cssp.Tk} (h : Xt w B x) (k : Nat) : w.frozen? ⟨B, k, none⟩ = false := by
  have h' : w.heap[B]? = _ := h
  simp [World.frozen?, h']
theorem Xt.upto {w w' : World} {B b : Nat} {x : Cssp.Tk} (h : Xt w B x) (hu : Upto b w w') (hb : B ≠ b) : Xt w' B x := (hu.2 B (heap_lt h) hb).trans h
theorem Xt.below {w w' : World} {B : Nat} {x : Cssp.Tk} (h : Xt w B x) (hb : Below w.heap.size w w') : Xt w' B x := (hb.block B (heap_lt h)).trans h
set_option maxRecDepth 100000 in
set_option maxHeartbeats 2000000 in
theorem delim_ (s t : List UInt8) (b : Nat) (w : World) (h : Lx w b s false false t) (h1 : 1 ≤ s.length) :
    Calls Tryz.prog 72 #[.pointer (some ⟨b, 0, none⟩)] w (TokP ⟨Cssp.tk 10 (s.take 1), 1, false, false, 0⟩ s w b) := by
  have hz := Zt.new w
  have hal := (Below.refl w.heap.size w).alloc (Nat.le_refl _) (.cells #[.int .u8 0, S [], S [], .bool false] 27)
  have hx := h.below hal
  have hlt := h.lt
  go_enter Tryz.func72, Tryz.ntmps72
  go_upto_region 1 with (fail)
  change Code.wp _ _ _ _ (w.alloc (.cells #[.int .u8 0, S [], S [], .bool false] 27))
  obtain ⟨w1, hw1⟩ : ∃ x, x = w.alloc (.cells #[.int .u8 0, S [], S [], .bool false] 27) := ⟨_, rfl⟩
  rw [← hw1] at hz hal hx ⊢
  clear hw1 h
  have HX1 := hide hx
  have HZ1 := hide hz
  have HU1 := hide (p := Upto b w w1) (Upto.of_below hal)
  clear hz hal hx
  have HT := hide (take_ s t b 1 false false w1 HX1.out h1)
  go_wp2_with fail
  refine HT.out.mono ?_
  rintro e w2 ⟨rfl, hx, hu⟩
  have HX2 := hide hx
  have HU2 := hide (HU1.out.trans hu)
  have HZ2 := hide (HZ1.out.upto hu (by omega))
  have hs2 := hu.size
  clear HT hx hu
  have HT := hide (token_ 10 (s.take 1) w2 (by decide))
  go_wp2_with fail
  refine HT.out.mono ?_
  rintro e w3 ⟨rfl, hb⟩
  have HX3 := hide (HX2.out.below hb)
  have HU3 := hide (HU2.out.trans (Upto.of_below hb))
  have HZ3 := hide (HZ2.out.below hb)
  have hs3 := hb.size
  clear HT hb
  obtain ⟨z0, z1, z2, z3⟩ := HZ3.out.cells
  have g0 := HZ3.out.frozen 0
  have g1 := HZ3.out.frozen 1
  have g2 := HZ3.out.frozen 2
  have g3 := HZ3.out.frozen 3
  go_wp2_with fail
  change bodyPost _ _ _ _ ⟨_, _⟩ (putT w3 w.heap.size (Cssp.tk 10 (s.take 1)))
  obtain ⟨q0, q1, q2, q3⟩ := putT_cells HZ3.out (Cssp.tk 10 (s.take 1))
  obtain ⟨e1, e2⟩ := putT_keep HU3.out HX3.out hlt (Nat.le_refl _) (Cssp.tk 10 (s.take 1))
  refine bodyPost_ret (v := TV (Cssp.tk 10 (s.take 1))) (by simp [results, Tryz.results72, go_sem, q0, q1, q2, q3]) rfl ?_
  exact ⟨t, ⟨rfl, e1, e2⟩, fun h => by cases h⟩
set_option maxRecDepth 100000 in
set_option maxHeartbeats 2000000 in
theorem mark_ (s t : List UInt8) (b : Nat) (w : World) (h : Lx w b s false false t) (h1 : 1 ≤ s.length) :
    Calls Tryz.prog 42 #[.pointer (some ⟨b, 0, none⟩)] w (TokP ⟨Cssp.tk 16 (s.take 1), 1, false, false, 0⟩ s w b) := by
  have hz := Zt.new w
  have hal := (Below.refl w.heap.size w).alloc (Nat.le_refl _) (.cells #[.int .u8 0, S [], S [], .bool false] 27)
  have hx := h.below hal
  have hlt := h.lt
  go_enter Tryz.func42, Tryz.ntmps42
  go_upto_region 1 with (fail)
  change Code.wp _ _ _ _ (w.alloc (.cells #[.int .u8 0, S [], S [], .bool false] 27))
  obtain ⟨w1, hw1⟩ : ∃ x, x = w.alloc (.cells #[.int .u8 0, S [], S [], .bool false] 27) := ⟨_, rfl⟩
  rw [← hw1] at hz hal hx ⊢
  clear hw1 h
  have HX1 := hide hx
  have HZ1 := hide hz
  have HU1 := hide (p := Upto b w w1) (Upto.of_below hal)
  clear hz hal hx
  have HT := hide (take_ s t b 1 false false w1 HX1.out h1)
  go_wp2_with fail
  refine HT.out.mono ?_
  rintro e w2 ⟨rfl, hx, hu⟩
  have HX2 := hide hx
  have HU2 := hide (HU1.out.trans hu)
  have HZ2 := hide (HZ1.out.upto hu (by omega))
  have hs2 := hu.size
  clear HT hx hu
  have HT := hide (token_ 16 (s.take 1) w2 (by decide))
  go_wp2_with fail
  refine HT.out.mono ?_
  rintro e w3 ⟨rfl, hb⟩
  have HX3 := hide (HX2.out.below hb)
  have HU3 := hide (HU2.out.trans (Upto.of_below hb))
  have HZ3 := hide (HZ2.out.below hb)
  have hs3 := hb.size
  clear HT hb
  obtain ⟨z0, z1, z2, z3⟩ := HZ3.out.cells
  have g0 := HZ3.out.frozen 0
  have g1 := HZ3.out.frozen 1
  have g2 := HZ3.out.frozen 2
  have g3 := HZ3.out.frozen 3
  go_wp2_with fail
  change bodyPost _ _ _ _ ⟨_, _⟩ (putT w3 w.heap.size (Cssp.tk 16 (s.take 1)))
  obtain ⟨q0, q1, q2, q3⟩ := putT_cells HZ3.out (Cssp.tk 16 (s.take 1))
  obtain ⟨e1, e2⟩ := putT_keep HU3.out HX3.out hlt (Nat.le_refl _) (Cssp.tk 16 (s.take 1))
  refine bodyPost_ret (v := TV (Cssp.tk 16 (s.take 1))) (by simp [results, Tryz.results42, go_sem, q0, q1, q2, q3]) rfl ?_
  exact ⟨t, ⟨rfl, e1, e2⟩, fun h => by cases h⟩
set_option maxRecDepth 100000 in
set_option maxHeartbeats 2000000 in
theorem space_ (s t : List UInt8) (b : Nat) (w : World) (h : Lx w b s false false t) (hl : s.length ≤ 140737488355328) :
    Calls Tryz.prog 41 #[.pointer (some ⟨b, 0, none⟩)] w (TokP ⟨Cssp.tk 1 [], Cssp.run Cssp.blank s, false, false, 0⟩ s w b) := by
  have hz := Zt.new w
  have hal := (Below.refl w.heap.size w).alloc (Nat.le_refl _) (.cells #[.int .u8 0, S [], S [], .bool false] 27)
  have hx := h.below hal
  have hlt := h.lt
  go_enter Tryz.func41, Tryz.ntmps41
  go_upto_region 1 with (fail)
  change Code.wp _ _ _ _ (w.alloc (.cells #[.int .u8 0, S [], S [], .bool false] 27))
  obtain ⟨w1, hw1⟩ : ∃ x, x = w.alloc (.cells #[.int .u8 0, S [], S [], .bool false] 27) := ⟨_, rfl⟩
  rw [← hw1] at hz hal hx ⊢
  clear hw1 h
  have HX1 := hide hx
  have HZ1 := hide hz
  have HU1 := hide (p := Upto b w w1) (Upto.of_below hal)
  clear hz hal hx
  have HT := hide (whileBlank s t b false false w1 HX1.out hl)
  go_wp2_with fail
  refine HT.out.mono ?_
  rintro e w2 ⟨rfl, hx, hu⟩
  have HX2 := hide hx
  have HU2 := hide (HU1.out.trans hu)
  have HZ2 := hide (HZ1.out.upto hu (by omega))
  have hs2 := hu.size
  clear HT hx hu
  have HT := hide (token_ 1 [] w2 (by decide))
  go_wp2_with fail
  refine HT.out.mono ?_
  rintro e w3 ⟨rfl, hb⟩
  have HX3 := hide (HX2.out.below hb)
  have HU3 := hide (HU2.out.trans (Upto.of_below hb))
  have HZ3 := hide (HZ2.out.below hb)
  have hs3 := hb.size
  clear HT hb
  obtain ⟨z0, z1, z2, z3⟩ := HZ3.out.cells
  have g0 := HZ3.out.frozen 0
  have g1 := HZ3.out.frozen 1
  have g2 := HZ3.out.frozen 2
  have g3 := HZ3.out.frozen 3
  go_wp2_with fail
  change bodyPost _ _ _ _ ⟨_, _⟩ (putT w3 w.heap.size (Cssp.tk 1 []))
  obtain ⟨q0, q1, q2, q3⟩ := putT_cells HZ3.out (Cssp.tk 1 [])
  obtain ⟨e1, e2⟩ := putT_keep HU3.out HX3.out hlt (Nat.le_refl _) (Cssp.tk 1 [])
  refine bodyPost_ret (v := TV (Cssp.tk 1 [])) (by simp [results, Tryz.results41, go_sem, q0, q1, q2, q3]) rfl ?_
  exact ⟨t, ⟨rfl, e1, e2⟩, fun h => by cases h⟩
set_option maxRecDepth 100000 in
set_option maxHeartbeats 2000000 in
theorem at_no (s t : List UInt8) (b : Nat) (w : World) (h : Lx w b s false false t) (h1 : 1 ≤ s.length) (hl : s.length ≤ 1048576) (hid : Cssp.identAt s 1 = false) :
    Calls Tryz.prog 40 #[.pointer (some ⟨b, 0, none⟩)] w (TokP ⟨Cssp.tk 10 (s.take 1), 1, false, false, 0⟩ s w b) := by
  have hz := Zt.new w
  have hal := (Below.refl w.heap.size w).alloc (Nat.le_refl _) (.cells #[.int .u8 0, S [], S [], .bool false] 27)
  have hx := h.below hal
  have hlt := h.lt
  go_enter Tryz.func40, Tryz.ntmps40
  go_upto_region 1 with (fail)
  change Code.wp _ _ _ _ (w.alloc (.cells #[.int .u8 0, S [], S [], .bool false] 27))
  obtain ⟨w1, hw1⟩ : ∃ x, x = w.alloc (.cells #[.int .u8 0, S [], S [], .bool false] 27) := ⟨_, rfl⟩
  rw [← hw1] at hz hal hx ⊢
  clear hw1 h
  have HX1 := hide hx
  have HZ1 := hide hz
  have HU1 := hide (p := Upto b w w1) (Upto.of_below hal)
  clear hz hal hx
  have HID := hide hid
  clear hid
  have HT0 := identAt s t b 1 false false w1 HX1.out (by omega) (by decide)
  rw [HID.out] at HT0
  have HT := hide (HT0)
  go_wp2_with fail
  refine HT.out.mono ?_
  rintro e w' ⟨rfl, rfl⟩
  clear HT
  clear HT0
  have HT := hide (delim_ s t b w1 HX1.out h1)
  go_wp2_with fail
  refine HT.out.mono ?_
  rintro e w2 ⟨t2, ⟨rfl, hx, hu⟩, -⟩
  have HX2 := hide hx
  have HU2 := hide (HU1.out.trans hu)
  have HZ2 := hide (HZ1.out.upto hu (by omega))
  clear HT hx hu
  obtain ⟨z0, z1, z2, z3⟩ := HZ2.out.cells
  have g0 := HZ2.out.frozen 0
  have g1 := HZ2.out.frozen 1
  have g2 := HZ2.out.frozen 2
  have g3 := HZ2.out.frozen 3
  go_wp2_with fail
  change bodyPost _ _ _ _ ⟨_, _⟩ (putT w2 w.heap.size (Cssp.tk 10 (s.take 1)))
  obtain ⟨q0, q1, q2, q3⟩ := putT_cells HZ2.out (Cssp.tk 10 (s.take 1))
  obtain ⟨e1, e2⟩ := putT_keep HU2.out HX2.out hlt (Nat.le_refl _) (Cssp.tk 10 (s.take 1))
  refine bodyPost_ret (v := TV (Cssp.tk 10 (s.take 1))) (by simp [results, Tryz.results40, go_sem, q0, q1, q2, q3]) rfl ?_
  exact ⟨t2, ⟨rfl, e1, e2⟩, fun h => by cases h⟩
set_option maxRecDepth 100000 in
set_option maxHeartbeats 2000000 in
theorem at_yes (s t : List UInt8) (b : Nat) (w : World) (h : Lx w b s false false t) (h1 : 1 ≤ s.length) (hl : s.length ≤ 1048576) (hid : Cssp.identAt s 1 = true) :
    Calls Tryz.prog 40 #[.pointer (some ⟨b, 0, none⟩)] w (TokP ⟨Cssp.tk 4 (Cssp.name (s.drop 1)).t, (Cssp.name (s.drop 1)).k + 1, (Cssp.name (s.drop 1)).o, false, 0⟩ s w b) := by
  obtain ⟨r, hr⟩ : ∃ r, s.drop 1 = r := ⟨_, rfl⟩
  rw [hr]
  have hrl : r.length ≤ 1048576 := by rw [← hr, List.length_drop]; omega
  obtain ⟨N, hN⟩ : ∃ N, Cssp.name r = N := ⟨_, rfl⟩
  rw [hN]
  have hdd : Hid (r.drop N.k = s.drop (N.k + 1)) := by unfold Hid; rw [← hr, List.drop_drop, Nat.add_comm]
  have HR := hide hr
  have HN := hide hN
  clear hr hN
  have hz := Zt.new w
  have hal := (Below.refl w.heap.size w).alloc (Nat.le_refl _) (.cells #[.int .u8 0, S [], S [], .bool false] 27)
  have hx := h.below hal
  have hlt := h.lt
  go_enter Tryz.func40, Tryz.ntmps40
  go_upto_region 1 with (fail)
  change Code.wp _ _ _ _ (w.alloc (.cells #[.int .u8 0, S [], S [], .bool false] 27))
  obtain ⟨w1, hw1⟩ : ∃ x, x = w.alloc (.cells #[.int .u8 0, S [], S [], .bool false] 27) := ⟨_, rfl⟩
  rw [← hw1] at hz hal hx ⊢
  clear hw1 h
  have HX1 := hide hx
  have HZ1 := hide hz
  have HU1 := hide (p := Upto b w w1) (Upto.of_below hal)
  clear hz hal hx
  have HID := hide hid
  clear hid
  have HT0 := identAt s t b 1 false false w1 HX1.out (by omega) (by decide)
  rw [HID.out] at HT0
  have HT := hide (HT0)
  go_wp2_with fail
  refine HT.out.mono ?_
  rintro e w' ⟨rfl, rfl⟩
  clear HT
  clear HT0
  have HT1 := take_ s t b 1 false false w1 HX1.out h1
  rw [HR.out] at HT1
  have HT := hide (HT1)
  go_wp2_with fail
  refine HT.out.mono ?_
  rintro e w2 ⟨rfl, hx, hu⟩
  have HX2 := hide hx
  have HU2 := hide (HU1.out.trans hu)
  have HZ2 := hide (HZ1.out.upto hu (by omega))
  have hs2 := hu.size
  clear HT hx hu
  clear HT1
  have HT1 := name_ r t b false false w2 HX2.out hrl
  rw [HN.out, hdd.out, Bool.false_or] at HT1
  have HT := hide (HT1)
  go_wp2_with fail
  refine HT.out.mono ?_
  rintro e w3 ⟨t3, rfl, hx, hu⟩
  have HX3 := hide hx
  have HU3 := hide (HU2.out.trans hu)
  have HZ3 := hide (HZ2.out.upto hu (by omega))
  have hs3 := hu.size
  clear HT hx hu
  clear HT1
  have HT := hide (token_ 4 N.t w3 (by decide))
  go_wp2_with fail
  refine HT.out.mono ?_
  rintro e w4 ⟨rfl, hb⟩
  have HX4 := hide (HX3.out.below hb)
  have HU4 := hide (HU3.out.trans (Upto.of_below hb))
  have HZ4 := hide (HZ3.out.below hb)
  have hs4 := hb.size
  clear HT hb
  obtain ⟨z0, z1, z2, z3⟩ := HZ4.out.cells
  have g0 := HZ4.out.frozen 0
  have g1 := HZ4.out.frozen 1
  have g2 := HZ4.out.frozen 2
  have g3 := HZ4.out.frozen 3
  go_wp2_with fail
  change bodyPost _ _ _ _ ⟨_, _⟩ (putT w4 w.heap.size (Cssp.tk 4 N.t))
  obtain ⟨q0, q1, q2, q3⟩ := putT_cells HZ4.out (Cssp.tk 4 N.t)
  obtain ⟨e1, e2⟩ := putT_keep HU4.out HX4.out hlt (Nat.le_refl _) (Cssp.tk 4 N.t)
  refine bodyPost_ret (v := TV (Cssp.tk 4 N.t)) (by simp [results, Tryz.results40, go_sem, q0, q1, q2, q3]) rfl ?_
  exact ⟨t3, ⟨rfl, e1, e2⟩, fun h => by cases h⟩
end Go.Proofs.YtojgcangnkjmjaaGreatDoor
