/- takers: a table of methods by the byte that a token begins with. -/
import Derived.Test.YtojgcangnkjmjaaGreatDoorOth
import Derived.MapKept
import Derived.Carry
import Derived.LoopTactic
import Derived.Deep.Cut
import Derived.Deep.LoopGhost
import Derived.Lib.SlBytesConst
namespace Go.Proofs.YtojgcangnkjmjaaGreatDoor
open Go.RowKit Go.MapKept

def lkT : List (UInt8 × Nat) → UInt8 → Option Nat
  | [], _ => none
  | x :: r, c => if x.1 = c then some x.2 else lkT r c
abbrev FnV (f : Nat) : Value := .func (.func f) #[] #[]
def entV (x : UInt8 × Nat) : Value × Value := (B8 x.1, FnV x.2)
/-- block B is a map of these -/
def KM (w : World) (B : Nat) (l : List (UInt8 × Nat)) : Prop := ∃ es clock, w.heap[B]? = some (.map es clock) ∧ es.toList.map (fun e => (e.key, e.val)) = l.map entV
theorem KM.below {w w' : World} {B : Nat} {l : List (UInt8 × Nat)} (h : KM w B l) (hb : Below w.heap.size w w') : KM w' B l := by
  obtain ⟨es, c, h1, h2⟩ := h
  exact ⟨es, c, (hb.block B (heap_lt h1)).trans h1, h2⟩
theorem KM.upto {w w' : World} {B b : Nat} {l : List (UInt8 × Nat)} (h : KM w B l) (hu : Upto b w w') (hb : B ≠ b) : KM w' B l := by
  obtain ⟨es, c, h1, h2⟩ := h
  exact ⟨es, c, (hu.2 B (heap_lt h1) hb).trans h1, h2⟩
theorem KM.lt {w : World} {B : Nat} {l : List (UInt8 × Nat)} (h : KM w B l) : B < w.heap.size := by
  obtain ⟨es, c, h1, h2⟩ := h
  exact heap_lt h1
theorem b8_inj {a b : UInt8} (h : B8 a = B8 b) : a = b := by
  injection h with _ h
  exact UInt8.toNat_inj.1 (by omega)
theorem ent_key {es : List MapEntry} {l : List (UInt8 × Nat)} (h : es.map (fun e => (e.key, e.val)) = l.map entV) : ∀ x ∈ es, ∃ y ∈ l, x.key = B8 y.1 ∧ x.val = FnV y.2 := fun x hx => by
  have : (x.key, x.val) ∈ l.map entV := by rw [← h]; exact List.mem_map.2 ⟨x, hx, rfl⟩
  obtain ⟨y, hy, e⟩ := List.mem_map.1 this
  injection e with e1 e2
  exact ⟨y, hy, e1.symm, e2.symm⟩
theorem isKey_ent {es : List MapEntry} {l : List (UInt8 × Nat)} (h : es.map (fun e => (e.key, e.val)) = l.map entV) : ∀ x ∈ es, IsKey (.int .u8) x.key := fun x hx => by
  obtain ⟨y, _, e, _⟩ := ent_key h x hx
  rw [e]; rfl
theorem find_first (c : UInt8) : ∀ (es : List MapEntry) (l : List (UInt8 × Nat)) (i : Nat), es.map (fun e => (e.key, e.val)) = l.map entV →
    (lkT l c = none → Instr.findNow (.int .u8) (B8 c) es i = some none) ∧ (∀ f, lkT l c = some f → ∃ j, Instr.findNow (.int .u8) (B8 c) es i = some (some (j, FnV f)))
  | [], [], i, _ => ⟨fun _ => rfl, fun f h => by cases h⟩
  | [], _ :: _, i, h => by cases h
  | _ :: _, [], i, h => by cases h
  | e :: es, x :: l, i, h => by
    simp only [List.map_cons, List.cons.injEq, entV, Prod.mk.injEq] at h
    obtain ⟨⟨h1, h2⟩, h3⟩ := h
    have ih := find_first c es l (i + 1) h3
    have hs : Instr.sameNow (.int .u8) (B8 c) e.key = some ((c.toNat : Int) == (x.1.toNat : Int)) := by rw [h1]; rfl
    rw [lkT, Instr.findNow, hs]
    by_cases hx : x.1 = c
    · rw [if_pos hx]
      have : ((c.toNat : Int) == (x.1.toNat : Int)) = true := by rw [hx]; exact beq_self_eq_true _
      rw [this]
      refine ⟨fun h => (by cases h), fun f h => ?_⟩
      injection h with h
      subst h
      exact ⟨i, by rw [h2]⟩
    · rw [if_neg hx]
      have : ((c.toNat : Int) == (x.1.toNat : Int)) = false := by
        rw [beq_eq_false_iff_ne]
        intro e
        exact hx (UInt8.toNat_inj.1 (by omega))
      rw [this]
      exact ih
theorem KM.look {w : World} {B : Nat} {l : List (UInt8 × Nat)} (h : KM w B l) (c : UInt8) {f : Nat} (hf : lkT l c = some f) :
    (Instr.lookup 47 (.map (some B)) (B8 c) true).run Tryz.prog w = .ok (.tuple #[FnV f, .bool true]) w := by
  obtain ⟨es, clock, hb, hes⟩ := h
  obtain ⟨j, hj⟩ := (find_first c es.toList l 0 hes).2 f hf
  have hd : Tryz.prog.underlying 5 = some (.int .u8) := Tryz.underlying5
  simp [Instr.lookup, run_underlying Tryz.underlying47, MapKept.run_getObj_map hb, run_checkKey hd (k := B8 c) rfl, run_findKey hd hj, Result.andThen]
theorem KM.miss {w : World} {B : Nat} {l : List (UInt8 × Nat)} (h : KM w B l) (c : UInt8) (hf : lkT l c = none) :
    (Instr.lookup 47 (.map (some B)) (B8 c) true).run Tryz.prog w = .ok (.tuple #[.nilFunc, .bool false]) w := by
  obtain ⟨es, clock, hb, hes⟩ := h
  have hj := (find_first c es.toList l 0 hes).1 hf
  have hd : Tryz.prog.underlying 5 = some (.int .u8) := Tryz.underlying5
  have hz : (zeroValue 73).run Tryz.prog w = .ok .nilFunc w := by kernel_rfl
  simp [Instr.lookup, run_underlying Tryz.underlying47, MapKept.run_getObj_map hb, run_checkKey hd (k := B8 c) rfl, run_findKey hd hj, hz, Result.andThen]
/-- one more -/
theorem KM.add {w : World} {B : Nat} {l : List (UInt8 × Nat)} (h : KM w B l) (c : UInt8) (f : Nat) (hf : lkT l c = none) :
    ∃ w', (Instr.mapUpdate 47 (.map (some B)) (B8 c) (FnV f)).run Tryz.prog w = .ok () w' ∧ KM w' B (l ++ [(c, f)]) ∧ Upto B w w' := by
  obtain ⟨es, clock, hb, hes⟩ := h
  have hj := (find_first c es.toList l 0 hes).1 hf
  have hd : Tryz.prog.underlying 5 = some (.int .u8) := Tryz.underlying5
  have hlt := heap_lt hb
  refine ⟨{ w with heap := w.heap.setIfInBounds B (.map (es.push ⟨B8 c, FnV f, clock⟩) (clock + 1)) }, ?_, ⟨es.push ⟨B8 c, FnV f, clock⟩, clock + 1, ?_, ?_⟩, ⟨rfl, rfl, rfl, by simp, fun k hk => by omega⟩, fun k hk hkB => ?_⟩
  · simp [Instr.mapUpdate, run_underlying Tryz.underlying47, MapKept.run_getObj_map hb, run_checkKey hd (k := B8 c) rfl, run_findKey hd hj, run_setObj_map _ hb, Result.andThen]
  · simp [hlt]
  · simp [hes, entV]
  · simp [Ne.symm hkB]
def kText : Nat := 38
def kHash : Nat := 39
def kAt : Nat := 40
def kSpace : Nat := 41
def kMark : Nat := 42
def known : List (UInt8 × Nat) := [(34, kText), (39, kText), (35, kHash), (64, kAt), (32, kSpace), (9, kSpace), (10, kSpace), (40, kMark), (41, kMark), (91, kMark), (93, kMark), (123, kMark), (125, kMark), (44, kMark), (58, kMark), (59, kMark)]

set_option maxRecDepth 100000 in
set_option maxHeartbeats 4000000 in
theorem takers_ (w : World) : Calls Tryz.prog 23 #[] w fun e w' => e = .returned (.map (some w.heap.size)) ∧ KM w' w.heap.size known ∧ Below w.heap.size w w' := by
  have hk1 : KM (w.alloc (.map #[] 0)) w.heap.size [] := ⟨#[], 0, heap_alloc_last _ _, rfl⟩
  have hb1 : Below w.heap.size w (w.alloc (.map #[] 0)) := (Below.refl _ w).alloc (Nat.le_refl _) _
  have hmm := @run_makeMap Tryz.prog
  obtain ⟨w2, r2, hk2, hu2⟩ := hk1.add 34 kText rfl
  obtain ⟨w3, r3, hk3, hu3⟩ := hk2.add 39 kText rfl
  obtain ⟨w4, r4, hk4, hu4⟩ := hk3.add 35 kHash rfl
  obtain ⟨w5, r5, hk5, hu5⟩ := hk4.add 64 kAt rfl
  have hu : Upto w.heap.size (w.alloc (.map #[] 0)) w5 := hu2.trans (hu3.trans (hu4.trans hu5))
  have hb5 : Below w.heap.size w w5 := hb1.trans (hu.below (Nat.le_refl _) (by simp))
  have q2 : (Instr.mapUpdate 47 (.map (some w.heap.size)) (.int .u8 34) (.func (.func 38) #[] #[])).run Tryz.prog (w.alloc (.map #[] 0)) = .ok () w2 := r2
  have q3 : (Instr.mapUpdate 47 (.map (some w.heap.size)) (.int .u8 39) (.func (.func 38) #[] #[])).run Tryz.prog w2 = .ok () w3 := r3
  have q4 : (Instr.mapUpdate 47 (.map (some w.heap.size)) (.int .u8 35) (.func (.func 39) #[] #[])).run Tryz.prog w3 = .ok () w4 := r4
  have q5 : (Instr.mapUpdate 47 (.map (some w.heap.size)) (.int .u8 64) (.func (.func 40) #[] #[])).run Tryz.prog w4 = .ok () w5 := r5
  have HK5 := hide hk5
  have HB5 := hide hb5
  have hs5 := hb5.size
  have hk5l := hk5.lt
  clear hk1 hb1 r2 hk2 hu2 r3 hk3 hu3 r4 hk4 hu4 r5 hk5 hu5 hu hb5
  go_enter Tryz.func23, Tryz.ntmps23
  go_upto_region 2 with (fail)
  clear q2 q3 q4 q5
  have hcv := Lib.run_convert_bytes_const (P := Tryz.prog) w5 32 5 #[.int .u8 32, .int .u8 9, .int .u8 10] 3 3 Tryz.underlying32 Tryz.underlying5
  have hrow := heap_alloc_last w5 (.cells #[.int .u8 32, .int .u8 9, .int .u8 10] 5 (3, 4))
  have hal : Below w5.heap.size w5 (w5.alloc (.cells #[.int .u8 32, .int .u8 9, .int .u8 10] 5 (3, 4))) := (Below.refl _ w5).alloc (Nat.le_refl _) _
  go_upto_region 3 with (fail)
  clear hcv
  change Code.wp _ _ _ _ (w5.alloc (.cells #[.int .u8 32, .int .u8 9, .int .u8 10] 5 (3, 4)))
  generalize hgen : w5.alloc (.cells #[.int .u8 32, .int .u8 9, .int .u8 10] 5 (3, 4)) = w6 at hrow hal ⊢
  clear hgen
  have HK6 := hide (HK5.out.below hal)
  have HB6 := hide (HB5.out.trans (hal.mono hs5))
  have HR6 := hide (p := w6.heap[w5.heap.size]? = some (.cells #[.int .u8 32, .int .u8 9, .int .u8 10] 5 (3, 4))) hrow
  have hs6 := HB6.out.size
  clear hrow hal HK5 HB5
  go_loopg [11] 3 (fun g i wr => ∃ k : Nat, i = .int .i64 k ∧ g + k = 3 ∧ Hid (KM wr w.heap.size (known.take (4 + k))) ∧ Hid (Below w.heap.size w wr) ∧ Hid (wr.heap[w5.heap.size]? = some (.cells #[.int .u8 32, .int .u8 9, .int .u8 10] 5 (3, 4))))
  case atStart => exact ⟨0, rfl, rfl, HK6.out, HB6.out, HR6.out⟩
  case round =>
    obtain ⟨k, rfl, hgk, hK, hB, hR⟩ := hrel
    by_cases hk3 : k < 3
    · obtain ⟨c, hc, hno, htk⟩ : ∃ c : UInt8, ([32, 9, 10] : List UInt8)[k]? = some c ∧ lkT (known.take (4 + k)) c = none ∧ known.take (4 + k) ++ [(c, kSpace)] = known.take (4 + (k + 1)) := by
        match k, hk3 with
        | 0, _ => exact ⟨32, rfl, rfl, rfl⟩
        | 1, _ => exact ⟨9, rfl, rfl, rfl⟩
        | 2, _ => exact ⟨10, rfl, rfl, rfl⟩
      have hcell : wr.cell? ⟨w5.heap.size, k, none⟩ = some (.int .u8 c.toNat) := by
        rw [Lib.cell_of_heap hR.out]
        match k, hk3 with
        | 0, _ => injection hc with hc; subst hc; rfl
        | 1, _ => injection hc with hc; subst hc; rfl
        | 2, _ => injection hc with hc; subst hc; rfl
      obtain ⟨w7, r7, hk7, hu7⟩ := hK.out.add c kSpace hno
      have q7 : (Instr.mapUpdate 47 (.map (some w.heap.size)) (.int .u8 c.toNat) (.func (.func 41) #[] #[])).run Tryz.prog wr = .ok () w7 := r7
      rw [htk] at hk7
      have HK7 := hide hk7
      have HB7 := hide (hB.out.trans (hu7.below (Nat.le_refl _) hB.out.size))
      have HR7 := hide ((hu7.2 w5.heap.size (heap_lt hR.out) (by omega)).trans hR.out)
      have d1 : (k : Int) < 3 := by omega
      have d0 : (0 : Int) ≤ (k : Int) := by omega
      clear hc hno htk r7 hk7 hu7 hK hB hR
      go_wp2_with fail
      go_roundg (gk - 1)
      case measure => omega
      case rel => exact ⟨k + 1, by go_num, by omega, HK7.out, HB7.out, HR7.out⟩
    · have d1 : ¬ (k : Int) < 3 := by omega
      have hkk : k = 3 := by omega
      have HK8 : Hid (KM wr w.heap.size (known.take 7)) := by unfold Hid; rw [hkk] at hK; exact hK.out
      clear hkk hK hR HK6 HB6 HR6
      have hs8 := hB.out.size
      have hk8l := HK8.out.lt
      have hcv := Lib.run_convert_bytes_const (P := Tryz.prog) wr 32 5 #[.int .u8 40, .int .u8 41, .int .u8 91, .int .u8 93, .int .u8 123, .int .u8 125, .int .u8 44, .int .u8 58, .int .u8 59] 9 9 Tryz.underlying32 Tryz.underlying5
      have hrow := heap_alloc_last wr (.cells #[.int .u8 40, .int .u8 41, .int .u8 91, .int .u8 93, .int .u8 123, .int .u8 125, .int .u8 44, .int .u8 58, .int .u8 59] 5 (9, 10))
      have hal : Below wr.heap.size wr (wr.alloc (.cells #[.int .u8 40, .int .u8 41, .int .u8 91, .int .u8 93, .int .u8 123, .int .u8 125, .int .u8 44, .int .u8 58, .int .u8 59] 5 (9, 10))) := (Below.refl _ wr).alloc (Nat.le_refl _) _
      go_upto_region 8 with (fail)
      clear hcv
      change Code.wp _ _ _ _ (wr.alloc (.cells #[.int .u8 40, .int .u8 41, .int .u8 91, .int .u8 93, .int .u8 123, .int .u8 125, .int .u8 44, .int .u8 58, .int .u8 59] 5 (9, 10)))
      generalize hgen : wr.alloc (.cells #[.int .u8 40, .int .u8 41, .int .u8 91, .int .u8 93, .int .u8 123, .int .u8 125, .int .u8 44, .int .u8 58, .int .u8 59] 5 (9, 10)) = w9 at hrow hal ⊢
      clear hgen
      have HK9 := hide (HK8.out.below hal)
      have HB9 := hide (hB.out.trans (hal.mono hs8))
      have HR9 := hide (p := w9.heap[wr.heap.size]? = some (.cells #[.int .u8 40, .int .u8 41, .int .u8 91, .int .u8 93, .int .u8 123, .int .u8 125, .int .u8 44, .int .u8 58, .int .u8 59] 5 (9, 10))) hrow
      have hs9 := HB9.out.size
      obtain ⟨R2, hR2⟩ : ∃ R, wr.heap.size = R := ⟨_, rfl⟩
      rw [hR2] at HR9 hk8l ⊢
      clear hrow hal HK8 hB hs8 hR2
      go_loopg [21] 9 (fun g i wr => ∃ k : Nat, i = .int .i64 k ∧ g + k = 9 ∧ Hid (KM wr w.heap.size (known.take (7 + k))) ∧ Hid (Below w.heap.size w wr) ∧ Hid (wr.heap[R2]? = some (.cells #[.int .u8 40, .int .u8 41, .int .u8 91, .int .u8 93, .int .u8 123, .int .u8 125, .int .u8 44, .int .u8 58, .int .u8 59] 5 (9, 10))))
      case atStart => exact ⟨0, rfl, rfl, HK9.out, HB9.out, HR9.out⟩
      case round =>
        obtain ⟨k, rfl, hgk, hK, hB, hR⟩ := hrel
        by_cases hk3 : k < 9
        · obtain ⟨c, hc, hno, htk⟩ : ∃ c : UInt8, ([40, 41, 91, 93, 123, 125, 44, 58, 59] : List UInt8)[k]? = some c ∧ lkT (known.take (7 + k)) c = none ∧ known.take (7 + k) ++ [(c, kMark)] = known.take (7 + (k + 1)) := by
            match k, hk3 with
            | 0, _ => exact ⟨40, rfl, rfl, rfl⟩
            | 1, _ => exact ⟨41, rfl, rfl, rfl⟩
            | 2, _ => exact ⟨91, rfl, rfl, rfl⟩
            | 3, _ => exact ⟨93, rfl, rfl, rfl⟩
            | 4, _ => exact ⟨123, rfl, rfl, rfl⟩
            | 5, _ => exact ⟨125, rfl, rfl, rfl⟩
            | 6, _ => exact ⟨44, rfl, rfl, rfl⟩
            | 7, _ => exact ⟨58, rfl, rfl, rfl⟩
            | 8, _ => exact ⟨59, rfl, rfl, rfl⟩
          have hcell : wr.cell? ⟨R2, k, none⟩ = some (.int .u8 c.toNat) := by
            rw [Lib.cell_of_heap hR.out]
            match k, hk3 with
            | 0, _ => injection hc with hc; subst hc; rfl
            | 1, _ => injection hc with hc; subst hc; rfl
            | 2, _ => injection hc with hc; subst hc; rfl
            | 3, _ => injection hc with hc; subst hc; rfl
            | 4, _ => injection hc with hc; subst hc; rfl
            | 5, _ => injection hc with hc; subst hc; rfl
            | 6, _ => injection hc with hc; subst hc; rfl
            | 7, _ => injection hc with hc; subst hc; rfl
            | 8, _ => injection hc with hc; subst hc; rfl
          obtain ⟨w7, r7, hk7, hu7⟩ := hK.out.add c kMark hno
          have q7 : (Instr.mapUpdate 47 (.map (some w.heap.size)) (.int .u8 c.toNat) (.func (.func 42) #[] #[])).run Tryz.prog wr = .ok () w7 := r7
          rw [htk] at hk7
          have HK7 := hide hk7
          have HB7 := hide (hB.out.trans (hu7.below (Nat.le_refl _) hB.out.size))
          have HR7 := hide ((hu7.2 R2 (heap_lt hR.out) (by omega)).trans hR.out)
          have d1 : (k : Int) < 9 := by omega
          have d0 : (0 : Int) ≤ (k : Int) := by omega
          clear hc hno htk r7 hk7 hu7 hK hB hR
          go_wp2_with fail
          go_roundg (gk - 1)
          case measure => omega
          case rel => exact ⟨k + 1, by go_num, by omega, HK7.out, HB7.out, HR7.out⟩
        · have d1 : ¬ (k : Int) < 9 := by omega
          have hkk : k = 9 := by omega
          have HK8 : Hid (KM wr w.heap.size (known.take 16)) := by unfold Hid; rw [hkk] at hK; exact hK.out
          clear hkk hK hR
          go_wp2_with fail
          go_ret
          exact ⟨rfl, HK8.out, hB.out⟩
end Go.Proofs.YtojgcangnkjmjaaGreatDoor
