/- digits: where digits of a base end. -/
import Derived.Test.YtngccmlcopcghaaGreatDoorRd
import Derived.LoopTactic
import Derived.Deep.LoopGhost
import Derived.Lib.Hide
import Derived.MapKept
set_option maxRecDepth 100000
set_option maxHeartbeats 8000000
namespace Go.Proofs.YtngccmlcopcghaaGreatDoor
open Go.RowKit
theorem u8t {c d : UInt8} (h : c = d) : ((c.toNat : Int) == (d.toNat : Int)) = true := by rw [h, beq_self_eq_true]
theorem u8f {c d : UInt8} (h : ¬ c = d) : ((c.toNat : Int) == (d.toNat : Int)) = false := by
 rw [beq_eq_false_iff_ne]
 intro e
 exact h (UInt8.toNat_inj.1 (by omega))
theorem u8n {c d : UInt8} (h : ¬ c = d) : ((c.toNat : Int) != (d.toNat : Int)) = true := by rw [bne, u8f h]; rfl
theorem u8y {c d : UInt8} (h : c = d) : ((c.toNat : Int) != (d.toNat : Int)) = false := by rw [bne, u8t h]; rfl
theorem kR {k R n : Nat} (h : k + R = 0 + n) : ((k : Int) + (R : Int)) = (n : Int) := by omega
theorem kN {k R n : Nat} (h : k + R = 0 + n) : ((k + R : Nat) : Int) = (n : Int) := by omega
def Ahead (s : List UInt8) (k n : Nat) (last : UInt8) (any : Bool) : Prop := (n = k /\ last = 95 /\ any = false) \/ (k < n /\ s[n - 1]? = some last /\ any = true)
theorem digitsF_cons (base : Int) (last : UInt8) (any : Bool) (c : UInt8) (r : List UInt8) : Jsp.digitsF base last any (c :: r) =
  if c = 95 then (if last = 95 then (0, false) else ((Jsp.digitsF base c true r).1 + 1, (Jsp.digitsF base c true r).2))
  else if Jsp.hexV c < 0 \/ base <= Jsp.hexV c then (0, any && last != 95)
  else ((Jsp.digitsF base c true r).1 + 1, (Jsp.digitsF base c true r).2) := rfl
theorem jDigits (s : List UInt8) (k : Nat) (base : Int) (w : World) (hk : k <= s.length) (hl : s.length <= 4194304) :
  Calls Tryz.prog 119 #[S s, .int .i64 (k : Int), .int .i64 base] w (Quiet (.tuple #[.int .i64 ((k + (Jsp.digits base (s.drop k)).1 : Nat) : Int), .bool (Jsp.digits base (s.drop k)).2]) w) := by
 obtain ⟨R1, R2, hR⟩ : ∃ R1 R2, Jsp.digits base (s.drop k) = (R1, R2) := ⟨_, _, rfl⟩
 rw [hR]
 simp only
 have HR := hide hR
 clear hR
 go_enter Tryz.func119, Tryz.ntmps119
 go_wp2_with fail
 go_loopg [8] (s.length - k) (fun g s8 wx => ∃ (n : Nat) (last : UInt8) (any : Bool), s8 = .int .i64 n /\ wx = w /\ k <= n /\ g + n = s.length /\ Hid (Ahead s k n last any) /\ Hid ((k + R1, R2) = ((Jsp.digitsF base last any (s.drop n)).1 + n, (Jsp.digitsF base last any (s.drop n)).2)))
 case atStart => exact ⟨k, 95, false, rfl, rfl, Nat.le_refl _, by omega, .inl ⟨rfl, rfl, rfl⟩, by
  have h := HR.out
  unfold Jsp.digits at h
  unfold Hid
  rw [h, Nat.add_comm]⟩
 case round =>
  obtain ⟨n, last, any, rfl, rfl, hkn, hgn, hA, hD⟩ := hrel
  clear HR
  by_cases hlt : n < s.length
  ·have b0 : (0 : Int) <= (n : Int) := by omega
   have b1 : (n : Int) < (s.length : Int) := by omega
   obtain ⟨c, hc⟩ : ∃ c, s[n] = c := ⟨_, rfl⟩
   have hc' : s[n]? = some c := by rw [List.getElem?_eq_getElem hlt, hc]
   have hd := hD.out
   rw [List.drop_eq_getElem_cons hlt, hc, digitsF_cons] at hd
   have HC := hide hc'
   have hcb := u8_lt c
   clear hD hc'
   by_cases h95 : c = 95
   ·have q1 : ((c.toNat : Int) == 95) = true := u8t h95
    rw [if_pos h95] at hd
    clear h95
    rcases hA.out with ⟨h1, rfl, rfl⟩ | ⟨h1, h2, rfl⟩
    ·have q2 : ((n : Int) == (k : Int)) = true := by rw [beq_iff_eq]; omega
     rw [if_pos rfl] at hd
     injection hd with e1 e2
     have E1 := hide e1
     subst e2
     clear e1 hA h1
     go_wp2_with fail
     refine bodyPost_ret (v := .tuple #[.int .i64 (n : Int), .bool false]) (by simp [results, Tryz.results119, go_sem]) rfl ?_
     exact ⟨by rw [kR E1.out], 0, rfl⟩
    ·have q2 : ((n : Int) == (k : Int)) = false := by rw [beq_eq_false_iff_ne]; omega
     have hlt1 : n - 1 < s.length := by omega
     have c0 : (0 : Int) <= (n : Int) - 1 := by omega
     have c1 : (n : Int) - 1 < (s.length : Int) := by omega
     have c2 : ((n : Int) - 1).toNat = n - 1 := by omega
     have cw : wrap64 ((n : Int) - 1) = (n : Int) - 1 := by unfold wrap64; omega
     obtain ⟨y, hy⟩ : ∃ y, s[n - 1] = y := ⟨_, rfl⟩
     have hy2 : y = last := by
      rw [List.getElem?_eq_getElem hlt1, hy] at h2
      injection h2
     subst hy2
     have hcb2 := u8_lt y
     clear h2 hA
     by_cases hl95 : y = 95
     ·have q3 : ((y.toNat : Int) == 95) = true := u8t hl95
      rw [if_pos hl95] at hd
      injection hd with e1 e2
      have E1 := hide e1
      subst e2
      clear e1 hl95
      go_wp2_with fail
      refine bodyPost_ret (v := .tuple #[.int .i64 (n : Int), .bool false]) (by simp [results, Tryz.results119, go_sem]) rfl ?_
      exact ⟨by rw [kR E1.out], 0, rfl⟩
     ·have q3 : ((y.toNat : Int) == 95) = false := u8f hl95
      rw [if_neg hl95] at hd
      have HD := hide hd
      clear hd hl95
      go_wp2_with fail
      go_roundg (gk - 1)
      case measure => omega
      case rel => exact ⟨n + 1, c, true, by go_num, rfl, by omega, by omega, .inr ⟨by omega, HC.out, rfl⟩, by unfold Hid; rw [HD.out]; simp only [Prod.mk.injEq, and_true]; omega⟩
   ·have q1 : ((c.toNat : Int) == 95) = false := u8f h95
    rw [if_neg h95] at hd
    have hX := hexR_u8 c
    have hHex := fun W => hide (jHex c.toNat W (by omega))
    rw [hX] at hHex
    obtain ⟨X, hXX⟩ : ∃ X, Jsp.hexV c = X := ⟨_, rfl⟩
    rw [hXX] at hHex hd
    clear h95 hX hXX
    by_cases hend : X < 0 \/ base <= X
    ·rw [if_pos hend] at hd
     injection hd with e1 e2
     have E1 := hide e1
     have E2 := hide e2
     clear e1 e2
     rcases hA.out with ⟨h1, rfl, rfl⟩ | ⟨h1, h2, rfl⟩
     ·subst h1
      clear hA
      by_cases hX0 : X < 0
      ·clear hend
       go_wp2_with fail
       refine (hHex _).out.mono ?_
       rintro e w' ⟨rfl, rfl⟩
       go_wp2_with fail
       go_quiet (fail)
       go_wp2_with fail
       refine bodyPost_ret (v := .tuple #[.int .i64 (n : Int), .bool false]) (by simp [results, Tryz.results119, go_sem]) rfl ?_
       exact ⟨by first | (rw [kR E1.out, E2.out]; done) | (rw [kN E1.out, E2.out]; done) | (rw [kR E1.out, E2.out]; simp; done) | (rw [kN E1.out, E2.out]; simp; done), _, rfl⟩
      ·have hX1 : base <= X := by rcases hend with h | h; exact absurd h hX0; exact h
       clear hend
       go_wp2_with fail
       refine (hHex _).out.mono ?_
       rintro e w' ⟨rfl, rfl⟩
       go_wp2_with fail
       go_quiet (fail)
       go_wp2_with fail
       refine bodyPost_ret (v := .tuple #[.int .i64 (n : Int), .bool false]) (by simp [results, Tryz.results119, go_sem]) rfl ?_
       exact ⟨by first | (rw [kR E1.out, E2.out]; done) | (rw [kN E1.out, E2.out]; done) | (rw [kR E1.out, E2.out]; simp; done) | (rw [kN E1.out, E2.out]; simp; done), _, rfl⟩
     ·have q2 : decide ((k : Int) < (n : Int)) = true := by simp; omega
      have hlt1 : n - 1 < s.length := by omega
      have c0 : (0 : Int) <= (n : Int) - 1 := by omega
      have c1 : (n : Int) - 1 < (s.length : Int) := by omega
      have c2 : ((n : Int) - 1).toNat = n - 1 := by omega
      have cw : wrap64 ((n : Int) - 1) = (n : Int) - 1 := by unfold wrap64; omega
      obtain ⟨y, hy⟩ : ∃ y, s[n - 1] = y := ⟨_, rfl⟩
      have hy2 : y = last := by
       rw [List.getElem?_eq_getElem hlt1, hy] at h2
       injection h2
      subst hy2
      have hcb2 := u8_lt y
      have hne : ((y.toNat : Int) != 95) = (y != 95) := u8_bne y 95
      clear h2 hA
      by_cases hX0 : X < 0
      ·clear hend
       go_wp2_with fail
       refine (hHex _).out.mono ?_
       rintro e w' ⟨rfl, rfl⟩
       go_wp2_with fail
       go_quiet (fail)
       go_wp2_with fail
       refine bodyPost_ret (v := .tuple #[.int .i64 (n : Int), .bool (y != 95)]) (by simp [results, Tryz.results119, go_sem]) rfl ?_
       exact ⟨by first | (rw [kR E1.out, E2.out]; done) | (rw [kN E1.out, E2.out]; done) | (rw [kR E1.out, E2.out]; simp; done) | (rw [kN E1.out, E2.out]; simp; done), _, rfl⟩
      ·have hX1 : base <= X := by rcases hend with h | h; exact absurd h hX0; exact h
       clear hend
       go_wp2_with fail
       refine (hHex _).out.mono ?_
       rintro e w' ⟨rfl, rfl⟩
       go_wp2_with fail
       go_quiet (fail)
       go_wp2_with fail
       refine bodyPost_ret (v := .tuple #[.int .i64 (n : Int), .bool (y != 95)]) (by simp [results, Tryz.results119, go_sem]) rfl ?_
       exact ⟨by first | (rw [kR E1.out, E2.out]; done) | (rw [kN E1.out, E2.out]; done) | (rw [kR E1.out, E2.out]; simp; done) | (rw [kN E1.out, E2.out]; simp; done), _, rfl⟩
    ·rw [if_neg hend] at hd
     have HD := hide hd
     have hX0 : ¬ X < 0 := fun h => hend (.inl h)
     have hX1 : ¬ base <= X := fun h => hend (.inr h)
     clear hd hend
     go_wp2_with fail
     refine (hHex _).out.mono ?_
     rintro e w' ⟨rfl, rfl⟩
     go_wp2_with fail
     go_roundg (gk - 1)
     case measure => omega
     case rel => exact ⟨n + 1, c, true, by go_num, rfl, by omega, by omega, .inr ⟨by omega, HC.out, rfl⟩, by unfold Hid; rw [HD.out]; simp only [Prod.mk.injEq, and_true]; omega⟩
  ·have e : n = s.length := by omega
   subst e
   have hd := hD.out
   rw [List.drop_length] at hd
   unfold Jsp.digitsF at hd
   injection hd with e1 e2
   have E1 := hide e1
   have E2 := hide e2
   clear e1 e2 hD
   rcases hA.out with ⟨h1, rfl, rfl⟩ | ⟨h1, h2, rfl⟩
   ·subst h1
    clear hA
    go_wp2_with fail
    go_quiet (fail)
    go_wp2_with fail
    refine bodyPost_ret (v := .tuple #[.int .i64 (s.length : Int), .bool false]) (by simp [results, Tryz.results119, go_sem]) rfl ?_
    exact ⟨by first | (rw [kR E1.out, E2.out]; done) | (rw [kN E1.out, E2.out]; done) | (rw [kR E1.out, E2.out]; simp; done) | (rw [kN E1.out, E2.out]; simp; done), _, rfl⟩
   ·have q2 : decide ((k : Int) < (s.length : Int)) = true := by simp; omega
    have hlt1 : s.length - 1 < s.length := by omega
    have c0 : (0 : Int) <= (s.length : Int) - 1 := by omega
    have c1 : (s.length : Int) - 1 < (s.length : Int) := by omega
    have c2 : ((s.length : Int) - 1).toNat = s.length - 1 := by omega
    have cw : wrap64 ((s.length : Int) - 1) = (s.length : Int) - 1 := by unfold wrap64; omega
    obtain ⟨y, hy⟩ : ∃ y, s[s.length - 1] = y := ⟨_, rfl⟩
    have hy2 : y = last := by
     rw [List.getElem?_eq_getElem hlt1, hy] at h2
     injection h2
    subst hy2
    have hcb2 := u8_lt y
    have hne : ((y.toNat : Int) != 95) = (y != 95) := u8_bne y 95
    clear h2 hA
    go_wp2_with fail
    go_quiet (fail)
    go_wp2_with fail
    refine bodyPost_ret (v := .tuple #[.int .i64 (s.length : Int), .bool (y != 95)]) (by simp [results, Tryz.results119, go_sem]) rfl ?_
    exact ⟨by first | (rw [kR E1.out, E2.out]; done) | (rw [kN E1.out, E2.out]; done) | (rw [kR E1.out, E2.out]; simp; done) | (rw [kN E1.out, E2.out]; simp; done), _, rfl⟩
open Go.RowKit Go.MapKept
def lkM : List (UInt8 × Value) -> UInt8 -> Option Value
 | [], _ => none
 | x :: r, c => if x.1 = c then some x.2 else lkM r c
def entM (x : UInt8 × Value) : Value × Value := (B8 x.1, x.2)
def KM (w : World) (B : Nat) (l : List (UInt8 × Value)) : Prop := ∃ es clock, w.heap[B]? = some (.map es clock) /\ es.toList.map (fun e => (e.key, e.val)) = l.map entM
theorem KM.drewN {w : World} {B : Nat} {l : List (UInt8 × Value)} (h : KM w B l) (n : Nat) : KM (w.drewN n) B l := h
theorem find_m (c : UInt8) : ∀ (es : List MapEntry) (l : List (UInt8 × Value)) (i : Nat), es.map (fun e => (e.key, e.val)) = l.map entM ->
  (lkM l c = none -> Instr.findNow (.int .u8) (B8 c) es i = some none) /\ (∀ f, lkM l c = some f -> ∃ j, Instr.findNow (.int .u8) (B8 c) es i = some (some (j, f)))
 | [], [], i, _ => ⟨fun _ => rfl, fun f h => by cases h⟩
 | [], _ :: _, i, h => by cases h
 | _ :: _, [], i, h => by cases h
 | e :: es, x :: l, i, h => by
  simp only [List.map_cons, List.cons.injEq, entM, Prod.mk.injEq] at h
  obtain ⟨⟨h1, h2⟩, h3⟩ := h
  have ih := find_m c es l (i + 1) h3
  have hs : Instr.sameNow (.int .u8) (B8 c) e.key = some ((c.toNat : Int) == (x.1.toNat : Int)) := by rw [h1]; rfl
  rw [lkM, Instr.findNow, hs]
  by_cases hx : x.1 = c
  ·rw [if_pos hx]
   have : ((c.toNat : Int) == (x.1.toNat : Int)) = true := by rw [hx]; exact beq_self_eq_true _
   rw [this]
   refine ⟨fun h => (by cases h), fun f h => ?_⟩
   injection h with h
   subst h
   exact ⟨i, by rw [h2]⟩
  ·rw [if_neg hx]
   have : ((c.toNat : Int) == (x.1.toNat : Int)) = false := by
    rw [beq_eq_false_iff_ne]
    intro e
    exact hx (UInt8.toNat_inj.1 (by omega))
   rw [this]
   exact ih
theorem KM.look {w : World} {B : Nat} {l : List (UInt8 × Value)} (h : KM w B l) {T K V : TypeId} (hT : Tryz.prog.underlying T = some (.map K V)) (hd : Tryz.prog.underlying K = some (.int .u8)) (c : UInt8) {f : Value} (hf : lkM l c = some f) :
  (Instr.lookup T (.map (some B)) (B8 c) false).run Tryz.prog w = .ok f w := by
 obtain ⟨es, clock, hb, hes⟩ := h
 obtain ⟨j, hj⟩ := (find_m c es.toList l 0 hes).2 f hf
 simp [Instr.lookup, run_underlying hT, MapKept.run_getObj_map hb, run_checkKey hd (k := B8 c) rfl, run_findKey hd hj, Result.andThen]
theorem KM.miss {w : World} {B : Nat} {l : List (UInt8 × Value)} (h : KM w B l) {T K V : TypeId} {z : Value} (hT : Tryz.prog.underlying T = some (.map K V)) (hd : Tryz.prog.underlying K = some (.int .u8)) (hz : (zeroValue V).run Tryz.prog w = .ok z w) (c : UInt8) (hf : lkM l c = none) :
  (Instr.lookup T (.map (some B)) (B8 c) false).run Tryz.prog w = .ok z w := by
 obtain ⟨es, clock, hb, hes⟩ := h
 have hj := (find_m c es.toList l 0 hes).1 hf
 simp [Instr.lookup, run_underlying hT, MapKept.run_getObj_map hb, run_checkKey hd (k := B8 c) rfl, run_findKey hd hj, hz, Result.andThen]
theorem KM.add {w : World} {B : Nat} {l : List (UInt8 × Value)} (h : KM w B l) {T K V : TypeId} (hT : Tryz.prog.underlying T = some (.map K V)) (hd : Tryz.prog.underlying K = some (.int .u8)) (c : UInt8) (f : Value) (hf : lkM l c = none) :
  ∃ w', (Instr.mapUpdate T (.map (some B)) (B8 c) f).run Tryz.prog w = .ok () w' /\ KM w' B (l ++ [(c, f)]) /\ ∀ w0, Below B w0 w -> Below B w0 w' := by
 obtain ⟨es, clock, hb, hes⟩ := h
 have hj := (find_m c es.toList l 0 hes).1 hf
 have hlt := heap_lt hb
 refine ⟨{ w with heap := w.heap.setIfInBounds B (.map (es.push ⟨B8 c, f, clock⟩) (clock + 1)) }, ?_, ⟨es.push ⟨B8 c, f, clock⟩, clock + 1, ?_, ?_⟩, fun w0 h => ⟨h.os, h.tape, h.output, by simpa using h.size, fun k hk => ?_⟩⟩
 ·simp [Instr.mapUpdate, run_underlying hT, MapKept.run_getObj_map hb, run_checkKey hd (k := B8 c) rfl, run_findKey hd hj, run_setObj_map _ hb, Result.andThen]
 ·simp [hlt]
 ·simp [hes, entM]
 ·have : B ≠ k := by omega
  simp [this]
  exact h.block k hk
theorem KM.new (w : World) : KM (w.alloc (.map #[] 0)) w.heap.size [] := ⟨#[], 0, heap_alloc_last _ _, rfl⟩
def bases : List (UInt8 × Value) := [(120, .int .i64 16), (111, .int .i64 8), (98, .int .i64 2)]
theorem mBases (w : World) : ∃ w1 w2 w3, (Instr.mapUpdate 129 (.map (some w.heap.size)) (.int .u8 120) (.int .i64 16)).run Tryz.prog (w.alloc (.map #[] 0)) = .ok () w1 /\
  (Instr.mapUpdate 129 (.map (some w.heap.size)) (.int .u8 111) (.int .i64 8)).run Tryz.prog w1 = .ok () w2 /\
  (Instr.mapUpdate 129 (.map (some w.heap.size)) (.int .u8 98) (.int .i64 2)).run Tryz.prog w2 = .ok () w3 /\ KM w3 w.heap.size bases /\ Below w.heap.size w w3 := by
 have hk0 := KM.new w
 have hb0 : Below w.heap.size w (w.alloc (.map #[] 0)) := (Below.refl _ w).alloc (Nat.le_refl _) _
 obtain ⟨w1, r1, hk1, hu1⟩ := hk0.add Tryz.underlying129 Tryz.underlying5 120 (.int .i64 16) rfl
 obtain ⟨w2, r2, hk2, hu2⟩ := hk1.add Tryz.underlying129 Tryz.underlying5 111 (.int .i64 8) rfl
 obtain ⟨w3, r3, hk3, hu3⟩ := hk2.add Tryz.underlying129 Tryz.underlying5 98 (.int .i64 2) rfl
 exact ⟨w1, w2, w3, r1, r2, r3, hk3, hu3 _ (hu2 _ (hu1 _ hb0))⟩
def shuts : List (UInt8 × Value) := [(107, .int .u8 41), (112, .int .u8 41), (91, .int .u8 93), (98, .int .u8 125), (101, .int .u8 125)]
theorem mShuts (w : World) : ∃ w1 w2 w3 w4 w5, (Instr.mapUpdate 128 (.map (some w.heap.size)) (.int .u8 107) (.int .u8 41)).run Tryz.prog (w.alloc (.map #[] 0)) = .ok () w1 /\
  (Instr.mapUpdate 128 (.map (some w.heap.size)) (.int .u8 112) (.int .u8 41)).run Tryz.prog w1 = .ok () w2 /\
  (Instr.mapUpdate 128 (.map (some w.heap.size)) (.int .u8 91) (.int .u8 93)).run Tryz.prog w2 = .ok () w3 /\
  (Instr.mapUpdate 128 (.map (some w.heap.size)) (.int .u8 98) (.int .u8 125)).run Tryz.prog w3 = .ok () w4 /\
  (Instr.mapUpdate 128 (.map (some w.heap.size)) (.int .u8 101) (.int .u8 125)).run Tryz.prog w4 = .ok () w5 /\ KM w5 w.heap.size shuts /\ Below w.heap.size w w5 := by
 have hk0 := KM.new w
 have hb0 : Below w.heap.size w (w.alloc (.map #[] 0)) := (Below.refl _ w).alloc (Nat.le_refl _) _
 obtain ⟨w1, r1, hk1, hu1⟩ := hk0.add Tryz.underlying128 Tryz.underlying5 107 (.int .u8 41) rfl
 obtain ⟨w2, r2, hk2, hu2⟩ := hk1.add Tryz.underlying128 Tryz.underlying5 112 (.int .u8 41) rfl
 obtain ⟨w3, r3, hk3, hu3⟩ := hk2.add Tryz.underlying128 Tryz.underlying5 91 (.int .u8 93) rfl
 obtain ⟨w4, r4, hk4, hu4⟩ := hk3.add Tryz.underlying128 Tryz.underlying5 98 (.int .u8 125) rfl
 obtain ⟨w5, r5, hk5, hu5⟩ := hk4.add Tryz.underlying128 Tryz.underlying5 101 (.int .u8 125) rfl
 exact ⟨w1, w2, w3, w4, w5, r1, r2, r3, r4, r5, hk5, hu5 _ (hu4 _ (hu3 _ (hu2 _ (hu1 _ hb0))))⟩
def marksQ : List (UInt8 × Value) := [(4, .int .u8 96), (5, .int .u8 47)]
theorem mQuotes (w : World) : ∃ w1 w2, (Instr.mapUpdate 91 (.map (some w.heap.size)) (.int .u8 4) (.int .u8 96)).run Tryz.prog (w.alloc (.map #[] 0)) = .ok () w1 /\
  (Instr.mapUpdate 91 (.map (some w.heap.size)) (.int .u8 5) (.int .u8 47)).run Tryz.prog w1 = .ok () w2 /\ KM w2 w.heap.size marksQ /\ Below w.heap.size w w2 := by
 have hk0 := KM.new w
 have hb0 : Below w.heap.size w (w.alloc (.map #[] 0)) := (Below.refl _ w).alloc (Nat.le_refl _) _
 obtain ⟨w1, r1, hk1, hu1⟩ := hk0.add Tryz.underlying91 Tryz.underlying34 4 (.int .u8 96) rfl
 obtain ⟨w2, r2, hk2, hu2⟩ := hk1.add Tryz.underlying91 Tryz.underlying34 5 (.int .u8 47) rfl
 exact ⟨w1, w2, r1, r2, hk2, hu2 _ (hu1 _ hb0)⟩
end Go.Proofs.YtngccmlcopcghaaGreatDoor
