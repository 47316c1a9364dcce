/- strings.ContainsFunc at the bytes that no special host has; a host of a scheme that is not special. -/
import Derived.Test.YtahjndignkhmoaaGreatDoorJ
import Derived.Deep.WholeRow
namespace Go.Proofs.YtahjndignkhmoaaGreatDoor
open Go.RowKit

namespace Hostp
def other (c : UInt8) : Bool := decide (c.toNat < 32) || decide (126 < c.toNat) || c == 37
def otherN (n : Nat) : Bool := decide (n < 32) || decide (126 < n) || n == 37
theorem other_eq (c : UInt8) : otherN c.toNat = other c := by
  unfold other otherN
  congr 1
  rw [Bool.eq_iff_iff, beq_iff_eq, beq_iff_eq]
  exact ⟨fun h => UInt8.toNat_inj.1 h, fun h => by rw [h]; rfl⟩
end Hostp

theorem idx_other (s : List UInt8) : ∀ (f pos : Nat), s.length ≤ pos + f → decide ((0 : Int) ≤ Lib.idxFuncFrom Hostp.otherN true ⟨s.toArray⟩ f pos) = (s.drop pos).any Hostp.other
  | 0, pos, h => by
    rw [List.drop_eq_nil_of_le (by omega)]; rfl
  | f + 1, pos, h => by
    unfold Lib.idxFuncFrom
    by_cases hp : pos < s.length
    · have hp' : pos < (⟨s.toArray⟩ : ByteArray).size := by rw [bl_size]; exact hp
      rw [if_pos hp', List.drop_eq_getElem_cons hp, List.any_cons]
      obtain ⟨c, hc⟩ : ∃ c, s[pos] = c := ⟨_, rfl⟩
      have hcc : (⟨s.toArray⟩ : ByteArray)[pos]'hp' = c := hc
      rw [hc]
      by_cases h128 : c.toNat < 128
      · have hd := decode_ascii ⟨s.toArray⟩ pos hp' (by rw [hcc]; exact h128)
        rw [hcc] at hd
        rw [hd]
        simp only
        rw [Hostp.other_eq]
        cases ho : Hostp.other c
        · rw [if_neg (by decide), Bool.false_or]
          exact idx_other s f (pos + 1) (by omega)
        · rw [if_pos rfl, Bool.true_or]
          exact decide_eq_true (by omega)
      · have hd := (decode_high ⟨s.toArray⟩ pos hp' (by rw [hcc]; omega)).1
        have h1 : Hostp.otherN (Utf8.decode ⟨s.toArray⟩ pos).1 = true := by
          unfold Hostp.otherN
          rw [decide_eq_true (show 126 < (Utf8.decode ⟨s.toArray⟩ pos).1 by omega), Bool.or_true, Bool.true_or]
        have h2 : Hostp.other c = true := by
          unfold Hostp.other
          rw [decide_eq_true (show 126 < c.toNat by omega), Bool.or_true, Bool.true_or]
        rw [if_pos h1, h2, Bool.true_or]
        exact decide_eq_true (by omega)
    · rw [if_neg (by rw [bl_size]; exact hp), List.drop_eq_nil_of_le (by omega)]; rfl

theorem pOther (w : World) : PredAt Tryz.prog 21 #[] encR Hostp.otherN w := by
  intro W x _
  unfold FnGives
  have h : Calls Tryz.prog 21 #[.int .i32 (x : Int)] W (Ret (.bool (Hostp.otherN x)) W) := by
    go_enter Tryz.func21, Tryz.ntmps21
    go_wp2
    all_goals go_ret
    all_goals refine Ret.of (v_b ?_)
    all_goals unfold Hostp.otherN
    all_goals (rw [Bool.eq_iff_iff]; simp; omega)
  exact h.mono fun _ _ q => ⟨q.1, 0, q.2.symm⟩
theorem cFunc (s : List UInt8) (b : Bool) (w : World) (hb : Hid (s.any Hostp.other = b)) :
    Calls Tryz.prog 23 #[S s, .func (.func 21) #[] #[]] w (Fresh (.bool b) w) := by
  refine (Tryz.strings_ContainsFunc 21 #[] (enters_of Tryz.func21 (by kernel_rfl) rfl) Hostp.otherN ⟨s.toArray⟩ w (pOther w)).mono ?_
  rintro e w' ⟨rfl, h⟩
  have := idx_other s s.length 0 (by omega)
  rw [List.drop_zero, hb.out] at this
  refine ⟨?_, h⟩
  rw [← this]
  unfold Lib.idxFunc
  rw [bl_size]

/-- the cells of a host by value -/
theorem cells11 {w : World} {B : Nat} {a0 a1 a2 a3 a4 a5 a6 a7 a8 a9 a10 : Value} {T : TypeId} (h : w.heap[B]? = some (Obj.cells #[a0, a1, a2, a3, a4, a5, a6, a7, a8, a9, a10] T (0, 0))) :
    (w.cell? ⟨B, 0, none⟩ = some a0 ∧ w.cell? ⟨B, 1, none⟩ = some a1 ∧ w.cell? ⟨B, 2, none⟩ = some a2 ∧ w.cell? ⟨B, 3, none⟩ = some a3 ∧ w.cell? ⟨B, 4, none⟩ = some a4 ∧ w.cell? ⟨B, 5, none⟩ = some a5 ∧ w.cell? ⟨B, 6, none⟩ = some a6 ∧ w.cell? ⟨B, 7, none⟩ = some a7 ∧ w.cell? ⟨B, 8, none⟩ = some a8 ∧ w.cell? ⟨B, 9, none⟩ = some a9 ∧ w.cell? ⟨B, 10, none⟩ = some a10) ∧ ∀ j, w.frozen? ⟨B, j, none⟩ = false := by
  refine ⟨⟨?_, ?_, ?_, ?_, ?_, ?_, ?_, ?_, ?_, ?_, ?_⟩, fun j => by simp [World.frozen?, h]⟩ <;> (rw [Lib.cell_of_heap h]; rfl)
theorem row_set {w : World} {B : Nat} {C : Array Value} {T : TypeId} {fz : Nat × Nat} (h : w.heap[B]? = some (Obj.cells C T fz)) (j : Nat) (v : Value) : (w.setCell ⟨B, j, none⟩ v).heap[B]? = some (Obj.cells (C.setIfInBounds j v) T fz) := by
  simp [World.setCell, Array.getElem?_modify, h]
/-- a host stored: its cells one by one -/
def put11 (w : World) (B : Nat) (v0 v1 v2 v3 v4 v5 v6 v7 v8 v9 v10 : Value) : World := (((((((((((w.setCell ⟨B, 0, none⟩ v0).setCell ⟨B, 1, none⟩ v1).setCell ⟨B, 2, none⟩ v2).setCell ⟨B, 3, none⟩ v3).setCell ⟨B, 4, none⟩ v4).setCell ⟨B, 5, none⟩ v5).setCell ⟨B, 6, none⟩ v6).setCell ⟨B, 7, none⟩ v7).setCell ⟨B, 8, none⟩ v8).setCell ⟨B, 9, none⟩ v9).setCell ⟨B, 10, none⟩ v10)
theorem put11_heap {w : World} {B : Nat} {T : TypeId} {a0 a1 a2 a3 a4 a5 a6 a7 a8 a9 a10 : Value} (h : w.heap[B]? = some (Obj.cells #[a0, a1, a2, a3, a4, a5, a6, a7, a8, a9, a10] T (0, 0))) (v0 v1 v2 v3 v4 v5 v6 v7 v8 v9 v10 : Value) :
    (put11 w B v0 v1 v2 v3 v4 v5 v6 v7 v8 v9 v10).heap[B]? = some (Obj.cells #[v0, v1, v2, v3, v4, v5, v6, v7, v8, v9, v10] T (0, 0)) := by
  unfold put11
  replace h := row_set h 0 v0
  rw [show (#[a0, a1, a2, a3, a4, a5, a6, a7, a8, a9, a10] : Array Value).setIfInBounds 0 v0 = #[v0, a1, a2, a3, a4, a5, a6, a7, a8, a9, a10] from rfl] at h
  replace h := row_set h 1 v1
  rw [show (#[v0, a1, a2, a3, a4, a5, a6, a7, a8, a9, a10] : Array Value).setIfInBounds 1 v1 = #[v0, v1, a2, a3, a4, a5, a6, a7, a8, a9, a10] from rfl] at h
  replace h := row_set h 2 v2
  rw [show (#[v0, v1, a2, a3, a4, a5, a6, a7, a8, a9, a10] : Array Value).setIfInBounds 2 v2 = #[v0, v1, v2, a3, a4, a5, a6, a7, a8, a9, a10] from rfl] at h
  replace h := row_set h 3 v3
  rw [show (#[v0, v1, v2, a3, a4, a5, a6, a7, a8, a9, a10] : Array Value).setIfInBounds 3 v3 = #[v0, v1, v2, v3, a4, a5, a6, a7, a8, a9, a10] from rfl] at h
  replace h := row_set h 4 v4
  rw [show (#[v0, v1, v2, v3, a4, a5, a6, a7, a8, a9, a10] : Array Value).setIfInBounds 4 v4 = #[v0, v1, v2, v3, v4, a5, a6, a7, a8, a9, a10] from rfl] at h
  replace h := row_set h 5 v5
  rw [show (#[v0, v1, v2, v3, v4, a5, a6, a7, a8, a9, a10] : Array Value).setIfInBounds 5 v5 = #[v0, v1, v2, v3, v4, v5, a6, a7, a8, a9, a10] from rfl] at h
  replace h := row_set h 6 v6
  rw [show (#[v0, v1, v2, v3, v4, v5, a6, a7, a8, a9, a10] : Array Value).setIfInBounds 6 v6 = #[v0, v1, v2, v3, v4, v5, v6, a7, a8, a9, a10] from rfl] at h
  replace h := row_set h 7 v7
  rw [show (#[v0, v1, v2, v3, v4, v5, v6, a7, a8, a9, a10] : Array Value).setIfInBounds 7 v7 = #[v0, v1, v2, v3, v4, v5, v6, v7, a8, a9, a10] from rfl] at h
  replace h := row_set h 8 v8
  rw [show (#[v0, v1, v2, v3, v4, v5, v6, v7, a8, a9, a10] : Array Value).setIfInBounds 8 v8 = #[v0, v1, v2, v3, v4, v5, v6, v7, v8, a9, a10] from rfl] at h
  replace h := row_set h 9 v9
  rw [show (#[v0, v1, v2, v3, v4, v5, v6, v7, v8, a9, a10] : Array Value).setIfInBounds 9 v9 = #[v0, v1, v2, v3, v4, v5, v6, v7, v8, v9, a10] from rfl] at h
  replace h := row_set h 10 v10
  rw [show (#[v0, v1, v2, v3, v4, v5, v6, v7, v8, v9, a10] : Array Value).setIfInBounds 10 v10 = #[v0, v1, v2, v3, v4, v5, v6, v7, v8, v9, v10] from rfl] at h
  exact h
theorem put11_below {a w : World} {K B : Nat} (h : Below K a w) (hB : K ≤ B) (v0 v1 v2 v3 v4 v5 v6 v7 v8 v9 v10 : Value) : Below K a (put11 w B v0 v1 v2 v3 v4 v5 v6 v7 v8 v9 v10) := by
  exact (Below.setCell (Below.setCell (Below.setCell (Below.setCell (Below.setCell (Below.setCell (Below.setCell (Below.setCell (Below.setCell (Below.setCell (Below.setCell h (p := ⟨B, 0, none⟩) hB v0) (p := ⟨B, 1, none⟩) hB v1) (p := ⟨B, 2, none⟩) hB v2) (p := ⟨B, 3, none⟩) hB v3) (p := ⟨B, 4, none⟩) hB v4) (p := ⟨B, 5, none⟩) hB v5) (p := ⟨B, 6, none⟩) hB v6) (p := ⟨B, 7, none⟩) hB v7) (p := ⟨B, 8, none⟩) hB v8) (p := ⟨B, 9, none⟩) hB v9) (p := ⟨B, 10, none⟩) hB v10)

/-- a host: its kind, its name, an address of four, one of eight -/
abbrev H11 (k : Int) (s : List UInt8) (n a b c d e f g h : Int) : Value :=
  .agg #[.int .u8 k, S s, .int .u32 n, .int .u16 a, .int .u16 b, .int .u16 c, .int .u16 d, .int .u16 e, .int .u16 f, .int .u16 g, .int .u16 h]
abbrev zeroHost : Array Value := #[.int .u8 0, S [], .int .u32 0, .int .u16 0, .int .u16 0, .int .u16 0, .int .u16 0, .int .u16 0, .int .u16 0, .int .u16 0, .int .u16 0]
/-- what is left of a host read, if it is not an address of eight -/
def opV : Option Hostp.Host → Value
  | some (.opaque_ s) => .tuple #[H11 2 s 0 0 0 0 0 0 0 0 0, .int .i64 0]
  | some .empty => .tuple #[H11 5 [] 0 0 0 0 0 0 0 0 0, .int .i64 0]
  | _ => .tuple #[H11 0 [] 0 0 0 0 0 0 0 0 0, .int .i64 110]
namespace Hostp
def opaqueP (s : List UInt8) : Option Host := if s.any bad = true then none else if s = [] then some .empty else some (.opaque_ (pEnc s))
end Hostp

set_option maxHeartbeats 2000000 in
set_option maxRecDepth 100000 in
theorem hOpaque (s : List UInt8) (w : World) (hl : s.length ≤ 1048576) :
    Calls Tryz.prog 18 #[S s] w fun e w' => e = .returned (opV (Hostp.opaqueP s)) ∧ Below w.heap.size w w' := by
  obtain ⟨b, hb⟩ : ∃ b, s.any Hostp.bad = b := ⟨_, rfl⟩
  have hnew : (w.alloc (.cells zeroHost 27)).heap[w.heap.size]? = some (.cells zeroHost 27 (0, 0)) := heap_alloc_last _ _
  have hnz : (w.alloc (.cells zeroHost 27)).heap.size = w.heap.size + 1 := by simp
  have hnb : Below w.heap.size w (w.alloc (.cells zeroHost 27)) := (Below.refl _ _).alloc (Nat.le_refl _) _
  have HB := hide hb
  obtain ⟨r, hr⟩ : ∃ r, Hostp.opaqueP s = r := ⟨_, rfl⟩
  rw [hr]
  unfold Hostp.opaqueP at hr
  rw [hb] at hr
  have HR := hide hr
  clear hr
  clear hb
  go_enter Tryz.func18, Tryz.ntmps18
  go_wp2_with fail
  obtain ⟨w1, hw1⟩ : ∃ x, x = w.alloc (.cells zeroHost 27) := ⟨_, rfl⟩
  rw [← hw1] at hnew hnz hnb ⊢
  clear hw1
  refine (cAny s b _ (by omega) HB).mono ?_
  rintro e w2 ⟨rfl, hb2⟩
  have h2 := (hb2.block w.heap.size (by omega)).trans hnew
  have hs2 := hb2.size
  obtain ⟨⟨c0, c1, c2, c3, c4, c5, c6, c7, c8, c9, c10⟩, hf⟩ := cells11 h2
  have hbw := hnb.trans (hb2.mono (show w.heap.size ≤ w1.heap.size by omega))
  obtain ⟨B, hB⟩ : ∃ B, B = w.heap.size := ⟨_, rfl⟩
  rw [← hB] at c0 c1 c2 c3 c4 c5 c6 c7 c8 c9 c10 hf h2 hbw hnz ⊢
  have hB' := hide hB
  cases b with
  | true =>
    have h := HR.out
    rw [if_pos rfl] at h
    subst h
    clear hnew hb2 hnb hB
    go_wp2_with fail
    have h3 := put11_heap h2 (.int .u8 0) (S []) (.int .u32 0) (.int .u16 0) (.int .u16 0) (.int .u16 0) (.int .u16 0) (.int .u16 0) (.int .u16 0) (.int .u16 0) (.int .u16 0)
    have hb3 := put11_below hbw (Nat.le_refl _) (.int .u8 0) (S []) (.int .u32 0) (.int .u16 0) (.int .u16 0) (.int .u16 0) (.int .u16 0) (.int .u16 0) (.int .u16 0) (.int .u16 0) (.int .u16 0)
    change bodyPost _ _ _ _ _ (put11 w2 B (.int .u8 0) (S []) (.int .u32 0) (.int .u16 0) (.int .u16 0) (.int .u16 0) (.int .u16 0) (.int .u16 0) (.int .u16 0) (.int .u16 0) (.int .u16 0))
    generalize put11 w2 B (.int .u8 0) (S []) (.int .u32 0) (.int .u16 0) (.int .u16 0) (.int .u16 0) (.int .u16 0) (.int .u16 0) (.int .u16 0) (.int .u16 0) (.int .u16 0) = w3 at *
    clear c0 c1 c2 c3 c4 c5 c6 c7 c8 c9 c10 hf
    obtain ⟨⟨c0, c1, c2, c3, c4, c5, c6, c7, c8, c9, c10⟩, hf⟩ := cells11 h3
    refine bodyPost_ret (v := opV none) (by simp [results, Tryz.results18, go_sem, opV, c0, c1, c2, c3, c4, c5, c6, c7, c8, c9, c10]) rfl ?_
    exact ⟨rfl, by rw [← hB'.out]; exact hb3⟩
  | false =>
    have h := HR.out
    rw [if_neg (by decide)] at h
    cases s with
    | nil =>
      rw [if_pos rfl] at h
      subst h
      clear hnew hb2 hnb hB
      go_wp2_with fail
      have h3 := put11_heap h2 (.int .u8 5) (S []) (.int .u32 0) (.int .u16 0) (.int .u16 0) (.int .u16 0) (.int .u16 0) (.int .u16 0) (.int .u16 0) (.int .u16 0) (.int .u16 0)
      have hb3 := put11_below hbw (Nat.le_refl _) (.int .u8 5) (S []) (.int .u32 0) (.int .u16 0) (.int .u16 0) (.int .u16 0) (.int .u16 0) (.int .u16 0) (.int .u16 0) (.int .u16 0) (.int .u16 0)
      change bodyPost _ _ _ _ _ (put11 w2 B (.int .u8 5) (S []) (.int .u32 0) (.int .u16 0) (.int .u16 0) (.int .u16 0) (.int .u16 0) (.int .u16 0) (.int .u16 0) (.int .u16 0) (.int .u16 0))
      generalize put11 w2 B (.int .u8 5) (S []) (.int .u32 0) (.int .u16 0) (.int .u16 0) (.int .u16 0) (.int .u16 0) (.int .u16 0) (.int .u16 0) (.int .u16 0) (.int .u16 0) = w9 at *
      clear c0 c1 c2 c3 c4 c5 c6 c7 c8 c9 c10 hf
      obtain ⟨⟨c0, c1, c2, c3, c4, c5, c6, c7, c8, c9, c10⟩, hf⟩ := cells11 h3
      refine bodyPost_ret (v := opV (some .empty)) (by simp [results, Tryz.results18, go_sem, opV, c0, c1, c2, c3, c4, c5, c6, c7, c8, c9, c10]) rfl ?_
      exact ⟨rfl, by rw [← hB'.out]; exact hb3⟩
    | cons d l =>
      rw [if_neg (by simp)] at h
      obtain ⟨u, hu⟩ : ∃ u, Hostp.pEnc (d :: l) = u := ⟨_, rfl⟩
      rw [hu] at h
      subst h
      have HU := hide hu
      clear hnew hb2 hnb hB hu
      go_wp2_with fail
      refine (pEncode (d :: l) u _ hl HU).mono ?_
      rintro e w4 ⟨rfl, hb4⟩
      have h4 := (hb4.block B (heap_lt h2)).trans h2
      have hbw4 := hbw.trans (hb4.mono (show B ≤ w2.heap.size from Nat.le_of_lt (heap_lt h2)))
      clear c0 c1 c2 c3 c4 c5 c6 c7 c8 c9 c10 hf
      obtain ⟨⟨c0, c1, c2, c3, c4, c5, c6, c7, c8, c9, c10⟩, hf⟩ := cells11 h4
      go_wp2_with fail
      have h3 := put11_heap h4 (.int .u8 2) (S u) (.int .u32 0) (.int .u16 0) (.int .u16 0) (.int .u16 0) (.int .u16 0) (.int .u16 0) (.int .u16 0) (.int .u16 0) (.int .u16 0)
      have hb3 := put11_below hbw4 (Nat.le_refl _) (.int .u8 2) (S u) (.int .u32 0) (.int .u16 0) (.int .u16 0) (.int .u16 0) (.int .u16 0) (.int .u16 0) (.int .u16 0) (.int .u16 0) (.int .u16 0)
      change bodyPost _ _ _ _ _ (put11 w4 B (.int .u8 2) (S u) (.int .u32 0) (.int .u16 0) (.int .u16 0) (.int .u16 0) (.int .u16 0) (.int .u16 0) (.int .u16 0) (.int .u16 0) (.int .u16 0))
      generalize put11 w4 B (.int .u8 2) (S u) (.int .u32 0) (.int .u16 0) (.int .u16 0) (.int .u16 0) (.int .u16 0) (.int .u16 0) (.int .u16 0) (.int .u16 0) (.int .u16 0) = w9 at *
      clear c0 c1 c2 c3 c4 c5 c6 c7 c8 c9 c10 hf
      obtain ⟨⟨c0, c1, c2, c3, c4, c5, c6, c7, c8, c9, c10⟩, hf⟩ := cells11 h3
      refine bodyPost_ret (v := opV (some (.opaque_ u))) (by simp [results, Tryz.results18, go_sem, opV, c0, c1, c2, c3, c4, c5, c6, c7, c8, c9, c10]) rfl ?_
      exact ⟨rfl, by rw [← hB'.out]; exact hb3⟩
end Go.Proofs.YtahjndignkhmoaaGreatDoor
