/- The reference: the first of the longest rows of noughts, walked. -/
import Derived.Test.YtahjndignkhmoaaGreatDoorLawsB
namespace Go.Proofs.YtahjndignkhmoaaGreatDoor
namespace Hostp

def runR : List Nat → Nat → Int × Int → Int × Int
  | [], _, x => x
  | n :: l, i, x => runR l (i + 1) (if x.2 < (n : Int) then ((i : Int), (n : Int)) else x)
theorem le_foldl_max : ∀ (l : List Nat) (m : Nat), m ≤ l.foldl max m
  | [], m => Nat.le_refl m
  | n :: l, m => Nat.le_trans (Nat.le_max_left m n) (le_foldl_max l (max m n))
theorem runR_eq : ∀ (l : List Nat) (i : Nat) (a : Int) (m : Nat), runR l i (a, (m : Int)) = if l.foldl max m = m then (a, (m : Int)) else (((i + l.findIdx (· == l.foldl max m) : Nat) : Int), ((l.foldl max m : Nat) : Int))
  | [], i, a, m => by rw [runR, List.foldl_nil, if_pos rfl]
  | n :: l, i, a, m => by
    rw [runR]
    show runR l (i + 1) (if (m : Int) < (n : Int) then ((i : Int), (n : Int)) else (a, (m : Int))) = _
    rw [List.foldl_cons]
    by_cases h : m < n
    · rw [if_pos (by omega), runR_eq l (i + 1) i n, Nat.max_eq_right (by omega)]
      have h1 := le_foldl_max l n
      rw [if_neg (show ¬ l.foldl max n = m by omega), List.findIdx_cons]
      by_cases q : l.foldl max n = n
      · rw [if_pos q, q]
        simp
      · rw [if_neg q]
        have : (n == l.foldl max n) = false := beq_eq_false_iff_ne.2 (fun e => q e.symm)
        rw [this]
        simp only [cond_false, Prod.mk.injEq, and_true]
        omega
    · rw [if_neg (by omega), runR_eq l (i + 1) a m, Nat.max_eq_left (by omega), List.findIdx_cons]
      have h1 := le_foldl_max l m
      by_cases q : l.foldl max m = m
      · rw [if_pos q, if_pos q]
      · rw [if_neg q, if_neg q]
        have : (n == l.foldl max m) = false := beq_eq_false_iff_ne.2 (by omega)
        rw [this]
        simp only [cond_false, Prod.mk.injEq, and_true]
        omega
end Hostp
end Go.Proofs.YtahjndignkhmoaaGreatDoor
namespace Go.Proofs.YtahjndignkhmoaaGreatDoor
open Go.RowKit

theorem cells_at {w : World} {B : Nat} {n0 n1 n2 n3 n4 n5 n6 n7 : Int} {T : TypeId} (h : w.heap[B]? = some (.cells (U8 n0 n1 n2 n3 n4 n5 n6 n7) T (0, 0))) (j : Nat) (x : Int) (hx : [n0, n1, n2, n3, n4, n5, n6, n7][j]? = some x) :
    w.cell? ⟨B, j, none⟩ = some (.int .u16 x) ∧ w.frozen? ⟨B, j, none⟩ = false := by
  obtain ⟨⟨c0, c1, c2, c3, c4, c5, c6, c7⟩, hf⟩ := cells8' h
  refine ⟨?_, hf j⟩
  have hj : j < 8 := by
    have := (List.getElem?_eq_some_iff.1 hx).1
    simpa using this
  have : j = 0 ∨ j = 1 ∨ j = 2 ∨ j = 3 ∨ j = 4 ∨ j = 5 ∨ j = 6 ∨ j = 7 := by omega
  rcases this with rfl | rfl | rfl | rfl | rfl | rfl | rfl | rfl <;> (simp at hx; subst hx; assumption)
def longs8 (v : List Int) : List Nat := (List.range 8).map fun i => Hostp.noughts (v.drop i)
theorem longs8_cons (v : List Int) (i : Nat) (h : i < 8) : (longs8 v).drop i = Hostp.noughts (v.drop i) :: (longs8 v).drop (i + 1) := by
  have hl : (longs8 v).length = 8 := by simp [longs8]
  rw [List.drop_eq_getElem_cons (by omega)]
  simp [longs8]
theorem noughts_hit {v : List Int} {j : Nat} (h : v[j]? = some 0) : Hostp.noughts (v.drop j) = Hostp.noughts (v.drop (j + 1)) + 1 := by
  obtain ⟨hl, e⟩ := List.getElem?_eq_some_iff.1 h
  rw [List.drop_eq_getElem_cons hl, e, Hostp.noughts, if_pos rfl]
theorem noughts_miss {v : List Int} {j : Nat} {x : Int} (h : v[j]? = some x) (hx : x ≠ 0) : Hostp.noughts (v.drop j) = 0 := by
  obtain ⟨hl, e⟩ := List.getElem?_eq_some_iff.1 h
  rw [List.drop_eq_getElem_cons hl, e, Hostp.noughts, if_neg hx]

set_option maxHeartbeats 4000000 in
set_option maxRecDepth 100000 in
theorem rRun (n0 n1 n2 n3 n4 n5 n6 n7 : Int) (at_ most : Int) (w : World) (hr : Hid (Hostp.runR (longs8 [n0, n1, n2, n3, n4, n5, n6, n7]) 0 (-1, 1) = (at_, most))) :
    Calls Tryz.prog 42 #[.agg (U8 n0 n1 n2 n3 n4 n5 n6 n7)] w (Fresh (.tuple #[.int .i64 at_, .int .i64 most]) w) := by
  have hnb : Below w.heap.size w (w.alloc (.cells (U8 n0 n1 n2 n3 n4 n5 n6 n7) 25)) := (Below.refl _ _).alloc (Nat.le_refl _) _
  have hnn : (w.alloc (.cells (U8 n0 n1 n2 n3 n4 n5 n6 n7) 25)).heap[w.heap.size]? = some (.cells (U8 n0 n1 n2 n3 n4 n5 n6 n7) 25 (0, 0)) := heap_alloc_last _ _
  obtain ⟨v, hv⟩ : ∃ v, [n0, n1, n2, n3, n4, n5, n6, n7] = v := ⟨_, rfl⟩
  have hvl : v.length = 8 := by rw [← hv]; rfl
  have hcell := fun j x => cells_at hnn j x
  rw [hv] at hr hcell
  have HC := hide hcell
  clear hcell hnn hv
  go_enter Tryz.func42, Tryz.ntmps42
  go_wp2_with fail
  obtain ⟨w0, hw0⟩ : ∃ x, x = w.alloc (.cells (U8 n0 n1 n2 n3 n4 n5 n6 n7) 25) := ⟨_, rfl⟩
  obtain ⟨B, hB⟩ : ∃ x, w.heap.size = x := ⟨_, rfl⟩
  rw [← hw0] at hnb HC ⊢
  have HB := hide hB
  rw [hB] at HC hnb ⊢
  clear hw0 hB
  go_loopg [4, 5, 6] 8 (fun g s4 s5 s6 wx => ∃ (i : Nat) (a m : Int), i + g = 8 ∧ s6 = .int .i64 i ∧ s4 = .int .i64 a ∧ s5 = .int .i64 m ∧ Hid (Hostp.runR ((longs8 v).drop i) i (a, m) = (at_, most)) ∧ wx = w0)
  case atStart => exact ⟨0, -1, 1, by omega, rfl, rfl, rfl, hr, rfl⟩
  case round =>
    obtain ⟨i, a, m, hi, rfl, rfl, rfl, hR, rfl⟩ := hrel
    by_cases hlt : i < 8
    · have hR2 := hR.out
      rw [longs8_cons v i hlt, Hostp.runR] at hR2
      obtain ⟨N, hN⟩ : ∃ N, Hostp.noughts (v.drop i) = N := ⟨_, rfl⟩
      rw [hN] at hR2
      have HR2 := hide hR2
      have HN := hide hN
      clear hR hR2 hN
      go_wp2_with fail
      go_loopg [7] (8 - i) (fun g s7 wx => ∃ (n : Nat), s7 = .int .i64 n ∧ i + n + g = 8 ∧ Hid (N = n + Hostp.noughts (v.drop (i + n))) ∧ wx = wr)
      case atStart => exact ⟨0, rfl, by omega, hide (by rw [← HN.out]; simp), rfl⟩
      case round =>
        obtain ⟨n, rfl, hin, hN2, rfl⟩ := hrel
        by_cases h8 : i + n < 8
        · obtain ⟨x, hx⟩ : ∃ x, v[i + n]? = some x := ⟨v[i + n]'(by omega), List.getElem?_eq_getElem _⟩
          obtain ⟨hc, hf⟩ := HC.out (i + n) x hx
          have ti : ((i : Int) + (n : Int)).toNat = i + n := by omega
          have tj : (i : Int) + (n : Int) < 8 := by omega
          by_cases hx0 : x = 0
          · subst hx0
            have hN3 := hN2.out
            rw [noughts_hit hx] at hN3
            have HN3 := hide hN3
            clear hN3 hN2 hx
            go_wp2_with fail
            go_roundg (gk - 1)
            case measure => omega
            case rel => exact ⟨n + 1, by go_num, by omega, hide (by rw [HN3.out, show i + (n + 1) = i + n + 1 by omega]; omega), rfl⟩
          · have hmiss := noughts_miss hx hx0
            have hb : (x == 0) = false := beq_eq_false_iff_ne.2 hx0
            have hNn : N = n := by have := hN2.out; rw [hmiss] at this; exact this
            clear hmiss hx
            subst hNn
            clear hN2 HN
            by_cases hm : m < (N : Int)
            · have hR3 := HR2.out
              rw [if_pos hm] at hR3
              have HR3 := hide hR3
              clear hR3 HR2
              go_wp2_with fail
              go_roundg (7 - i)
              case measure => omega
              case rel => exact ⟨i + 1, i, N, by omega, by go_num, rfl, rfl, HR3, rfl⟩
            · have hR3 := HR2.out
              rw [if_neg hm] at hR3
              have HR3 := hide hR3
              clear hR3 HR2
              go_wp2_with fail
              go_roundg (7 - i)
              case measure => omega
              case rel => exact ⟨i + 1, a, m, by omega, by go_num, rfl, rfl, HR3, rfl⟩
        · have tj : ¬ (i : Int) + (n : Int) < 8 := by omega
          have hz : Hostp.noughts (v.drop (i + n)) = 0 := by rw [List.drop_eq_nil_of_le (by omega)]; rfl
          have hNn : N = n := by have := hN2.out; rw [hz] at this; exact this
          clear hz
          subst hNn
          clear hN2 HN
          by_cases hm : m < (N : Int)
          · have hR3 := HR2.out
            rw [if_pos hm] at hR3
            have HR3 := hide hR3
            clear hR3 HR2
            go_wp2_with fail
            go_roundg (7 - i)
            case measure => omega
            case rel => exact ⟨i + 1, i, N, by omega, by go_num, rfl, rfl, HR3, rfl⟩
          · have hR3 := HR2.out
            rw [if_neg hm] at hR3
            have HR3 := hide hR3
            clear hR3 HR2
            go_wp2_with fail
            go_roundg (7 - i)
            case measure => omega
            case rel => exact ⟨i + 1, a, m, by omega, by go_num, rfl, rfl, HR3, rfl⟩
    · have e : i = 8 := by omega
      subst e
      have hR2 := hR.out
      rw [List.drop_eq_nil_of_le (by simp [longs8]), Hostp.runR] at hR2
      obtain ⟨rfl, rfl⟩ := Prod.mk.inj hR2
      clear hR2 hR
      go_wp2_with fail
      refine bodyPost_ret (v := .tuple #[.int .i64 a, .int .i64 m]) (by simp [results, Tryz.results42, go_sem]) rfl ?_
      exact ⟨rfl, by rw [HB.out]; exact hnb⟩
end Go.Proofs.YtahjndignkhmoaaGreatDoor
