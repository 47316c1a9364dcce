/- A text laid bare of marks. -/
import Derived.Test.YtagkdmolgmhmdaaGreatDoorBw
import Derived.Test.YtagkdmolgmhmdaaGreatDoorRz
import Derived.Test.YtagkdmolgmhmdaaGreatDoorShelf
import Derived.LoopN
import Derived.Deep.Cut
import Derived.Deep.LoopGhost
namespace Go.Proofs.YtagkdmolgmhmdaaGreatDoor
open Go.RowKit

def bareB (c : UInt8) : List UInt8 := if c ≠ 34 ∧ c ≠ 92 ∧ 32 ≤ c.toNat then [c] else [92, 48 + c / 64, 48 + (c / 8) % 8, 48 + c % 8]
def bareP (s : List UInt8) : List UInt8 := s.flatMap bareB
theorem bareB_len (c : UInt8) : (bareB c).length ≤ 4 := by unfold bareB; split <;> simp
theorem bareP_len : ∀ s : List UInt8, (bareP s).length ≤ 4 * s.length
  | [] => Nat.le_refl _
  | c :: s => by
    have h1 := bareB_len c
    have h2 := bareP_len s
    unfold bareP at h2 ⊢
    rw [List.flatMap_cons, List.length_append, List.length_cons]
    omega
theorem bld_below {B b : Nat} {bs : List UInt8} {w w' : World} (h : Bld B b bs w) (hb : Below w.heap.size w w') : Bld B b bs w' := by
  rcases h with ⟨hB, v, hh, ho, hn⟩ | ⟨hB, v, hh, ho, hn⟩
  · exact .inl ⟨hB, v, (hb.block b (heap_lt hh)).trans hh, owns_below ho hb, hn⟩
  · exact .inr ⟨hB, v, (hb.block b (heap_lt hh)).trans hh, owns_below ho hb, hn⟩
theorem bld_lt {B b : Nat} {bs : List UInt8} {w : World} (h : Bld B b bs w) : b < w.heap.size := by
  rcases h with ⟨hB, v, hh, ho, hn⟩ | ⟨hB, v, hh, ho, hn⟩
  · exact heap_lt hh
  · exact heap_lt hh
theorem row_cells (l : List UInt8) (w : World) : ∀ (j : Nat) x, l[j]? = some x → (w.alloc (.cells (l.map B8).toArray 5)).cell? ⟨w.heap.size, j, none⟩ = some (B8 x) := fun j x h => by
  rw [Lib.cell_of_heap (heap_alloc_last _ _)]
  simp [h]
set_option maxRecDepth 100000 in
set_option maxHeartbeats 16000000 in
theorem bare (s : List UInt8) (w : World) (hl : s.length ≤ 1048576) :
    Calls Tryz.prog 61 #[S s] w (Fresh (S (bareP s)) w) := by
  have hBld := bld_new w
  have hb0 : Below w.heap.size w (w.alloc (.cells #[.pointer none, .slice none 0 0] 54)) := (Below.refl _ w).alloc (Nat.le_refl _) _
  go_enter Tryz.func61, Tryz.ntmps61
  go_upto_region 3 with (fail)
  obtain ⟨w1, hw1⟩ : ∃ x, x = w.alloc (.cells #[.pointer none, .slice none 0 0] 54) := ⟨_, rfl⟩
  obtain ⟨K, hK⟩ : ∃ x, w.heap.size = x := ⟨_, rfl⟩
  have hs1 : K ≤ w1.heap.size := by rw [hw1, ← hK]; simp
  rw [← hw1] at hBld hb0 ⊢
  rw [hK] at hBld hb0 ⊢
  have HK := hide hK
  have HB := hide hBld
  clear hw1 hK hBld
  go_wp2_with fail
  go_loopg [8] s.length (fun g s8 wx => ∃ i : Nat, i + g = s.length ∧ s8 = .int .i64 i ∧ Hid (Bld K K (bareP (s.take i)) wx) ∧ Below K w wx)
  case atStart => exact ⟨0, by omega, rfl, HB, hb0⟩
  case round =>
    obtain ⟨i, hi, rfl, hBx, hbx⟩ := hrel
    clear HB hb0
    by_cases hlt : i < s.length
    · obtain ⟨c, hc⟩ : ∃ c, s[i] = c := ⟨_, rfl⟩
      have hcb := u8_lt c
      have i0 : (0 : Int) ≤ (i : Int) := by omega
      have i1 : (i : Int) < (s.length : Int) := by omega
      have hstep : bareP (s.take (i + 1)) = bareP (s.take i) ++ bareB c := by
        unfold bareP
        rw [List.take_succ_eq_append_getElem hlt, List.flatMap_append, hc]
        simp
      have HST := hide hstep
      have hlen : (bareP (s.take i)).length ≤ 4 * i := by
        have := bareP_len (s.take i)
        rw [List.length_take] at this
        omega
      clear hstep
      by_cases hgood : c ≠ 34 ∧ c ≠ 92 ∧ 32 ≤ c.toNat
      · have hb : bareB c = [c] := by unfold bareB; rw [if_pos hgood]
        obtain ⟨g1, g2, g3⟩ := hgood
        have e1 : ((c.toNat : Int) != 34) = true := by rw [bne_iff_ne]; exact fun e => g1 (u8_inj (b := 34) e)
        have e2 : ((c.toNat : Int) != 92) = true := by rw [bne_iff_ne]; exact fun e => g2 (u8_inj (b := 92) e)
        have e3 : decide ((32 : Int) ≤ (c.toNat : Int)) = true := by rw [decide_eq_true_iff]; omega
        have e4 : ¬ ((c.toNat : Int) = 34) := fun e => g1 (u8_inj (b := 34) e)
        have e5 : ¬ ((c.toNat : Int) = 92) := fun e => g2 (u8_inj (b := 92) e)
        have e6 : (32 : Int) ≤ (c.toNat : Int) := by omega
        have HBB := hide hb
        clear hb
        go_wp2_with fail
        refine (writeByte K K _ c wr hBx.out (by have := hbx.size; rw [HK.out] at this; exact this) (by omega)).mono ?_
        rintro e w2 ⟨rfl, hB2, hk2⟩
        have HB2 := hide hB2
        have hb2 := hbx.trans hk2.below
        clear hB2 hk2
        go_wp2_with fail
        go_roundg (gk - 1)
        case measure => omega
        case rel => exact ⟨i + 1, by omega, by go_num, by unfold Hid; rw [HST.out, HBB.out]; exact .inr HB2.out, hb2⟩
      · have hb : bareB c = [92, 48 + c / 64, 48 + (c / 8) % 8, 48 + c % 8] := by unfold bareB; rw [if_neg hgood]
        have HBB := hide hb
        clear hb
        by_cases e1 : c = 34
        · subst e1
          have hA := bld_below hBx.out ((Below.refl wr.heap.size wr).alloc (Nat.le_refl _) (.cells (([92, 48, 52, 50] : List UInt8).map B8).toArray 5))
          have hbA := hbx.alloc (by have := hbx.size; rw [HK.out] at this; exact this) (.cells (([92, 48, 52, 50] : List UInt8).map B8).toArray 5)
          go_wp2_with fail
          refine (writeBytes K K wr.heap.size 4 4 (bareP (s.take i)) [92, 48, 52, 50] _ hA (by have := bld_lt hBx.out; omega) rfl (hide (row_cells _ wr)) (by have := hbA.size; rw [HK.out] at this; exact this) (by simp; omega)).mono ?_
          rintro e w2 ⟨rfl, hB2, hk2⟩
          have HB2 := hide hB2
          have hb2 := hbA.trans hk2.below
          clear hB2 hk2 hA hbA
          go_wp2_with fail
          go_roundg (gk - 1)
          case measure => omega
          case rel => exact ⟨i + 1, by omega, by go_num, by unfold Hid; rw [HST.out, HBB.out]; exact .inr HB2.out, hb2⟩
        · by_cases e2 : c = 92
          · subst e2
            have hA := bld_below hBx.out ((Below.refl wr.heap.size wr).alloc (Nat.le_refl _) (.cells (([92, 49, 51, 52] : List UInt8).map B8).toArray 5))
            have hbA := hbx.alloc (by have := hbx.size; rw [HK.out] at this; exact this) (.cells (([92, 49, 51, 52] : List UInt8).map B8).toArray 5)
            go_wp2_with fail
            refine (writeBytes K K wr.heap.size 4 4 (bareP (s.take i)) [92, 49, 51, 52] _ hA (by have := bld_lt hBx.out; omega) rfl (hide (row_cells _ wr)) (by have := hbA.size; rw [HK.out] at this; exact this) (by simp; omega)).mono ?_
            rintro e w2 ⟨rfl, hB2, hk2⟩
            have HB2 := hide hB2
            have hb2 := hbA.trans hk2.below
            clear hB2 hk2 hA hbA
            go_wp2_with fail
            go_roundg (gk - 1)
            case measure => omega
            case rel => exact ⟨i + 1, by omega, by go_num, by unfold Hid; rw [HST.out, HBB.out]; exact .inr HB2.out, hb2⟩
          · have hlow : c.toNat < 32 := Nat.lt_of_not_le fun h => hgood ⟨e1, e2, h⟩
            obtain ⟨n, hn, hcn⟩ : ∃ n, n < 32 ∧ c = UInt8.ofNat n := ⟨c.toNat, hlow, by simp⟩
            match n, hn, hcn with
            | 0, _, hcn =>
              obtain rfl : c = 0 := hcn
              clear hcn hlow e1 e2
              have hA := bld_below hBx.out ((Below.refl wr.heap.size wr).alloc (Nat.le_refl _) (.cells (([92, 48, 48, 48] : List UInt8).map B8).toArray 5))
              have hbA := hbx.alloc (by have := hbx.size; rw [HK.out] at this; exact this) (.cells (([92, 48, 48, 48] : List UInt8).map B8).toArray 5)
              go_wp2_with fail
              refine (writeBytes K K wr.heap.size 4 4 (bareP (s.take i)) [92, 48, 48, 48] _ hA (by have := bld_lt hBx.out; omega) rfl (hide (row_cells _ wr)) (by have := hbA.size; rw [HK.out] at this; exact this) (by simp; omega)).mono ?_
              rintro e w2 ⟨rfl, hB2, hk2⟩
              have HB2 := hide hB2
              have hb2 := hbA.trans hk2.below
              clear hB2 hk2 hA hbA
              go_wp2_with fail
              go_roundg (gk - 1)
              case measure => omega
              case rel => exact ⟨i + 1, by omega, by go_num, by unfold Hid; rw [HST.out, HBB.out]; exact .inr HB2.out, hb2⟩
            | 1, _, hcn =>
              obtain rfl : c = 1 := hcn
              clear hcn hlow e1 e2
              have hA := bld_below hBx.out ((Below.refl wr.heap.size wr).alloc (Nat.le_refl _) (.cells (([92, 48, 48, 49] : List UInt8).map B8).toArray 5))
              have hbA := hbx.alloc (by have := hbx.size; rw [HK.out] at this; exact this) (.cells (([92, 48, 48, 49] : List UInt8).map B8).toArray 5)
              go_wp2_with fail
              refine (writeBytes K K wr.heap.size 4 4 (bareP (s.take i)) [92, 48, 48, 49] _ hA (by have := bld_lt hBx.out; omega) rfl (hide (row_cells _ wr)) (by have := hbA.size; rw [HK.out] at this; exact this) (by simp; omega)).mono ?_
              rintro e w2 ⟨rfl, hB2, hk2⟩
              have HB2 := hide hB2
              have hb2 := hbA.trans hk2.below
              clear hB2 hk2 hA hbA
              go_wp2_with fail
              go_roundg (gk - 1)
              case measure => omega
              case rel => exact ⟨i + 1, by omega, by go_num, by unfold Hid; rw [HST.out, HBB.out]; exact .inr HB2.out, hb2⟩
            | 2, _, hcn =>
              obtain rfl : c = 2 := hcn
              clear hcn hlow e1 e2
              have hA := bld_below hBx.out ((Below.refl wr.heap.size wr).alloc (Nat.le_refl _) (.cells (([92, 48, 48, 50] : List UInt8).map B8).toArray 5))
              have hbA := hbx.alloc (by have := hbx.size; rw [HK.out] at this; exact this) (.cells (([92, 48, 48, 50] : List UInt8).map B8).toArray 5)
              go_wp2_with fail
              refine (writeBytes K K wr.heap.size 4 4 (bareP (s.take i)) [92, 48, 48, 50] _ hA (by have := bld_lt hBx.out; omega) rfl (hide (row_cells _ wr)) (by have := hbA.size; rw [HK.out] at this; exact this) (by simp; omega)).mono ?_
              rintro e w2 ⟨rfl, hB2, hk2⟩
              have HB2 := hide hB2
              have hb2 := hbA.trans hk2.below
              clear hB2 hk2 hA hbA
              go_wp2_with fail
              go_roundg (gk - 1)
              case measure => omega
              case rel => exact ⟨i + 1, by omega, by go_num, by unfold Hid; rw [HST.out, HBB.out]; exact .inr HB2.out, hb2⟩
            | 3, _, hcn =>
              obtain rfl : c = 3 := hcn
              clear hcn hlow e1 e2
              have hA := bld_below hBx.out ((Below.refl wr.heap.size wr).alloc (Nat.le_refl _) (.cells (([92, 48, 48, 51] : List UInt8).map B8).toArray 5))
              have hbA := hbx.alloc (by have := hbx.size; rw [HK.out] at this; exact this) (.cells (([92, 48, 48, 51] : List UInt8).map B8).toArray 5)
              go_wp2_with fail
              refine (writeBytes K K wr.heap.size 4 4 (bareP (s.take i)) [92, 48, 48, 51] _ hA (by have := bld_lt hBx.out; omega) rfl (hide (row_cells _ wr)) (by have := hbA.size; rw [HK.out] at this; exact this) (by simp; omega)).mono ?_
              rintro e w2 ⟨rfl, hB2, hk2⟩
              have HB2 := hide hB2
              have hb2 := hbA.trans hk2.below
              clear hB2 hk2 hA hbA
              go_wp2_with fail
              go_roundg (gk - 1)
              case measure => omega
              case rel => exact ⟨i + 1, by omega, by go_num, by unfold Hid; rw [HST.out, HBB.out]; exact .inr HB2.out, hb2⟩
            | 4, _, hcn =>
              obtain rfl : c = 4 := hcn
              clear hcn hlow e1 e2
              have hA := bld_below hBx.out ((Below.refl wr.heap.size wr).alloc (Nat.le_refl _) (.cells (([92, 48, 48, 52] : List UInt8).map B8).toArray 5))
              have hbA := hbx.alloc (by have := hbx.size; rw [HK.out] at this; exact this) (.cells (([92, 48, 48, 52] : List UInt8).map B8).toArray 5)
              go_wp2_with fail
              refine (writeBytes K K wr.heap.size 4 4 (bareP (s.take i)) [92, 48, 48, 52] _ hA (by have := bld_lt hBx.out; omega) rfl (hide (row_cells _ wr)) (by have := hbA.size; rw [HK.out] at this; exact this) (by simp; omega)).mono ?_
              rintro e w2 ⟨rfl, hB2, hk2⟩
              have HB2 := hide hB2
              have hb2 := hbA.trans hk2.below
              clear hB2 hk2 hA hbA
              go_wp2_with fail
              go_roundg (gk - 1)
              case measure => omega
              case rel => exact ⟨i + 1, by omega, by go_num, by unfold Hid; rw [HST.out, HBB.out]; exact .inr HB2.out, hb2⟩
            | 5, _, hcn =>
              obtain rfl : c = 5 := hcn
              clear hcn hlow e1 e2
              have hA := bld_below hBx.out ((Below.refl wr.heap.size wr).alloc (Nat.le_refl _) (.cells (([92, 48, 48, 53] : List UInt8).map B8).toArray 5))
              have hbA := hbx.alloc (by have := hbx.size; rw [HK.out] at this; exact this) (.cells (([92, 48, 48, 53] : List UInt8).map B8).toArray 5)
              go_wp2_with fail
              refine (writeBytes K K wr.heap.size 4 4 (bareP (s.take i)) [92, 48, 48, 53] _ hA (by have := bld_lt hBx.out; omega) rfl (hide (row_cells _ wr)) (by have := hbA.size; rw [HK.out] at this; exact this) (by simp; omega)).mono ?_
              rintro e w2 ⟨rfl, hB2, hk2⟩
              have HB2 := hide hB2
              have hb2 := hbA.trans hk2.below
              clear hB2 hk2 hA hbA
              go_wp2_with fail
              go_roundg (gk - 1)
              case measure => omega
              case rel => exact ⟨i + 1, by omega, by go_num, by unfold Hid; rw [HST.out, HBB.out]; exact .inr HB2.out, hb2⟩
            | 6, _, hcn =>
              obtain rfl : c = 6 := hcn
              clear hcn hlow e1 e2
              have hA := bld_below hBx.out ((Below.refl wr.heap.size wr).alloc (Nat.le_refl _) (.cells (([92, 48, 48, 54] : List UInt8).map B8).toArray 5))
              have hbA := hbx.alloc (by have := hbx.size; rw [HK.out] at this; exact this) (.cells (([92, 48, 48, 54] : List UInt8).map B8).toArray 5)
              go_wp2_with fail
              refine (writeBytes K K wr.heap.size 4 4 (bareP (s.take i)) [92, 48, 48, 54] _ hA (by have := bld_lt hBx.out; omega) rfl (hide (row_cells _ wr)) (by have := hbA.size; rw [HK.out] at this; exact this) (by simp; omega)).mono ?_
              rintro e w2 ⟨rfl, hB2, hk2⟩
              have HB2 := hide hB2
              have hb2 := hbA.trans hk2.below
              clear hB2 hk2 hA hbA
              go_wp2_with fail
              go_roundg (gk - 1)
              case measure => omega
              case rel => exact ⟨i + 1, by omega, by go_num, by unfold Hid; rw [HST.out, HBB.out]; exact .inr HB2.out, hb2⟩
            | 7, _, hcn =>
              obtain rfl : c = 7 := hcn
              clear hcn hlow e1 e2
              have hA := bld_below hBx.out ((Below.refl wr.heap.size wr).alloc (Nat.le_refl _) (.cells (([92, 48, 48, 55] : List UInt8).map B8).toArray 5))
              have hbA := hbx.alloc (by have := hbx.size; rw [HK.out] at this; exact this) (.cells (([92, 48, 48, 55] : List UInt8).map B8).toArray 5)
              go_wp2_with fail
              refine (writeBytes K K wr.heap.size 4 4 (bareP (s.take i)) [92, 48, 48, 55] _ hA (by have := bld_lt hBx.out; omega) rfl (hide (row_cells _ wr)) (by have := hbA.size; rw [HK.out] at this; exact this) (by simp; omega)).mono ?_
              rintro e w2 ⟨rfl, hB2, hk2⟩
              have HB2 := hide hB2
              have hb2 := hbA.trans hk2.below
              clear hB2 hk2 hA hbA
              go_wp2_with fail
              go_roundg (gk - 1)
              case measure => omega
              case rel => exact ⟨i + 1, by omega, by go_num, by unfold Hid; rw [HST.out, HBB.out]; exact .inr HB2.out, hb2⟩
            | 8, _, hcn =>
              obtain rfl : c = 8 := hcn
              clear hcn hlow e1 e2
              have hA := bld_below hBx.out ((Below.refl wr.heap.size wr).alloc (Nat.le_refl _) (.cells (([92, 48, 49, 48] : List UInt8).map B8).toArray 5))
              have hbA := hbx.alloc (by have := hbx.size; rw [HK.out] at this; exact this) (.cells (([92, 48, 49, 48] : List UInt8).map B8).toArray 5)
              go_wp2_with fail
              refine (writeBytes K K wr.heap.size 4 4 (bareP (s.take i)) [92, 48, 49, 48] _ hA (by have := bld_lt hBx.out; omega) rfl (hide (row_cells _ wr)) (by have := hbA.size; rw [HK.out] at this; exact this) (by simp; omega)).mono ?_
              rintro e w2 ⟨rfl, hB2, hk2⟩
              have HB2 := hide hB2
              have hb2 := hbA.trans hk2.below
              clear hB2 hk2 hA hbA
              go_wp2_with fail
              go_roundg (gk - 1)
              case measure => omega
              case rel => exact ⟨i + 1, by omega, by go_num, by unfold Hid; rw [HST.out, HBB.out]; exact .inr HB2.out, hb2⟩
            | 9, _, hcn =>
              obtain rfl : c = 9 := hcn
              clear hcn hlow e1 e2
              have hA := bld_below hBx.out ((Below.refl wr.heap.size wr).alloc (Nat.le_refl _) (.cells (([92, 48, 49, 49] : List UInt8).map B8).toArray 5))
              have hbA := hbx.alloc (by have := hbx.size; rw [HK.out] at this; exact this) (.cells (([92, 48, 49, 49] : List UInt8).map B8).toArray 5)
              go_wp2_with fail
              refine (writeBytes K K wr.heap.size 4 4 (bareP (s.take i)) [92, 48, 49, 49] _ hA (by have := bld_lt hBx.out; omega) rfl (hide (row_cells _ wr)) (by have := hbA.size; rw [HK.out] at this; exact this) (by simp; omega)).mono ?_
              rintro e w2 ⟨rfl, hB2, hk2⟩
              have HB2 := hide hB2
              have hb2 := hbA.trans hk2.below
              clear hB2 hk2 hA hbA
              go_wp2_with fail
              go_roundg (gk - 1)
              case measure => omega
              case rel => exact ⟨i + 1, by omega, by go_num, by unfold Hid; rw [HST.out, HBB.out]; exact .inr HB2.out, hb2⟩
            | 10, _, hcn =>
              obtain rfl : c = 10 := hcn
              clear hcn hlow e1 e2
              have hA := bld_below hBx.out ((Below.refl wr.heap.size wr).alloc (Nat.le_refl _) (.cells (([92, 48, 49, 50] : List UInt8).map B8).toArray 5))
              have hbA := hbx.alloc (by have := hbx.size; rw [HK.out] at this; exact this) (.cells (([92, 48, 49, 50] : List UInt8).map B8).toArray 5)
              go_wp2_with fail
              refine (writeBytes K K wr.heap.size 4 4 (bareP (s.take i)) [92, 48, 49, 50] _ hA (by have := bld_lt hBx.out; omega) rfl (hide (row_cells _ wr)) (by have := hbA.size; rw [HK.out] at this; exact this) (by simp; omega)).mono ?_
              rintro e w2 ⟨rfl, hB2, hk2⟩
              have HB2 := hide hB2
              have hb2 := hbA.trans hk2.below
              clear hB2 hk2 hA hbA
              go_wp2_with fail
              go_roundg (gk - 1)
              case measure => omega
              case rel => exact ⟨i + 1, by omega, by go_num, by unfold Hid; rw [HST.out, HBB.out]; exact .inr HB2.out, hb2⟩
            | 11, _, hcn =>
              obtain rfl : c = 11 := hcn
              clear hcn hlow e1 e2
              have hA := bld_below hBx.out ((Below.refl wr.heap.size wr).alloc (Nat.le_refl _) (.cells (([92, 48, 49, 51] : List UInt8).map B8).toArray 5))
              have hbA := hbx.alloc (by have := hbx.size; rw [HK.out] at this; exact this) (.cells (([92, 48, 49, 51] : List UInt8).map B8).toArray 5)
              go_wp2_with fail
              refine (writeBytes K K wr.heap.size 4 4 (bareP (s.take i)) [92, 48, 49, 51] _ hA (by have := bld_lt hBx.out; omega) rfl (hide (row_cells _ wr)) (by have := hbA.size; rw [HK.out] at this; exact this) (by simp; omega)).mono ?_
              rintro e w2 ⟨rfl, hB2, hk2⟩
              have HB2 := hide hB2
              have hb2 := hbA.trans hk2.below
              clear hB2 hk2 hA hbA
              go_wp2_with fail
              go_roundg (gk - 1)
              case measure => omega
              case rel => exact ⟨i + 1, by omega, by go_num, by unfold Hid; rw [HST.out, HBB.out]; exact .inr HB2.out, hb2⟩
            | 12, _, hcn =>
              obtain rfl : c = 12 := hcn
              clear hcn hlow e1 e2
              have hA := bld_below hBx.out ((Below.refl wr.heap.size wr).alloc (Nat.le_refl _) (.cells (([92, 48, 49, 52] : List UInt8).map B8).toArray 5))
              have hbA := hbx.alloc (by have := hbx.size; rw [HK.out] at this; exact this) (.cells (([92, 48, 49, 52] : List UInt8).map B8).toArray 5)
              go_wp2_with fail
              refine (writeBytes K K wr.heap.size 4 4 (bareP (s.take i)) [92, 48, 49, 52] _ hA (by have := bld_lt hBx.out; omega) rfl (hide (row_cells _ wr)) (by have := hbA.size; rw [HK.out] at this; exact this) (by simp; omega)).mono ?_
              rintro e w2 ⟨rfl, hB2, hk2⟩
              have HB2 := hide hB2
              have hb2 := hbA.trans hk2.below
              clear hB2 hk2 hA hbA
              go_wp2_with fail
              go_roundg (gk - 1)
              case measure => omega
              case rel => exact ⟨i + 1, by omega, by go_num, by unfold Hid; rw [HST.out, HBB.out]; exact .inr HB2.out, hb2⟩
            | 13, _, hcn =>
              obtain rfl : c = 13 := hcn
              clear hcn hlow e1 e2
              have hA := bld_below hBx.out ((Below.refl wr.heap.size wr).alloc (Nat.le_refl _) (.cells (([92, 48, 49, 53] : List UInt8).map B8).toArray 5))
              have hbA := hbx.alloc (by have := hbx.size; rw [HK.out] at this; exact this) (.cells (([92, 48, 49, 53] : List UInt8).map B8).toArray 5)
              go_wp2_with fail
              refine (writeBytes K K wr.heap.size 4 4 (bareP (s.take i)) [92, 48, 49, 53] _ hA (by have := bld_lt hBx.out; omega) rfl (hide (row_cells _ wr)) (by have := hbA.size; rw [HK.out] at this; exact this) (by simp; omega)).mono ?_
              rintro e w2 ⟨rfl, hB2, hk2⟩
              have HB2 := hide hB2
              have hb2 := hbA.trans hk2.below
              clear hB2 hk2 hA hbA
              go_wp2_with fail
              go_roundg (gk - 1)
              case measure => omega
              case rel => exact ⟨i + 1, by omega, by go_num, by unfold Hid; rw [HST.out, HBB.out]; exact .inr HB2.out, hb2⟩
            | 14, _, hcn =>
              obtain rfl : c = 14 := hcn
              clear hcn hlow e1 e2
              have hA := bld_below hBx.out ((Below.refl wr.heap.size wr).alloc (Nat.le_refl _) (.cells (([92, 48, 49, 54] : List UInt8).map B8).toArray 5))
              have hbA := hbx.alloc (by have := hbx.size; rw [HK.out] at this; exact this) (.cells (([92, 48, 49, 54] : List UInt8).map B8).toArray 5)
              go_wp2_with fail
              refine (writeBytes K K wr.heap.size 4 4 (bareP (s.take i)) [92, 48, 49, 54] _ hA (by have := bld_lt hBx.out; omega) rfl (hide (row_cells _ wr)) (by have := hbA.size; rw [HK.out] at this; exact this) (by simp; omega)).mono ?_
              rintro e w2 ⟨rfl, hB2, hk2⟩
              have HB2 := hide hB2
              have hb2 := hbA.trans hk2.below
              clear hB2 hk2 hA hbA
              go_wp2_with fail
              go_roundg (gk - 1)
              case measure => omega
              case rel => exact ⟨i + 1, by omega, by go_num, by unfold Hid; rw [HST.out, HBB.out]; exact .inr HB2.out, hb2⟩
            | 15, _, hcn =>
              obtain rfl : c = 15 := hcn
              clear hcn hlow e1 e2
              have hA := bld_below hBx.out ((Below.refl wr.heap.size wr).alloc (Nat.le_refl _) (.cells (([92, 48, 49, 55] : List UInt8).map B8).toArray 5))
              have hbA := hbx.alloc (by have := hbx.size; rw [HK.out] at this; exact this) (.cells (([92, 48, 49, 55] : List UInt8).map B8).toArray 5)
              go_wp2_with fail
              refine (writeBytes K K wr.heap.size 4 4 (bareP (s.take i)) [92, 48, 49, 55] _ hA (by have := bld_lt hBx.out; omega) rfl (hide (row_cells _ wr)) (by have := hbA.size; rw [HK.out] at this; exact this) (by simp; omega)).mono ?_
              rintro e w2 ⟨rfl, hB2, hk2⟩
              have HB2 := hide hB2
              have hb2 := hbA.trans hk2.below
              clear hB2 hk2 hA hbA
              go_wp2_with fail
              go_roundg (gk - 1)
              case measure => omega
              case rel => exact ⟨i + 1, by omega, by go_num, by unfold Hid; rw [HST.out, HBB.out]; exact .inr HB2.out, hb2⟩
            | 16, _, hcn =>
              obtain rfl : c = 16 := hcn
              clear hcn hlow e1 e2
              have hA := bld_below hBx.out ((Below.refl wr.heap.size wr).alloc (Nat.le_refl _) (.cells (([92, 48, 50, 48] : List UInt8).map B8).toArray 5))
              have hbA := hbx.alloc (by have := hbx.size; rw [HK.out] at this; exact this) (.cells (([92, 48, 50, 48] : List UInt8).map B8).toArray 5)
              go_wp2_with fail
              refine (writeBytes K K wr.heap.size 4 4 (bareP (s.take i)) [92, 48, 50, 48] _ hA (by have := bld_lt hBx.out; omega) rfl (hide (row_cells _ wr)) (by have := hbA.size; rw [HK.out] at this; exact this) (by simp; omega)).mono ?_
              rintro e w2 ⟨rfl, hB2, hk2⟩
              have HB2 := hide hB2
              have hb2 := hbA.trans hk2.below
              clear hB2 hk2 hA hbA
              go_wp2_with fail
              go_roundg (gk - 1)
              case measure => omega
              case rel => exact ⟨i + 1, by omega, by go_num, by unfold Hid; rw [HST.out, HBB.out]; exact .inr HB2.out, hb2⟩
            | 17, _, hcn =>
              obtain rfl : c = 17 := hcn
              clear hcn hlow e1 e2
              have hA := bld_below hBx.out ((Below.refl wr.heap.size wr).alloc (Nat.le_refl _) (.cells (([92, 48, 50, 49] : List UInt8).map B8).toArray 5))
              have hbA := hbx.alloc (by have := hbx.size; rw [HK.out] at this; exact this) (.cells (([92, 48, 50, 49] : List UInt8).map B8).toArray 5)
              go_wp2_with fail
              refine (writeBytes K K wr.heap.size 4 4 (bareP (s.take i)) [92, 48, 50, 49] _ hA (by have := bld_lt hBx.out; omega) rfl (hide (row_cells _ wr)) (by have := hbA.size; rw [HK.out] at this; exact this) (by simp; omega)).mono ?_
              rintro e w2 ⟨rfl, hB2, hk2⟩
              have HB2 := hide hB2
              have hb2 := hbA.trans hk2.below
              clear hB2 hk2 hA hbA
              go_wp2_with fail
              go_roundg (gk - 1)
              case measure => omega
              case rel => exact ⟨i + 1, by omega, by go_num, by unfold Hid; rw [HST.out, HBB.out]; exact .inr HB2.out, hb2⟩
            | 18, _, hcn =>
              obtain rfl : c = 18 := hcn
              clear hcn hlow e1 e2
              have hA := bld_below hBx.out ((Below.refl wr.heap.size wr).alloc (Nat.le_refl _) (.cells (([92, 48, 50, 50] : List UInt8).map B8).toArray 5))
              have hbA := hbx.alloc (by have := hbx.size; rw [HK.out] at this; exact this) (.cells (([92, 48, 50, 50] : List UInt8).map B8).toArray 5)
              go_wp2_with fail
              refine (writeBytes K K wr.heap.size 4 4 (bareP (s.take i)) [92, 48, 50, 50] _ hA (by have := bld_lt hBx.out; omega) rfl (hide (row_cells _ wr)) (by have := hbA.size; rw [HK.out] at this; exact this) (by simp; omega)).mono ?_
              rintro e w2 ⟨rfl, hB2, hk2⟩
              have HB2 := hide hB2
              have hb2 := hbA.trans hk2.below
              clear hB2 hk2 hA hbA
              go_wp2_with fail
              go_roundg (gk - 1)
              case measure => omega
              case rel => exact ⟨i + 1, by omega, by go_num, by unfold Hid; rw [HST.out, HBB.out]; exact .inr HB2.out, hb2⟩
            | 19, _, hcn =>
              obtain rfl : c = 19 := hcn
              clear hcn hlow e1 e2
              have hA := bld_below hBx.out ((Below.refl wr.heap.size wr).alloc (Nat.le_refl _) (.cells (([92, 48, 50, 51] : List UInt8).map B8).toArray 5))
              have hbA := hbx.alloc (by have := hbx.size; rw [HK.out] at this; exact this) (.cells (([92, 48, 50, 51] : List UInt8).map B8).toArray 5)
              go_wp2_with fail
              refine (writeBytes K K wr.heap.size 4 4 (bareP (s.take i)) [92, 48, 50, 51] _ hA (by have := bld_lt hBx.out; omega) rfl (hide (row_cells _ wr)) (by have := hbA.size; rw [HK.out] at this; exact this) (by simp; omega)).mono ?_
              rintro e w2 ⟨rfl, hB2, hk2⟩
              have HB2 := hide hB2
              have hb2 := hbA.trans hk2.below
              clear hB2 hk2 hA hbA
              go_wp2_with fail
              go_roundg (gk - 1)
              case measure => omega
              case rel => exact ⟨i + 1, by omega, by go_num, by unfold Hid; rw [HST.out, HBB.out]; exact .inr HB2.out, hb2⟩
            | 20, _, hcn =>
              obtain rfl : c = 20 := hcn
              clear hcn hlow e1 e2
              have hA := bld_below hBx.out ((Below.refl wr.heap.size wr).alloc (Nat.le_refl _) (.cells (([92, 48, 50, 52] : List UInt8).map B8).toArray 5))
              have hbA := hbx.alloc (by have := hbx.size; rw [HK.out] at this; exact this) (.cells (([92, 48, 50, 52] : List UInt8).map B8).toArray 5)
              go_wp2_with fail
              refine (writeBytes K K wr.heap.size 4 4 (bareP (s.take i)) [92, 48, 50, 52] _ hA (by have := bld_lt hBx.out; omega) rfl (hide (row_cells _ wr)) (by have := hbA.size; rw [HK.out] at this; exact this) (by simp; omega)).mono ?_
              rintro e w2 ⟨rfl, hB2, hk2⟩
              have HB2 := hide hB2
              have hb2 := hbA.trans hk2.below
              clear hB2 hk2 hA hbA
              go_wp2_with fail
              go_roundg (gk - 1)
              case measure => omega
              case rel => exact ⟨i + 1, by omega, by go_num, by unfold Hid; rw [HST.out, HBB.out]; exact .inr HB2.out, hb2⟩
            | 21, _, hcn =>
              obtain rfl : c = 21 := hcn
              clear hcn hlow e1 e2
              have hA := bld_below hBx.out ((Below.refl wr.heap.size wr).alloc (Nat.le_refl _) (.cells (([92, 48, 50, 53] : List UInt8).map B8).toArray 5))
              have hbA := hbx.alloc (by have := hbx.size; rw [HK.out] at this; exact this) (.cells (([92, 48, 50, 53] : List UInt8).map B8).toArray 5)
              go_wp2_with fail
              refine (writeBytes K K wr.heap.size 4 4 (bareP (s.take i)) [92, 48, 50, 53] _ hA (by have := bld_lt hBx.out; omega) rfl (hide (row_cells _ wr)) (by have := hbA.size; rw [HK.out] at this; exact this) (by simp; omega)).mono ?_
              rintro e w2 ⟨rfl, hB2, hk2⟩
              have HB2 := hide hB2
              have hb2 := hbA.trans hk2.below
              clear hB2 hk2 hA hbA
              go_wp2_with fail
              go_roundg (gk - 1)
              case measure => omega
              case rel => exact ⟨i + 1, by omega, by go_num, by unfold Hid; rw [HST.out, HBB.out]; exact .inr HB2.out, hb2⟩
            | 22, _, hcn =>
              obtain rfl : c = 22 := hcn
              clear hcn hlow e1 e2
              have hA := bld_below hBx.out ((Below.refl wr.heap.size wr).alloc (Nat.le_refl _) (.cells (([92, 48, 50, 54] : List UInt8).map B8).toArray 5))
              have hbA := hbx.alloc (by have := hbx.size; rw [HK.out] at this; exact this) (.cells (([92, 48, 50, 54] : List UInt8).map B8).toArray 5)
              go_wp2_with fail
              refine (writeBytes K K wr.heap.size 4 4 (bareP (s.take i)) [92, 48, 50, 54] _ hA (by have := bld_lt hBx.out; omega) rfl (hide (row_cells _ wr)) (by have := hbA.size; rw [HK.out] at this; exact this) (by simp; omega)).mono ?_
              rintro e w2 ⟨rfl, hB2, hk2⟩
              have HB2 := hide hB2
              have hb2 := hbA.trans hk2.below
              clear hB2 hk2 hA hbA
              go_wp2_with fail
              go_roundg (gk - 1)
              case measure => omega
              case rel => exact ⟨i + 1, by omega, by go_num, by unfold Hid; rw [HST.out, HBB.out]; exact .inr HB2.out, hb2⟩
            | 23, _, hcn =>
              obtain rfl : c = 23 := hcn
              clear hcn hlow e1 e2
              have hA := bld_below hBx.out ((Below.refl wr.heap.size wr).alloc (Nat.le_refl _) (.cells (([92, 48, 50, 55] : List UInt8).map B8).toArray 5))
              have hbA := hbx.alloc (by have := hbx.size; rw [HK.out] at this; exact this) (.cells (([92, 48, 50, 55] : List UInt8).map B8).toArray 5)
              go_wp2_with fail
              refine (writeBytes K K wr.heap.size 4 4 (bareP (s.take i)) [92, 48, 50, 55] _ hA (by have := bld_lt hBx.out; omega) rfl (hide (row_cells _ wr)) (by have := hbA.size; rw [HK.out] at this; exact this) (by simp; omega)).mono ?_
              rintro e w2 ⟨rfl, hB2, hk2⟩
              have HB2 := hide hB2
              have hb2 := hbA.trans hk2.below
              clear hB2 hk2 hA hbA
              go_wp2_with fail
              go_roundg (gk - 1)
              case measure => omega
              case rel => exact ⟨i + 1, by omega, by go_num, by unfold Hid; rw [HST.out, HBB.out]; exact .inr HB2.out, hb2⟩
            | 24, _, hcn =>
              obtain rfl : c = 24 := hcn
              clear hcn hlow e1 e2
              have hA := bld_below hBx.out ((Below.refl wr.heap.size wr).alloc (Nat.le_refl _) (.cells (([92, 48, 51, 48] : List UInt8).map B8).toArray 5))
              have hbA := hbx.alloc (by have := hbx.size; rw [HK.out] at this; exact this) (.cells (([92, 48, 51, 48] : List UInt8).map B8).toArray 5)
              go_wp2_with fail
              refine (writeBytes K K wr.heap.size 4 4 (bareP (s.take i)) [92, 48, 51, 48] _ hA (by have := bld_lt hBx.out; omega) rfl (hide (row_cells _ wr)) (by have := hbA.size; rw [HK.out] at this; exact this) (by simp; omega)).mono ?_
              rintro e w2 ⟨rfl, hB2, hk2⟩
              have HB2 := hide hB2
              have hb2 := hbA.trans hk2.below
              clear hB2 hk2 hA hbA
              go_wp2_with fail
              go_roundg (gk - 1)
              case measure => omega
              case rel => exact ⟨i + 1, by omega, by go_num, by unfold Hid; rw [HST.out, HBB.out]; exact .inr HB2.out, hb2⟩
            | 25, _, hcn =>
              obtain rfl : c = 25 := hcn
              clear hcn hlow e1 e2
              have hA := bld_below hBx.out ((Below.refl wr.heap.size wr).alloc (Nat.le_refl _) (.cells (([92, 48, 51, 49] : List UInt8).map B8).toArray 5))
              have hbA := hbx.alloc (by have := hbx.size; rw [HK.out] at this; exact this) (.cells (([92, 48, 51, 49] : List UInt8).map B8).toArray 5)
              go_wp2_with fail
              refine (writeBytes K K wr.heap.size 4 4 (bareP (s.take i)) [92, 48, 51, 49] _ hA (by have := bld_lt hBx.out; omega) rfl (hide (row_cells _ wr)) (by have := hbA.size; rw [HK.out] at this; exact this) (by simp; omega)).mono ?_
              rintro e w2 ⟨rfl, hB2, hk2⟩
              have HB2 := hide hB2
              have hb2 := hbA.trans hk2.below
              clear hB2 hk2 hA hbA
              go_wp2_with fail
              go_roundg (gk - 1)
              case measure => omega
              case rel => exact ⟨i + 1, by omega, by go_num, by unfold Hid; rw [HST.out, HBB.out]; exact .inr HB2.out, hb2⟩
            | 26, _, hcn =>
              obtain rfl : c = 26 := hcn
              clear hcn hlow e1 e2
              have hA := bld_below hBx.out ((Below.refl wr.heap.size wr).alloc (Nat.le_refl _) (.cells (([92, 48, 51, 50] : List UInt8).map B8).toArray 5))
              have hbA := hbx.alloc (by have := hbx.size; rw [HK.out] at this; exact this) (.cells (([92, 48, 51, 50] : List UInt8).map B8).toArray 5)
              go_wp2_with fail
              refine (writeBytes K K wr.heap.size 4 4 (bareP (s.take i)) [92, 48, 51, 50] _ hA (by have := bld_lt hBx.out; omega) rfl (hide (row_cells _ wr)) (by have := hbA.size; rw [HK.out] at this; exact this) (by simp; omega)).mono ?_
              rintro e w2 ⟨rfl, hB2, hk2⟩
              have HB2 := hide hB2
              have hb2 := hbA.trans hk2.below
              clear hB2 hk2 hA hbA
              go_wp2_with fail
              go_roundg (gk - 1)
              case measure => omega
              case rel => exact ⟨i + 1, by omega, by go_num, by unfold Hid; rw [HST.out, HBB.out]; exact .inr HB2.out, hb2⟩
            | 27, _, hcn =>
              obtain rfl : c = 27 := hcn
              clear hcn hlow e1 e2
              have hA := bld_below hBx.out ((Below.refl wr.heap.size wr).alloc (Nat.le_refl _) (.cells (([92, 48, 51, 51] : List UInt8).map B8).toArray 5))
              have hbA := hbx.alloc (by have := hbx.size; rw [HK.out] at this; exact this) (.cells (([92, 48, 51, 51] : List UInt8).map B8).toArray 5)
              go_wp2_with fail
              refine (writeBytes K K wr.heap.size 4 4 (bareP (s.take i)) [92, 48, 51, 51] _ hA (by have := bld_lt hBx.out; omega) rfl (hide (row_cells _ wr)) (by have := hbA.size; rw [HK.out] at this; exact this) (by simp; omega)).mono ?_
              rintro e w2 ⟨rfl, hB2, hk2⟩
              have HB2 := hide hB2
              have hb2 := hbA.trans hk2.below
              clear hB2 hk2 hA hbA
              go_wp2_with fail
              go_roundg (gk - 1)
              case measure => omega
              case rel => exact ⟨i + 1, by omega, by go_num, by unfold Hid; rw [HST.out, HBB.out]; exact .inr HB2.out, hb2⟩
            | 28, _, hcn =>
              obtain rfl : c = 28 := hcn
              clear hcn hlow e1 e2
              have hA := bld_below hBx.out ((Below.refl wr.heap.size wr).alloc (Nat.le_refl _) (.cells (([92, 48, 51, 52] : List UInt8).map B8).toArray 5))
              have hbA := hbx.alloc (by have := hbx.size; rw [HK.out] at this; exact this) (.cells (([92, 48, 51, 52] : List UInt8).map B8).toArray 5)
              go_wp2_with fail
              refine (writeBytes K K wr.heap.size 4 4 (bareP (s.take i)) [92, 48, 51, 52] _ hA (by have := bld_lt hBx.out; omega) rfl (hide (row_cells _ wr)) (by have := hbA.size; rw [HK.out] at this; exact this) (by simp; omega)).mono ?_
              rintro e w2 ⟨rfl, hB2, hk2⟩
              have HB2 := hide hB2
              have hb2 := hbA.trans hk2.below
              clear hB2 hk2 hA hbA
              go_wp2_with fail
              go_roundg (gk - 1)
              case measure => omega
              case rel => exact ⟨i + 1, by omega, by go_num, by unfold Hid; rw [HST.out, HBB.out]; exact .inr HB2.out, hb2⟩
            | 29, _, hcn =>
              obtain rfl : c = 29 := hcn
              clear hcn hlow e1 e2
              have hA := bld_below hBx.out ((Below.refl wr.heap.size wr).alloc (Nat.le_refl _) (.cells (([92, 48, 51, 53] : List UInt8).map B8).toArray 5))
              have hbA := hbx.alloc (by have := hbx.size; rw [HK.out] at this; exact this) (.cells (([92, 48, 51, 53] : List UInt8).map B8).toArray 5)
              go_wp2_with fail
              refine (writeBytes K K wr.heap.size 4 4 (bareP (s.take i)) [92, 48, 51, 53] _ hA (by have := bld_lt hBx.out; omega) rfl (hide (row_cells _ wr)) (by have := hbA.size; rw [HK.out] at this; exact this) (by simp; omega)).mono ?_
              rintro e w2 ⟨rfl, hB2, hk2⟩
              have HB2 := hide hB2
              have hb2 := hbA.trans hk2.below
              clear hB2 hk2 hA hbA
              go_wp2_with fail
              go_roundg (gk - 1)
              case measure => omega
              case rel => exact ⟨i + 1, by omega, by go_num, by unfold Hid; rw [HST.out, HBB.out]; exact .inr HB2.out, hb2⟩
            | 30, _, hcn =>
              obtain rfl : c = 30 := hcn
              clear hcn hlow e1 e2
              have hA := bld_below hBx.out ((Below.refl wr.heap.size wr).alloc (Nat.le_refl _) (.cells (([92, 48, 51, 54] : List UInt8).map B8).toArray 5))
              have hbA := hbx.alloc (by have := hbx.size; rw [HK.out] at this; exact this) (.cells (([92, 48, 51, 54] : List UInt8).map B8).toArray 5)
              go_wp2_with fail
              refine (writeBytes K K wr.heap.size 4 4 (bareP (s.take i)) [92, 48, 51, 54] _ hA (by have := bld_lt hBx.out; omega) rfl (hide (row_cells _ wr)) (by have := hbA.size; rw [HK.out] at this; exact this) (by simp; omega)).mono ?_
              rintro e w2 ⟨rfl, hB2, hk2⟩
              have HB2 := hide hB2
              have hb2 := hbA.trans hk2.below
              clear hB2 hk2 hA hbA
              go_wp2_with fail
              go_roundg (gk - 1)
              case measure => omega
              case rel => exact ⟨i + 1, by omega, by go_num, by unfold Hid; rw [HST.out, HBB.out]; exact .inr HB2.out, hb2⟩
            | 31, _, hcn =>
              obtain rfl : c = 31 := hcn
              clear hcn hlow e1 e2
              have hA := bld_below hBx.out ((Below.refl wr.heap.size wr).alloc (Nat.le_refl _) (.cells (([92, 48, 51, 55] : List UInt8).map B8).toArray 5))
              have hbA := hbx.alloc (by have := hbx.size; rw [HK.out] at this; exact this) (.cells (([92, 48, 51, 55] : List UInt8).map B8).toArray 5)
              go_wp2_with fail
              refine (writeBytes K K wr.heap.size 4 4 (bareP (s.take i)) [92, 48, 51, 55] _ hA (by have := bld_lt hBx.out; omega) rfl (hide (row_cells _ wr)) (by have := hbA.size; rw [HK.out] at this; exact this) (by simp; omega)).mono ?_
              rintro e w2 ⟨rfl, hB2, hk2⟩
              have HB2 := hide hB2
              have hb2 := hbA.trans hk2.below
              clear hB2 hk2 hA hbA
              go_wp2_with fail
              go_roundg (gk - 1)
              case measure => omega
              case rel => exact ⟨i + 1, by omega, by go_num, by unfold Hid; rw [HST.out, HBB.out]; exact .inr HB2.out, hb2⟩
            | n + 32, h, _ => exact absurd h (by omega)
    · have e : i = s.length := by omega
      subst e
      have hBx2 := hBx.out
      rw [List.take_length] at hBx2
      go_wp2_with fail
      refine (Tryz.Builder_String_any K K (bareP s) _ hBx2 (by have := hbx.size; rw [HK.out] at this; omega)).mono ?_
      rintro e w4 ⟨rfl, hb4⟩
      go_wp2_with fail
      go_ret
      exact ⟨rfl, by rw [HK.out]; exact hbx.trans hb4⟩
end Go.Proofs.YtagkdmolgmhmdaaGreatDoor
