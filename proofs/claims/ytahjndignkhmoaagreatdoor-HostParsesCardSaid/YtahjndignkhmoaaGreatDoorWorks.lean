/- What the chapter's examples fix: works returns true. (Printed by genWorks.py.) -/
import Derived.Test.YtahjndignkhmoaaGreatDoorEq
namespace Go.Proofs.YtahjndignkhmoaaGreatDoor
open Go.RowKit

set_option maxHeartbeats 8000000 in
set_option maxRecDepth 100000 in
theorem works (w : World) (ht : Tab2 w) : Calls Tryz.prog 7 #[] w (Fresh (.bool true) w) := by
  obtain ⟨B, hB⟩ : ∃ B, w.heap.size = B := ⟨_, rfl⟩
  have HB := hide hB
  have hbw0 : Below B w w := Below.refl _ _
  have ht0 : Tab2 w := ht
  have hs0 : B ≤ w.heap.size := by omega
  clear hB ht
  go_enter Tryz.func7, Tryz.ntmps7
  go_wp2_with fail
  refine (hParse [69, 88, 97, 109, 112, 108, 101, 46, 67, 79, 77] true _ _ ht0 (by decide) ex1).mono ?_
  rintro e wa1 ⟨rfl, hb1⟩
  have hsa1 := hb1.size
  have hta1 := ht0.below hb1
  have hbwa1 : Below B w wa1 := hbw0.trans (hb1.mono (by omega))
  unfold hV
  have kn1 : (wa1.alloc (.cells #[.int .u8 1, S [101, 120, 97, 109, 112, 108, 101, 46, 99, 111, 109], .int .u32 0, U16 0, U16 0, U16 0, U16 0, U16 0, U16 0, U16 0, U16 0] 27)).heap[wa1.heap.size]? = some (.cells #[.int .u8 1, S [101, 120, 97, 109, 112, 108, 101, 46, 99, 111, 109], .int .u32 0, U16 0, U16 0, U16 0, U16 0, U16 0, U16 0, U16 0, U16 0] 27 (0, 0)) := heap_alloc_last _ _
  have kb1 : Below wa1.heap.size wa1 (wa1.alloc (.cells #[.int .u8 1, S [101, 120, 97, 109, 112, 108, 101, 46, 99, 111, 109], .int .u32 0, U16 0, U16 0, U16 0, U16 0, U16 0, U16 0, U16 0, U16 0] 27)) := (Below.refl _ _).alloc (Nat.le_refl _) _
  have kz1 : (wa1.alloc (.cells #[.int .u8 1, S [101, 120, 97, 109, 112, 108, 101, 46, 99, 111, 109], .int .u32 0, U16 0, U16 0, U16 0, U16 0, U16 0, U16 0, U16 0, U16 0] 27)).heap.size = wa1.heap.size + 1 := by simp
  obtain ⟨wb1, hw1⟩ : ∃ x, x = wa1.alloc (.cells #[.int .u8 1, S [101, 120, 97, 109, 112, 108, 101, 46, 99, 111, 109], .int .u32 0, U16 0, U16 0, U16 0, U16 0, U16 0, U16 0, U16 0, U16 0] 27) := ⟨_, rfl⟩
  have HW1 := hide hw1
  obtain ⟨B1, hB1⟩ : ∃ x, wa1.heap.size = x := ⟨_, rfl⟩
  have HB1 := hide hB1
  rw [← hw1] at kn1 kb1 kz1
  have k1_1 := kn1
  rw [hB1] at k1_1
  have ht1 := hta1.below kb1
  have hbw1 : Below B w wb1 := hbwa1.trans (kb1.mono (by omega))
  have hs1 : B ≤ wb1.heap.size := by omega
  have hlt1 : B1 < wb1.heap.size := by omega
  clear hw1 hB1 hb1 kn1 kb1 hta1 hbwa1
  go_wp2_with fail
  rw [← HW1.out, HB1.out]
  go_wp2_with fail
  refine (hParse [48, 120, 55, 102, 46, 49] true _ _ ht1 (by decide) ex2).mono ?_
  rintro e wa2 ⟨rfl, hb2⟩
  have hsa2 := hb2.size
  have hta2 := ht1.below hb2
  have hbwa2 : Below B w wa2 := hbw1.trans (hb2.mono (by omega))
  unfold hV
  have k1_2a := (hb2.block B1 (by omega)).trans k1_1
  clear k1_1
  have kn2 : (wa2.alloc (.cells #[.int .u8 3, S [], .int .u32 2130706433, U16 0, U16 0, U16 0, U16 0, U16 0, U16 0, U16 0, U16 0] 27)).heap[wa2.heap.size]? = some (.cells #[.int .u8 3, S [], .int .u32 2130706433, U16 0, U16 0, U16 0, U16 0, U16 0, U16 0, U16 0, U16 0] 27 (0, 0)) := heap_alloc_last _ _
  have kb2 : Below wa2.heap.size wa2 (wa2.alloc (.cells #[.int .u8 3, S [], .int .u32 2130706433, U16 0, U16 0, U16 0, U16 0, U16 0, U16 0, U16 0, U16 0] 27)) := (Below.refl _ _).alloc (Nat.le_refl _) _
  have kz2 : (wa2.alloc (.cells #[.int .u8 3, S [], .int .u32 2130706433, U16 0, U16 0, U16 0, U16 0, U16 0, U16 0, U16 0, U16 0] 27)).heap.size = wa2.heap.size + 1 := by simp
  obtain ⟨wb2, hw2⟩ : ∃ x, x = wa2.alloc (.cells #[.int .u8 3, S [], .int .u32 2130706433, U16 0, U16 0, U16 0, U16 0, U16 0, U16 0, U16 0, U16 0] 27) := ⟨_, rfl⟩
  have HW2 := hide hw2
  obtain ⟨B2, hB2⟩ : ∃ x, wa2.heap.size = x := ⟨_, rfl⟩
  have HB2 := hide hB2
  rw [← hw2] at kn2 kb2 kz2
  have k2_2 := kn2
  rw [hB2] at k2_2
  have k1_2 := (kb2.block B1 (by have := heap_lt k1_2a; omega)).trans k1_2a
  have ht2 := hta2.below kb2
  have hbw2 : Below B w wb2 := hbwa2.trans (kb2.mono (by omega))
  have hs2 : B ≤ wb2.heap.size := by omega
  have hlt2 : B2 < wb2.heap.size := by omega
  have hltt1_2 : B1 < wb2.heap.size := by omega
  clear hw2 hB2 hb2 kn2 kb2 hta2 hbwa2 k1_2a
  go_wp2_with fail
  rw [← HW2.out, HB2.out]
  go_wp2_with fail
  refine (hParse [91, 49, 58, 58, 50, 58, 48, 58, 48, 58, 51, 93] false _ _ ht2 (by decide) ex3).mono ?_
  rintro e wa3 ⟨rfl, hb3⟩
  have hsa3 := hb3.size
  have hta3 := ht2.below hb3
  have hbwa3 : Below B w wa3 := hbw2.trans (hb3.mono (by omega))
  unfold hV
  have k1_3a := (hb3.block B1 (by omega)).trans k1_2
  have k2_3a := (hb3.block B2 (by omega)).trans k2_2
  clear k1_2 k2_2
  have kn3 : (wa3.alloc (.cells #[.int .u8 4, S [], .int .u32 0, U16 1, U16 0, U16 0, U16 0, U16 2, U16 0, U16 0, U16 3] 27)).heap[wa3.heap.size]? = some (.cells #[.int .u8 4, S [], .int .u32 0, U16 1, U16 0, U16 0, U16 0, U16 2, U16 0, U16 0, U16 3] 27 (0, 0)) := heap_alloc_last _ _
  have kb3 : Below wa3.heap.size wa3 (wa3.alloc (.cells #[.int .u8 4, S [], .int .u32 0, U16 1, U16 0, U16 0, U16 0, U16 2, U16 0, U16 0, U16 3] 27)) := (Below.refl _ _).alloc (Nat.le_refl _) _
  have kz3 : (wa3.alloc (.cells #[.int .u8 4, S [], .int .u32 0, U16 1, U16 0, U16 0, U16 0, U16 2, U16 0, U16 0, U16 3] 27)).heap.size = wa3.heap.size + 1 := by simp
  obtain ⟨wb3, hw3⟩ : ∃ x, x = wa3.alloc (.cells #[.int .u8 4, S [], .int .u32 0, U16 1, U16 0, U16 0, U16 0, U16 2, U16 0, U16 0, U16 3] 27) := ⟨_, rfl⟩
  have HW3 := hide hw3
  obtain ⟨B3, hB3⟩ : ∃ x, wa3.heap.size = x := ⟨_, rfl⟩
  have HB3 := hide hB3
  rw [← hw3] at kn3 kb3 kz3
  have k3_3 := kn3
  rw [hB3] at k3_3
  have k1_3 := (kb3.block B1 (by have := heap_lt k1_3a; omega)).trans k1_3a
  have k2_3 := (kb3.block B2 (by have := heap_lt k2_3a; omega)).trans k2_3a
  have ht3 := hta3.below kb3
  have hbw3 : Below B w wb3 := hbwa3.trans (kb3.mono (by omega))
  have hs3 : B ≤ wb3.heap.size := by omega
  have hlt3 : B3 < wb3.heap.size := by omega
  have hltt1_3 : B1 < wb3.heap.size := by omega
  have hltt2_3 : B2 < wb3.heap.size := by omega
  clear hw3 hB3 hb3 kn3 kb3 hta3 hbwa3 k1_3a k2_3a
  go_wp2_with fail
  rw [← HW3.out, HB3.out]
  go_wp2_with fail
  refine (hParse [49, 46, 50, 46, 51, 46, 52, 46, 53] true _ _ ht3 (by decide) ex4).mono ?_
  rintro e wa4 ⟨rfl, hb4⟩
  have hsa4 := hb4.size
  have hta4 := ht3.below hb4
  have hbwa4 : Below B w wa4 := hbw3.trans (hb4.mono (by omega))
  unfold hV
  have k1_4a := (hb4.block B1 (by omega)).trans k1_3
  have k2_4a := (hb4.block B2 (by omega)).trans k2_3
  have k3_4a := (hb4.block B3 (by omega)).trans k3_3
  clear k1_3 k2_3 k3_3
  have kn4 : (wa4.alloc (.cells #[.int .u8 0, S [], .int .u32 0, U16 0, U16 0, U16 0, U16 0, U16 0, U16 0, U16 0, U16 0] 27)).heap[wa4.heap.size]? = some (.cells #[.int .u8 0, S [], .int .u32 0, U16 0, U16 0, U16 0, U16 0, U16 0, U16 0, U16 0, U16 0] 27 (0, 0)) := heap_alloc_last _ _
  have kb4 : Below wa4.heap.size wa4 (wa4.alloc (.cells #[.int .u8 0, S [], .int .u32 0, U16 0, U16 0, U16 0, U16 0, U16 0, U16 0, U16 0, U16 0] 27)) := (Below.refl _ _).alloc (Nat.le_refl _) _
  have kz4 : (wa4.alloc (.cells #[.int .u8 0, S [], .int .u32 0, U16 0, U16 0, U16 0, U16 0, U16 0, U16 0, U16 0, U16 0] 27)).heap.size = wa4.heap.size + 1 := by simp
  obtain ⟨wb4, hw4⟩ : ∃ x, x = wa4.alloc (.cells #[.int .u8 0, S [], .int .u32 0, U16 0, U16 0, U16 0, U16 0, U16 0, U16 0, U16 0, U16 0] 27) := ⟨_, rfl⟩
  have HW4 := hide hw4
  obtain ⟨B4, hB4⟩ : ∃ x, wa4.heap.size = x := ⟨_, rfl⟩
  have HB4 := hide hB4
  rw [← hw4] at kn4 kb4 kz4
  have k4_4 := kn4
  rw [hB4] at k4_4
  have k1_4 := (kb4.block B1 (by have := heap_lt k1_4a; omega)).trans k1_4a
  have k2_4 := (kb4.block B2 (by have := heap_lt k2_4a; omega)).trans k2_4a
  have k3_4 := (kb4.block B3 (by have := heap_lt k3_4a; omega)).trans k3_4a
  have ht4 := hta4.below kb4
  have hbw4 : Below B w wb4 := hbwa4.trans (kb4.mono (by omega))
  have hs4 : B ≤ wb4.heap.size := by omega
  have hlt4 : B4 < wb4.heap.size := by omega
  have hltt1_4 : B1 < wb4.heap.size := by omega
  have hltt2_4 : B2 < wb4.heap.size := by omega
  have hltt3_4 : B3 < wb4.heap.size := by omega
  clear hw4 hB4 hb4 kn4 kb4 hta4 hbwa4 k1_4a k2_4a k3_4a
  go_wp2_with fail
  rw [← HW4.out, HB4.out]
  go_wp2_with fail
  refine (hParse [195, 169, 37] false _ _ ht4 (by decide) ex5).mono ?_
  rintro e wa5 ⟨rfl, hb5⟩
  have hsa5 := hb5.size
  have hta5 := ht4.below hb5
  have hbwa5 : Below B w wa5 := hbw4.trans (hb5.mono (by omega))
  unfold hV
  have k1_5a := (hb5.block B1 (by omega)).trans k1_4
  have k2_5a := (hb5.block B2 (by omega)).trans k2_4
  have k3_5a := (hb5.block B3 (by omega)).trans k3_4
  have k4_5a := (hb5.block B4 (by omega)).trans k4_4
  clear k1_4 k2_4 k3_4 k4_4
  have kn5 : (wa5.alloc (.cells #[.int .u8 2, S [37, 67, 51, 37, 65, 57, 37], .int .u32 0, U16 0, U16 0, U16 0, U16 0, U16 0, U16 0, U16 0, U16 0] 27)).heap[wa5.heap.size]? = some (.cells #[.int .u8 2, S [37, 67, 51, 37, 65, 57, 37], .int .u32 0, U16 0, U16 0, U16 0, U16 0, U16 0, U16 0, U16 0, U16 0] 27 (0, 0)) := heap_alloc_last _ _
  have kb5 : Below wa5.heap.size wa5 (wa5.alloc (.cells #[.int .u8 2, S [37, 67, 51, 37, 65, 57, 37], .int .u32 0, U16 0, U16 0, U16 0, U16 0, U16 0, U16 0, U16 0, U16 0] 27)) := (Below.refl _ _).alloc (Nat.le_refl _) _
  have kz5 : (wa5.alloc (.cells #[.int .u8 2, S [37, 67, 51, 37, 65, 57, 37], .int .u32 0, U16 0, U16 0, U16 0, U16 0, U16 0, U16 0, U16 0, U16 0] 27)).heap.size = wa5.heap.size + 1 := by simp
  obtain ⟨wb5, hw5⟩ : ∃ x, x = wa5.alloc (.cells #[.int .u8 2, S [37, 67, 51, 37, 65, 57, 37], .int .u32 0, U16 0, U16 0, U16 0, U16 0, U16 0, U16 0, U16 0, U16 0] 27) := ⟨_, rfl⟩
  have HW5 := hide hw5
  obtain ⟨B5, hB5⟩ : ∃ x, wa5.heap.size = x := ⟨_, rfl⟩
  have HB5 := hide hB5
  rw [← hw5] at kn5 kb5 kz5
  have k5_5 := kn5
  rw [hB5] at k5_5
  have k1_5 := (kb5.block B1 (by have := heap_lt k1_5a; omega)).trans k1_5a
  have k2_5 := (kb5.block B2 (by have := heap_lt k2_5a; omega)).trans k2_5a
  have k3_5 := (kb5.block B3 (by have := heap_lt k3_5a; omega)).trans k3_5a
  have k4_5 := (kb5.block B4 (by have := heap_lt k4_5a; omega)).trans k4_5a
  have ht5 := hta5.below kb5
  have hbw5 : Below B w wb5 := hbwa5.trans (kb5.mono (by omega))
  have hs5 : B ≤ wb5.heap.size := by omega
  have hlt5 : B5 < wb5.heap.size := by omega
  have hltt1_5 : B1 < wb5.heap.size := by omega
  have hltt2_5 : B2 < wb5.heap.size := by omega
  have hltt3_5 : B3 < wb5.heap.size := by omega
  have hltt4_5 : B4 < wb5.heap.size := by omega
  clear hw5 hB5 hb5 kn5 kb5 hta5 hbwa5 k1_5a k2_5a k3_5a k4_5a
  go_upto_region 6 with (fail)
  rw [← HW5.out, HB5.out]
  have gh := gHost
  have q1 := eqHost 1 [101, 120, 97, 109, 112, 108, 101, 46, 99, 111, 109] 0 0 0 0 0 0 0 0 0
  have q5 := eqHost 2 [37, 67, 51, 37, 65, 57, 37] 0 0 0 0 0 0 0 0 0
  obtain ⟨⟨a_0, a_1, a_2, a_3, a_4, a_5, a_6, a_7, a_8, a_9, a_10⟩, fa⟩ := cells11 k1_5
  obtain ⟨⟨b_0, b_1, b_2, b_3, b_4, b_5, b_6, b_7, b_8, b_9, b_10⟩, fb⟩ := cells11 k2_5
  go_wp2_with fail
  refine (hShow 3 [] 2130706433 0 0 0 0 0 0 0 0 _ _ ht5 (by decide) (by decide) (by decide) ex6).mono ?_
  rintro e w6 ⟨rfl, hb6⟩
  have k3_6 := (hb6.block B3 (by omega)).trans k3_5
  have k5_6 := (hb6.block B5 (by omega)).trans k5_5
  have hs6 := hb6.size
  have ht6 := ht5.below hb6
  have hbw6 : Below B w w6 := hbw5.trans (hb6.mono (by omega))
  obtain ⟨⟨c_0, c_1, c_2, c_3, c_4, c_5, c_6, c_7, c_8, c_9, c_10⟩, fc⟩ := cells11 k3_6
  go_wp2_with fail
  refine (hShow 4 [] 0 1 0 0 0 2 0 0 3 _ _ ht6 (by decide) (by decide) (by decide) ex7).mono ?_
  rintro e w7 ⟨rfl, hb7⟩
  have k5_7 := (hb7.block B5 (by omega)).trans k5_6
  have hbw7 : Below B w w7 := hbw6.trans (hb7.mono (by omega))
  obtain ⟨⟨d_0, d_1, d_2, d_3, d_4, d_5, d_6, d_7, d_8, d_9, d_10⟩, fd⟩ := cells11 k5_7
  go_wp2_with fail
  go_ret
  exact ⟨rfl, by rw [HB.out]; exact hbw7⟩
end Go.Proofs.YtahjndignkhmoaaGreatDoor
