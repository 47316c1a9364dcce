/- The law HostNumbers, walked. (Printed by genNumbers.py.) -/
import Derived.Test.YtahjndignkhmoaaGreatDoorLawsA
namespace Go.Proofs.YtahjndignkhmoaaGreatDoor
open Go.RowKit

theorem cells8' {w : World} {B : Nat} {a0 a1 a2 a3 a4 a5 a6 a7 : Value} {T : TypeId} (h : w.heap[B]? = some (.cells #[a0, a1, a2, a3, a4, a5, a6, a7] T (0, 0))) :
    (w.cell? ⟨B, 0, none⟩ = some a0 ∧ w.cell? ⟨B, 1, none⟩ = some a1 ∧ w.cell? ⟨B, 2, none⟩ = some a2 ∧ w.cell? ⟨B, 3, none⟩ = some a3 ∧ w.cell? ⟨B, 4, none⟩ = some a4 ∧ w.cell? ⟨B, 5, none⟩ = some a5 ∧ w.cell? ⟨B, 6, none⟩ = some a6 ∧ w.cell? ⟨B, 7, none⟩ = some a7) ∧ ∀ j, w.frozen? ⟨B, j, none⟩ = false := by
  refine ⟨⟨?_, ?_, ?_, ?_, ?_, ?_, ?_, ?_⟩, fun j => by simp [World.frozen?, h]⟩ <;> (rw [Lib.cell_of_heap h]; rfl)

set_option maxHeartbeats 8000000 in
set_option maxRecDepth 100000 in
theorem law_numbers (n : Int) (n0 n1 n2 n3 n4 n5 n6 n7 : Int) (w : World) (hn0 : 0 ≤ n) (hn1 : n < 4294967296) (hv : ∀ n ∈ [n0, n1, n2, n3, n4, n5, n6, n7], 0 ≤ n ∧ n < 65536) (ht : Tab2 w) :
    Calls Tryz.prog 5 #[.int .u32 n, .agg (U8 n0 n1 n2 n3 n4 n5 n6 n7)] w (Fresh (.bool true) w) := by
  obtain ⟨B, hB⟩ : ∃ B, w.heap.size = B := ⟨_, rfl⟩
  have HB := hide hB
  obtain ⟨x, hx⟩ : ∃ x, Hostp.show4 n.toNat = x := ⟨_, rfl⟩
  obtain ⟨y, hy⟩ : ∃ y, 91 :: (Hostp.show6 [n0, n1, n2, n3, n4, n5, n6, n7] ++ [93]) = y := ⟨_, rfl⟩
  have hxl : x.length ≤ 30000 := by rw [← hx]; have := Hostp.show4_len n.toNat (by omega); omega
  have hyl : y.length ≤ 30000 := by rw [← hy]; have := show6_len _ rfl hv; simp only [List.length_cons, List.length_append, List.length_nil]; omega
  have HX : Hid (showH 3 [] n [0, 0, 0, 0, 0, 0, 0, 0] = x) := by unfold Hid; rw [← hx]; rfl
  have HY : Hid (showH 4 [] 0 [n0, n1, n2, n3, n4, n5, n6, n7] = y) := by unfold Hid; rw [← hy]; rfl
  have hpx : Hostp.parse x true = some (.four n) := by
    rw [← hx, Hostp.parse_show4 n.toNat (by omega)]
    congr 2
    omega
  have hpy : ∀ sp, Hostp.parse y sp = some (.eight [n0, n1, n2, n3, n4, n5, n6, n7]) := fun sp => by rw [← hy]; exact Hostp.parse_show6 _ sp rfl hv
  have HPX := hide hpx
  have HPY := hide hpy
  have hnz : (w.alloc (.cells (U8 n0 n1 n2 n3 n4 n5 n6 n7) 25)).heap.size = w.heap.size + 1 := by simp
  have hnb : Below w.heap.size w (w.alloc (.cells (U8 n0 n1 n2 n3 n4 n5 n6 n7) 25)) := (Below.refl _ _).alloc (Nat.le_refl _) _
  have hnn : (w.alloc (.cells (U8 n0 n1 n2 n3 n4 n5 n6 n7) 25)).heap[w.heap.size]? = some (.cells (U8 n0 n1 n2 n3 n4 n5 n6 n7) 25 (0, 0)) := heap_alloc_last _ _
  have ht0 := ht.below hnb
  clear hx hy hpx hpy ht
  go_enter Tryz.func5, Tryz.ntmps5
  go_wp2_with fail
  obtain ⟨w0, hw0⟩ : ∃ x, x = w.alloc (.cells (U8 n0 n1 n2 n3 n4 n5 n6 n7) 25) := ⟨_, rfl⟩
  rw [← hw0] at hnz hnb hnn ht0 ⊢
  rw [hB] at hnz hnb hnn
  clear hw0 hB
  refine (works _ ht0).mono ?_
  rintro e w1 ⟨rfl, hb1⟩
  have hs1 := hb1.size
  have ht1 := ht0.below hb1
  have hbw1 : Below B w w1 := hnb.trans (hb1.mono (by omega))
  have hr1 := (hb1.block B (by omega)).trans hnn
  obtain ⟨⟨c0, c1, c2, c3, c4, c5, c6, c7⟩, hfb⟩ := (⟨(cells8' hr1).1, (cells8' hr1).2⟩ : (_ ∧ _ ∧ _ ∧ _ ∧ _ ∧ _ ∧ _ ∧ _) ∧ _)
  have hltB : B < w1.heap.size := by omega
  clear hb1 ht0 hnn
  have kx : ((w1.alloc (.cells #[.int .u8 3, S [], .int .u32 n, U16 0, U16 0, U16 0, U16 0, U16 0, U16 0, U16 0, U16 0] 27)).alloc (.cells #[.int .u8 4, S [], .int .u32 0, U16 n0, U16 n1, U16 n2, U16 n3, U16 n4, U16 n5, U16 n6, U16 n7] 27)).heap[w1.heap.size]? = some (.cells #[.int .u8 3, S [], .int .u32 n, U16 0, U16 0, U16 0, U16 0, U16 0, U16 0, U16 0, U16 0] 27 (0, 0)) := by
    rw [Below.heap_alloc _ _ _ (by simp)]; exact heap_alloc_last _ _
  have ky : ((w1.alloc (.cells #[.int .u8 3, S [], .int .u32 n, U16 0, U16 0, U16 0, U16 0, U16 0, U16 0, U16 0, U16 0] 27)).alloc (.cells #[.int .u8 4, S [], .int .u32 0, U16 n0, U16 n1, U16 n2, U16 n3, U16 n4, U16 n5, U16 n6, U16 n7] 27)).heap[w1.heap.size + 1]? = some (.cells #[.int .u8 4, S [], .int .u32 0, U16 n0, U16 n1, U16 n2, U16 n3, U16 n4, U16 n5, U16 n6, U16 n7] 27 (0, 0)) := by
    have := heap_alloc_last (w1.alloc (.cells #[.int .u8 3, S [], .int .u32 n, U16 0, U16 0, U16 0, U16 0, U16 0, U16 0, U16 0, U16 0] 27)) (.cells #[.int .u8 4, S [], .int .u32 0, U16 n0, U16 n1, U16 n2, U16 n3, U16 n4, U16 n5, U16 n6, U16 n7] 27)
    simpa using this
  have kb : Below w1.heap.size w1 ((w1.alloc (.cells #[.int .u8 3, S [], .int .u32 n, U16 0, U16 0, U16 0, U16 0, U16 0, U16 0, U16 0, U16 0] 27)).alloc (.cells #[.int .u8 4, S [], .int .u32 0, U16 n0, U16 n1, U16 n2, U16 n3, U16 n4, U16 n5, U16 n6, U16 n7] 27)) := ((Below.refl _ _).alloc (Nat.le_refl _) _).alloc (by simp) _
  have kz : ((w1.alloc (.cells #[.int .u8 3, S [], .int .u32 n, U16 0, U16 0, U16 0, U16 0, U16 0, U16 0, U16 0, U16 0] 27)).alloc (.cells #[.int .u8 4, S [], .int .u32 0, U16 n0, U16 n1, U16 n2, U16 n3, U16 n4, U16 n5, U16 n6, U16 n7] 27)).heap.size = w1.heap.size + 2 := by simp
  go_upto_region 6 with (fail)
  obtain ⟨w2, hw2⟩ : ∃ x, x = (w1.alloc (.cells #[.int .u8 3, S [], .int .u32 n, U16 0, U16 0, U16 0, U16 0, U16 0, U16 0, U16 0, U16 0] 27)).alloc (.cells #[.int .u8 4, S [], .int .u32 0, U16 n0, U16 n1, U16 n2, U16 n3, U16 n4, U16 n5, U16 n6, U16 n7] 27) := ⟨_, rfl⟩
  obtain ⟨A, hA⟩ : ∃ x, w1.heap.size = x := ⟨_, rfl⟩
  rw [← hw2] at kx ky kb kz ⊢
  have ht2 := ht1.below kb
  have hbw2 : Below B w w2 := hbw1.trans (kb.mono (by omega))
  rw [hA] at kx ky kz hltB hs1 ⊢
  clear hw2 hA kb c0 c1 c2 c3 c4 c5 c6 c7 hfb hr1
  have gh := gHost
  have qx := eqHost 3 [] n 0 0 0 0 0 0 0 0
  have qy := eqHost 4 [] 0 n0 n1 n2 n3 n4 n5 n6 n7
  have ka0 := kx
  have kb0 := ky
  obtain ⟨⟨u1_0, u1_1, u1_2, u1_3, u1_4, u1_5, u1_6, u1_7, u1_8, u1_9, u1_10⟩, fu1⟩ := cells11 ka0
  go_wp2_with fail
  refine (hShow 3 [] n 0 0 0 0 0 0 0 0 x _ ht2 hn0 hn1 (by decide) HX).mono ?_
  rintro e wp1 ⟨rfl, hbp1⟩
  have hsp1 := hbp1.size
  have htp1 := ht2.below hbp1
  have hbwp1 : Below B w wp1 := hbw2.trans (hbp1.mono (by omega))
  clear u1_0 u1_1 u1_2 u1_3 u1_4 u1_5 u1_6 u1_7 u1_8 u1_9 u1_10 fu1
  go_wp2_with fail
  refine (hParse x true (some (.four n)) _ htp1 (by omega) HPX.out).mono ?_
  rintro e wq1 ⟨rfl, hbq1⟩
  have hsq1 := hbq1.size
  have htq1 := htp1.below hbq1
  have hbwq1 : Below B w wq1 := hbwp1.trans (hbq1.mono (by omega))
  have hbpq1 := hbp1.trans (hbq1.mono (by omega))
  clear hbp1 hbq1
  unfold hV
  dsimp only
  have kn : (wq1.alloc (.cells #[.int .u8 3, S [], .int .u32 n, U16 0, U16 0, U16 0, U16 0, U16 0, U16 0, U16 0, U16 0] 27)).heap[wq1.heap.size]? = some (.cells #[.int .u8 3, S [], .int .u32 n, U16 0, U16 0, U16 0, U16 0, U16 0, U16 0, U16 0, U16 0] 27 (0, 0)) := heap_alloc_last _ _
  have kb' : Below wq1.heap.size wq1 (wq1.alloc (.cells #[.int .u8 3, S [], .int .u32 n, U16 0, U16 0, U16 0, U16 0, U16 0, U16 0, U16 0, U16 0] 27)) := (Below.refl _ _).alloc (Nat.le_refl _) _
  have kzn : (wq1.alloc (.cells #[.int .u8 3, S [], .int .u32 n, U16 0, U16 0, U16 0, U16 0, U16 0, U16 0, U16 0, U16 0] 27)).heap.size = wq1.heap.size + 1 := by simp
  go_upto_region 7 with (fail)
  obtain ⟨wr1, hwn⟩ : ∃ x, x = wq1.alloc (.cells #[.int .u8 3, S [], .int .u32 n, U16 0, U16 0, U16 0, U16 0, U16 0, U16 0, U16 0, U16 0] 27) := ⟨_, rfl⟩
  obtain ⟨D1, hDn⟩ : ∃ x, wq1.heap.size = x := ⟨_, rfl⟩
  rw [← hwn] at kn kb' kzn ⊢
  have htr1 := htq1.below kb'
  have hbwr1 : Below B w wr1 := hbwq1.trans (kb'.mono (by omega))
  have ball := hbpq1.trans (kb'.mono (by omega))
  have ka1 := (ball.block A (by omega)).trans ka0
  have kb1 := (ball.block (A + 1) (by omega)).trans kb0
  rw [hDn] at kn kzn hsq1 ⊢
  have kd1_1 := kn
  have hsr1 : wr1.heap.size = D1 + 1 := kzn
  clear hwn hDn kb' kn kzn ball
  obtain ⟨⟨u2_0, u2_1, u2_2, u2_3, u2_4, u2_5, u2_6, u2_7, u2_8, u2_9, u2_10⟩, fu2⟩ := cells11 kb1
  go_wp2_with fail
  refine (hShow 4 [] 0 n0 n1 n2 n3 n4 n5 n6 n7 y _ htr1 (by decide) (by decide) hv HY).mono ?_
  rintro e wp2 ⟨rfl, hbp2⟩
  have hsp2 := hbp2.size
  have htp2 := htr1.below hbp2
  have hbwp2 : Below B w wp2 := hbwr1.trans (hbp2.mono (by omega))
  clear u2_0 u2_1 u2_2 u2_3 u2_4 u2_5 u2_6 u2_7 u2_8 u2_9 u2_10 fu2
  go_wp2_with fail
  refine (hParse y true (some (.eight [n0, n1, n2, n3, n4, n5, n6, n7])) _ htp2 (by omega) (HPY.out true)).mono ?_
  rintro e wq2 ⟨rfl, hbq2⟩
  have hsq2 := hbq2.size
  have htq2 := htp2.below hbq2
  have hbwq2 : Below B w wq2 := hbwp2.trans (hbq2.mono (by omega))
  have hbpq2 := hbp2.trans (hbq2.mono (by omega))
  clear hbp2 hbq2
  unfold hV
  simp only [List.map_cons, List.map_nil]
  have kn : (wq2.alloc (.cells #[.int .u8 4, S [], .int .u32 0, U16 n0, U16 n1, U16 n2, U16 n3, U16 n4, U16 n5, U16 n6, U16 n7] 27)).heap[wq2.heap.size]? = some (.cells #[.int .u8 4, S [], .int .u32 0, U16 n0, U16 n1, U16 n2, U16 n3, U16 n4, U16 n5, U16 n6, U16 n7] 27 (0, 0)) := heap_alloc_last _ _
  have kb' : Below wq2.heap.size wq2 (wq2.alloc (.cells #[.int .u8 4, S [], .int .u32 0, U16 n0, U16 n1, U16 n2, U16 n3, U16 n4, U16 n5, U16 n6, U16 n7] 27)) := (Below.refl _ _).alloc (Nat.le_refl _) _
  have kzn : (wq2.alloc (.cells #[.int .u8 4, S [], .int .u32 0, U16 n0, U16 n1, U16 n2, U16 n3, U16 n4, U16 n5, U16 n6, U16 n7] 27)).heap.size = wq2.heap.size + 1 := by simp
  go_upto_region 8 with (fail)
  obtain ⟨wr2, hwn⟩ : ∃ x, x = wq2.alloc (.cells #[.int .u8 4, S [], .int .u32 0, U16 n0, U16 n1, U16 n2, U16 n3, U16 n4, U16 n5, U16 n6, U16 n7] 27) := ⟨_, rfl⟩
  obtain ⟨D2, hDn⟩ : ∃ x, wq2.heap.size = x := ⟨_, rfl⟩
  rw [← hwn] at kn kb' kzn ⊢
  have htr2 := htq2.below kb'
  have hbwr2 : Below B w wr2 := hbwq2.trans (kb'.mono (by omega))
  have ball := hbpq2.trans (kb'.mono (by omega))
  have ka2 := (ball.block A (by omega)).trans ka1
  have kb2 := (ball.block (A + 1) (by omega)).trans kb1
  have kd1_2 := (ball.block D1 (by omega)).trans kd1_1
  rw [hDn] at kn kzn hsq2 ⊢
  have kd2_2 := kn
  have hsr2 : wr2.heap.size = D2 + 1 := kzn
  clear hwn hDn kb' kn kzn ball
  obtain ⟨⟨u3_0, u3_1, u3_2, u3_3, u3_4, u3_5, u3_6, u3_7, u3_8, u3_9, u3_10⟩, fu3⟩ := cells11 kb2
  go_wp2_with fail
  refine (hShow 4 [] 0 n0 n1 n2 n3 n4 n5 n6 n7 y _ htr2 (by decide) (by decide) hv HY).mono ?_
  rintro e wp3 ⟨rfl, hbp3⟩
  have hsp3 := hbp3.size
  have htp3 := htr2.below hbp3
  have hbwp3 : Below B w wp3 := hbwr2.trans (hbp3.mono (by omega))
  clear u3_0 u3_1 u3_2 u3_3 u3_4 u3_5 u3_6 u3_7 u3_8 u3_9 u3_10 fu3
  go_wp2_with fail
  refine (hParse y false (some (.eight [n0, n1, n2, n3, n4, n5, n6, n7])) _ htp3 (by omega) (HPY.out false)).mono ?_
  rintro e wq3 ⟨rfl, hbq3⟩
  have hsq3 := hbq3.size
  have htq3 := htp3.below hbq3
  have hbwq3 : Below B w wq3 := hbwp3.trans (hbq3.mono (by omega))
  have hbpq3 := hbp3.trans (hbq3.mono (by omega))
  clear hbp3 hbq3
  unfold hV
  simp only [List.map_cons, List.map_nil]
  have kn : (wq3.alloc (.cells #[.int .u8 4, S [], .int .u32 0, U16 n0, U16 n1, U16 n2, U16 n3, U16 n4, U16 n5, U16 n6, U16 n7] 27)).heap[wq3.heap.size]? = some (.cells #[.int .u8 4, S [], .int .u32 0, U16 n0, U16 n1, U16 n2, U16 n3, U16 n4, U16 n5, U16 n6, U16 n7] 27 (0, 0)) := heap_alloc_last _ _
  have kb' : Below wq3.heap.size wq3 (wq3.alloc (.cells #[.int .u8 4, S [], .int .u32 0, U16 n0, U16 n1, U16 n2, U16 n3, U16 n4, U16 n5, U16 n6, U16 n7] 27)) := (Below.refl _ _).alloc (Nat.le_refl _) _
  have kzn : (wq3.alloc (.cells #[.int .u8 4, S [], .int .u32 0, U16 n0, U16 n1, U16 n2, U16 n3, U16 n4, U16 n5, U16 n6, U16 n7] 27)).heap.size = wq3.heap.size + 1 := by simp
  go_upto_region 9 with (fail)
  obtain ⟨wr3, hwn⟩ : ∃ x, x = wq3.alloc (.cells #[.int .u8 4, S [], .int .u32 0, U16 n0, U16 n1, U16 n2, U16 n3, U16 n4, U16 n5, U16 n6, U16 n7] 27) := ⟨_, rfl⟩
  obtain ⟨D3, hDn⟩ : ∃ x, wq3.heap.size = x := ⟨_, rfl⟩
  rw [← hwn] at kn kb' kzn ⊢
  have htr3 := htq3.below kb'
  have hbwr3 : Below B w wr3 := hbwq3.trans (kb'.mono (by omega))
  have ball := hbpq3.trans (kb'.mono (by omega))
  have ka3 := (ball.block A (by omega)).trans ka2
  have kb3 := (ball.block (A + 1) (by omega)).trans kb2
  have kd1_3 := (ball.block D1 (by omega)).trans kd1_2
  have kd2_3 := (ball.block D2 (by omega)).trans kd2_2
  rw [hDn] at kn kzn hsq3 ⊢
  have kd3_3 := kn
  have hsr3 : wr3.heap.size = D3 + 1 := kzn
  clear hwn hDn kb' kn kzn ball
  obtain ⟨⟨a0, a1, a2, a3, a4, a5, a6, a7, a8, a9, a10⟩, fa⟩ := cells11 ka3
  obtain ⟨⟨b0, b1, b2, b3, b4, b5, b6, b7, b8, b9, b10⟩, fb⟩ := cells11 kb3
  obtain ⟨⟨c0, c1, c2, c3, c4, c5, c6, c7, c8, c9, c10⟩, fc⟩ := cells11 kd1_3
  obtain ⟨⟨d0, d1, d2, d3, d4, d5, d6, d7, d8, d9, d10⟩, fd⟩ := cells11 kd2_3
  obtain ⟨⟨e0, e1, e2, e3, e4, e5, e6, e7, e8, e9, e10⟩, fe⟩ := cells11 kd3_3
  go_wp2_with fail
  go_ret
  exact ⟨rfl, by rw [HB.out]; exact hbwr3⟩
end Go.Proofs.YtahjndignkhmoaaGreatDoor
