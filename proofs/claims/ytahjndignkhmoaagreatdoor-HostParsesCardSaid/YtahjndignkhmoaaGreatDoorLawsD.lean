/- The law HostParses, walked. (Printed by genRt.py.) -/
import Derived.Test.YtahjndignkhmoaaGreatDoorRr
import Derived.Test.YtahjndignkhmoaaGreatDoorRs
namespace Go.Proofs.YtahjndignkhmoaaGreatDoor
open Go.RowKit

theorem v4V_shape (r : Option Int) : ∃ a e, v4V r = .tuple #[.int .u32 a, .int .i64 e] := by
  cases r with
  | none => exact ⟨0, 110, rfl⟩
  | some n => exact ⟨n, 0, rfl⟩
theorem v6V_shape (s : List UInt8) (r : Option (List Int)) (h : Hostp.v6 s = r) : ∃ n0 n1 n2 n3 n4 n5 n6 n7 e, v6V r = .tuple #[.agg (U8 n0 n1 n2 n3 n4 n5 n6 n7), .int .i64 e] := by
  cases r with
  | none => exact ⟨0, 0, 0, 0, 0, 0, 0, 0, 110, rfl⟩
  | some l =>
    obtain ⟨n0, n1, n2, n3, n4, n5, n6, n7, rfl⟩ := list8 (Hostp.v6_range s l h).1
    exact ⟨n0, n1, n2, n3, n4, n5, n6, n7, 0, rfl⟩
theorem below_d {W C : World} (hb : Below W.drew.heap.size W.drew C) : Below W.heap.size W C := ((Below.refl W.heap.size W).drew).trans hb
theorem below_two {W A C : World} (h : Below W.heap.size W A) (hb : Below A.heap.size A C) : Below W.heap.size W C := h.trans (hb.mono h.size)

set_option maxHeartbeats 16000000 in
set_option maxRecDepth 100000 in
theorem law_parses (s : List UInt8) (sp : Bool) (k : Int) (u : List UInt8) (n n0 n1 n2 n3 n4 n5 n6 n7 : Int) (w : World) (hs : s.length ≤ 9223372036854775807) (hu : u.length ≤ 9223372036854775807) (hn0 : 0 ≤ n) (hn1 : n < 4294967296) (hv : ∀ n ∈ [n0, n1, n2, n3, n4, n5, n6, n7], 0 ≤ n ∧ n < 65536) (ht : Tab2 w) :
    Calls Tryz.prog 3 #[S s, .bool sp, H11 k u n n0 n1 n2 n3 n4 n5 n6 n7] w (Fresh (.bool true) w) := by
  obtain ⟨K, hK⟩ : ∃ K, w.heap.size = K := ⟨_, rfl⟩
  have HK := hide hK
  have hnn : (w.alloc (.cells #[.int .u8 k, S u, .int .u32 n, U16 n0, U16 n1, U16 n2, U16 n3, U16 n4, U16 n5, U16 n6, U16 n7] 27)).heap[w.heap.size]? = some (.cells #[.int .u8 k, S u, .int .u32 n, U16 n0, U16 n1, U16 n2, U16 n3, U16 n4, U16 n5, U16 n6, U16 n7] 27 (0, 0)) := heap_alloc_last _ _
  have hnb : Below w.heap.size w (w.alloc (.cells #[.int .u8 k, S u, .int .u32 n, U16 n0, U16 n1, U16 n2, U16 n3, U16 n4, U16 n5, U16 n6, U16 n7] 27)) := (Below.refl _ _).alloc (Nat.le_refl _) _
  have hnz : (w.alloc (.cells #[.int .u8 k, S u, .int .u32 n, U16 n0, U16 n1, U16 n2, U16 n3, U16 n4, U16 n5, U16 n6, U16 n7] 27)).heap.size = w.heap.size + 1 := by simp
  have ht0 := ht.below hnb
  clear ht
  go_enter Tryz.func3, Tryz.ntmps3
  go_wp2_with fail
  obtain ⟨w0, hw0⟩ : ∃ x, x = w.alloc (.cells #[.int .u8 k, S u, .int .u32 n, U16 n0, U16 n1, U16 n2, U16 n3, U16 n4, U16 n5, U16 n6, U16 n7] 27) := ⟨_, rfl⟩
  rw [← hw0] at hnz hnb hnn ht0 ⊢
  rw [hK] at hnz hnn hnb
  clear hw0 hK
  refine (works _ ht0).mono ?_
  rintro e w1 ⟨rfl, hb1⟩
  have hs1 := hb1.size
  have ht1 := ht0.below hb1
  have hbw1 : Below K w w1 := hnb.trans (hb1.mono (by omega))
  have kB_1 := (hb1.block K (by omega)).trans hnn
  have hB1 : K < w1.heap.size := by omega
  clear hb1 ht0 hnn hnb hnz hs1
  obtain ⟨⟨c0, c1, c2, c3, c4, c5, c6, c7, c8, c9, c10⟩, hf⟩ := cells11 kB_1
  by_cases h8 : 8192 < s.length
  · go_wp2_with fail
    go_ret
    exact ⟨rfl, by rw [HK.out]; exact hbw1⟩
  · by_cases hu8 : 8192 < u.length
    · have hd : decide (8192 < (u.length : Int)) = true := decide_eq_true (by omega)
      go_wp2_with fail
      go_ret
      exact ⟨rfl, by rw [HK.out]; exact hbw1⟩
    · have hl : s.length ≤ 8192 := by omega
      have hul : u.length ≤ 8192 := by omega
      obtain ⟨r, hr⟩ : ∃ r, Hostp.parse s sp = r := ⟨_, rfl⟩
      obtain ⟨r4, hr4⟩ : ∃ r, Hostp.v4 s = r := ⟨_, rfl⟩
      obtain ⟨r6, hr6⟩ : ∃ r, Hostp.v6 s = r := ⟨_, rfl⟩
      obtain ⟨x, hx⟩ : ∃ x, showH k u n [n0, n1, n2, n3, n4, n5, n6, n7] = x := ⟨_, rfl⟩
      obtain ⟨k1, u1, m1, a0, a1, a2, a3, a4, a5, a6, a7, e', hvr⟩ := hV_shape s sp r hr
      obtain ⟨v4a, v4e, hv4⟩ := v4V_shape r4
      obtain ⟨e0, e1, e2, e3, e4, e5, e6, e7, v6e, hv6⟩ := v6V_shape s r6 hr6
      have HR := hide hr
      have HR4 := hide hr4
      have HR6 := hide hr6
      have HX := hide hx
      have HVR := hide hvr
      have HV4 := hide hv4
      have HV6 := hide hv6
      have hd8 : ¬ 8192 < s.length := by omega
      clear hr hr4 hr6 hx hvr hv4 hv6 h8 hu8 hs hu
      go_wp2_with fail
      clear c0 c1 c2 c3 c4 c5 c6 c7 c8 c9 c10 hf
      refine (hParse s sp r _ ht1 (by omega) HR.out).mono ?_
      rintro e wq ⟨rfl, hbq⟩
      rw [HVR.out]
      have hsq := hbq.size
      have htq := ht1.below hbq
      have hbwq : Below K w wq := hbw1.trans (hbq.mono (by omega))
      have kB_c := (hbq.block K (by omega)).trans kB_1
      clear hbq
      clear ht1 hbw1 kB_1
      have kn : (wq.alloc (.cells #[.int .u8 k1, S u1, .int .u32 m1, U16 a0, U16 a1, U16 a2, U16 a3, U16 a4, U16 a5, U16 a6, U16 a7] 27)).heap[wq.heap.size]? = some (.cells #[.int .u8 k1, S u1, .int .u32 m1, U16 a0, U16 a1, U16 a2, U16 a3, U16 a4, U16 a5, U16 a6, U16 a7] 27 (0, 0)) := heap_alloc_last _ _
      have kb' : Below wq.heap.size wq (wq.alloc (.cells #[.int .u8 k1, S u1, .int .u32 m1, U16 a0, U16 a1, U16 a2, U16 a3, U16 a4, U16 a5, U16 a6, U16 a7] 27)) := (Below.refl _ _).alloc (Nat.le_refl _) _
      have kzn : (wq.alloc (.cells #[.int .u8 k1, S u1, .int .u32 m1, U16 a0, U16 a1, U16 a2, U16 a3, U16 a4, U16 a5, U16 a6, U16 a7] 27)).heap.size = wq.heap.size + 1 := by simp
      go_upto_region 7 with (fail)
      obtain ⟨wr2, hwn⟩ : ∃ x, x = wq.alloc (.cells #[.int .u8 k1, S u1, .int .u32 m1, U16 a0, U16 a1, U16 a2, U16 a3, U16 a4, U16 a5, U16 a6, U16 a7] 27) := ⟨_, rfl⟩
      obtain ⟨D1, hDn⟩ : ∃ x, wq.heap.size = x := ⟨_, rfl⟩
      rw [← hwn] at kn kb' kzn ⊢
      have htr2 := htq.below kb'
      have hbwr2 : Below K w wr2 := hbwq.trans (kb'.mono (by omega))
      have kB_2 := (kb'.block K (by omega)).trans kB_c
      rw [hDn] at kn kzn hsq ⊢
      have kD1_2 := kn
      have hsr2 : wr2.heap.size = D1 + 1 := kzn
      clear hwn hDn kb' kn kzn hbwq htq
      clear kB_c
      go_wp2_with fail
      refine (rParse s sp r _ (by omega) HR).mono ?_
      rintro e wq ⟨rfl, hbq⟩
      rw [HVR.out]
      have hsq := hbq.size
      have htq := htr2.below hbq
      have hbwq : Below K w wq := hbwr2.trans (hbq.mono (by omega))
      have kB_c := (hbq.block K (by omega)).trans kB_2
      have kD1_c := (hbq.block D1 (by omega)).trans kD1_2
      clear hbq
      clear htr2 hbwr2 kB_2 kD1_2
      have kn : (wq.alloc (.cells #[.int .u8 k1, S u1, .int .u32 m1, U16 a0, U16 a1, U16 a2, U16 a3, U16 a4, U16 a5, U16 a6, U16 a7] 27)).heap[wq.heap.size]? = some (.cells #[.int .u8 k1, S u1, .int .u32 m1, U16 a0, U16 a1, U16 a2, U16 a3, U16 a4, U16 a5, U16 a6, U16 a7] 27 (0, 0)) := heap_alloc_last _ _
      have kb' : Below wq.heap.size wq (wq.alloc (.cells #[.int .u8 k1, S u1, .int .u32 m1, U16 a0, U16 a1, U16 a2, U16 a3, U16 a4, U16 a5, U16 a6, U16 a7] 27)) := (Below.refl _ _).alloc (Nat.le_refl _) _
      have kzn : (wq.alloc (.cells #[.int .u8 k1, S u1, .int .u32 m1, U16 a0, U16 a1, U16 a2, U16 a3, U16 a4, U16 a5, U16 a6, U16 a7] 27)).heap.size = wq.heap.size + 1 := by simp
      go_upto_region 8 with (fail)
      obtain ⟨wr3, hwn⟩ : ∃ x, x = wq.alloc (.cells #[.int .u8 k1, S u1, .int .u32 m1, U16 a0, U16 a1, U16 a2, U16 a3, U16 a4, U16 a5, U16 a6, U16 a7] 27) := ⟨_, rfl⟩
      obtain ⟨D2, hDn⟩ : ∃ x, wq.heap.size = x := ⟨_, rfl⟩
      rw [← hwn] at kn kb' kzn ⊢
      have htr3 := htq.below kb'
      have hbwr3 : Below K w wr3 := hbwq.trans (kb'.mono (by omega))
      have kB_3 := (kb'.block K (by omega)).trans kB_c
      have kD1_3 := (kb'.block D1 (by omega)).trans kD1_c
      rw [hDn] at kn kzn hsq ⊢
      have kD2_3 := kn
      have hsr3 : wr3.heap.size = D2 + 1 := kzn
      clear hwn hDn kb' kn kzn hbwq htq
      clear kB_c kD1_c
      go_wp2_with fail
      refine (hV4 s r4 _ htr3.tab (by omega) HR4).mono ?_
      rintro e wq ⟨rfl, hbq⟩
      rw [HV4.out]
      have hsq := hbq.size
      have htq := htr3.below hbq
      have hbwq : Below K w wq := hbwr3.trans (hbq.mono (by omega))
      have kB_c := (hbq.block K (by omega)).trans kB_3
      have kD1_c := (hbq.block D1 (by omega)).trans kD1_3
      have kD2_c := (hbq.block D2 (by omega)).trans kD2_3
      clear hbq
      clear htr3 hbwr3 kB_3 kD1_3 kD2_3
      go_wp2_with fail
      refine (rV4 s r4 _ (by omega) HR4).mono ?_
      rintro e wp ⟨rfl, hbp⟩
      rw [HV4.out]
      have hsp := hbp.size
      have htp := htq.below hbp
      have hbwp : Below K w wp := hbwq.trans (hbp.mono (by omega))
      have kB_4 := (hbp.block K (by omega)).trans kB_c
      have kD1_4 := (hbp.block D1 (by omega)).trans kD1_c
      have kD2_4 := (hbp.block D2 (by omega)).trans kD2_c
      have hD2p : D2 < wp.heap.size := by omega
      have hD1p : D1 < wp.heap.size := by omega
      clear hbp htq hbwq kB_c kD1_c kD2_c hsq
      go_wp2_with fail
      refine (hV6 s r6 _ htp.tab (by omega) HR6).mono ?_
      rintro e wq ⟨rfl, hbq⟩
      rw [HV6.out]
      have hsq := hbq.size
      have htq := htp.below hbq
      have hbwq : Below K w wq := hbwp.trans (hbq.mono (by omega))
      have kB_c := (hbq.block K (by omega)).trans kB_4
      have kD1_c := (hbq.block D1 (by omega)).trans kD1_4
      have kD2_c := (hbq.block D2 (by omega)).trans kD2_4
      clear hbq
      clear htp hbwp kB_4 kD1_4 kD2_4 hsp
      have kn : (wq.alloc (.cells (U8 e0 e1 e2 e3 e4 e5 e6 e7) 25)).heap[wq.heap.size]? = some (.cells (U8 e0 e1 e2 e3 e4 e5 e6 e7) 25 (0, 0)) := heap_alloc_last _ _
      have kb' : Below wq.heap.size wq (wq.alloc (.cells (U8 e0 e1 e2 e3 e4 e5 e6 e7) 25)) := (Below.refl _ _).alloc (Nat.le_refl _) _
      have kzn : (wq.alloc (.cells (U8 e0 e1 e2 e3 e4 e5 e6 e7) 25)).heap.size = wq.heap.size + 1 := by simp
      go_upto_region 11 with (fail)
      obtain ⟨wr5, hwn⟩ : ∃ x, x = wq.alloc (.cells (U8 e0 e1 e2 e3 e4 e5 e6 e7) 25) := ⟨_, rfl⟩
      obtain ⟨E1, hDn⟩ : ∃ x, wq.heap.size = x := ⟨_, rfl⟩
      rw [← hwn] at kn kb' kzn ⊢
      have htr5 := htq.below kb'
      have hbwr5 : Below K w wr5 := hbwq.trans (kb'.mono (by omega))
      have kB_5 := (kb'.block K (by omega)).trans kB_c
      have kD1_5 := (kb'.block D1 (by omega)).trans kD1_c
      have kD2_5 := (kb'.block D2 (by omega)).trans kD2_c
      rw [hDn] at kn kzn hsq ⊢
      have kE1_5 := kn
      have hsr5 : wr5.heap.size = E1 + 1 := kzn
      clear hwn hDn kb' kn kzn hbwq htq
      clear kB_c kD1_c kD2_c
      go_wp2_with fail
      refine (rV6 s r6 _ (by omega) HR6).mono ?_
      rintro e wq ⟨rfl, hbq⟩
      rw [HV6.out]
      have hsq := hbq.size
      have htq := htr5.below hbq
      have hbwq : Below K w wq := hbwr5.trans (hbq.mono (by omega))
      have kB_c := (hbq.block K (by omega)).trans kB_5
      have kD1_c := (hbq.block D1 (by omega)).trans kD1_5
      have kD2_c := (hbq.block D2 (by omega)).trans kD2_5
      have kE1_c := (hbq.block E1 (by omega)).trans kE1_5
      clear hbq
      clear htr5 hbwr5 kB_5 kD1_5 kD2_5 kE1_5
      have kn : (wq.alloc (.cells (U8 e0 e1 e2 e3 e4 e5 e6 e7) 25)).heap[wq.heap.size]? = some (.cells (U8 e0 e1 e2 e3 e4 e5 e6 e7) 25 (0, 0)) := heap_alloc_last _ _
      have kb' : Below wq.heap.size wq (wq.alloc (.cells (U8 e0 e1 e2 e3 e4 e5 e6 e7) 25)) := (Below.refl _ _).alloc (Nat.le_refl _) _
      have kzn : (wq.alloc (.cells (U8 e0 e1 e2 e3 e4 e5 e6 e7) 25)).heap.size = wq.heap.size + 1 := by simp
      go_upto_region 12 with (fail)
      obtain ⟨wr6, hwn⟩ : ∃ x, x = wq.alloc (.cells (U8 e0 e1 e2 e3 e4 e5 e6 e7) 25) := ⟨_, rfl⟩
      obtain ⟨E2, hDn⟩ : ∃ x, wq.heap.size = x := ⟨_, rfl⟩
      rw [← hwn] at kn kb' kzn ⊢
      have htr6 := htq.below kb'
      have hbwr6 : Below K w wr6 := hbwq.trans (kb'.mono (by omega))
      have kB_6 := (kb'.block K (by omega)).trans kB_c
      have kD1_6 := (kb'.block D1 (by omega)).trans kD1_c
      have kD2_6 := (kb'.block D2 (by omega)).trans kD2_c
      have kE1_6 := (kb'.block E1 (by omega)).trans kE1_c
      rw [hDn] at kn kzn hsq ⊢
      have kE2_6 := kn
      have hsr6 : wr6.heap.size = E2 + 1 := kzn
      clear hwn hDn kb' kn kzn hbwq htq
      clear kB_c kD1_c kD2_c kE1_c
      have gh := gHost
      have gv := gV6
      have qx := eqHost k1 u1 m1 a0 a1 a2 a3 a4 a5 a6 a7
      have qv := eqV6 e0 e1 e2 e3 e4 e5 e6 e7
      obtain ⟨wz, hwz⟩ : ∃ x, x = wr6 := ⟨_, rfl⟩
      rw [← hwz] at kB_6 kD1_6 kD2_6 kE1_6 kE2_6 htr6 hbwr6 hsr6 ⊢
      clear hwz
      obtain ⟨⟨t0, t1, t2, t3, t4, t5, t6, t7, t8, t9, t10⟩, ft⟩ := cells11 kD1_6
      obtain ⟨⟨x0, x1, x2, x3, x4, x5, x6, x7, x8, x9, x10⟩, fx⟩ := cells11 kD2_6
      obtain ⟨⟨y0, y1, y2, y3, y4, y5, y6, y7⟩, fy⟩ := cells8' kE1_6
      obtain ⟨⟨z0, z1, z2, z3, z4, z5, z6, z7⟩, fz⟩ := cells8' kE2_6
      obtain ⟨⟨b0, b1, b2, b3, b4, b5, b6, b7, b8, b9, b10⟩, fb⟩ := cells11 kB_6
      have hall : ∀ w' : World, Below wz.heap.size wz w' → (w'.cell? ⟨D1, 0, none⟩ = some (.int .u8 k1) ∧ w'.cell? ⟨D1, 1, none⟩ = some (S u1) ∧ w'.cell? ⟨D1, 2, none⟩ = some (.int .u32 m1) ∧ w'.cell? ⟨D1, 3, none⟩ = some (U16 a0) ∧ w'.cell? ⟨D1, 4, none⟩ = some (U16 a1) ∧ w'.cell? ⟨D1, 5, none⟩ = some (U16 a2) ∧ w'.cell? ⟨D1, 6, none⟩ = some (U16 a3) ∧ w'.cell? ⟨D1, 7, none⟩ = some (U16 a4) ∧ w'.cell? ⟨D1, 8, none⟩ = some (U16 a5) ∧ w'.cell? ⟨D1, 9, none⟩ = some (U16 a6) ∧ w'.cell? ⟨D1, 10, none⟩ = some (U16 a7) ∧ w'.cell? ⟨D2, 0, none⟩ = some (.int .u8 k1) ∧ w'.cell? ⟨D2, 1, none⟩ = some (S u1) ∧ w'.cell? ⟨D2, 2, none⟩ = some (.int .u32 m1) ∧ w'.cell? ⟨D2, 3, none⟩ = some (U16 a0) ∧ w'.cell? ⟨D2, 4, none⟩ = some (U16 a1) ∧ w'.cell? ⟨D2, 5, none⟩ = some (U16 a2) ∧ w'.cell? ⟨D2, 6, none⟩ = some (U16 a3) ∧ w'.cell? ⟨D2, 7, none⟩ = some (U16 a4) ∧ w'.cell? ⟨D2, 8, none⟩ = some (U16 a5) ∧ w'.cell? ⟨D2, 9, none⟩ = some (U16 a6) ∧ w'.cell? ⟨D2, 10, none⟩ = some (U16 a7) ∧ w'.cell? ⟨E1, 0, none⟩ = some (U16 e0) ∧ w'.cell? ⟨E1, 1, none⟩ = some (U16 e1) ∧ w'.cell? ⟨E1, 2, none⟩ = some (U16 e2) ∧ w'.cell? ⟨E1, 3, none⟩ = some (U16 e3) ∧ w'.cell? ⟨E1, 4, none⟩ = some (U16 e4) ∧ w'.cell? ⟨E1, 5, none⟩ = some (U16 e5) ∧ w'.cell? ⟨E1, 6, none⟩ = some (U16 e6) ∧ w'.cell? ⟨E1, 7, none⟩ = some (U16 e7) ∧ w'.cell? ⟨E2, 0, none⟩ = some (U16 e0) ∧ w'.cell? ⟨E2, 1, none⟩ = some (U16 e1) ∧ w'.cell? ⟨E2, 2, none⟩ = some (U16 e2) ∧ w'.cell? ⟨E2, 3, none⟩ = some (U16 e3) ∧ w'.cell? ⟨E2, 4, none⟩ = some (U16 e4) ∧ w'.cell? ⟨E2, 5, none⟩ = some (U16 e5) ∧ w'.cell? ⟨E2, 6, none⟩ = some (U16 e6) ∧ w'.cell? ⟨E2, 7, none⟩ = some (U16 e7) ∧ w'.cell? ⟨K, 0, none⟩ = some (.int .u8 k) ∧ w'.cell? ⟨K, 1, none⟩ = some (S u) ∧ w'.cell? ⟨K, 2, none⟩ = some (.int .u32 n) ∧ w'.cell? ⟨K, 3, none⟩ = some (U16 n0) ∧ w'.cell? ⟨K, 4, none⟩ = some (U16 n1) ∧ w'.cell? ⟨K, 5, none⟩ = some (U16 n2) ∧ w'.cell? ⟨K, 6, none⟩ = some (U16 n3) ∧ w'.cell? ⟨K, 7, none⟩ = some (U16 n4) ∧ w'.cell? ⟨K, 8, none⟩ = some (U16 n5) ∧ w'.cell? ⟨K, 9, none⟩ = some (U16 n6) ∧ w'.cell? ⟨K, 10, none⟩ = some (U16 n7) ∧ Tab2 w' ∧ Below wz.heap.size wz w') := fun w' hb => ⟨cell_below t0 hb, cell_below t1 hb, cell_below t2 hb, cell_below t3 hb, cell_below t4 hb, cell_below t5 hb, cell_below t6 hb, cell_below t7 hb, cell_below t8 hb, cell_below t9 hb, cell_below t10 hb, cell_below x0 hb, cell_below x1 hb, cell_below x2 hb, cell_below x3 hb, cell_below x4 hb, cell_below x5 hb, cell_below x6 hb, cell_below x7 hb, cell_below x8 hb, cell_below x9 hb, cell_below x10 hb, cell_below y0 hb, cell_below y1 hb, cell_below y2 hb, cell_below y3 hb, cell_below y4 hb, cell_below y5 hb, cell_below y6 hb, cell_below y7 hb, cell_below z0 hb, cell_below z1 hb, cell_below z2 hb, cell_below z3 hb, cell_below z4 hb, cell_below z5 hb, cell_below z6 hb, cell_below z7 hb, cell_below b0 hb, cell_below b1 hb, cell_below b2 hb, cell_below b3 hb, cell_below b4 hb, cell_below b5 hb, cell_below b6 hb, cell_below b7 hb, cell_below b8 hb, cell_below b9 hb, cell_below b10 hb, htr6.below hb, hb⟩
      have HALL := hide hall
      clear hall t0 t1 t2 t3 t4 t5 t6 t7 t8 t9 t10 x0 x1 x2 x3 x4 x5 x6 x7 x8 x9 x10 y0 y1 y2 y3 y4 y5 y6 y7 z0 z1 z2 z3 z4 z5 z6 z7 b0 b1 b2 b3 b4 b5 b6 b7 b8 b9 b10 ft fx fy fz fb kD1_6 kD2_6 kE1_6 kE2_6 kB_6
      go_region_held3 (fun w' : World => w'.cell? ⟨D1, 0, none⟩ = some (.int .u8 k1) ∧ w'.cell? ⟨D1, 1, none⟩ = some (S u1) ∧ w'.cell? ⟨D1, 2, none⟩ = some (.int .u32 m1) ∧ w'.cell? ⟨D1, 3, none⟩ = some (U16 a0) ∧ w'.cell? ⟨D1, 4, none⟩ = some (U16 a1) ∧ w'.cell? ⟨D1, 5, none⟩ = some (U16 a2) ∧ w'.cell? ⟨D1, 6, none⟩ = some (U16 a3) ∧ w'.cell? ⟨D1, 7, none⟩ = some (U16 a4) ∧ w'.cell? ⟨D1, 8, none⟩ = some (U16 a5) ∧ w'.cell? ⟨D1, 9, none⟩ = some (U16 a6) ∧ w'.cell? ⟨D1, 10, none⟩ = some (U16 a7) ∧ w'.cell? ⟨D2, 0, none⟩ = some (.int .u8 k1) ∧ w'.cell? ⟨D2, 1, none⟩ = some (S u1) ∧ w'.cell? ⟨D2, 2, none⟩ = some (.int .u32 m1) ∧ w'.cell? ⟨D2, 3, none⟩ = some (U16 a0) ∧ w'.cell? ⟨D2, 4, none⟩ = some (U16 a1) ∧ w'.cell? ⟨D2, 5, none⟩ = some (U16 a2) ∧ w'.cell? ⟨D2, 6, none⟩ = some (U16 a3) ∧ w'.cell? ⟨D2, 7, none⟩ = some (U16 a4) ∧ w'.cell? ⟨D2, 8, none⟩ = some (U16 a5) ∧ w'.cell? ⟨D2, 9, none⟩ = some (U16 a6) ∧ w'.cell? ⟨D2, 10, none⟩ = some (U16 a7) ∧ w'.cell? ⟨E1, 0, none⟩ = some (U16 e0) ∧ w'.cell? ⟨E1, 1, none⟩ = some (U16 e1) ∧ w'.cell? ⟨E1, 2, none⟩ = some (U16 e2) ∧ w'.cell? ⟨E1, 3, none⟩ = some (U16 e3) ∧ w'.cell? ⟨E1, 4, none⟩ = some (U16 e4) ∧ w'.cell? ⟨E1, 5, none⟩ = some (U16 e5) ∧ w'.cell? ⟨E1, 6, none⟩ = some (U16 e6) ∧ w'.cell? ⟨E1, 7, none⟩ = some (U16 e7) ∧ w'.cell? ⟨E2, 0, none⟩ = some (U16 e0) ∧ w'.cell? ⟨E2, 1, none⟩ = some (U16 e1) ∧ w'.cell? ⟨E2, 2, none⟩ = some (U16 e2) ∧ w'.cell? ⟨E2, 3, none⟩ = some (U16 e3) ∧ w'.cell? ⟨E2, 4, none⟩ = some (U16 e4) ∧ w'.cell? ⟨E2, 5, none⟩ = some (U16 e5) ∧ w'.cell? ⟨E2, 6, none⟩ = some (U16 e6) ∧ w'.cell? ⟨E2, 7, none⟩ = some (U16 e7) ∧ w'.cell? ⟨K, 0, none⟩ = some (.int .u8 k) ∧ w'.cell? ⟨K, 1, none⟩ = some (S u) ∧ w'.cell? ⟨K, 2, none⟩ = some (.int .u32 n) ∧ w'.cell? ⟨K, 3, none⟩ = some (U16 n0) ∧ w'.cell? ⟨K, 4, none⟩ = some (U16 n1) ∧ w'.cell? ⟨K, 5, none⟩ = some (U16 n2) ∧ w'.cell? ⟨K, 6, none⟩ = some (U16 n3) ∧ w'.cell? ⟨K, 7, none⟩ = some (U16 n4) ∧ w'.cell? ⟨K, 8, none⟩ = some (U16 n5) ∧ w'.cell? ⟨K, 9, none⟩ = some (U16 n6) ∧ w'.cell? ⟨K, 10, none⟩ = some (U16 n7) ∧ Tab2 w' ∧ Below wz.heap.size wz w') (first | exact HALL.out _ (Below.refl _ _) | exact HALL.out _ (Below.refl _ _).drew | exact HALL.out _ (below_d (by assumption)) | exact HALL.out _ (below_two (below_d (by assumption)) (by assumption))) (first | (go_at_call 14; refine (hShow k u n n0 n1 n2 n3 n4 n5 n6 n7 x _ (by first | exact htr6.below (Below.refl _ _).drew | exact htr6.below (below_d (by assumption))) hn0 hn1 hv HX).mono ?_; rintro e w9 ⟨rfl, hb9⟩) | (go_at_call 15; refine (rShow k u n n0 n1 n2 n3 n4 n5 n6 n7 x _ hn0 hn1 hv HX).mono ?_; rintro e w9 ⟨rfl, hb9⟩))
      all_goals
        go_wp2_with fail
        go_ret
        refine ⟨rfl, ?_⟩
        rw [HK.out]
        exact hbwr6.trans ((below_two (below_d (by assumption)) (by assumption)).mono (by have := hbwr6.size; rw [HK.out] at this; exact this))
end Go.Proofs.YtahjndignkhmoaaGreatDoor
