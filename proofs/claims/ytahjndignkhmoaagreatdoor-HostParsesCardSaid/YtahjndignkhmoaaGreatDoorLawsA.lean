/- The laws HostBack and HostNumbers, walked. (Printed by genBack.py.) -/
import Derived.Test.YtahjndignkhmoaaGreatDoorWorks
namespace Go.Proofs.YtahjndignkhmoaaGreatDoor
open Go.RowKit

namespace Hostp
theorem parse_shape (s : List UInt8) (sp : Bool) (h : Host) (hp : parse s sp = some h) :
    (∃ u, h = .domain u ∧ u.length ≤ s.length) ∨ (∃ n, h = .four n ∧ 0 ≤ n ∧ n < 4294967296) ∨ (∃ l, h = .eight l ∧ l.length = 8 ∧ ∀ n ∈ l, 0 ≤ n ∧ n < 65536) ∨ (∃ u, h = .opaque_ u ∧ u.length ≤ 3 * s.length) ∨ h = .empty := by
  rw [parse] at hp
  split at hp
  · split at hp
    · rw [Option.map_eq_some_iff] at hp
      obtain ⟨v, hv, rfl⟩ := hp
      exact .inr (.inr (.inl ⟨v, rfl, v6_range _ _ hv⟩))
    · cases hp
  · split at hp
    · split at hp
      · cases hp
      · split at hp
        · injection hp with hp
          exact .inr (.inr (.inr (.inr hp.symm)))
        · injection hp with hp
          exact .inr (.inr (.inr (.inl ⟨_, hp.symm, pEnc_le s⟩)))
    · split at hp
      · cases hp
      · split at hp
        · injection hp with hp
          exact .inl ⟨_, hp.symm, by rw [lower_len]; exact pDec_le _ s (Nat.le_refl _)⟩
        · rw [Option.map_eq_some_iff] at hp
          obtain ⟨n, hn, rfl⟩ := hp
          exact .inr (.inl ⟨n, rfl, v4_range _ _ hn⟩)
theorem show4_len (n : Nat) (hn : n < 4294967296) : (show4 n).length ≤ 15 := by
  have h : ∀ m, m < 256 → (dec3 m).length ≤ 3 := fun m hm => dec3_len ⟨m, hm⟩
  have h0 := h (n / 16777216) (by omega)
  have h1 := h (n / 65536 % 256) (Nat.mod_lt _ (by decide))
  have h2 := h (n / 256 % 256) (Nat.mod_lt _ (by decide))
  have h3 := h (n % 256) (Nat.mod_lt _ (by decide))
  unfold show4
  simp only [List.length_append, List.length_cons]
  omega
end Hostp

set_option maxHeartbeats 8000000 in
set_option maxRecDepth 100000 in
theorem law_back (s : List UInt8) (sp : Bool) (w : World) (hs : s.length ≤ 9223372036854775807) (ht : Tab2 w) :
    Calls Tryz.prog 4 #[S s, .bool sp] w (Fresh (.bool true) w) := by
  obtain ⟨B, hB⟩ : ∃ B, w.heap.size = B := ⟨_, rfl⟩
  have HB := hide hB
  clear hB
  by_cases h8 : 8192 < s.length
  · go_enter Tryz.func4, Tryz.ntmps4
    go_wp2_with fail
    refine (works _ ht).mono ?_
    rintro e w1 ⟨rfl, hb1⟩
    go_wp2_with fail
    go_ret
    exact ⟨rfl, hb1⟩
  · obtain ⟨r, hr⟩ : ∃ r, Hostp.parse s sp = r := ⟨_, rfl⟩
    have HR := hide hr
    have gh := gHost
    have hl : s.length ≤ 8192 := by omega
    clear h8 hs
    go_enter Tryz.func4, Tryz.ntmps4
    go_wp2_with fail
    refine (works _ ht).mono ?_
    rintro e w1 ⟨rfl, hb1⟩
    have hs1 := hb1.size
    rw [HB.out] at hs1
    have ht1 := ht.below hb1
    have hbw1 : Below B w w1 := by rw [← HB.out]; exact hb1
    clear hb1 ht
    go_wp2_with fail
    refine (hParse s sp r _ ht1 (by omega) HR).mono ?_
    rintro e w2 ⟨rfl, hb2⟩
    have hs2 := hb2.size
    have ht2 := ht1.below hb2
    have hbw2 : Below B w w2 := hbw1.trans (hb2.mono (by omega))
    clear hb2 ht1
    cases r with
    | none =>
      have q := eqHost 0 [] 0 0 0 0 0 0 0 0 0
      unfold hV
      clear hr
      go_wp2_with fail
      go_ret
      exact ⟨rfl, by rw [HB.out]; exact hbw2.alloc (by omega) _⟩
    | some h =>
      have hback := Hostp.parse_back s sp h hr
      have hshape := Hostp.parse_shape s sp h hr
      clear hr HR
      rcases hshape with ⟨u, rfl, hul⟩ | ⟨n, rfl, hn0, hn1⟩ | ⟨l, rfl, hl8, hv8⟩ | ⟨u, rfl, hul⟩ | rfl
      ·
        have q := eqHost (1) (u) (0) (0) (0) (0) (0) (0) (0) (0) (0)
        obtain ⟨x, hx⟩ : ∃ x, u = x := ⟨_, rfl⟩
        have hxl : x.length ≤ 30000 := by
          rw [← hx]
          omega
        have hback2 : Hostp.parse x sp = some (.domain u) := by rw [← hx]; exact hback
        have HX : Hid (showH 1 u 0 [0, 0, 0, 0, 0, 0, 0, 0] = x) := by unfold Hid; rw [← hx]; rfl
        have HBACK := hide hback2
        clear hback hback2 hx
        unfold hV
        have kn : (w2.alloc (.cells #[.int .u8 1, S u, .int .u32 0, U16 0, U16 0, U16 0, U16 0, U16 0, U16 0, U16 0, U16 0] 27)).heap[w2.heap.size]? = some (.cells #[.int .u8 1, S u, .int .u32 0, U16 0, U16 0, U16 0, U16 0, U16 0, U16 0, U16 0, U16 0] 27 (0, 0)) := heap_alloc_last _ _
        have kb : Below w2.heap.size w2 (w2.alloc (.cells #[.int .u8 1, S u, .int .u32 0, U16 0, U16 0, U16 0, U16 0, U16 0, U16 0, U16 0, U16 0] 27)) := (Below.refl _ _).alloc (Nat.le_refl _) _
        have kz : (w2.alloc (.cells #[.int .u8 1, S u, .int .u32 0, U16 0, U16 0, U16 0, U16 0, U16 0, U16 0, U16 0, U16 0] 27)).heap.size = w2.heap.size + 1 := by simp
        go_wp2_with fail
        obtain ⟨w3, hw3⟩ : ∃ x, x = w2.alloc (.cells #[.int .u8 1, S u, .int .u32 0, U16 0, U16 0, U16 0, U16 0, U16 0, U16 0, U16 0, U16 0] 27) := ⟨_, rfl⟩
        obtain ⟨A, hA⟩ : ∃ x, w2.heap.size = x := ⟨_, rfl⟩
        rw [← hw3] at kn kb kz ⊢
        have ht3 := ht2.below kb
        have hbw3 : Below B w w3 := hbw2.trans (kb.mono (by omega))
        rw [hA] at kn kz ⊢
        have hA2 : B ≤ A := by omega
        clear hw3 hA kb
        refine (hShow (1) (u) (0) (0) (0) (0) (0) (0) (0) (0) (0) x _ ht3 (by decide) (by decide) (by decide) HX).mono ?_
        rintro e w4 ⟨rfl, hb4⟩
        have k4 := (hb4.block A (by omega)).trans kn
        have hs4 := hb4.size
        have ht4 := ht3.below hb4
        have hbw4 : Below B w w4 := hbw3.trans (hb4.mono (by omega))
        clear kn hb4 ht3
        go_wp2_with fail
        refine (hParse x sp (some (.domain u)) _ ht4 (by omega) HBACK).mono ?_
        rintro e w5 ⟨rfl, hb5⟩
        have k5 := (hb5.block A (by omega)).trans k4
        have hs5 := hb5.size
        have ht5 := ht4.below hb5
        have hbw5 : Below B w w5 := hbw4.trans (hb5.mono (by omega))
        have hlt5 : A < w5.heap.size := by omega
        clear k4 hb5 ht4
        unfold hV
        have kn : (w5.alloc (.cells #[.int .u8 1, S u, .int .u32 0, U16 0, U16 0, U16 0, U16 0, U16 0, U16 0, U16 0, U16 0] 27)).heap[w5.heap.size]? = some (.cells #[.int .u8 1, S u, .int .u32 0, U16 0, U16 0, U16 0, U16 0, U16 0, U16 0, U16 0, U16 0] 27 (0, 0)) := heap_alloc_last _ _
        have kb : Below w5.heap.size w5 (w5.alloc (.cells #[.int .u8 1, S u, .int .u32 0, U16 0, U16 0, U16 0, U16 0, U16 0, U16 0, U16 0, U16 0] 27)) := (Below.refl _ _).alloc (Nat.le_refl _) _
        have kz5 : (w5.alloc (.cells #[.int .u8 1, S u, .int .u32 0, U16 0, U16 0, U16 0, U16 0, U16 0, U16 0, U16 0, U16 0] 27)).heap.size = w5.heap.size + 1 := by simp
        go_upto_region 11 with (fail)
        obtain ⟨w6, hw6⟩ : ∃ x, x = w5.alloc (.cells #[.int .u8 1, S u, .int .u32 0, U16 0, U16 0, U16 0, U16 0, U16 0, U16 0, U16 0, U16 0] 27) := ⟨_, rfl⟩
        obtain ⟨A2, hA2⟩ : ∃ x, w5.heap.size = x := ⟨_, rfl⟩
        rw [← hw6] at kn kb kz5 ⊢
        have ht6 := ht5.below kb
        have hbw6 : Below B w w6 := hbw5.trans (kb.mono (by omega))
        have k6 := (kb.block A (by omega)).trans k5
        rw [hA2] at kn kz5 hlt5 ⊢
        clear hw6 hA2 kb k5
        obtain ⟨⟨a0, a1, a2, a3, a4, a5, a6, a7, a8, a9, a10⟩, fa⟩ := cells11 k6
        obtain ⟨⟨b0, b1, b2, b3, b4, b5, b6, b7, b8, b9, b10⟩, fb⟩ := cells11 kn
        go_wp2_with fail
        refine (hShow (1) (u) (0) (0) (0) (0) (0) (0) (0) (0) (0) x _ ht6 (by decide) (by decide) (by decide) HX).mono ?_
        rintro e w7 ⟨rfl, hb7⟩
        have hbw7 : Below B w w7 := hbw6.trans (hb7.mono (by omega))
        go_wp2_with fail
        go_ret
        exact ⟨rfl, by rw [HB.out]; exact hbw7⟩
      ·
        have q := eqHost (3) ([]) (n) (0) (0) (0) (0) (0) (0) (0) (0)
        obtain ⟨x, hx⟩ : ∃ x, Hostp.show4 n.toNat = x := ⟨_, rfl⟩
        have hxl : x.length ≤ 30000 := by
          rw [← hx]
          have := Hostp.show4_len n.toNat (by omega); omega
        have hback2 : Hostp.parse x sp = some (.four n) := by rw [← hx]; exact hback
        have HX : Hid (showH 3 [] n [0, 0, 0, 0, 0, 0, 0, 0] = x) := by unfold Hid; rw [← hx]; rfl
        have HBACK := hide hback2
        clear hback hback2 hx
        unfold hV
        have kn : (w2.alloc (.cells #[.int .u8 3, S [], .int .u32 n, U16 0, U16 0, U16 0, U16 0, U16 0, U16 0, U16 0, U16 0] 27)).heap[w2.heap.size]? = some (.cells #[.int .u8 3, S [], .int .u32 n, U16 0, U16 0, U16 0, U16 0, U16 0, U16 0, U16 0, U16 0] 27 (0, 0)) := heap_alloc_last _ _
        have kb : Below w2.heap.size w2 (w2.alloc (.cells #[.int .u8 3, S [], .int .u32 n, U16 0, U16 0, U16 0, U16 0, U16 0, U16 0, U16 0, U16 0] 27)) := (Below.refl _ _).alloc (Nat.le_refl _) _
        have kz : (w2.alloc (.cells #[.int .u8 3, S [], .int .u32 n, U16 0, U16 0, U16 0, U16 0, U16 0, U16 0, U16 0, U16 0] 27)).heap.size = w2.heap.size + 1 := by simp
        go_wp2_with fail
        obtain ⟨w3, hw3⟩ : ∃ x, x = w2.alloc (.cells #[.int .u8 3, S [], .int .u32 n, U16 0, U16 0, U16 0, U16 0, U16 0, U16 0, U16 0, U16 0] 27) := ⟨_, rfl⟩
        obtain ⟨A, hA⟩ : ∃ x, w2.heap.size = x := ⟨_, rfl⟩
        rw [← hw3] at kn kb kz ⊢
        have ht3 := ht2.below kb
        have hbw3 : Below B w w3 := hbw2.trans (kb.mono (by omega))
        rw [hA] at kn kz ⊢
        have hA2 : B ≤ A := by omega
        clear hw3 hA kb
        refine (hShow (3) ([]) (n) (0) (0) (0) (0) (0) (0) (0) (0) x _ ht3 hn0 hn1 (by decide) HX).mono ?_
        rintro e w4 ⟨rfl, hb4⟩
        have k4 := (hb4.block A (by omega)).trans kn
        have hs4 := hb4.size
        have ht4 := ht3.below hb4
        have hbw4 : Below B w w4 := hbw3.trans (hb4.mono (by omega))
        clear kn hb4 ht3
        go_wp2_with fail
        refine (hParse x sp (some (.four n)) _ ht4 (by omega) HBACK).mono ?_
        rintro e w5 ⟨rfl, hb5⟩
        have k5 := (hb5.block A (by omega)).trans k4
        have hs5 := hb5.size
        have ht5 := ht4.below hb5
        have hbw5 : Below B w w5 := hbw4.trans (hb5.mono (by omega))
        have hlt5 : A < w5.heap.size := by omega
        clear k4 hb5 ht4
        unfold hV
        have kn : (w5.alloc (.cells #[.int .u8 3, S [], .int .u32 n, U16 0, U16 0, U16 0, U16 0, U16 0, U16 0, U16 0, U16 0] 27)).heap[w5.heap.size]? = some (.cells #[.int .u8 3, S [], .int .u32 n, U16 0, U16 0, U16 0, U16 0, U16 0, U16 0, U16 0, U16 0] 27 (0, 0)) := heap_alloc_last _ _
        have kb : Below w5.heap.size w5 (w5.alloc (.cells #[.int .u8 3, S [], .int .u32 n, U16 0, U16 0, U16 0, U16 0, U16 0, U16 0, U16 0, U16 0] 27)) := (Below.refl _ _).alloc (Nat.le_refl _) _
        have kz5 : (w5.alloc (.cells #[.int .u8 3, S [], .int .u32 n, U16 0, U16 0, U16 0, U16 0, U16 0, U16 0, U16 0, U16 0] 27)).heap.size = w5.heap.size + 1 := by simp
        go_upto_region 11 with (fail)
        obtain ⟨w6, hw6⟩ : ∃ x, x = w5.alloc (.cells #[.int .u8 3, S [], .int .u32 n, U16 0, U16 0, U16 0, U16 0, U16 0, U16 0, U16 0, U16 0] 27) := ⟨_, rfl⟩
        obtain ⟨A2, hA2⟩ : ∃ x, w5.heap.size = x := ⟨_, rfl⟩
        rw [← hw6] at kn kb kz5 ⊢
        have ht6 := ht5.below kb
        have hbw6 : Below B w w6 := hbw5.trans (kb.mono (by omega))
        have k6 := (kb.block A (by omega)).trans k5
        rw [hA2] at kn kz5 hlt5 ⊢
        clear hw6 hA2 kb k5
        obtain ⟨⟨a0, a1, a2, a3, a4, a5, a6, a7, a8, a9, a10⟩, fa⟩ := cells11 k6
        obtain ⟨⟨b0, b1, b2, b3, b4, b5, b6, b7, b8, b9, b10⟩, fb⟩ := cells11 kn
        go_wp2_with fail
        refine (hShow (3) ([]) (n) (0) (0) (0) (0) (0) (0) (0) (0) x _ ht6 hn0 hn1 (by decide) HX).mono ?_
        rintro e w7 ⟨rfl, hb7⟩
        have hbw7 : Below B w w7 := hbw6.trans (hb7.mono (by omega))
        go_wp2_with fail
        go_ret
        exact ⟨rfl, by rw [HB.out]; exact hbw7⟩
      ·
        obtain ⟨n0, n1, n2, n3, n4, n5, n6, n7, rfl⟩ := list8 hl8
        have q := eqHost (4) ([]) (0) (n0) (n1) (n2) (n3) (n4) (n5) (n6) (n7)
        obtain ⟨x, hx⟩ : ∃ x, 91 :: (Hostp.show6 [n0, n1, n2, n3, n4, n5, n6, n7] ++ [93]) = x := ⟨_, rfl⟩
        have hxl : x.length ≤ 30000 := by
          rw [← hx]
          have := show6_len _ hl8 hv8; simp only [List.length_cons, List.length_append, List.length_nil]; omega
        have hback2 : Hostp.parse x sp = some (.eight [n0, n1, n2, n3, n4, n5, n6, n7]) := by rw [← hx]; exact hback
        have HX : Hid (showH 4 [] 0 [n0, n1, n2, n3, n4, n5, n6, n7] = x) := by unfold Hid; rw [← hx]; rfl
        have HBACK := hide hback2
        clear hback hback2 hx
        unfold hV
        simp only [List.map_cons, List.map_nil]
        have kn : (w2.alloc (.cells #[.int .u8 4, S [], .int .u32 0, U16 n0, U16 n1, U16 n2, U16 n3, U16 n4, U16 n5, U16 n6, U16 n7] 27)).heap[w2.heap.size]? = some (.cells #[.int .u8 4, S [], .int .u32 0, U16 n0, U16 n1, U16 n2, U16 n3, U16 n4, U16 n5, U16 n6, U16 n7] 27 (0, 0)) := heap_alloc_last _ _
        have kb : Below w2.heap.size w2 (w2.alloc (.cells #[.int .u8 4, S [], .int .u32 0, U16 n0, U16 n1, U16 n2, U16 n3, U16 n4, U16 n5, U16 n6, U16 n7] 27)) := (Below.refl _ _).alloc (Nat.le_refl _) _
        have kz : (w2.alloc (.cells #[.int .u8 4, S [], .int .u32 0, U16 n0, U16 n1, U16 n2, U16 n3, U16 n4, U16 n5, U16 n6, U16 n7] 27)).heap.size = w2.heap.size + 1 := by simp
        go_wp2_with fail
        obtain ⟨w3, hw3⟩ : ∃ x, x = w2.alloc (.cells #[.int .u8 4, S [], .int .u32 0, U16 n0, U16 n1, U16 n2, U16 n3, U16 n4, U16 n5, U16 n6, U16 n7] 27) := ⟨_, rfl⟩
        obtain ⟨A, hA⟩ : ∃ x, w2.heap.size = x := ⟨_, rfl⟩
        rw [← hw3] at kn kb kz ⊢
        have ht3 := ht2.below kb
        have hbw3 : Below B w w3 := hbw2.trans (kb.mono (by omega))
        rw [hA] at kn kz ⊢
        have hA2 : B ≤ A := by omega
        clear hw3 hA kb
        refine (hShow (4) ([]) (0) (n0) (n1) (n2) (n3) (n4) (n5) (n6) (n7) x _ ht3 (by decide) (by decide) hv8 HX).mono ?_
        rintro e w4 ⟨rfl, hb4⟩
        have k4 := (hb4.block A (by omega)).trans kn
        have hs4 := hb4.size
        have ht4 := ht3.below hb4
        have hbw4 : Below B w w4 := hbw3.trans (hb4.mono (by omega))
        clear kn hb4 ht3
        go_wp2_with fail
        refine (hParse x sp (some (.eight [n0, n1, n2, n3, n4, n5, n6, n7])) _ ht4 (by omega) HBACK).mono ?_
        rintro e w5 ⟨rfl, hb5⟩
        have k5 := (hb5.block A (by omega)).trans k4
        have hs5 := hb5.size
        have ht5 := ht4.below hb5
        have hbw5 : Below B w w5 := hbw4.trans (hb5.mono (by omega))
        have hlt5 : A < w5.heap.size := by omega
        clear k4 hb5 ht4
        unfold hV
        simp only [List.map_cons, List.map_nil]
        have kn : (w5.alloc (.cells #[.int .u8 4, S [], .int .u32 0, U16 n0, U16 n1, U16 n2, U16 n3, U16 n4, U16 n5, U16 n6, U16 n7] 27)).heap[w5.heap.size]? = some (.cells #[.int .u8 4, S [], .int .u32 0, U16 n0, U16 n1, U16 n2, U16 n3, U16 n4, U16 n5, U16 n6, U16 n7] 27 (0, 0)) := heap_alloc_last _ _
        have kb : Below w5.heap.size w5 (w5.alloc (.cells #[.int .u8 4, S [], .int .u32 0, U16 n0, U16 n1, U16 n2, U16 n3, U16 n4, U16 n5, U16 n6, U16 n7] 27)) := (Below.refl _ _).alloc (Nat.le_refl _) _
        have kz5 : (w5.alloc (.cells #[.int .u8 4, S [], .int .u32 0, U16 n0, U16 n1, U16 n2, U16 n3, U16 n4, U16 n5, U16 n6, U16 n7] 27)).heap.size = w5.heap.size + 1 := by simp
        go_upto_region 11 with (fail)
        obtain ⟨w6, hw6⟩ : ∃ x, x = w5.alloc (.cells #[.int .u8 4, S [], .int .u32 0, U16 n0, U16 n1, U16 n2, U16 n3, U16 n4, U16 n5, U16 n6, U16 n7] 27) := ⟨_, rfl⟩
        obtain ⟨A2, hA2⟩ : ∃ x, w5.heap.size = x := ⟨_, rfl⟩
        rw [← hw6] at kn kb kz5 ⊢
        have ht6 := ht5.below kb
        have hbw6 : Below B w w6 := hbw5.trans (kb.mono (by omega))
        have k6 := (kb.block A (by omega)).trans k5
        rw [hA2] at kn kz5 hlt5 ⊢
        clear hw6 hA2 kb k5
        obtain ⟨⟨a0, a1, a2, a3, a4, a5, a6, a7, a8, a9, a10⟩, fa⟩ := cells11 k6
        obtain ⟨⟨b0, b1, b2, b3, b4, b5, b6, b7, b8, b9, b10⟩, fb⟩ := cells11 kn
        go_wp2_with fail
        refine (hShow (4) ([]) (0) (n0) (n1) (n2) (n3) (n4) (n5) (n6) (n7) x _ ht6 (by decide) (by decide) hv8 HX).mono ?_
        rintro e w7 ⟨rfl, hb7⟩
        have hbw7 : Below B w w7 := hbw6.trans (hb7.mono (by omega))
        go_wp2_with fail
        go_ret
        exact ⟨rfl, by rw [HB.out]; exact hbw7⟩
      ·
        have q := eqHost (2) (u) (0) (0) (0) (0) (0) (0) (0) (0) (0)
        obtain ⟨x, hx⟩ : ∃ x, u = x := ⟨_, rfl⟩
        have hxl : x.length ≤ 30000 := by
          rw [← hx]
          omega
        have hback2 : Hostp.parse x sp = some (.opaque_ u) := by rw [← hx]; exact hback
        have HX : Hid (showH 2 u 0 [0, 0, 0, 0, 0, 0, 0, 0] = x) := by unfold Hid; rw [← hx]; rfl
        have HBACK := hide hback2
        clear hback hback2 hx
        unfold hV
        have kn : (w2.alloc (.cells #[.int .u8 2, S u, .int .u32 0, U16 0, U16 0, U16 0, U16 0, U16 0, U16 0, U16 0, U16 0] 27)).heap[w2.heap.size]? = some (.cells #[.int .u8 2, S u, .int .u32 0, U16 0, U16 0, U16 0, U16 0, U16 0, U16 0, U16 0, U16 0] 27 (0, 0)) := heap_alloc_last _ _
        have kb : Below w2.heap.size w2 (w2.alloc (.cells #[.int .u8 2, S u, .int .u32 0, U16 0, U16 0, U16 0, U16 0, U16 0, U16 0, U16 0, U16 0] 27)) := (Below.refl _ _).alloc (Nat.le_refl _) _
        have kz : (w2.alloc (.cells #[.int .u8 2, S u, .int .u32 0, U16 0, U16 0, U16 0, U16 0, U16 0, U16 0, U16 0, U16 0] 27)).heap.size = w2.heap.size + 1 := by simp
        go_wp2_with fail
        obtain ⟨w3, hw3⟩ : ∃ x, x = w2.alloc (.cells #[.int .u8 2, S u, .int .u32 0, U16 0, U16 0, U16 0, U16 0, U16 0, U16 0, U16 0, U16 0] 27) := ⟨_, rfl⟩
        obtain ⟨A, hA⟩ : ∃ x, w2.heap.size = x := ⟨_, rfl⟩
        rw [← hw3] at kn kb kz ⊢
        have ht3 := ht2.below kb
        have hbw3 : Below B w w3 := hbw2.trans (kb.mono (by omega))
        rw [hA] at kn kz ⊢
        have hA2 : B ≤ A := by omega
        clear hw3 hA kb
        refine (hShow (2) (u) (0) (0) (0) (0) (0) (0) (0) (0) (0) x _ ht3 (by decide) (by decide) (by decide) HX).mono ?_
        rintro e w4 ⟨rfl, hb4⟩
        have k4 := (hb4.block A (by omega)).trans kn
        have hs4 := hb4.size
        have ht4 := ht3.below hb4
        have hbw4 : Below B w w4 := hbw3.trans (hb4.mono (by omega))
        clear kn hb4 ht3
        go_wp2_with fail
        refine (hParse x sp (some (.opaque_ u)) _ ht4 (by omega) HBACK).mono ?_
        rintro e w5 ⟨rfl, hb5⟩
        have k5 := (hb5.block A (by omega)).trans k4
        have hs5 := hb5.size
        have ht5 := ht4.below hb5
        have hbw5 : Below B w w5 := hbw4.trans (hb5.mono (by omega))
        have hlt5 : A < w5.heap.size := by omega
        clear k4 hb5 ht4
        unfold hV
        have kn : (w5.alloc (.cells #[.int .u8 2, S u, .int .u32 0, U16 0, U16 0, U16 0, U16 0, U16 0, U16 0, U16 0, U16 0] 27)).heap[w5.heap.size]? = some (.cells #[.int .u8 2, S u, .int .u32 0, U16 0, U16 0, U16 0, U16 0, U16 0, U16 0, U16 0, U16 0] 27 (0, 0)) := heap_alloc_last _ _
        have kb : Below w5.heap.size w5 (w5.alloc (.cells #[.int .u8 2, S u, .int .u32 0, U16 0, U16 0, U16 0, U16 0, U16 0, U16 0, U16 0, U16 0] 27)) := (Below.refl _ _).alloc (Nat.le_refl _) _
        have kz5 : (w5.alloc (.cells #[.int .u8 2, S u, .int .u32 0, U16 0, U16 0, U16 0, U16 0, U16 0, U16 0, U16 0, U16 0] 27)).heap.size = w5.heap.size + 1 := by simp
        go_upto_region 11 with (fail)
        obtain ⟨w6, hw6⟩ : ∃ x, x = w5.alloc (.cells #[.int .u8 2, S u, .int .u32 0, U16 0, U16 0, U16 0, U16 0, U16 0, U16 0, U16 0, U16 0] 27) := ⟨_, rfl⟩
        obtain ⟨A2, hA2⟩ : ∃ x, w5.heap.size = x := ⟨_, rfl⟩
        rw [← hw6] at kn kb kz5 ⊢
        have ht6 := ht5.below kb
        have hbw6 : Below B w w6 := hbw5.trans (kb.mono (by omega))
        have k6 := (kb.block A (by omega)).trans k5
        rw [hA2] at kn kz5 hlt5 ⊢
        clear hw6 hA2 kb k5
        obtain ⟨⟨a0, a1, a2, a3, a4, a5, a6, a7, a8, a9, a10⟩, fa⟩ := cells11 k6
        obtain ⟨⟨b0, b1, b2, b3, b4, b5, b6, b7, b8, b9, b10⟩, fb⟩ := cells11 kn
        go_wp2_with fail
        refine (hShow (2) (u) (0) (0) (0) (0) (0) (0) (0) (0) (0) x _ ht6 (by decide) (by decide) (by decide) HX).mono ?_
        rintro e w7 ⟨rfl, hb7⟩
        have hbw7 : Below B w w7 := hbw6.trans (hb7.mono (by omega))
        go_wp2_with fail
        go_ret
        exact ⟨rfl, by rw [HB.out]; exact hbw7⟩
      ·
        have q := eqHost (5) ([]) (0) (0) (0) (0) (0) (0) (0) (0) (0)
        obtain ⟨x, hx⟩ : ∃ x, ([] : List UInt8) = x := ⟨_, rfl⟩
        have hxl : x.length ≤ 30000 := by
          rw [← hx]
          decide
        have hback2 : Hostp.parse x sp = some .empty := by rw [← hx]; exact hback
        have HX : Hid (showH 5 [] 0 [0, 0, 0, 0, 0, 0, 0, 0] = x) := by unfold Hid; rw [← hx]; rfl
        have HBACK := hide hback2
        clear hback hback2 hx
        unfold hV
        have kn : (w2.alloc (.cells #[.int .u8 5, S [], .int .u32 0, U16 0, U16 0, U16 0, U16 0, U16 0, U16 0, U16 0, U16 0] 27)).heap[w2.heap.size]? = some (.cells #[.int .u8 5, S [], .int .u32 0, U16 0, U16 0, U16 0, U16 0, U16 0, U16 0, U16 0, U16 0] 27 (0, 0)) := heap_alloc_last _ _
        have kb : Below w2.heap.size w2 (w2.alloc (.cells #[.int .u8 5, S [], .int .u32 0, U16 0, U16 0, U16 0, U16 0, U16 0, U16 0, U16 0, U16 0] 27)) := (Below.refl _ _).alloc (Nat.le_refl _) _
        have kz : (w2.alloc (.cells #[.int .u8 5, S [], .int .u32 0, U16 0, U16 0, U16 0, U16 0, U16 0, U16 0, U16 0, U16 0] 27)).heap.size = w2.heap.size + 1 := by simp
        go_wp2_with fail
        obtain ⟨w3, hw3⟩ : ∃ x, x = w2.alloc (.cells #[.int .u8 5, S [], .int .u32 0, U16 0, U16 0, U16 0, U16 0, U16 0, U16 0, U16 0, U16 0] 27) := ⟨_, rfl⟩
        obtain ⟨A, hA⟩ : ∃ x, w2.heap.size = x := ⟨_, rfl⟩
        rw [← hw3] at kn kb kz ⊢
        have ht3 := ht2.below kb
        have hbw3 : Below B w w3 := hbw2.trans (kb.mono (by omega))
        rw [hA] at kn kz ⊢
        have hA2 : B ≤ A := by omega
        clear hw3 hA kb
        refine (hShow (5) ([]) (0) (0) (0) (0) (0) (0) (0) (0) (0) x _ ht3 (by decide) (by decide) (by decide) HX).mono ?_
        rintro e w4 ⟨rfl, hb4⟩
        have k4 := (hb4.block A (by omega)).trans kn
        have hs4 := hb4.size
        have ht4 := ht3.below hb4
        have hbw4 : Below B w w4 := hbw3.trans (hb4.mono (by omega))
        clear kn hb4 ht3
        go_wp2_with fail
        refine (hParse x sp (some .empty) _ ht4 (by omega) HBACK).mono ?_
        rintro e w5 ⟨rfl, hb5⟩
        have k5 := (hb5.block A (by omega)).trans k4
        have hs5 := hb5.size
        have ht5 := ht4.below hb5
        have hbw5 : Below B w w5 := hbw4.trans (hb5.mono (by omega))
        have hlt5 : A < w5.heap.size := by omega
        clear k4 hb5 ht4
        unfold hV
        have kn : (w5.alloc (.cells #[.int .u8 5, S [], .int .u32 0, U16 0, U16 0, U16 0, U16 0, U16 0, U16 0, U16 0, U16 0] 27)).heap[w5.heap.size]? = some (.cells #[.int .u8 5, S [], .int .u32 0, U16 0, U16 0, U16 0, U16 0, U16 0, U16 0, U16 0, U16 0] 27 (0, 0)) := heap_alloc_last _ _
        have kb : Below w5.heap.size w5 (w5.alloc (.cells #[.int .u8 5, S [], .int .u32 0, U16 0, U16 0, U16 0, U16 0, U16 0, U16 0, U16 0, U16 0] 27)) := (Below.refl _ _).alloc (Nat.le_refl _) _
        have kz5 : (w5.alloc (.cells #[.int .u8 5, S [], .int .u32 0, U16 0, U16 0, U16 0, U16 0, U16 0, U16 0, U16 0, U16 0] 27)).heap.size = w5.heap.size + 1 := by simp
        go_upto_region 11 with (fail)
        obtain ⟨w6, hw6⟩ : ∃ x, x = w5.alloc (.cells #[.int .u8 5, S [], .int .u32 0, U16 0, U16 0, U16 0, U16 0, U16 0, U16 0, U16 0, U16 0] 27) := ⟨_, rfl⟩
        obtain ⟨A2, hA2⟩ : ∃ x, w5.heap.size = x := ⟨_, rfl⟩
        rw [← hw6] at kn kb kz5 ⊢
        have ht6 := ht5.below kb
        have hbw6 : Below B w w6 := hbw5.trans (kb.mono (by omega))
        have k6 := (kb.block A (by omega)).trans k5
        rw [hA2] at kn kz5 hlt5 ⊢
        clear hw6 hA2 kb k5
        obtain ⟨⟨a0, a1, a2, a3, a4, a5, a6, a7, a8, a9, a10⟩, fa⟩ := cells11 k6
        obtain ⟨⟨b0, b1, b2, b3, b4, b5, b6, b7, b8, b9, b10⟩, fb⟩ := cells11 kn
        go_wp2_with fail
        refine (hShow (5) ([]) (0) (0) (0) (0) (0) (0) (0) (0) (0) x _ ht6 (by decide) (by decide) (by decide) HX).mono ?_
        rintro e w7 ⟨rfl, hb7⟩
        have hbw7 : Below B w w7 := hbw6.trans (hb7.mono (by omega))
        go_wp2_with fail
        go_ret
        exact ⟨rfl, by rw [HB.out]; exact hbw7⟩
end Go.Proofs.YtahjndignkhmoaaGreatDoor
