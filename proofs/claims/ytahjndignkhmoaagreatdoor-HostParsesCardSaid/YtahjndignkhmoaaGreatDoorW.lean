/- A host, written. -/
import Derived.Test.YtahjndignkhmoaaGreatDoorV
namespace Go.Proofs.YtahjndignkhmoaaGreatDoor
open Go.RowKit

/-- a host of any kind, written -/
def showH (k : Int) (s : List UInt8) (n : Int) (v : List Int) : List UInt8 :=
  if k = 1 ∨ k = 2 then s else if k = 3 then Hostp.show4 n.toNat else if k = 4 then 91 :: (Hostp.show6 v ++ [93]) else []
def ws4 (n : Nat) : List (List UInt8) := [Hostp.dec3 (n / 16777216), Hostp.dec3 (n / 65536 % 256), Hostp.dec3 (n / 256 % 256), Hostp.dec3 (n % 256)]
theorem ws4_join (n : Nat) : Hostp.joinW 46 (ws4 n) = Hostp.show4 n := rfl
theorem dec3_len : ∀ n : Fin 256, (Hostp.dec3 n.val).length ≤ 3 := by decide +kernel
theorem and255 (n : Nat) (h : n < 4294967296) : bits BinOp.and .u32 (n : Int) 255 = ((n % 256 : Nat) : Int) := by
  have e := u32_and_nat n 255 h (by decide)
  rw [show ((255 : Nat) : Int) = 255 from rfl] at e
  rw [e, show (255 : Nat) = 2 ^ 8 - 1 from rfl, Nat.and_two_pow_sub_one_eq_mod]
theorem show6_len (v : List Int) (hl : v.length = 8) (hv : ∀ n ∈ v, 0 ≤ n ∧ n < 65536) : (Hostp.show6 v).length ≤ 90 := by
  unfold Hostp.show6
  have hw : ∀ l : List Int, (∀ n ∈ l, n ∈ v) → l.length ≤ 8 → (Hostp.joinW 58 (Hostp.words l)).length ≤ 40 := fun l hm hl8 => by
    have := joinW_len 58 4 (Hostp.words l) (fun w hw => by
      obtain ⟨n, hn, rfl⟩ := List.mem_map.1 hw
      have := hv n (hm n hn)
      exact Hostp.repr_len 16 (by decide) 3 n.toNat (by omega))
    have e : (Hostp.words l).length ≤ 8 := by simp [Hostp.words]; omega
    omega
  split
  · have := hw v (fun _ h => h) (by omega); omega
  · have h1 := hw (v.take (Hostp.atOf v)) (fun _ h => List.mem_of_mem_take h) (by simp; omega)
    have h2 := hw (v.drop (Hostp.atOf v + Hostp.mostOf v)) (fun _ h => List.mem_of_mem_drop h) (by simp; omega)
    simp only [List.length_append, List.length_cons]; omega

set_option maxHeartbeats 4000000 in
set_option maxRecDepth 100000 in
theorem hShow (k : Int) (s : List UInt8) (n : Int) (n0 n1 n2 n3 n4 n5 n6 n7 : Int) (u : List UInt8) (w : World) (ht : Tab2 w) (h0 : 0 ≤ n) (h1 : n < 4294967296) (hv : ∀ n ∈ [n0, n1, n2, n3, n4, n5, n6, n7], 0 ≤ n ∧ n < 65536)
    (hu : Hid (showH k s n [n0, n1, n2, n3, n4, n5, n6, n7] = u)) :
    Calls Tryz.prog 14 #[H11 k s n n0 n1 n2 n3 n4 n5 n6 n7] w (Fresh (S u) w) := by
  obtain ⟨i0, hi0, hz0, hz1, hz2⟩ := info_parts info_str
  have hu2 := hu.out
  unfold showH at hu2
  have hnew : (w.alloc (.cells #[.int .u8 k, S s, .int .u32 n, U16 n0, U16 n1, U16 n2, U16 n3, U16 n4, U16 n5, U16 n6, U16 n7] 27)).heap[w.heap.size]? = some (.cells #[.int .u8 k, S s, .int .u32 n, U16 n0, U16 n1, U16 n2, U16 n3, U16 n4, U16 n5, U16 n6, U16 n7] 27 (0, 0)) := heap_alloc_last _ _
  have hnb : Below w.heap.size w (w.alloc (.cells #[.int .u8 k, S s, .int .u32 n, U16 n0, U16 n1, U16 n2, U16 n3, U16 n4, U16 n5, U16 n6, U16 n7] 27)) := (Below.refl _ _).alloc (Nat.le_refl _) _
  by_cases k12 : k = 1 ∨ k = 2
  · rw [if_pos k12] at hu2
    subst hu2
    clear hu
    rcases k12 with rfl | rfl
    all_goals
      go_enter Tryz.func14, Tryz.ntmps14
      go_wp2_with fail
      go_ret
      exact ⟨rfl, hnb⟩
  · rw [if_neg k12] at hu2
    have e1 : (k == 1) = false := beq_eq_false_iff_ne.2 (fun h => k12 (.inl h))
    have e2 : (k == 2) = false := beq_eq_false_iff_ne.2 (fun h => k12 (.inr h))
    clear k12
    by_cases k3 : k = 3
    · rw [if_pos k3] at hu2
      subst k3
      obtain ⟨m, rfl⟩ := Int.eq_ofNat_of_zero_le h0
      have hm : m < 4294967296 := by omega
      rw [Int.toNat_natCast] at hu2
      have HU := hide hu2
      clear hu hu2 e1 e2 h0 h1
      obtain ⟨w1, hw1⟩ : ∃ x, x = w.alloc (.cells #[.int .u8 3, S s, .int .u32 m, U16 n0, U16 n1, U16 n2, U16 n3, U16 n4, U16 n5, U16 n6, U16 n7] 27) := ⟨_, rfl⟩
      have HW1 := hide hw1
      rw [← hw1] at hnew hnb
      clear hw1
      go_enter Tryz.func14, Tryz.ntmps14
      go_wp2_with fail
      rw [← HW1.out]
      obtain ⟨B, hB⟩ : ∃ B, w.heap.size = B := ⟨_, rfl⟩
      rw [hB] at hnew hnb ⊢
      have HB := hide hB
      have hsz : B < w1.heap.size := heap_lt hnew
      obtain ⟨M, hM⟩ : ∃ M, w1.heap.size = M := ⟨_, rfl⟩
      rw [hM] at hsz
      have HM := hide hM
      have hnil := World.ownsRow_nil w1 M 9 1
      have HNEW := hide hnew
      clear hB hM hnew
      go_loopg [3, 4] 4 (fun g s3 s4 wx => ∃ (i : Nat), i + g = 4 ∧ s4 = .int .i64 (24 - 8 * (i : Int)) ∧ wx.ownsRow M 9 1 s3 i (((ws4 m).take i).map S) ∧ Below M w1 wx)
      case atStart => exact ⟨0, by omega, rfl, hnil, by rw [← HM.out]; exact Below.refl _ _⟩
      case round =>
        obtain ⟨i, hi, rfl, hown, hb⟩ := hrel
        clear hnil
        have hs := hb.size
        have hmw := HM.out
        have hrow : wr.heap[B]? = some (.cells #[.int .u8 3, S s, .int .u32 m, U16 n0, U16 n1, U16 n2, U16 n3, U16 n4, U16 n5, U16 n6, U16 n7] 27 (0, 0)) := (hb.block B (by omega)).trans HNEW.out
        have hc2 : wr.cell? ⟨B, 2, none⟩ = some (.int .u32 m) := by rw [Lib.cell_of_heap hrow]; rfl
        have htr : Tab2 wr := (ht.below (by rw [HB.out]; exact hnb)).below (by rw [HM.out]; exact hb)
        have hlt4 : i = 0 ∨ i = 1 ∨ i = 2 ∨ i = 3 ∨ i = 4 := by omega
        rcases hlt4 with rfl | rfl | rfl | rfl | rfl
        · have ha := and255 (m / 16777216) (by omega)
          have hq : (m / 16777216) % 256 < 256 := Nat.mod_lt _ (by decide)
          have hpush : ((m / 16777216 : Nat) : Int) = (m : Int) / 16777216 := by omega
          rw [hpush] at ha
          obtain ⟨q, hq2⟩ : ∃ q, (m / 16777216) % 256 = q := ⟨_, rfl⟩
          rw [hq2] at ha hq
          have hsn : ((ws4 m).take 1).map S = ((ws4 m).take 0).map S ++ [S (Lib.decDigits q)] := by
            rw [Hostp.decDigits_dec3 q hq, ← hq2]
            rw [Nat.mod_eq_of_lt (show m / 16777216 < 256 by omega)]; rfl
          have HSN := hide hsn
          clear hsn hq2 hpush
          go_wp2_with fail
          refine (sItoa q hq _ htr.tab).mono ?_
          rintro e w3 ⟨rfl, hb3⟩
          have hs3 := hb3.size
          have hown3 := owns_below hown hb3
          have hbw3 : Below M w1 w3 := hb.trans (hb3.mono (by omega))
          clear hown
          go_wp2_with (at_builtin; refine wpList_append_own _ rfl (.tmp 18) (.tmp 26) 42 rfl M 9 i0 (.string .empty) 1 16 Tryz.underlying42 hi0 hz0 hz1 hz2 rfl (by decide) _ _ _ rfl (hown3.alloc _) ⟨w3.heap.size, 0, none⟩ 1 1 [S (Lib.decDigits q)] rfl rfl (cell_one_new _ _ _) (one_s [Lib.decDigits q]) (by unfold maxLen; omega) (by omega) (by simp; omega) ?_)
          intro v' w6 hown6 hgrow _
          have hb6 : Below M w1 w6 := (hbw3.alloc (by omega) _).grown hgrow (by simp; omega) (fun k hk => (hown3.lt k hk).1)
          have hown7 : w6.ownsRow M 9 1 v' 1 (((ws4 m).take 1).map S) := by
            rw [HSN.out]; exact hown6
          clear hgrow hown3 hown6
          go_wp2_with fail
          go_roundg (gk - 1)
          case measure => omega
          case rel => exact ⟨1, by omega, by first | rfl | go_num, hown7, hb6⟩
        · have ha := and255 (m / 65536) (by omega)
          have hq : (m / 65536) % 256 < 256 := Nat.mod_lt _ (by decide)
          have hpush : ((m / 65536 : Nat) : Int) = (m : Int) / 65536 := by omega
          rw [hpush] at ha
          obtain ⟨q, hq2⟩ : ∃ q, (m / 65536) % 256 = q := ⟨_, rfl⟩
          rw [hq2] at ha hq
          have hsn : ((ws4 m).take 2).map S = ((ws4 m).take 1).map S ++ [S (Lib.decDigits q)] := by
            rw [Hostp.decDigits_dec3 q hq, ← hq2]
            rfl
          have HSN := hide hsn
          clear hsn hq2 hpush
          go_wp2_with fail
          refine (sItoa q hq _ htr.tab).mono ?_
          rintro e w3 ⟨rfl, hb3⟩
          have hs3 := hb3.size
          have hown3 := owns_below hown hb3
          have hbw3 : Below M w1 w3 := hb.trans (hb3.mono (by omega))
          clear hown
          go_wp2_with (at_builtin; refine wpList_append_own _ rfl (.tmp 18) (.tmp 26) 42 rfl M 9 i0 (.string .empty) 1 16 Tryz.underlying42 hi0 hz0 hz1 hz2 rfl (by decide) _ _ _ rfl (hown3.alloc _) ⟨w3.heap.size, 0, none⟩ 1 1 [S (Lib.decDigits q)] rfl rfl (cell_one_new _ _ _) (one_s [Lib.decDigits q]) (by unfold maxLen; omega) (by omega) (by simp; omega) ?_)
          intro v' w6 hown6 hgrow _
          have hb6 : Below M w1 w6 := (hbw3.alloc (by omega) _).grown hgrow (by simp; omega) (fun k hk => (hown3.lt k hk).1)
          have hown7 : w6.ownsRow M 9 1 v' 2 (((ws4 m).take 2).map S) := by
            rw [HSN.out]; exact hown6
          clear hgrow hown3 hown6
          go_wp2_with fail
          go_roundg (gk - 1)
          case measure => omega
          case rel => exact ⟨2, by omega, by first | rfl | go_num, hown7, hb6⟩
        · have ha := and255 (m / 256) (by omega)
          have hq : (m / 256) % 256 < 256 := Nat.mod_lt _ (by decide)
          have hpush : ((m / 256 : Nat) : Int) = (m : Int) / 256 := by omega
          rw [hpush] at ha
          obtain ⟨q, hq2⟩ : ∃ q, (m / 256) % 256 = q := ⟨_, rfl⟩
          rw [hq2] at ha hq
          have hsn : ((ws4 m).take 3).map S = ((ws4 m).take 2).map S ++ [S (Lib.decDigits q)] := by
            rw [Hostp.decDigits_dec3 q hq, ← hq2]
            rfl
          have HSN := hide hsn
          clear hsn hq2 hpush
          go_wp2_with fail
          refine (sItoa q hq _ htr.tab).mono ?_
          rintro e w3 ⟨rfl, hb3⟩
          have hs3 := hb3.size
          have hown3 := owns_below hown hb3
          have hbw3 : Below M w1 w3 := hb.trans (hb3.mono (by omega))
          clear hown
          go_wp2_with (at_builtin; refine wpList_append_own _ rfl (.tmp 18) (.tmp 26) 42 rfl M 9 i0 (.string .empty) 1 16 Tryz.underlying42 hi0 hz0 hz1 hz2 rfl (by decide) _ _ _ rfl (hown3.alloc _) ⟨w3.heap.size, 0, none⟩ 1 1 [S (Lib.decDigits q)] rfl rfl (cell_one_new _ _ _) (one_s [Lib.decDigits q]) (by unfold maxLen; omega) (by omega) (by simp; omega) ?_)
          intro v' w6 hown6 hgrow _
          have hb6 : Below M w1 w6 := (hbw3.alloc (by omega) _).grown hgrow (by simp; omega) (fun k hk => (hown3.lt k hk).1)
          have hown7 : w6.ownsRow M 9 1 v' 3 (((ws4 m).take 3).map S) := by
            rw [HSN.out]; exact hown6
          clear hgrow hown3 hown6
          go_wp2_with fail
          go_roundg (gk - 1)
          case measure => omega
          case rel => exact ⟨3, by omega, by first | rfl | go_num, hown7, hb6⟩
        · have ha := and255 (m) (by omega)
          have hq : (m) % 256 < 256 := Nat.mod_lt _ (by decide)
          have hpush : ((m : Nat) : Int) = (m : Int) := by rfl
          rw [hpush] at ha
          obtain ⟨q, hq2⟩ : ∃ q, (m) % 256 = q := ⟨_, rfl⟩
          rw [hq2] at ha hq
          have hsn : ((ws4 m).take 4).map S = ((ws4 m).take 3).map S ++ [S (Lib.decDigits q)] := by
            rw [Hostp.decDigits_dec3 q hq, ← hq2]
            rfl
          have HSN := hide hsn
          clear hsn hq2 hpush
          go_wp2_with fail
          refine (sItoa q hq _ htr.tab).mono ?_
          rintro e w3 ⟨rfl, hb3⟩
          have hs3 := hb3.size
          have hown3 := owns_below hown hb3
          have hbw3 : Below M w1 w3 := hb.trans (hb3.mono (by omega))
          clear hown
          go_wp2_with (at_builtin; refine wpList_append_own _ rfl (.tmp 18) (.tmp 26) 42 rfl M 9 i0 (.string .empty) 1 16 Tryz.underlying42 hi0 hz0 hz1 hz2 rfl (by decide) _ _ _ rfl (hown3.alloc _) ⟨w3.heap.size, 0, none⟩ 1 1 [S (Lib.decDigits q)] rfl rfl (cell_one_new _ _ _) (one_s [Lib.decDigits q]) (by unfold maxLen; omega) (by omega) (by simp; omega) ?_)
          intro v' w6 hown6 hgrow _
          have hb6 : Below M w1 w6 := (hbw3.alloc (by omega) _).grown hgrow (by simp; omega) (fun k hk => (hown3.lt k hk).1)
          have hown7 : w6.ownsRow M 9 1 v' 4 (((ws4 m).take 4).map S) := by
            rw [HSN.out]; exact hown6
          clear hgrow hown3 hown6
          go_wp2_with fail
          go_roundg (gk - 1)
          case measure => omega
          case rel => exact ⟨4, by omega, by first | rfl | go_num, hown7, hb6⟩
        · have hall : (ws4 m).take 4 = ws4 m := rfl
          rw [hall] at hown
          have hlen : (Hostp.joinW 46 (ws4 m)).length ≤ 140737488355328 := by
            have := joinW_len 46 3 (ws4 m) (fun w hw => by
              simp only [ws4, List.mem_cons, List.not_mem_nil, or_false] at hw
              rcases hw with rfl | rfl | rfl | rfl
              · exact dec3_len ⟨_, by omega⟩
              · exact dec3_len ⟨_, Nat.mod_lt _ (by decide)⟩
              · exact dec3_len ⟨_, Nat.mod_lt _ (by decide)⟩
              · exact dec3_len ⟨_, Nat.mod_lt _ (by decide)⟩)
            rw [show (ws4 m).length = 4 from rfl] at this
            omega
          have hj := sJoin M 46 u3 (ws4 m) wr hown (show 4 ≤ 1048576 by decide) hlen
          have HJ := hide hj
          clear hall hown hlen hj
          go_wp2_with fail
          refine HJ.out.mono ?_
          rintro e w3 ⟨rfl, hb3⟩
          go_wp2_with fail
          go_ret
          refine ⟨?_, ?_⟩
          · rw [← HU.out]; rfl
          · rw [HB.out]; exact hnb.trans ((hb.mono (by omega)).trans (hb3.mono (by omega)))
    · rw [if_neg k3] at hu2
      have e3 : (k == 3) = false := beq_eq_false_iff_ne.2 k3
      clear k3
      by_cases k4 : k = 4
      · rw [if_pos k4] at hu2
        subst k4
        obtain ⟨x, hx⟩ : ∃ x, Hostp.show6 [n0, n1, n2, n3, n4, n5, n6, n7] = x := ⟨_, rfl⟩
        have hxl := show6_len [n0, n1, n2, n3, n4, n5, n6, n7] rfl hv
        rw [hx] at hu2 hxl
        have HU := hide hu2
        have HX := hide hx
        clear hu hu2 e1 e2 e3 hx
        have htr : Tab2 (w.alloc (.cells #[.int .u8 4, S s, .int .u32 n, U16 n0, U16 n1, U16 n2, U16 n3, U16 n4, U16 n5, U16 n6, U16 n7] 27)) := ht.below hnb
        have hg1 : ¬ 9223372036854775807 < 1 + x.length := by omega
        have hg2 : ¬ 9223372036854775807 < x.length + 1 := by omega
        have hg3 : ¬ 9223372036854775807 < x.length + 1 + 1 := by omega
        go_enter Tryz.func14, Tryz.ntmps14
        go_wp2_with fail
        refine (hShow6 n0 n1 n2 n3 n4 n5 n6 n7 x _ htr hv HX).mono ?_
        rintro e w3 ⟨rfl, hb3⟩
        go_wp2_with fail
        go_ret
        refine ⟨?_, hnb.trans (hb3.mono (by simp))⟩
        rw [← HU.out]; rfl
      · rw [if_neg k4] at hu2
        subst hu2
        have e4 : (k == 4) = false := beq_eq_false_iff_ne.2 k4
        clear k4 hu
        go_enter Tryz.func14, Tryz.ntmps14
        go_wp2_with fail
        go_ret
        exact ⟨rfl, hnb⟩
end Go.Proofs.YtahjndignkhmoaaGreatDoor
