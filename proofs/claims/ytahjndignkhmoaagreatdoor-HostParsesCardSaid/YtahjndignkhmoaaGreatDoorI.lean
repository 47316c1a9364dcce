/- An address of four numbers, read. -/
import Derived.Test.YtahjndignkhmoaaGreatDoorH
import Derived.Laws.BitsAllLaws
namespace Go.Proofs.YtahjndignkhmoaaGreatDoor
open Go.RowKit

def v4V : Option Int → Value
  | some v => .tuple #[.int .u32 v, .int .i64 0]
  | none => .tuple #[.int .u32 0, .int .i64 110]

theorem or64 (k : Nat) (hk : k ≤ 32) (a b : Int) (h0 : 0 ≤ a) (h1 : a < 4294967296) (hm : a % (2 ^ k : Int) = 0) (hb0 : 0 ≤ b) (hb : b < 2 ^ k) : bits BinOp.or .u64 a b = a + b := by
  obtain ⟨A, rfl⟩ := Int.eq_ofNat_of_zero_le h0
  obtain ⟨B, rfl⟩ := Int.eq_ofNat_of_zero_le hb0
  have hk2 : (2 : Nat) ^ k ≤ 2 ^ 32 := Nat.pow_le_pow_right (by decide) hk
  have hbn : B < 2 ^ k := by exact_mod_cast hb
  have hB : B < 18446744073709551616 := by omega
  rw [u64_or_nat A B (by omega) hB]
  have hm' : A % 2 ^ k = 0 := by exact_mod_cast hm
  obtain ⟨q, hq⟩ := Nat.dvd_of_mod_eq_zero hm'
  have : A ||| B = A + B := by
    rw [hq, Nat.two_pow_add_eq_or_of_lt hbn]
  rw [this]; omega

theorem NumV.no {e : Ending} (h : NumV none e) : ∃ n, e = .returned (.tuple #[.int .u64 n, .bool false]) := by
  obtain ⟨n, ok, rfl, h⟩ := h
  cases ok
  · exact ⟨n, rfl⟩
  · cases h
theorem NumV.yes {e : Ending} {v : Int} (h : NumV (some v) e) : e = .returned (.tuple #[.int .u64 v, .bool true]) := by
  obtain ⟨n, ok, rfl, h⟩ := h
  cases ok
  · cases h
  · rw [if_pos rfl] at h
    injection h with h
    rw [h]

set_option maxHeartbeats 8000000 in
set_option maxRecDepth 100000 in
theorem hV4 (s : List UInt8) (r : Option Int) (w : World) (ht : Tab w) (hl : s.length ≤ 4194304) (hr : Hid (Hostp.v4 s = r)) :
    Calls Tryz.prog 10 #[S s] w fun e w' => e = .returned (v4V r) ∧ Below w.heap.size w w' := by
  obtain ⟨l0, l1⟩ := parts_len s
  obtain ⟨xs, hxs⟩ : ∃ xs, Hostp.parts s = xs := ⟨_, rfl⟩
  have hr2 := hr.out
  unfold Hostp.v4 at hr2
  rw [hxs] at hr2 l0 l1
  have hmem : ∀ t ∈ xs, t.length ≤ s.length := fun t h => parts_mem s t (by rw [hxs]; exact h)
  have HM := hide hmem
  have HXS := hide hxs
  have hnum : ∀ t ∈ xs, ∀ n, Hostp.numberP t = some n → 0 ≤ n := fun t _ n h => by
    unfold Hostp.numberP at h
    split at h
    · cases h
    · rename_i q
      injection h with h
      rw [← h]
      have hb := basedP_base t
      exact Hostp.value_nonneg (by omega) (Bool.not_eq_false _ ▸ fun h => q (.inr (.inl h)))
  have HN := hide hnum
  clear hxs hr hmem hnum
  go_enter Tryz.func10, Tryz.ntmps10
  go_wp2_with fail
  refine (hParts s xs _ ht hl HXS).mono ?_
  rintro e w2 ⟨⟨cap, hcap, rfl⟩, ht2, hb2⟩
  obtain ⟨B, hB⟩ : ∃ B, w.heap.size = B := ⟨_, rfl⟩
  rw [hB] at ht2 hb2 ⊢
  have hs2 : B ≤ w2.heap.size := by rw [← hB]; exact hb2.size
  obtain ⟨L, hL⟩ : ∃ L, xs.length = L := ⟨_, rfl⟩
  rw [hL] at hcap hr2 l0 l1 ⊢
  have htab : Tab w2 := ht.below (by rw [hB]; exact hb2)
  by_cases h4 : 4 < L
  · rw [if_pos h4] at hr2
    subst hr2
    go_wp2_with fail
    refine bodyPost_ret (v := v4V none) (by simp [results, Tryz.results10, go_sem, v4V]) rfl ?_
    exact ⟨rfl, by rw [hB]; exact hb2⟩
  · rw [if_neg h4] at hr2
    have HR := hide hr2
    have hB' := hide hB
    have htx := hide ht2
    have HL := hide hL
    clear hL hr2 hB ht2 ht
    go_wp2_with fail
    go_loopg [5, 19] L (fun g s5 s19 wx => ∃ (i : Nat) (sum : Int), i + g = L ∧ s19 = .int .i64 i ∧ s5 = .int .u64 sum ∧ 0 ≤ sum ∧ sum < 4294967296 ∧ (i < L → sum % (256 ^ (4 - i) : Int) = 0) ∧ Hid (Hostp.v4from i sum (xs.drop i) = r) ∧ Below w2.heap.size w2 wx)
    case atStart => exact ⟨0, 0, by omega, rfl, rfl, by decide, by decide, fun _ => by simp, HR, Below.refl _ _⟩
    case round =>
      obtain ⟨i, sum, hi, rfl, rfl, hs0, hs1, hmod, hd, hbx⟩ := hrel
      have hbw : Below B w wr := hb2.trans (hbx.mono hs2)
      by_cases hlt : i < L
      · have hlt' : i < xs.length := by rw [HL.out]; exact hlt
        obtain ⟨t, htt⟩ : ∃ t, xs[i] = t := ⟨_, rfl⟩
        have hgx : xs[i]? = some t := by rw [List.getElem?_eq_getElem hlt', htt]
        have hcons : xs.drop i = t :: xs.drop (i + 1) := by rw [List.drop_eq_getElem_cons hlt', htt]
        have hc := cell_below (htx.out i t hgx) hbx
        have htl := HM.out t (List.mem_of_getElem? hgx)
        have hnn := HN.out t (List.mem_of_getElem? hgx)
        have hmd := hmod hlt
        clear hmod
        have hd2 := hd.out
        have htab2 := htab.below hbx
        have hs3 := hbx.size
        rw [hcons] at hd2
        obtain ⟨q, hq⟩ : ∃ q, Hostp.numberP t = q := ⟨_, rfl⟩
        have HQ := hide hq
        rw [hq] at hnn
        clear hd hcons htt hgx hlt'
        by_cases hlast : i + 1 = L
        · rw [List.drop_eq_nil_of_le (by rw [HL.out]; omega), Hostp.v4from, hq] at hd2
          clear hq
          have hi4 : i = 0 ∨ i = 1 ∨ i = 2 ∨ i = 3 := by omega
          subst hlast
          rcases hi4 with rfl | rfl | rfl | rfl
          · cases q with
            | none =>
              subst hd2
              go_wp2_with fail
              refine (hNumber t none _ htab2 (by omega) HQ).mono ?_
              rintro e w4 ⟨hN, hb4⟩
              obtain ⟨n, rfl⟩ := hN.no
              go_wp2_with fail
              refine bodyPost_ret (v := v4V none) (by simp [results, Tryz.results10, go_sem, v4V]) rfl ?_
              exact ⟨rfl, by rw [hB'.out]; exact hbw.trans (hb4.mono (by omega))⟩
            | some n =>
              have hn0 := hnn n rfl
              have hmod' : sum % 4294967296 = 0 := hmd
              have ho := or64 32 (by decide) sum n hs0 hs1 hmod' hn0
              clear hnn
              simp only at hd2
              by_cases hm : n < 4294967296
              · rw [if_pos (show n < 256 ^ (4 - 0) from hm)] at hd2
                have ho := ho hm
                have HD2 := hide hd2
                clear hd2 hmd
                go_wp2_with fail
                refine (hNumber t (some n) _ htab2 (by omega) HQ).mono ?_
                rintro e w4 ⟨hN, hb4⟩
                obtain rfl := hN.yes
                clear hN
                go_wp2_with fail
                go_roundg (gk - 1)
                case measure => omega
                case rel => exact ⟨1, sum + n, by omega, rfl, by go_num, by omega, by omega, fun h => absurd h (by omega), by unfold Hid; rw [List.drop_eq_nil_of_le (by rw [HL.out]; exact Nat.le_refl _), Hostp.v4from]; exact HD2.out, hbx.trans (hb4.mono hs3)⟩
              · rw [if_neg (show ¬ n < 256 ^ (4 - 0) from hm)] at hd2
                subst hd2
                clear ho hmd
                go_wp2_with fail
                refine (hNumber t (some n) _ htab2 (by omega) HQ).mono ?_
                rintro e w4 ⟨hN, hb4⟩
                obtain rfl := hN.yes
                clear hN
                go_wp2_with fail
                refine bodyPost_ret (v := v4V none) (by simp [results, Tryz.results10, go_sem, v4V]) rfl ?_
                exact ⟨rfl, by rw [hB'.out]; exact hbw.trans (hb4.mono (by omega))⟩
          · cases q with
            | none =>
              subst hd2
              go_wp2_with fail
              refine (hNumber t none _ htab2 (by omega) HQ).mono ?_
              rintro e w4 ⟨hN, hb4⟩
              obtain ⟨n, rfl⟩ := hN.no
              go_wp2_with fail
              refine bodyPost_ret (v := v4V none) (by simp [results, Tryz.results10, go_sem, v4V]) rfl ?_
              exact ⟨rfl, by rw [hB'.out]; exact hbw.trans (hb4.mono (by omega))⟩
            | some n =>
              have hn0 := hnn n rfl
              have hmod' : sum % 16777216 = 0 := hmd
              have ho := or64 24 (by decide) sum n hs0 hs1 hmod' hn0
              clear hnn
              simp only at hd2
              by_cases hm : n < 16777216
              · rw [if_pos (show n < 256 ^ (4 - 1) from hm)] at hd2
                have ho := ho hm
                have HD2 := hide hd2
                clear hd2 hmd
                go_wp2_with fail
                refine (hNumber t (some n) _ htab2 (by omega) HQ).mono ?_
                rintro e w4 ⟨hN, hb4⟩
                obtain rfl := hN.yes
                clear hN
                go_wp2_with fail
                go_roundg (gk - 1)
                case measure => omega
                case rel => exact ⟨2, sum + n, by omega, rfl, by go_num, by omega, by omega, fun h => absurd h (by omega), by unfold Hid; rw [List.drop_eq_nil_of_le (by rw [HL.out]; exact Nat.le_refl _), Hostp.v4from]; exact HD2.out, hbx.trans (hb4.mono hs3)⟩
              · rw [if_neg (show ¬ n < 256 ^ (4 - 1) from hm)] at hd2
                subst hd2
                clear ho hmd
                go_wp2_with fail
                refine (hNumber t (some n) _ htab2 (by omega) HQ).mono ?_
                rintro e w4 ⟨hN, hb4⟩
                obtain rfl := hN.yes
                clear hN
                go_wp2_with fail
                refine bodyPost_ret (v := v4V none) (by simp [results, Tryz.results10, go_sem, v4V]) rfl ?_
                exact ⟨rfl, by rw [hB'.out]; exact hbw.trans (hb4.mono (by omega))⟩
          · cases q with
            | none =>
              subst hd2
              go_wp2_with fail
              refine (hNumber t none _ htab2 (by omega) HQ).mono ?_
              rintro e w4 ⟨hN, hb4⟩
              obtain ⟨n, rfl⟩ := hN.no
              go_wp2_with fail
              refine bodyPost_ret (v := v4V none) (by simp [results, Tryz.results10, go_sem, v4V]) rfl ?_
              exact ⟨rfl, by rw [hB'.out]; exact hbw.trans (hb4.mono (by omega))⟩
            | some n =>
              have hn0 := hnn n rfl
              have hmod' : sum % 65536 = 0 := hmd
              have ho := or64 16 (by decide) sum n hs0 hs1 hmod' hn0
              clear hnn
              simp only at hd2
              by_cases hm : n < 65536
              · rw [if_pos (show n < 256 ^ (4 - 2) from hm)] at hd2
                have ho := ho hm
                have HD2 := hide hd2
                clear hd2 hmd
                go_wp2_with fail
                refine (hNumber t (some n) _ htab2 (by omega) HQ).mono ?_
                rintro e w4 ⟨hN, hb4⟩
                obtain rfl := hN.yes
                clear hN
                go_wp2_with fail
                go_roundg (gk - 1)
                case measure => omega
                case rel => exact ⟨3, sum + n, by omega, rfl, by go_num, by omega, by omega, fun h => absurd h (by omega), by unfold Hid; rw [List.drop_eq_nil_of_le (by rw [HL.out]; exact Nat.le_refl _), Hostp.v4from]; exact HD2.out, hbx.trans (hb4.mono hs3)⟩
              · rw [if_neg (show ¬ n < 256 ^ (4 - 2) from hm)] at hd2
                subst hd2
                clear ho hmd
                go_wp2_with fail
                refine (hNumber t (some n) _ htab2 (by omega) HQ).mono ?_
                rintro e w4 ⟨hN, hb4⟩
                obtain rfl := hN.yes
                clear hN
                go_wp2_with fail
                refine bodyPost_ret (v := v4V none) (by simp [results, Tryz.results10, go_sem, v4V]) rfl ?_
                exact ⟨rfl, by rw [hB'.out]; exact hbw.trans (hb4.mono (by omega))⟩
          · cases q with
            | none =>
              subst hd2
              go_wp2_with fail
              refine (hNumber t none _ htab2 (by omega) HQ).mono ?_
              rintro e w4 ⟨hN, hb4⟩
              obtain ⟨n, rfl⟩ := hN.no
              go_wp2_with fail
              refine bodyPost_ret (v := v4V none) (by simp [results, Tryz.results10, go_sem, v4V]) rfl ?_
              exact ⟨rfl, by rw [hB'.out]; exact hbw.trans (hb4.mono (by omega))⟩
            | some n =>
              have hn0 := hnn n rfl
              have hmod' : sum % 256 = 0 := hmd
              have ho := or64 8 (by decide) sum n hs0 hs1 hmod' hn0
              clear hnn
              simp only at hd2
              by_cases hm : n < 256
              · rw [if_pos (show n < 256 ^ (4 - 3) from hm)] at hd2
                have ho := ho hm
                have HD2 := hide hd2
                clear hd2 hmd
                go_wp2_with fail
                refine (hNumber t (some n) _ htab2 (by omega) HQ).mono ?_
                rintro e w4 ⟨hN, hb4⟩
                obtain rfl := hN.yes
                clear hN
                go_wp2_with fail
                go_roundg (gk - 1)
                case measure => omega
                case rel => exact ⟨4, sum + n, by omega, rfl, by go_num, by omega, by omega, fun h => absurd h (by omega), by unfold Hid; rw [List.drop_eq_nil_of_le (by rw [HL.out]; exact Nat.le_refl _), Hostp.v4from]; exact HD2.out, hbx.trans (hb4.mono hs3)⟩
              · rw [if_neg (show ¬ n < 256 ^ (4 - 3) from hm)] at hd2
                subst hd2
                clear ho hmd
                go_wp2_with fail
                refine (hNumber t (some n) _ htab2 (by omega) HQ).mono ?_
                rintro e w4 ⟨hN, hb4⟩
                obtain rfl := hN.yes
                clear hN
                go_wp2_with fail
                refine bodyPost_ret (v := v4V none) (by simp [results, Tryz.results10, go_sem, v4V]) rfl ?_
                exact ⟨rfl, by rw [hB'.out]; exact hbw.trans (hb4.mono (by omega))⟩
        · have hdr : xs.drop (i + 1) ≠ [] := by
            intro h
            have := congrArg List.length h
            rw [List.length_drop, HL.out] at this
            simp at this; omega
          obtain ⟨t2, ts, hts⟩ : ∃ a b, xs.drop (i + 1) = a :: b := by
            cases hx : xs.drop (i + 1) with
            | nil => exact absurd hx hdr
            | cons a b => exact ⟨a, b, rfl⟩
          rw [hts, Hostp.v4from, hq] at hd2
          have HTS := hide hts
          have hi4 : i = 0 ∨ i = 1 ∨ i = 2 := by omega
          clear hq hdr hts
          have hne : ((i : Int) == (L : Int) - 1) = false := beq_eq_false_iff_ne.2 (by omega)
          rcases hi4 with rfl | rfl | rfl
          · cases q with
            | none =>
              subst hd2
              go_wp2_with fail
              refine (hNumber t none _ htab2 (by omega) HQ).mono ?_
              rintro e w4 ⟨hN, hb4⟩
              obtain ⟨n, rfl⟩ := hN.no
              go_wp2_with fail
              refine bodyPost_ret (v := v4V none) (by simp [results, Tryz.results10, go_sem, v4V]) rfl ?_
              exact ⟨rfl, by rw [hB'.out]; exact hbw.trans (hb4.mono (by omega))⟩
            | some n =>
              have hn0 := hnn n rfl
              have hmod' : sum % 4294967296 = 0 := hmd
              clear hnn
              simp only at hd2
              by_cases hm : n < 256
              · rw [if_pos hm] at hd2
                have hd3 : Hostp.v4from (0 + 1) (sum + n * 16777216) (t2 :: ts) = r := hd2
                have ho := or64 32 (by decide) sum (n * 16777216) hs0 hs1 hmod' (by omega) (by omega)
                have HD2 := hide hd3
                clear hd2 hd3 hmd
                go_wp2_with fail
                refine (hNumber t (some n) _ htab2 (by omega) HQ).mono ?_
                rintro e w4 ⟨hN, hb4⟩
                obtain rfl := hN.yes
                clear hN
                go_wp2_with fail
                go_roundg (gk - 1)
                case measure => omega
                case rel => exact ⟨1, sum + n * 16777216, by omega, rfl, by go_num, by omega, by omega, fun _ => (show (sum + n * 16777216) % 16777216 = 0 by omega), by unfold Hid; rw [HTS.out]; exact HD2.out, hbx.trans (hb4.mono hs3)⟩
              · rw [if_neg hm] at hd2
                subst hd2
                clear hmd
                go_wp2_with fail
                refine (hNumber t (some n) _ htab2 (by omega) HQ).mono ?_
                rintro e w4 ⟨hN, hb4⟩
                obtain rfl := hN.yes
                clear hN
                go_wp2_with fail
                refine bodyPost_ret (v := v4V none) (by simp [results, Tryz.results10, go_sem, v4V]) rfl ?_
                exact ⟨rfl, by rw [hB'.out]; exact hbw.trans (hb4.mono (by omega))⟩
          · cases q with
            | none =>
              subst hd2
              go_wp2_with fail
              refine (hNumber t none _ htab2 (by omega) HQ).mono ?_
              rintro e w4 ⟨hN, hb4⟩
              obtain ⟨n, rfl⟩ := hN.no
              go_wp2_with fail
              refine bodyPost_ret (v := v4V none) (by simp [results, Tryz.results10, go_sem, v4V]) rfl ?_
              exact ⟨rfl, by rw [hB'.out]; exact hbw.trans (hb4.mono (by omega))⟩
            | some n =>
              have hn0 := hnn n rfl
              have hmod' : sum % 16777216 = 0 := hmd
              clear hnn
              simp only at hd2
              by_cases hm : n < 256
              · rw [if_pos hm] at hd2
                have hd3 : Hostp.v4from (1 + 1) (sum + n * 65536) (t2 :: ts) = r := hd2
                have ho := or64 24 (by decide) sum (n * 65536) hs0 hs1 hmod' (by omega) (by omega)
                have HD2 := hide hd3
                clear hd2 hd3 hmd
                go_wp2_with fail
                refine (hNumber t (some n) _ htab2 (by omega) HQ).mono ?_
                rintro e w4 ⟨hN, hb4⟩
                obtain rfl := hN.yes
                clear hN
                go_wp2_with fail
                go_roundg (gk - 1)
                case measure => omega
                case rel => exact ⟨2, sum + n * 65536, by omega, rfl, by go_num, by omega, by omega, fun _ => (show (sum + n * 65536) % 65536 = 0 by omega), by unfold Hid; rw [HTS.out]; exact HD2.out, hbx.trans (hb4.mono hs3)⟩
              · rw [if_neg hm] at hd2
                subst hd2
                clear hmd
                go_wp2_with fail
                refine (hNumber t (some n) _ htab2 (by omega) HQ).mono ?_
                rintro e w4 ⟨hN, hb4⟩
                obtain rfl := hN.yes
                clear hN
                go_wp2_with fail
                refine bodyPost_ret (v := v4V none) (by simp [results, Tryz.results10, go_sem, v4V]) rfl ?_
                exact ⟨rfl, by rw [hB'.out]; exact hbw.trans (hb4.mono (by omega))⟩
          · cases q with
            | none =>
              subst hd2
              go_wp2_with fail
              refine (hNumber t none _ htab2 (by omega) HQ).mono ?_
              rintro e w4 ⟨hN, hb4⟩
              obtain ⟨n, rfl⟩ := hN.no
              go_wp2_with fail
              refine bodyPost_ret (v := v4V none) (by simp [results, Tryz.results10, go_sem, v4V]) rfl ?_
              exact ⟨rfl, by rw [hB'.out]; exact hbw.trans (hb4.mono (by omega))⟩
            | some n =>
              have hn0 := hnn n rfl
              have hmod' : sum % 65536 = 0 := hmd
              clear hnn
              simp only at hd2
              by_cases hm : n < 256
              · rw [if_pos hm] at hd2
                have hd3 : Hostp.v4from (2 + 1) (sum + n * 256) (t2 :: ts) = r := hd2
                have ho := or64 16 (by decide) sum (n * 256) hs0 hs1 hmod' (by omega) (by omega)
                have HD2 := hide hd3
                clear hd2 hd3 hmd
                go_wp2_with fail
                refine (hNumber t (some n) _ htab2 (by omega) HQ).mono ?_
                rintro e w4 ⟨hN, hb4⟩
                obtain rfl := hN.yes
                clear hN
                go_wp2_with fail
                go_roundg (gk - 1)
                case measure => omega
                case rel => exact ⟨3, sum + n * 256, by omega, rfl, by go_num, by omega, by omega, fun _ => (show (sum + n * 256) % 256 = 0 by omega), by unfold Hid; rw [HTS.out]; exact HD2.out, hbx.trans (hb4.mono hs3)⟩
              · rw [if_neg hm] at hd2
                subst hd2
                clear hmd
                go_wp2_with fail
                refine (hNumber t (some n) _ htab2 (by omega) HQ).mono ?_
                rintro e w4 ⟨hN, hb4⟩
                obtain rfl := hN.yes
                clear hN
                go_wp2_with fail
                refine bodyPost_ret (v := v4V none) (by simp [results, Tryz.results10, go_sem, v4V]) rfl ?_
                exact ⟨rfl, by rw [hB'.out]; exact hbw.trans (hb4.mono (by omega))⟩
      · have e : i = L := by omega
        subst e
        have hd2 := hd.out
        rw [List.drop_eq_nil_of_le (by rw [HL.out]; exact Nat.le_refl _), Hostp.v4from] at hd2
        subst hd2
        clear hd hmod
        go_wp2_with fail
        refine bodyPost_ret (v := v4V (some sum)) (by simp [results, Tryz.results10, go_sem, v4V]) rfl ?_
        exact ⟨rfl, by rw [hB'.out]; exact hbw⟩
end Go.Proofs.YtahjndignkhmoaaGreatDoor
