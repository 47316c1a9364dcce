/- The reference: an address of four. (Printed by genRj.py.) -/
import Derived.Test.YtahjndignkhmoaaGreatDoorRi
import Derived.Test.YtahjndignkhmoaaGreatDoorI
namespace Go.Proofs.YtahjndignkhmoaaGreatDoor
open Go.RowKit

theorem numR_none {t : List UInt8} {n : Int} {ok : Bool} (h : Hostp.numberP t = none) (hd : numR t = (n, ok)) : ok = false ∨ (ok = true ∧ n = 1099511627776) := by
  unfold numR at hd
  split at hd
  · exact .inl (Prod.mk.inj hd).2.symm
  · rename_i hne
    cases ok with
    | false => exact .inl rfl
    | true =>
      obtain ⟨ha, hv⟩ := digR_true hd
      unfold Hostp.numberP at h
      split at h
      · rename_i q
        rcases q with q | q | q
        · exact absurd q hne
        · rw [ha] at q; cases q
        · exact .inr ⟨rfl, by omega⟩
      · cases h
theorem numR_some {t : List UInt8} {n v : Int} {ok : Bool} (h : Hostp.numberP t = some v) (hd : numR t = (n, ok)) : ok = true ∧ n = v := by
  unfold Hostp.numberP at h
  split at h
  · cases h
  · rename_i q
    injection h with h
    unfold numR at hd
    rw [if_neg (fun e => q (.inl e))] at hd
    cases ok with
    | false => exact absurd (.inr (.inl (digR_false hd).1)) q
    | true =>
      have := (digR_true hd).2
      have h3 : ¬ 1099511627776 ≤ Hostp.value (Hostp.basedP t).2 (Hostp.basedP t).1 := fun e => q (.inr (.inr e))
      exact ⟨rfl, by omega⟩
theorem numberP_nn {t : List UInt8} {n : Int} (h : Hostp.numberP t = some n) : 0 ≤ n := by
  unfold Hostp.numberP at h
  split at h
  · cases h
  · rename_i q
    injection h with h
    rw [← h]
    have hb := basedP_base t
    exact Hostp.value_nonneg (by omega) (Bool.not_eq_false _ ▸ fun h => q (.inr (.inl h)))

set_option maxHeartbeats 16000000 in
set_option maxRecDepth 100000 in
theorem rV4 (s : List UInt8) (r : Option Int) (w : World) (hl : s.length ≤ 4194304) (hr : Hid (Hostp.v4 s = r)) :
    Calls Tryz.prog 11 #[S s] w fun e w' => e = .returned (v4V r) ∧ Below w.heap.size w w' := by
  obtain ⟨l0, l1⟩ := parts_len s
  obtain ⟨xs, hxs⟩ : ∃ xs, Hostp.parts s = xs := ⟨_, rfl⟩
  have hr2 := hr.out
  unfold Hostp.v4 at hr2
  rw [hxs] at hr2 l0 l1
  have hmem : ∀ t ∈ xs, t.length ≤ s.length := fun t h => parts_mem s t (by rw [hxs]; exact h)
  have HM := hide hmem
  have HXS := hide hxs
  clear hxs hr hmem
  go_enter Tryz.func11, Tryz.ntmps11
  go_wp2_with fail
  refine (rParts s xs _ hl HXS).mono ?_
  rintro e w2 ⟨⟨g, cap, hg, hcap, rfl, ht2⟩, hb2⟩
  obtain ⟨B, hB⟩ : ∃ B, w.heap.size = B := ⟨_, rfl⟩
  rw [hB] at hg hb2
  have hs2 : B ≤ w2.heap.size := by rw [← hB]; exact hb2.size
  obtain ⟨L, hL⟩ : ∃ L, xs.length = L := ⟨_, rfl⟩
  rw [hL] at hcap hr2 l0 l1 ⊢
  by_cases h4 : 4 < L
  · rw [if_pos h4] at hr2
    subst hr2
    go_wp2_with fail
    refine bodyPost_ret (v := v4V none) (by simp [results, Tryz.results11, go_sem, v4V]) rfl ?_
    exact ⟨rfl, by rw [hB]; exact hb2⟩
  · rw [if_neg h4] at hr2
    have HR := hide hr2
    have hB' := hide hB
    have htx := hide ht2
    have HL := hide hL
    clear hL hr2 hB ht2
    go_wp2_with fail
    go_loopg [5, 6] L (fun g s5 s6 wx => ∃ (i : Nat) (sum : Int), i + g = L ∧ s6 = .int .i64 i ∧ s5 = .int .i64 sum ∧ 0 ≤ sum ∧ sum < 4294967296 ∧ (i < L → sum + (256 ^ (4 - i) : Int) ≤ 4294967296) ∧ Hid (Hostp.v4from i sum (xs.drop i) = r) ∧ Below w2.heap.size w2 wx)
    case atStart => exact ⟨0, 0, by omega, rfl, rfl, by decide, by decide, fun _ => by decide, HR, Below.refl _ _⟩
    case round =>
      obtain ⟨i, sum, hi, rfl, rfl, hs0, hs1, hroom, hd, hbx⟩ := hrel
      have hbw : Below B w wr := hb2.trans (hbx.mono hs2)
      have hs3 := hbx.size
      by_cases hlt : i < L
      · have hlt' : i < xs.length := by rw [HL.out]; exact hlt
        obtain ⟨t, htt⟩ : ∃ t, xs[i] = t := ⟨_, rfl⟩
        have hgx : xs[i]? = some t := by rw [List.getElem?_eq_getElem hlt', htt]
        have hcons : xs.drop i = t :: xs.drop (i + 1) := by rw [List.drop_eq_getElem_cons hlt', htt]
        have hc := cell_below (htx.out i t hgx) hbx
        have htl : t.length ≤ 4194304 := Nat.le_trans (HM.out t (List.mem_of_getElem? hgx)) hl
        have hmd := hroom hlt
        clear hroom
        have hd2 := hd.out
        rw [hcons] at hd2
        obtain ⟨q, hq⟩ : ∃ q, Hostp.numberP t = q := ⟨_, rfl⟩
        obtain ⟨n, ok, hnr⟩ : ∃ n ok, numR t = (n, ok) := ⟨_, _, rfl⟩
        have HNR := hide hnr
        have HQ := hide hq
        clear hd hcons htt hgx hlt' hnr
        have hi4 : i = 0 ∨ i = 1 ∨ i = 2 ∨ i = 3 := by omega
        by_cases hlast : i + 1 = L
        · rw [List.drop_eq_nil_of_le (by rw [HL.out]; omega), Hostp.v4from, hq] at hd2
          clear hq
          subst hlast
          rcases hi4 with rfl | rfl | rfl | rfl
          · cases q with
            | none =>
              obtain rfl : none = r := hd2
              rcases numR_none HQ.out HNR.out with rfl | ⟨rfl, rfl⟩
              · go_wp2_with fail
                refine (rNumber t n false _ htl HNR).mono ?_
                rintro e w4 ⟨rfl, rfl⟩
                go_wp2_with fail
                refine bodyPost_ret (v := v4V none) (by simp [results, Tryz.results11, go_sem, v4V]) rfl ?_
                exact ⟨rfl, by rw [hB'.out]; first | exact hbw | exact hbw.alloc (by omega) _ | exact (hbw.alloc (by omega) _).alloc (by simp; omega) _⟩
              · go_wp2_with fail
                refine (rNumber t 1099511627776 true _ htl HNR).mono ?_
                rintro e w4 ⟨rfl, rfl⟩
                go_wp2_with fail
                refine bodyPost_ret (v := v4V none) (by simp [results, Tryz.results11, go_sem, v4V]) rfl ?_
                exact ⟨rfl, by rw [hB'.out]; first | exact hbw | exact hbw.alloc (by omega) _ | exact (hbw.alloc (by omega) _).alloc (by simp; omega) _⟩
            | some v =>
              obtain ⟨rfl, rfl⟩ := numR_some HQ.out HNR.out
              have hn0 := numberP_nn HQ.out
              have hmd2 : sum + 4294967296 ≤ 4294967296 := hmd
              by_cases hm : n < 4294967296
              · have hd3 := hd2
                simp only at hd3
                rw [if_pos (show n < 256 ^ (4 - 0) from hm)] at hd3
                have HD3 := hide hd3
                clear hd2 hd3 hmd
                go_wp2_with fail
                refine (rNumber t n true _ htl HNR).mono ?_
                rintro e w4 ⟨rfl, rfl⟩
                go_wp2_with fail
                go_roundg (gk - 1)
                case measure => omega
                case rel => exact ⟨1, sum + n, by omega, rfl, by go_num, by omega, by omega, fun h => absurd h (by omega), by unfold Hid; rw [List.drop_eq_nil_of_le (by rw [HL.out]; exact Nat.le_refl _), Hostp.v4from]; exact HD3.out, (hbx.alloc hs3 _).alloc (by simp; omega) _⟩
              · have hd3 := hd2
                simp only at hd3
                rw [if_neg (show ¬ n < 256 ^ (4 - 0) from hm)] at hd3
                obtain rfl : none = r := hd3
                clear hd2 hmd
                go_wp2_with fail
                refine (rNumber t n true _ htl HNR).mono ?_
                rintro e w4 ⟨rfl, rfl⟩
                go_wp2_with fail
                refine bodyPost_ret (v := v4V none) (by simp [results, Tryz.results11, go_sem, v4V]) rfl ?_
                exact ⟨rfl, by rw [hB'.out]; first | exact hbw | exact hbw.alloc (by omega) _ | exact (hbw.alloc (by omega) _).alloc (by simp; omega) _⟩
          · cases q with
            | none =>
              obtain rfl : none = r := hd2
              rcases numR_none HQ.out HNR.out with rfl | ⟨rfl, rfl⟩
              · go_wp2_with fail
                refine (rNumber t n false _ htl HNR).mono ?_
                rintro e w4 ⟨rfl, rfl⟩
                go_wp2_with fail
                refine bodyPost_ret (v := v4V none) (by simp [results, Tryz.results11, go_sem, v4V]) rfl ?_
                exact ⟨rfl, by rw [hB'.out]; first | exact hbw | exact hbw.alloc (by omega) _ | exact (hbw.alloc (by omega) _).alloc (by simp; omega) _⟩
              · go_wp2_with fail
                refine (rNumber t 1099511627776 true _ htl HNR).mono ?_
                rintro e w4 ⟨rfl, rfl⟩
                go_wp2_with fail
                refine bodyPost_ret (v := v4V none) (by simp [results, Tryz.results11, go_sem, v4V]) rfl ?_
                exact ⟨rfl, by rw [hB'.out]; first | exact hbw | exact hbw.alloc (by omega) _ | exact (hbw.alloc (by omega) _).alloc (by simp; omega) _⟩
            | some v =>
              obtain ⟨rfl, rfl⟩ := numR_some HQ.out HNR.out
              have hn0 := numberP_nn HQ.out
              have hmd2 : sum + 16777216 ≤ 4294967296 := hmd
              by_cases hm : n < 16777216
              · have hd3 := hd2
                simp only at hd3
                rw [if_pos (show n < 256 ^ (4 - 1) from hm)] at hd3
                have HD3 := hide hd3
                clear hd2 hd3 hmd
                go_wp2_with fail
                refine (rNumber t n true _ htl HNR).mono ?_
                rintro e w4 ⟨rfl, rfl⟩
                go_wp2_with fail
                go_roundg (gk - 1)
                case measure => omega
                case rel => exact ⟨2, sum + n, by omega, rfl, by go_num, by omega, by omega, fun h => absurd h (by omega), by unfold Hid; rw [List.drop_eq_nil_of_le (by rw [HL.out]; exact Nat.le_refl _), Hostp.v4from]; exact HD3.out, (hbx.alloc hs3 _).alloc (by simp; omega) _⟩
              · have hd3 := hd2
                simp only at hd3
                rw [if_neg (show ¬ n < 256 ^ (4 - 1) from hm)] at hd3
                obtain rfl : none = r := hd3
                clear hd2 hmd
                go_wp2_with fail
                refine (rNumber t n true _ htl HNR).mono ?_
                rintro e w4 ⟨rfl, rfl⟩
                go_wp2_with fail
                refine bodyPost_ret (v := v4V none) (by simp [results, Tryz.results11, go_sem, v4V]) rfl ?_
                exact ⟨rfl, by rw [hB'.out]; first | exact hbw | exact hbw.alloc (by omega) _ | exact (hbw.alloc (by omega) _).alloc (by simp; omega) _⟩
          · cases q with
            | none =>
              obtain rfl : none = r := hd2
              rcases numR_none HQ.out HNR.out with rfl | ⟨rfl, rfl⟩
              · go_wp2_with fail
                refine (rNumber t n false _ htl HNR).mono ?_
                rintro e w4 ⟨rfl, rfl⟩
                go_wp2_with fail
                refine bodyPost_ret (v := v4V none) (by simp [results, Tryz.results11, go_sem, v4V]) rfl ?_
                exact ⟨rfl, by rw [hB'.out]; first | exact hbw | exact hbw.alloc (by omega) _ | exact (hbw.alloc (by omega) _).alloc (by simp; omega) _⟩
              · go_wp2_with fail
                refine (rNumber t 1099511627776 true _ htl HNR).mono ?_
                rintro e w4 ⟨rfl, rfl⟩
                go_wp2_with fail
                refine bodyPost_ret (v := v4V none) (by simp [results, Tryz.results11, go_sem, v4V]) rfl ?_
                exact ⟨rfl, by rw [hB'.out]; first | exact hbw | exact hbw.alloc (by omega) _ | exact (hbw.alloc (by omega) _).alloc (by simp; omega) _⟩
            | some v =>
              obtain ⟨rfl, rfl⟩ := numR_some HQ.out HNR.out
              have hn0 := numberP_nn HQ.out
              have hmd2 : sum + 65536 ≤ 4294967296 := hmd
              by_cases hm : n < 65536
              · have hd3 := hd2
                simp only at hd3
                rw [if_pos (show n < 256 ^ (4 - 2) from hm)] at hd3
                have HD3 := hide hd3
                clear hd2 hd3 hmd
                go_wp2_with fail
                refine (rNumber t n true _ htl HNR).mono ?_
                rintro e w4 ⟨rfl, rfl⟩
                go_wp2_with fail
                go_roundg (gk - 1)
                case measure => omega
                case rel => exact ⟨3, sum + n, by omega, rfl, by go_num, by omega, by omega, fun h => absurd h (by omega), by unfold Hid; rw [List.drop_eq_nil_of_le (by rw [HL.out]; exact Nat.le_refl _), Hostp.v4from]; exact HD3.out, (hbx.alloc hs3 _).alloc (by simp; omega) _⟩
              · have hd3 := hd2
                simp only at hd3
                rw [if_neg (show ¬ n < 256 ^ (4 - 2) from hm)] at hd3
                obtain rfl : none = r := hd3
                clear hd2 hmd
                go_wp2_with fail
                refine (rNumber t n true _ htl HNR).mono ?_
                rintro e w4 ⟨rfl, rfl⟩
                go_wp2_with fail
                refine bodyPost_ret (v := v4V none) (by simp [results, Tryz.results11, go_sem, v4V]) rfl ?_
                exact ⟨rfl, by rw [hB'.out]; first | exact hbw | exact hbw.alloc (by omega) _ | exact (hbw.alloc (by omega) _).alloc (by simp; omega) _⟩
          · cases q with
            | none =>
              obtain rfl : none = r := hd2
              rcases numR_none HQ.out HNR.out with rfl | ⟨rfl, rfl⟩
              · go_wp2_with fail
                refine (rNumber t n false _ htl HNR).mono ?_
                rintro e w4 ⟨rfl, rfl⟩
                go_wp2_with fail
                refine bodyPost_ret (v := v4V none) (by simp [results, Tryz.results11, go_sem, v4V]) rfl ?_
                exact ⟨rfl, by rw [hB'.out]; first | exact hbw | exact hbw.alloc (by omega) _ | exact (hbw.alloc (by omega) _).alloc (by simp; omega) _⟩
              · go_wp2_with fail
                refine (rNumber t 1099511627776 true _ htl HNR).mono ?_
                rintro e w4 ⟨rfl, rfl⟩
                go_wp2_with fail
                refine bodyPost_ret (v := v4V none) (by simp [results, Tryz.results11, go_sem, v4V]) rfl ?_
                exact ⟨rfl, by rw [hB'.out]; first | exact hbw | exact hbw.alloc (by omega) _ | exact (hbw.alloc (by omega) _).alloc (by simp; omega) _⟩
            | some v =>
              obtain ⟨rfl, rfl⟩ := numR_some HQ.out HNR.out
              have hn0 := numberP_nn HQ.out
              have hmd2 : sum + 256 ≤ 4294967296 := hmd
              by_cases hm : n < 256
              · have hd3 := hd2
                simp only at hd3
                rw [if_pos (show n < 256 ^ (4 - 3) from hm)] at hd3
                have HD3 := hide hd3
                clear hd2 hd3 hmd
                go_wp2_with fail
                refine (rNumber t n true _ htl HNR).mono ?_
                rintro e w4 ⟨rfl, rfl⟩
                go_wp2_with fail
                go_roundg (gk - 1)
                case measure => omega
                case rel => exact ⟨4, sum + n, by omega, rfl, by go_num, by omega, by omega, fun h => absurd h (by omega), by unfold Hid; rw [List.drop_eq_nil_of_le (by rw [HL.out]; exact Nat.le_refl _), Hostp.v4from]; exact HD3.out, (hbx.alloc hs3 _).alloc (by simp; omega) _⟩
              · have hd3 := hd2
                simp only at hd3
                rw [if_neg (show ¬ n < 256 ^ (4 - 3) from hm)] at hd3
                obtain rfl : none = r := hd3
                clear hd2 hmd
                go_wp2_with fail
                refine (rNumber t n true _ htl HNR).mono ?_
                rintro e w4 ⟨rfl, rfl⟩
                go_wp2_with fail
                refine bodyPost_ret (v := v4V none) (by simp [results, Tryz.results11, go_sem, v4V]) rfl ?_
                exact ⟨rfl, by rw [hB'.out]; first | exact hbw | exact hbw.alloc (by omega) _ | exact (hbw.alloc (by omega) _).alloc (by simp; omega) _⟩
        · have hlt2 : i + 1 < xs.length := by rw [HL.out]; omega
          obtain ⟨y, ys, hy⟩ : ∃ y ys, xs.drop (i + 1) = y :: ys := ⟨_, _, List.drop_eq_getElem_cons hlt2⟩
          rw [hy, Hostp.v4from, hq] at hd2
          have HY := hide hy
          have hne : ((i : Int) == (L : Int) - 1) = false := beq_eq_false_iff_ne.2 (by omega)
          clear hq hy hlt2
          have hi3 : i = 0 ∨ i = 1 ∨ i = 2 := by omega
          clear hi4
          rcases hi3 with rfl | rfl | rfl
          · cases q with
            | none =>
              obtain rfl : none = r := hd2
              rcases numR_none HQ.out HNR.out with rfl | ⟨rfl, rfl⟩
              · go_wp2_with fail
                refine (rNumber t n false _ htl HNR).mono ?_
                rintro e w4 ⟨rfl, rfl⟩
                go_wp2_with fail
                refine bodyPost_ret (v := v4V none) (by simp [results, Tryz.results11, go_sem, v4V]) rfl ?_
                exact ⟨rfl, by rw [hB'.out]; first | exact hbw | exact hbw.alloc (by omega) _ | exact (hbw.alloc (by omega) _).alloc (by simp; omega) _⟩
              · go_wp2_with fail
                refine (rNumber t 1099511627776 true _ htl HNR).mono ?_
                rintro e w4 ⟨rfl, rfl⟩
                go_wp2_with fail
                refine bodyPost_ret (v := v4V none) (by simp [results, Tryz.results11, go_sem, v4V]) rfl ?_
                exact ⟨rfl, by rw [hB'.out]; first | exact hbw | exact hbw.alloc (by omega) _ | exact (hbw.alloc (by omega) _).alloc (by simp; omega) _⟩
            | some v =>
              obtain ⟨rfl, rfl⟩ := numR_some HQ.out HNR.out
              have hn0 := numberP_nn HQ.out
              have hmd2 : sum + 4294967296 ≤ 4294967296 := hmd
              by_cases hm : n < 256
              · have hd3 := hd2
                simp only [if_pos (show n < 256 from hm)] at hd3
                have HD3 := hide hd3
                clear hd2 hd3 hmd
                go_wp2_with fail
                refine (rNumber t n true _ htl HNR).mono ?_
                rintro e w4 ⟨rfl, rfl⟩
                go_wp2_with fail
                go_roundg (gk - 1)
                case measure => omega
                case rel => exact ⟨1, sum + n * 16777216, by omega, rfl, by go_num, by omega, by omega, fun _ => by show sum + n * 16777216 + (16777216 : Int) ≤ 4294967296; omega, by unfold Hid; rw [HY.out]; exact HD3.out, hbx.alloc hs3 _⟩
              · have hd3 := hd2
                simp only [if_neg (show ¬ n < 256 from hm)] at hd3
                obtain rfl : none = r := hd3
                clear hd2 hmd
                go_wp2_with fail
                refine (rNumber t n true _ htl HNR).mono ?_
                rintro e w4 ⟨rfl, rfl⟩
                go_wp2_with fail
                refine bodyPost_ret (v := v4V none) (by simp [results, Tryz.results11, go_sem, v4V]) rfl ?_
                exact ⟨rfl, by rw [hB'.out]; first | exact hbw | exact hbw.alloc (by omega) _ | exact (hbw.alloc (by omega) _).alloc (by simp; omega) _⟩
          · cases q with
            | none =>
              obtain rfl : none = r := hd2
              rcases numR_none HQ.out HNR.out with rfl | ⟨rfl, rfl⟩
              · go_wp2_with fail
                refine (rNumber t n false _ htl HNR).mono ?_
                rintro e w4 ⟨rfl, rfl⟩
                go_wp2_with fail
                refine bodyPost_ret (v := v4V none) (by simp [results, Tryz.results11, go_sem, v4V]) rfl ?_
                exact ⟨rfl, by rw [hB'.out]; first | exact hbw | exact hbw.alloc (by omega) _ | exact (hbw.alloc (by omega) _).alloc (by simp; omega) _⟩
              · go_wp2_with fail
                refine (rNumber t 1099511627776 true _ htl HNR).mono ?_
                rintro e w4 ⟨rfl, rfl⟩
                go_wp2_with fail
                refine bodyPost_ret (v := v4V none) (by simp [results, Tryz.results11, go_sem, v4V]) rfl ?_
                exact ⟨rfl, by rw [hB'.out]; first | exact hbw | exact hbw.alloc (by omega) _ | exact (hbw.alloc (by omega) _).alloc (by simp; omega) _⟩
            | some v =>
              obtain ⟨rfl, rfl⟩ := numR_some HQ.out HNR.out
              have hn0 := numberP_nn HQ.out
              have hmd2 : sum + 16777216 ≤ 4294967296 := hmd
              by_cases hm : n < 256
              · have hd3 := hd2
                simp only [if_pos (show n < 256 from hm)] at hd3
                have HD3 := hide hd3
                clear hd2 hd3 hmd
                go_wp2_with fail
                refine (rNumber t n true _ htl HNR).mono ?_
                rintro e w4 ⟨rfl, rfl⟩
                go_wp2_with fail
                go_roundg (gk - 1)
                case measure => omega
                case rel => exact ⟨2, sum + n * 65536, by omega, rfl, by go_num, by omega, by omega, fun _ => by show sum + n * 65536 + (65536 : Int) ≤ 4294967296; omega, by unfold Hid; rw [HY.out]; exact HD3.out, hbx.alloc hs3 _⟩
              · have hd3 := hd2
                simp only [if_neg (show ¬ n < 256 from hm)] at hd3
                obtain rfl : none = r := hd3
                clear hd2 hmd
                go_wp2_with fail
                refine (rNumber t n true _ htl HNR).mono ?_
                rintro e w4 ⟨rfl, rfl⟩
                go_wp2_with fail
                refine bodyPost_ret (v := v4V none) (by simp [results, Tryz.results11, go_sem, v4V]) rfl ?_
                exact ⟨rfl, by rw [hB'.out]; first | exact hbw | exact hbw.alloc (by omega) _ | exact (hbw.alloc (by omega) _).alloc (by simp; omega) _⟩
          · cases q with
            | none =>
              obtain rfl : none = r := hd2
              rcases numR_none HQ.out HNR.out with rfl | ⟨rfl, rfl⟩
              · go_wp2_with fail
                refine (rNumber t n false _ htl HNR).mono ?_
                rintro e w4 ⟨rfl, rfl⟩
                go_wp2_with fail
                refine bodyPost_ret (v := v4V none) (by simp [results, Tryz.results11, go_sem, v4V]) rfl ?_
                exact ⟨rfl, by rw [hB'.out]; first | exact hbw | exact hbw.alloc (by omega) _ | exact (hbw.alloc (by omega) _).alloc (by simp; omega) _⟩
              · go_wp2_with fail
                refine (rNumber t 1099511627776 true _ htl HNR).mono ?_
                rintro e w4 ⟨rfl, rfl⟩
                go_wp2_with fail
                refine bodyPost_ret (v := v4V none) (by simp [results, Tryz.results11, go_sem, v4V]) rfl ?_
                exact ⟨rfl, by rw [hB'.out]; first | exact hbw | exact hbw.alloc (by omega) _ | exact (hbw.alloc (by omega) _).alloc (by simp; omega) _⟩
            | some v =>
              obtain ⟨rfl, rfl⟩ := numR_some HQ.out HNR.out
              have hn0 := numberP_nn HQ.out
              have hmd2 : sum + 65536 ≤ 4294967296 := hmd
              by_cases hm : n < 256
              · have hd3 := hd2
                simp only [if_pos (show n < 256 from hm)] at hd3
                have HD3 := hide hd3
                clear hd2 hd3 hmd
                go_wp2_with fail
                refine (rNumber t n true _ htl HNR).mono ?_
                rintro e w4 ⟨rfl, rfl⟩
                go_wp2_with fail
                go_roundg (gk - 1)
                case measure => omega
                case rel => exact ⟨3, sum + n * 256, by omega, rfl, by go_num, by omega, by omega, fun _ => by show sum + n * 256 + (256 : Int) ≤ 4294967296; omega, by unfold Hid; rw [HY.out]; exact HD3.out, hbx.alloc hs3 _⟩
              · have hd3 := hd2
                simp only [if_neg (show ¬ n < 256 from hm)] at hd3
                obtain rfl : none = r := hd3
                clear hd2 hmd
                go_wp2_with fail
                refine (rNumber t n true _ htl HNR).mono ?_
                rintro e w4 ⟨rfl, rfl⟩
                go_wp2_with fail
                refine bodyPost_ret (v := v4V none) (by simp [results, Tryz.results11, go_sem, v4V]) rfl ?_
                exact ⟨rfl, by rw [hB'.out]; first | exact hbw | exact hbw.alloc (by omega) _ | exact (hbw.alloc (by omega) _).alloc (by simp; omega) _⟩
      · have e : i = L := by omega
        have hd2 := hd.out
        rw [List.drop_eq_nil_of_le (by rw [HL.out]; omega), Hostp.v4from] at hd2
        subst hd2
        subst e
        clear hd hroom
        go_wp2_with fail
        refine bodyPost_ret (v := v4V (some sum)) (by simp [results, Tryz.results11, go_sem, v4V]) rfl ?_
        exact ⟨rfl, by rw [hB'.out]; exact hbw⟩
end Go.Proofs.YtahjndignkhmoaaGreatDoor
