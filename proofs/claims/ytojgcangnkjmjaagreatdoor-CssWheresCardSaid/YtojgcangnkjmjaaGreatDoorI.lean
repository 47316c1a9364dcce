/- The number of an escape; escape. -/
import Derived.Test.YtojgcangnkjmjaaGreatDoorG
import Derived.Deep.Cut
import Derived.Deep.LoopGhost
namespace Go.Proofs.YtojgcangnkjmjaaGreatDoor
open Go.RowKit

namespace Cssp
theorem isHex_dig (c : UInt8) : isHex c = isDig 16 c := by
  have : hex c < 16 := by unfold hex; repeat' split <;> omega
  simp [isHex, isDig, this]
theorem hex_nat {c : UInt8} (h : isHex c = true) : hex c = ((hex c).toNat : Int) ∧ (hex c).toNat < 16 := by
  have h0 : 0 ≤ hex c := by simpa [isHex] using h
  have : hex c < 16 := by unfold hex; repeat' split <;> omega
  omega
theorem pu_hexV : ∀ (l : List UInt8) (n : Nat), (l.all isHex) = true → (n + 1) * 16 ^ l.length ≤ 4294967296 → pu 4294967295 16 (n : Int) l = some ((hexV n l : Nat) : Int)
  | [], n, _, _ => rfl
  | c :: l, n, h, hb => by
    simp only [List.all_cons, Bool.and_eq_true] at h
    obtain ⟨h1, h2⟩ := hex_nat h.1
    rw [List.length_cons, Nat.pow_succ, Nat.mul_comm (16 ^ l.length) 16, ← Nat.mul_assoc] at hb
    have hp : 1 ≤ 16 ^ l.length := Nat.one_le_pow _ _ (by decide)
    have hle : (n + 1) * 16 ≤ 4294967296 := Nat.le_trans (Nat.le_mul_of_pos_right _ hp) hb
    have e : (n : Int) * 16 + hex c = ((n * 16 + (hex c).toNat : Nat) : Int) := by omega
    rw [pu, e, if_neg (by omega), hexV]
    refine pu_hexV l _ h.2 (Nat.le_trans (Nat.mul_le_mul_right _ ?_) hb)
    omega
theorem run_take_all (p : UInt8 → Bool) : ∀ s : List UInt8, (s.take (run p s)).all p = true
  | [] => by simp [run]
  | c :: r => by
    rw [run]
    split
    · rename_i h
      rw [List.take_succ_cons, List.all_cons, h, run_take_all p r]; rfl
    · simp
theorem run_take (p : UInt8 → Bool) : ∀ (k : Nat) (s : List UInt8), run p (s.take k) = min k (run p s)
  | 0, s => by simp [run]
  | k + 1, [] => by simp [run]
  | k + 1, c :: r => by
    rw [List.take_succ_cons, run, run, run_take p k r]
    split <;> omega
end Cssp
set_option maxRecDepth 100000 in
theorem parseUint16 (s : List UInt8) (v : Int) (w : World) (hne : 0 < s.length) (hl : s.length ≤ 4194304) (hall : Cssp.allB 16 s = true) (hr : Hid (Cssp.pu 4294967295 16 0 s = some v)) :
    Calls Tryz.prog 99 #[S s, .int .i64 16, .int .i64 32] w (Fresh (.tuple #[.int .u64 v, .nilIface]) w) := by
  have H1 := hide (inPU s 16 32 4294967295 (some v) w ⟨rfl, rfl, rfl⟩ hne hl hall hr)
  clear hall hr hne hl
  go_enter Tryz.func99, Tryz.ntmps99
  go_wp2_with fail
  refine H1.out.mono ?_
  rintro e w1 ⟨rfl, hb⟩
  clear H1
  unfold puV
  go_wp2_with fail
  refine bodyPost_ret (v := .tuple #[.int .u64 v, .nilIface]) (by simp [results, Tryz.results99, go_sem]) rfl ?_
  exact ⟨rfl, hb⟩
end Go.Proofs.YtojgcangnkjmjaaGreatDoor
namespace Go.Proofs.YtojgcangnkjmjaaGreatDoor
open Go.RowKit

namespace Cssp
theorem hexV_lt : ∀ (l : List UInt8) (n : Nat), (l.all isHex) = true → hexV n l < (n + 1) * 16 ^ l.length
  | [], n, _ => by simp [hexV]
  | c :: l, n, h => by
    simp only [List.all_cons, Bool.and_eq_true] at h
    obtain ⟨h1, h2⟩ := hex_nat h.1
    have ih := hexV_lt l (n * 16 + (hex c).toNat) h.2
    rw [hexV, List.length_cons, Nat.pow_succ, Nat.mul_comm (16 ^ l.length) 16, ← Nat.mul_assoc]
    refine Nat.lt_of_lt_of_le ih (Nat.mul_le_mul_right _ ?_)
    omega
end Cssp
theorem enc_eq (n : Nat) : Utf8.encode (n : Int) = ⟨(Lib.encodeRune n).toArray⟩ := by
  unfold Lib.encodeRune Utf8.encode
  by_cases hbad : (55296 ≤ (n : Int) ∧ (n : Int) ≤ 57343) ∨ 1114111 < (n : Int)
  · rw [Lib.encodeRuneZ_bad (.inr hbad)]
    have hv : Utf8.valid (n : Int) = false := by rw [← Bool.not_eq_true]; unfold Utf8.valid; simp; omega
    simp only [hv, Bool.false_eq_true, if_false]
    rfl
  · have hv : Utf8.valid (n : Int) = true := by unfold Utf8.valid; simp; omega
    simp only [hv, if_true, Int.toNat_natCast]
    by_cases h1 : n < 128
    · rw [if_pos h1, Lib.encodeRuneZ_one (by omega) (by omega)]
      simp
    rw [if_neg h1]
    by_cases h2 : n < 2048
    · rw [if_pos h2, Lib.encodeRuneZ_two (by omega) (by omega)]
      simp only [List.map_cons, List.map_nil]
      rw [show (192 + (n : Int) / 64).toNat = 192 + n / 64 by omega, show (128 + (n : Int) % 64).toNat = 128 + n % 64 by omega]
    rw [if_neg h2]
    by_cases h3 : n < 65536
    · rw [if_pos h3, Lib.encodeRuneZ_three (by omega)]
      simp only [List.map_cons, List.map_nil]
      rw [show (224 + (n : Int) / 4096).toNat = 224 + n / 4096 by omega, show (128 + (n : Int) / 64 % 64).toNat = 128 + n / 64 % 64 by omega, show (128 + (n : Int) % 64).toNat = 128 + n % 64 by omega]
    rw [if_neg h3, Lib.encodeRuneZ_four (by omega) (by omega)]
    simp only [List.map_cons, List.map_nil]
    rw [show (240 + (n : Int) / 262144).toNat = 240 + n / 262144 by omega, show (128 + (n : Int) / 4096 % 64).toNat = 128 + n / 4096 % 64 by omega, show (128 + (n : Int) / 64 % 64).toNat = 128 + n / 64 % 64 by omega, show (128 + (n : Int) % 64).toNat = 128 + n % 64 by omega]
theorem chr_bad {v : Nat} (h : v = 0 ∨ 1114111 < v) : Ending.returned (Value.string (Utf8.encode 65533)) = Ending.returned (S (Cssp.chr v)) := by
  rw [Cssp.chr, if_pos h, show (65533 : Int) = ((65533 : Nat) : Int) from rfl, enc_eq]
  rfl
theorem chr_good {v : Nat} (h0 : ¬ v = 0) (h1 : ¬ 1114111 < v) : Ending.returned (Value.string (Utf8.encode (v : Int))) = Ending.returned (S (Cssp.chr v)) := by
  rw [Cssp.chr, if_neg (by rintro (h | h); exact h0 h; exact h1 h), enc_eq]
set_option maxRecDepth 100000 in
set_option maxHeartbeats 4000000 in
theorem escape_ (s t : List UInt8) (b : Nat) (i o : Bool) (w : World) (h : Lx w b s i o t) (h1 : 1 ≤ s.length) (hl : s.length ≤ 140737488355328) :
    Calls Tryz.prog 70 #[.pointer (some ⟨b, 0, none⟩)] w (Left (S (Cssp.esc s).t) w b (s.drop (Cssp.esc s).k) i (o || (Cssp.esc s).o) s) := by
  obtain ⟨c0, c1, c2, c3⟩ := h.cells
  have f3 := h.frozen 3
  have hs3 := h.set3 s
  have hu3 := (Upto.refl b w).setCell 3 (S s)
  obtain ⟨w1, hw1⟩ : ∃ x, x = w.setCell ⟨b, 3, none⟩ (S s) := ⟨_, rfl⟩
  rw [← hw1] at hs3 hu3
  have HT1 := hide (take_ s s b 1 i o w1 hs3 h1)
  have HU3 := hide hu3
  go_enter Tryz.func70, Tryz.ntmps70
  go_upto_region 2 with (fail)
  rw [← hw1]
  clear hw1 h hs3 hu3 c0 c1 c2 c3 f3
  go_wp2_with fail
  refine HT1.out.mono ?_
  rintro e w2 ⟨rfl, h2, hu2⟩
  clear HT1
  have HU2 := hide (HU3.out.trans hu2)
  obtain ⟨r, hr⟩ : ∃ r, s.drop 1 = r := ⟨_, rfl⟩
  rw [hr] at h2
  have hrl : r.length + 1 = s.length := by rw [← hr, List.length_drop]; omega
  obtain ⟨N, hN⟩ : ∃ N, Cssp.run Cssp.isHex (r.take 6) = N := ⟨_, rfl⟩
  have hN6 : N ≤ 6 := by rw [← hN, Cssp.run_take]; omega
  have hNr : N ≤ r.length := by have := Cssp.run_le Cssp.isHex r; rw [← hN, Cssp.run_take]; omega
  have HN0 : Hid (Cssp.run Cssp.isHex ((r.take 6).drop 0) = N) := by unfold Hid; rw [List.drop_zero]; exact hN
  have HR := hide hr
  have HN := hide hN
  obtain ⟨c0, c1, c2, c3⟩ := h2.cells
  have f2 := h2.frozen 2
  clear hr hN hu2
  go_wp2_with fail
  go_loopg [3] 6 (fun g s3 wx => ∃ j : Nat, j + g = 6 ∧ s3 = .int .i64 j ∧ w2 = wx ∧ Hid (N = j + Cssp.run Cssp.isHex ((r.take 6).drop j)) ∧ j ≤ r.length)
  case atStart => exact ⟨0, by omega, rfl, rfl, by unfold Hid; rw [HN0.out]; omega, by omega⟩
  case round =>
    obtain ⟨j, hj, rfl, rfl, hd, hjr⟩ := hrel
    by_cases h6 : j < 6
    · have b6 : (j : Int) < 6 := by omega
      by_cases hlt : j < r.length
      · have b0 : (0 : Int) ≤ (j : Int) := by omega
        have b1 : (j : Int) < (r.length : Int) := by omega
        obtain ⟨x, hx⟩ : ∃ x, r[j] = x := ⟨_, rfl⟩
        have HX : Hid ((r.take 6)[j]? = some x) := by unfold Hid; rw [List.getElem?_take, if_pos h6, List.getElem?_eq_getElem hlt, hx]
        have hxb := u8_lt x
        go_wp2_with fail
        refine (tHex x _).mono ?_
        rintro e w' ⟨rfl, rfl⟩
        cases ha : Cssp.isHex x
        · have hneg : ¬ 0 ≤ Cssp.hex x := by
            intro hh
            rw [Cssp.isHex, decide_eq_true hh] at ha
            cases ha
          have hN2 : N = j := by
            have := hd.out
            rw [run_at HX.out, ha, if_neg (by decide)] at this
            omega
          subst hN2
          clear hd HX hx
          go_upto_region 6 with (fail)
          by_cases hr0 : r = []
          · have hE : Cssp.esc s = ⟨Cssp.fffd, 1, true⟩ := by
              rw [Cssp.esc, if_pos (by rw [hr0] at hrl; simp at hrl; omega)]
            have HE := hide hE
            clear hE
            subst hr0
            have hs2 := hide (h2.set2 true)
            have hu := hide ((HU2.out).setCell 2 (.bool true))
            go_wp2_with fail
            go_ret
            refine ⟨by rw [HE.out]; rfl, ?_, hu.out⟩
            rw [HE.out]
            show Lx _ _ (s.drop 1) _ (o || true) _
            rw [Bool.or_true, HR.out]
            exact hs2.out
          · have hre : r.isEmpty = false := by cases r with
              | nil => exact absurd rfl hr0
              | cons _ _ => rfl
            have hrb : (r == []) = false := by cases r with
              | nil => exact absurd rfl hr0
              | cons _ _ => rfl
            have hr1 : 1 ≤ r.length := by cases r with
              | nil => exact absurd rfl hr0
              | cons _ _ => simp
            have hlong : ¬ s.length ≤ 1 := by omega
            by_cases hN0 : N = 0
            · have hE : Hid (Cssp.esc s = ⟨r.take 1, 2, false⟩) := by
                unfold Hid
                rw [Cssp.esc, if_neg hlong, HR.out, HN.out, if_pos hN0]
              subst hN0
              have HT := hide (take_ r s b 1 i o _ h2 hr1)
              go_wp2_with fail
              refine HT.out.mono ?_
              rintro e w3 ⟨rfl, h3, hu3⟩
              go_wp2_with fail
              go_ret
              refine ⟨by rw [hE.out]; rfl, ?_, HU2.out.trans hu3⟩
              rw [hE.out]
              show Lx _ _ (s.drop (1 + 1)) _ (o || false) _
              rw [Bool.or_false, ← List.drop_drop, HR.out]
              exact h3
            · obtain ⟨ds, hds⟩ : ∃ ds, r.take N = ds := ⟨_, rfl⟩
              have hdl : ds.length = N := by rw [← hds, List.length_take]; omega
              have hdall : ds.all Cssp.isHex = true := by
                have hh := Cssp.run_take_all Cssp.isHex (r.take 6)
                rw [HN.out, List.take_take, show min N 6 = N by omega, hds] at hh
                exact hh
              obtain ⟨v, hv⟩ : ∃ v, Cssp.hexV 0 ds = v := ⟨_, rfl⟩
              have hpu : Hid (Cssp.pu 4294967295 16 0 ds = some (v : Int)) := by
                unfold Hid
                rw [← hv]
                refine Cssp.pu_hexV ds 0 hdall ?_
                rw [hdl]
                exact Nat.le_trans (Nat.mul_le_mul_left _ (Nat.pow_le_pow_right (by decide) hN6)) (by decide)
              have hv6 : v < 16777216 := by
                rw [← hv]
                have hh := Cssp.hexV_lt ds 0 hdall
                rw [hdl] at hh
                exact Nat.lt_of_lt_of_le hh (Nat.le_trans (Nat.mul_le_mul_left _ (Nat.pow_le_pow_right (by decide) hN6)) (by decide))
              obtain ⟨q, hq⟩ : ∃ q, r.drop N = q := ⟨_, rfl⟩
              have hql : N + q.length = r.length := by rw [← hq, List.length_drop]; omega
              have hE : Hid (Cssp.esc s = ⟨Cssp.chr v, if Cssp.isAt Cssp.blank q 0 = true then 2 + N else 1 + N, decide (q = [])⟩) := by
                unfold Hid
                rw [Cssp.esc, if_neg hlong, HR.out, HN.out, if_neg hN0, hds, hv]
                have e1 : Cssp.isAt Cssp.blank s (1 + N) = Cssp.isAt Cssp.blank q 0 := by
                  unfold Cssp.isAt
                  rw [← hq, ← HR.out, List.getElem?_drop, List.getElem?_drop, Nat.add_zero, Nat.add_comm]
                have e2 : decide (1 + N = s.length) = decide (q = []) := by
                  rw [decide_eq_decide, ← List.length_eq_zero_iff]
                  omega
                rw [e1, e2]
              have hdq : Hid (s.drop (1 + N) = q) := by unfold Hid; rw [← List.drop_drop, HR.out, hq]
              have HT := hide (take_ r s b N i o _ h2 hNr)
              rw [hds, hq] at HT
              have HPU := fun W => hide (parseUint16 ds v W (by rw [hdl]; omega) (by rw [hdl]; omega) (by
                have : Cssp.allB 16 ds = ds.all Cssp.isHex := by
                  unfold Cssp.allB
                  congr 1
                  funext c
                  exact (Cssp.isHex_dig c).symm
                rw [this]; exact hdall) hpu)
              have hNb : ((N : Int) == 0) = false := by rw [beq_eq_false_iff_ne]; omega
              have HN0' := hide hN0
              clear hds hdl hdall hv hpu hq hN0 hr0 h2
              go_wp2_with fail
              refine HT.out.mono ?_
              rintro e w3 ⟨rfl, h3, hu3⟩
              go_wp2_with fail
              refine (HPU w3).out.mono ?_
              rintro e w4 ⟨rfl, hb4⟩
              have h4 := h3.below hb4
              have HU4 := hide ((HU2.out.trans hu3).trans (Upto.of_below hb4))
              clear HT HPU c0 c1 c2 c3 f2
              obtain ⟨c0, c1, c2, c3⟩ := h4.cells
              have f2 := h4.frozen 2
              clear hu3 hb4 h3
              have hend : ∀ (W : World) (oo : Bool) (k : Nat) (a : Act), Lx W b (s.drop k) i oo s → Upto b w W → True := fun _ _ _ _ _ _ => trivial
              clear hend
              cases q with
              | nil =>
                have hs2 := hide (h4.set2 true)
                have hu := hide (HU4.out.setCell 2 (.bool true))
                have hE2 : Hid (Cssp.esc s = ⟨Cssp.chr v, 1 + N, true⟩) := hE.out
                go_upto_region 16 with (fail)
                generalize w4.setCell ⟨b, 2, none⟩ (.bool true) = w5 at hs2 hu ⊢
                clear c0 c1 c2 c3 f2
                by_cases hv0 : v = 0
                · subst hv0
                  go_wp2_with fail
                  go_ret
                  refine ⟨by rw [hE2.out]; exact chr_bad (.inl rfl), ?_, hu.out⟩
                  rw [hE2.out]; show Lx _ _ (s.drop (1 + N)) _ (o || true) _; rw [hdq.out, Bool.or_true]; exact hs2.out
                · have hvb : ((v : Int) == 0) = false := by rw [beq_eq_false_iff_ne]; omega
                  by_cases hvm : 1114111 < v
                  · have hvd : decide ((1114111 : Int) < (v : Int)) = true := by simp; omega
                    have HVM := hide hvm
                    clear hv0 hvm
                    go_wp2_with fail
                    go_ret
                    refine ⟨by rw [hE2.out]; exact chr_bad (.inr HVM.out), ?_, hu.out⟩
                    rw [hE2.out]; show Lx _ _ (s.drop (1 + N)) _ (o || true) _; rw [hdq.out, Bool.or_true]; exact hs2.out
                  · have hvd : decide ((1114111 : Int) < (v : Int)) = false := by simp; omega
                    have HV0 := hide hv0
                    have HVM := hide hvm
                    clear hv0 hvm
                    go_wp2_with fail
                    go_ret
                    refine ⟨by rw [hE2.out]; exact chr_good HV0.out HVM.out, ?_, hu.out⟩
                    rw [hE2.out]; show Lx _ _ (s.drop (1 + N)) _ (o || true) _; rw [hdq.out, Bool.or_true]; exact hs2.out
              | cons x q =>
                have hxb := u8_lt x
                have hE2 : Hid (Cssp.esc s = ⟨Cssp.chr v, if Cssp.blank x = true then 2 + N else 1 + N, false⟩) := hE.out
                go_wp2_with fail
                refine (cBlank x _).mono ?_
                rintro e w5 ⟨rfl, rfl⟩
                cases hbl : Cssp.blank x
                · rw [hbl] at hE2
                  have hs2 := hide h4
                  have hu := HU4
                  go_upto_region 16 with (fail)
                  clear c0 c1 c2 c3 f2
                  by_cases hv0 : v = 0
                  · subst hv0
                    go_wp2_with fail
                    go_ret
                    refine ⟨by rw [hE2.out]; exact chr_bad (.inl rfl), ?_, hu.out⟩
                    rw [hE2.out]; show Lx _ _ (s.drop (1 + N)) _ (o || false) _; rw [hdq.out, Bool.or_false]; exact hs2.out
                  · have hvb : ((v : Int) == 0) = false := by rw [beq_eq_false_iff_ne]; omega
                    by_cases hvm : 1114111 < v
                    · have hvd : decide ((1114111 : Int) < (v : Int)) = true := by simp; omega
                      have HVM := hide hvm
                      clear hv0 hvm
                      go_wp2_with fail
                      go_ret
                      refine ⟨by rw [hE2.out]; exact chr_bad (.inr HVM.out), ?_, hu.out⟩
                      rw [hE2.out]; show Lx _ _ (s.drop (1 + N)) _ (o || false) _; rw [hdq.out, Bool.or_false]; exact hs2.out
                    · have hvd : decide ((1114111 : Int) < (v : Int)) = false := by simp; omega
                      have HV0 := hide hv0
                      have HVM := hide hvm
                      clear hv0 hvm
                      go_wp2_with fail
                      go_ret
                      refine ⟨by rw [hE2.out]; exact chr_good HV0.out HVM.out, ?_, hu.out⟩
                      rw [hE2.out]; show Lx _ _ (s.drop (1 + N)) _ (o || false) _; rw [hdq.out, Bool.or_false]; exact hs2.out
                · rw [hbl] at hE2
                  have HT2 := hide (take_ (x :: q) s b 1 i o _ h4 (by simp))
                  go_wp2_with fail
                  refine HT2.out.mono ?_
                  rintro e w6 ⟨rfl, h6, hu6⟩
                  have hs2 := hide h6
                  have hu := hide (HU4.out.trans hu6)
                  go_upto_region 16 with (fail)
                  clear c0 c1 c2 c3 f2
                  by_cases hv0 : v = 0
                  · subst hv0
                    go_wp2_with fail
                    go_ret
                    refine ⟨by rw [hE2.out]; exact chr_bad (.inl rfl), ?_, hu.out⟩
                    rw [hE2.out]; show Lx _ _ (s.drop (2 + N)) _ (o || false) _; rw [show 2 + N = (1 + N) + 1 by omega, ← List.drop_drop, hdq.out, Bool.or_false]; exact hs2.out
                  · have hvb : ((v : Int) == 0) = false := by rw [beq_eq_false_iff_ne]; omega
                    by_cases hvm : 1114111 < v
                    · have hvd : decide ((1114111 : Int) < (v : Int)) = true := by simp; omega
                      have HVM := hide hvm
                      clear hv0 hvm
                      go_wp2_with fail
                      go_ret
                      refine ⟨by rw [hE2.out]; exact chr_bad (.inr HVM.out), ?_, hu.out⟩
                      rw [hE2.out]; show Lx _ _ (s.drop (2 + N)) _ (o || false) _; rw [show 2 + N = (1 + N) + 1 by omega, ← List.drop_drop, hdq.out, Bool.or_false]; exact hs2.out
                    · have hvd : decide ((1114111 : Int) < (v : Int)) = false := by simp; omega
                      have HV0 := hide hv0
                      have HVM := hide hvm
                      clear hv0 hvm
                      go_wp2_with fail
                      go_ret
                      refine ⟨by rw [hE2.out]; exact chr_good HV0.out HVM.out, ?_, hu.out⟩
                      rw [hE2.out]; show Lx _ _ (s.drop (2 + N)) _ (o || false) _; rw [show 2 + N = (1 + N) + 1 by omega, ← List.drop_drop, hdq.out, Bool.or_false]; exact hs2.out
        · have hpos : 0 ≤ Cssp.hex x := of_decide_eq_true ha
          have hd2 : Hid (N = (j + 1) + Cssp.run Cssp.isHex ((r.take 6).drop (j + 1))) := by
            have := hd.out
            rw [run_at HX.out, ha, if_pos rfl] at this
            unfold Hid; omega
          clear hd HX hx
          go_wp2_with fail
          go_roundg (gk - 1)
          case measure => omega
          case rel => exact ⟨j + 1, by omega, by go_num, rfl, hd2, by omega⟩
      · have hN2 : N = j := by
          have := hd.out
          rw [List.drop_eq_nil_of_le (by rw [List.length_take]; omega), Cssp.run] at this
          omega
        subst hN2
        clear hd
        go_upto_region 6 with (fail)
        by_cases hr0 : r = []
        · have hE : Cssp.esc s = ⟨Cssp.fffd, 1, true⟩ := by
            rw [Cssp.esc, if_pos (by rw [hr0] at hrl; simp at hrl; omega)]
          have HE := hide hE
          clear hE
          subst hr0
          have hs2 := hide (h2.set2 true)
          have hu := hide ((HU2.out).setCell 2 (.bool true))
          go_wp2_with fail
          go_ret
          refine ⟨by rw [HE.out]; rfl, ?_, hu.out⟩
          rw [HE.out]
          show Lx _ _ (s.drop 1) _ (o || true) _
          rw [Bool.or_true, HR.out]
          exact hs2.out
        · have hre : r.isEmpty = false := by cases r with
            | nil => exact absurd rfl hr0
            | cons _ _ => rfl
          have hrb : (r == []) = false := by cases r with
            | nil => exact absurd rfl hr0
            | cons _ _ => rfl
          have hr1 : 1 ≤ r.length := by cases r with
            | nil => exact absurd rfl hr0
            | cons _ _ => simp
          have hlong : ¬ s.length ≤ 1 := by omega
          by_cases hN0 : N = 0
          · exfalso; omega
          · obtain ⟨ds, hds⟩ : ∃ ds, r.take N = ds := ⟨_, rfl⟩
            have hdl : ds.length = N := by rw [← hds, List.length_take]; omega
            have hdall : ds.all Cssp.isHex = true := by
              have hh := Cssp.run_take_all Cssp.isHex (r.take 6)
              rw [HN.out, List.take_take, show min N 6 = N by omega, hds] at hh
              exact hh
            obtain ⟨v, hv⟩ : ∃ v, Cssp.hexV 0 ds = v := ⟨_, rfl⟩
            have hpu : Hid (Cssp.pu 4294967295 16 0 ds = some (v : Int)) := by
              unfold Hid
              rw [← hv]
              refine Cssp.pu_hexV ds 0 hdall ?_
              rw [hdl]
              exact Nat.le_trans (Nat.mul_le_mul_left _ (Nat.pow_le_pow_right (by decide) hN6)) (by decide)
            have hv6 : v < 16777216 := by
              rw [← hv]
              have hh := Cssp.hexV_lt ds 0 hdall
              rw [hdl] at hh
              exact Nat.lt_of_lt_of_le hh (Nat.le_trans (Nat.mul_le_mul_left _ (Nat.pow_le_pow_right (by decide) hN6)) (by decide))
            obtain ⟨q, hq⟩ : ∃ q, r.drop N = q := ⟨_, rfl⟩
            have hql : N + q.length = r.length := by rw [← hq, List.length_drop]; omega
            have hE : Hid (Cssp.esc s = ⟨Cssp.chr v, if Cssp.isAt Cssp.blank q 0 = true then 2 + N else 1 + N, decide (q = [])⟩) := by
              unfold Hid
              rw [Cssp.esc, if_neg hlong, HR.out, HN.out, if_neg hN0, hds, hv]
              have e1 : Cssp.isAt Cssp.blank s (1 + N) = Cssp.isAt Cssp.blank q 0 := by
                unfold Cssp.isAt
                rw [← hq, ← HR.out, List.getElem?_drop, List.getElem?_drop, Nat.add_zero, Nat.add_comm]
              have e2 : decide (1 + N = s.length) = decide (q = []) := by
                rw [decide_eq_decide, ← List.length_eq_zero_iff]
                omega
              rw [e1, e2]
            have hdq : Hid (s.drop (1 + N) = q) := by unfold Hid; rw [← List.drop_drop, HR.out, hq]
            have HT := hide (take_ r s b N i o _ h2 hNr)
            rw [hds, hq] at HT
            have HPU := fun W => hide (parseUint16 ds v W (by rw [hdl]; omega) (by rw [hdl]; omega) (by
              have : Cssp.allB 16 ds = ds.all Cssp.isHex := by
                unfold Cssp.allB
                congr 1
                funext c
                exact (Cssp.isHex_dig c).symm
              rw [this]; exact hdall) hpu)
            have hNb : ((N : Int) == 0) = false := by rw [beq_eq_false_iff_ne]; omega
            have HN0' := hide hN0
            clear hds hdl hdall hv hpu hq hN0 hr0 h2
            go_wp2_with fail
            refine HT.out.mono ?_
            rintro e w3 ⟨rfl, h3, hu3⟩
            go_wp2_with fail
            refine (HPU w3).out.mono ?_
            rintro e w4 ⟨rfl, hb4⟩
            have h4 := h3.below hb4
            have HU4 := hide ((HU2.out.trans hu3).trans (Upto.of_below hb4))
            clear HT HPU c0 c1 c2 c3 f2
            obtain ⟨c0, c1, c2, c3⟩ := h4.cells
            have f2 := h4.frozen 2
            clear hu3 hb4 h3
            have hend : ∀ (W : World) (oo : Bool) (k : Nat) (a : Act), Lx W b (s.drop k) i oo s → Upto b w W → True := fun _ _ _ _ _ _ => trivial
            clear hend
            cases q with
            | nil =>
              have hs2 := hide (h4.set2 true)
              have hu := hide (HU4.out.setCell 2 (.bool true))
              have hE2 : Hid (Cssp.esc s = ⟨Cssp.chr v, 1 + N, true⟩) := hE.out
              go_upto_region 16 with (fail)
              generalize w4.setCell ⟨b, 2, none⟩ (.bool true) = w5 at hs2 hu ⊢
              clear c0 c1 c2 c3 f2
              by_cases hv0 : v = 0
              · subst hv0
                go_wp2_with fail
                go_ret
                refine ⟨by rw [hE2.out]; exact chr_bad (.inl rfl), ?_, hu.out⟩
                rw [hE2.out]; show Lx _ _ (s.drop (1 + N)) _ (o || true) _; rw [hdq.out, Bool.or_true]; exact hs2.out
              · have hvb : ((v : Int) == 0) = false := by rw [beq_eq_false_iff_ne]; omega
                by_cases hvm : 1114111 < v
                · have hvd : decide ((1114111 : Int) < (v : Int)) = true := by simp; omega
                  have HVM := hide hvm
                  clear hv0 hvm
                  go_wp2_with fail
                  go_ret
                  refine ⟨by rw [hE2.out]; exact chr_bad (.inr HVM.out), ?_, hu.out⟩
                  rw [hE2.out]; show Lx _ _ (s.drop (1 + N)) _ (o || true) _; rw [hdq.out, Bool.or_true]; exact hs2.out
                · have hvd : decide ((1114111 : Int) < (v : Int)) = false := by simp; omega
                  have HV0 := hide hv0
                  have HVM := hide hvm
                  clear hv0 hvm
                  go_wp2_with fail
                  go_ret
                  refine ⟨by rw [hE2.out]; exact chr_good HV0.out HVM.out, ?_, hu.out⟩
                  rw [hE2.out]; show Lx _ _ (s.drop (1 + N)) _ (o || true) _; rw [hdq.out, Bool.or_true]; exact hs2.out
            | cons x q =>
              have hxb := u8_lt x
              have hE2 : Hid (Cssp.esc s = ⟨Cssp.chr v, if Cssp.blank x = true then 2 + N else 1 + N, false⟩) := hE.out
              go_wp2_with fail
              refine (cBlank x _).mono ?_
              rintro e w5 ⟨rfl, rfl⟩
              cases hbl : Cssp.blank x
              · rw [hbl] at hE2
                have hs2 := hide h4
                have hu := HU4
                go_upto_region 16 with (fail)
                clear c0 c1 c2 c3 f2
                by_cases hv0 : v = 0
                · subst hv0
                  go_wp2_with fail
                  go_ret
                  refine ⟨by rw [hE2.out]; exact chr_bad (.inl rfl), ?_, hu.out⟩
                  rw [hE2.out]; show Lx _ _ (s.drop (1 + N)) _ (o || false) _; rw [hdq.out, Bool.or_false]; exact hs2.out
                · have hvb : ((v : Int) == 0) = false := by rw [beq_eq_false_iff_ne]; omega
                  by_cases hvm : 1114111 < v
                  · have hvd : decide ((1114111 : Int) < (v : Int)) = true := by simp; omega
                    have HVM := hide hvm
                    clear hv0 hvm
                    go_wp2_with fail
                    go_ret
                    refine ⟨by rw [hE2.out]; exact chr_bad (.inr HVM.out), ?_, hu.out⟩
                    rw [hE2.out]; show Lx _ _ (s.drop (1 + N)) _ (o || false) _; rw [hdq.out, Bool.or_false]; exact hs2.out
                  · have hvd : decide ((1114111 : Int) < (v : Int)) = false := by simp; omega
                    have HV0 := hide hv0
                    have HVM := hide hvm
                    clear hv0 hvm
                    go_wp2_with fail
                    go_ret
                    refine ⟨by rw [hE2.out]; exact chr_good HV0.out HVM.out, ?_, hu.out⟩
                    rw [hE2.out]; show Lx _ _ (s.drop (1 + N)) _ (o || false) _; rw [hdq.out, Bool.or_false]; exact hs2.out
              · rw [hbl] at hE2
                have HT2 := hide (take_ (x :: q) s b 1 i o _ h4 (by simp))
                go_wp2_with fail
                refine HT2.out.mono ?_
                rintro e w6 ⟨rfl, h6, hu6⟩
                have hs2 := hide h6
                have hu := hide (HU4.out.trans hu6)
                go_upto_region 16 with (fail)
                clear c0 c1 c2 c3 f2
                by_cases hv0 : v = 0
                · subst hv0
                  go_wp2_with fail
                  go_ret
                  refine ⟨by rw [hE2.out]; exact chr_bad (.inl rfl), ?_, hu.out⟩
                  rw [hE2.out]; show Lx _ _ (s.drop (2 + N)) _ (o || false) _; rw [show 2 + N = (1 + N) + 1 by omega, ← List.drop_drop, hdq.out, Bool.or_false]; exact hs2.out
                · have hvb : ((v : Int) == 0) = false := by rw [beq_eq_false_iff_ne]; omega
                  by_cases hvm : 1114111 < v
                  · have hvd : decide ((1114111 : Int) < (v : Int)) = true := by simp; omega
                    have HVM := hide hvm
                    clear hv0 hvm
                    go_wp2_with fail
                    go_ret
                    refine ⟨by rw [hE2.out]; exact chr_bad (.inr HVM.out), ?_, hu.out⟩
                    rw [hE2.out]; show Lx _ _ (s.drop (2 + N)) _ (o || false) _; rw [show 2 + N = (1 + N) + 1 by omega, ← List.drop_drop, hdq.out, Bool.or_false]; exact hs2.out
                  · have hvd : decide ((1114111 : Int) < (v : Int)) = false := by simp; omega
                    have HV0 := hide hv0
                    have HVM := hide hvm
                    clear hv0 hvm
                    go_wp2_with fail
                    go_ret
                    refine ⟨by rw [hE2.out]; exact chr_good HV0.out HVM.out, ?_, hu.out⟩
                    rw [hE2.out]; show Lx _ _ (s.drop (2 + N)) _ (o || false) _; rw [show 2 + N = (1 + N) + 1 by omega, ← List.drop_drop, hdq.out, Bool.or_false]; exact hs2.out
    · have hN2 : N = j := by
        have := hd.out
        rw [List.drop_eq_nil_of_le (by rw [List.length_take]; omega), Cssp.run] at this
        omega
      subst hN2
      clear hd
      go_upto_region 6 with (fail)
      by_cases hr0 : r = []
      · have hE : Cssp.esc s = ⟨Cssp.fffd, 1, true⟩ := by
          rw [Cssp.esc, if_pos (by rw [hr0] at hrl; simp at hrl; omega)]
        have HE := hide hE
        clear hE
        subst hr0
        have hs2 := hide (h2.set2 true)
        have hu := hide ((HU2.out).setCell 2 (.bool true))
        go_wp2_with fail
        go_ret
        refine ⟨by rw [HE.out]; rfl, ?_, hu.out⟩
        rw [HE.out]
        show Lx _ _ (s.drop 1) _ (o || true) _
        rw [Bool.or_true, HR.out]
        exact hs2.out
      · have hre : r.isEmpty = false := by cases r with
          | nil => exact absurd rfl hr0
          | cons _ _ => rfl
        have hrb : (r == []) = false := by cases r with
          | nil => exact absurd rfl hr0
          | cons _ _ => rfl
        have hr1 : 1 ≤ r.length := by cases r with
          | nil => exact absurd rfl hr0
          | cons _ _ => simp
        have hlong : ¬ s.length ≤ 1 := by omega
        by_cases hN0 : N = 0
        · exfalso; omega
        · obtain ⟨ds, hds⟩ : ∃ ds, r.take N = ds := ⟨_, rfl⟩
          have hdl : ds.length = N := by rw [← hds, List.length_take]; omega
          have hdall : ds.all Cssp.isHex = true := by
            have hh := Cssp.run_take_all Cssp.isHex (r.take 6)
            rw [HN.out, List.take_take, show min N 6 = N by omega, hds] at hh
            exact hh
          obtain ⟨v, hv⟩ : ∃ v, Cssp.hexV 0 ds = v := ⟨_, rfl⟩
          have hpu : Hid (Cssp.pu 4294967295 16 0 ds = some (v : Int)) := by
            unfold Hid
            rw [← hv]
            refine Cssp.pu_hexV ds 0 hdall ?_
            rw [hdl]
            exact Nat.le_trans (Nat.mul_le_mul_left _ (Nat.pow_le_pow_right (by decide) hN6)) (by decide)
          have hv6 : v < 16777216 := by
            rw [← hv]
            have hh := Cssp.hexV_lt ds 0 hdall
            rw [hdl] at hh
            exact Nat.lt_of_lt_of_le hh (Nat.le_trans (Nat.mul_le_mul_left _ (Nat.pow_le_pow_right (by decide) hN6)) (by decide))
          obtain ⟨q, hq⟩ : ∃ q, r.drop N = q := ⟨_, rfl⟩
          have hql : N + q.length = r.length := by rw [← hq, List.length_drop]; omega
          have hE : Hid (Cssp.esc s = ⟨Cssp.chr v, if Cssp.isAt Cssp.blank q 0 = true then 2 + N else 1 + N, decide (q = [])⟩) := by
            unfold Hid
            rw [Cssp.esc, if_neg hlong, HR.out, HN.out, if_neg hN0, hds, hv]
            have e1 : Cssp.isAt Cssp.blank s (1 + N) = Cssp.isAt Cssp.blank q 0 := by
              unfold Cssp.isAt
              rw [← hq, ← HR.out, List.getElem?_drop, List.getElem?_drop, Nat.add_zero, Nat.add_comm]
            have e2 : decide (1 + N = s.length) = decide (q = []) := by
              rw [decide_eq_decide, ← List.length_eq_zero_iff]
              omega
            rw [e1, e2]
          have hdq : Hid (s.drop (1 + N) = q) := by unfold Hid; rw [← List.drop_drop, HR.out, hq]
          have HT := hide (take_ r s b N i o _ h2 hNr)
          rw [hds, hq] at HT
          have HPU := fun W => hide (parseUint16 ds v W (by rw [hdl]; omega) (by rw [hdl]; omega) (by
            have : Cssp.allB 16 ds = ds.all Cssp.isHex := by
              unfold Cssp.allB
              congr 1
              funext c
              exact (Cssp.isHex_dig c).symm
            rw [this]; exact hdall) hpu)
          have hNb : ((N : Int) == 0) = false := by rw [beq_eq_false_iff_ne]; omega
          have HN0' := hide hN0
          clear hds hdl hdall hv hpu hq hN0 hr0 h2
          go_wp2_with fail
          refine HT.out.mono ?_
          rintro e w3 ⟨rfl, h3, hu3⟩
          go_wp2_with fail
          refine (HPU w3).out.mono ?_
          rintro e w4 ⟨rfl, hb4⟩
          have h4 := h3.below hb4
          have HU4 := hide ((HU2.out.trans hu3).trans (Upto.of_below hb4))
          clear HT HPU c0 c1 c2 c3 f2
          obtain ⟨c0, c1, c2, c3⟩ := h4.cells
          have f2 := h4.frozen 2
          clear hu3 hb4 h3
          have hend : ∀ (W : World) (oo : Bool) (k : Nat) (a : Act), Lx W b (s.drop k) i oo s → Upto b w W → True := fun _ _ _ _ _ _ => trivial
          clear hend
          cases q with
          | nil =>
            have hs2 := hide (h4.set2 true)
            have hu := hide (HU4.out.setCell 2 (.bool true))
            have hE2 : Hid (Cssp.esc s = ⟨Cssp.chr v, 1 + N, true⟩) := hE.out
            go_upto_region 16 with (fail)
            generalize w4.setCell ⟨b, 2, none⟩ (.bool true) = w5 at hs2 hu ⊢
            clear c0 c1 c2 c3 f2
            by_cases hv0 : v = 0
            · subst hv0
              go_wp2_with fail
              go_ret
              refine ⟨by rw [hE2.out]; exact chr_bad (.inl rfl), ?_, hu.out⟩
              rw [hE2.out]; show Lx _ _ (s.drop (1 + N)) _ (o || true) _; rw [hdq.out, Bool.or_true]; exact hs2.out
            · have hvb : ((v : Int) == 0) = false := by rw [beq_eq_false_iff_ne]; omega
              by_cases hvm : 1114111 < v
              · have hvd : decide ((1114111 : Int) < (v : Int)) = true := by simp; omega
                have HVM := hide hvm
                clear hv0 hvm
                go_wp2_with fail
                go_ret
                refine ⟨by rw [hE2.out]; exact chr_bad (.inr HVM.out), ?_, hu.out⟩
                rw [hE2.out]; show Lx _ _ (s.drop (1 + N)) _ (o || true) _; rw [hdq.out, Bool.or_true]; exact hs2.out
              · have hvd : decide ((1114111 : Int) < (v : Int)) = false := by simp; omega
                have HV0 := hide hv0
                have HVM := hide hvm
                clear hv0 hvm
                go_wp2_with fail
                go_ret
                refine ⟨by rw [hE2.out]; exact chr_good HV0.out HVM.out, ?_, hu.out⟩
                rw [hE2.out]; show Lx _ _ (s.drop (1 + N)) _ (o || true) _; rw [hdq.out, Bool.or_true]; exact hs2.out
          | cons x q =>
            have hxb := u8_lt x
            have hE2 : Hid (Cssp.esc s = ⟨Cssp.chr v, if Cssp.blank x = true then 2 + N else 1 + N, false⟩) := hE.out
            go_wp2_with fail
            refine (cBlank x _).mono ?_
            rintro e w5 ⟨rfl, rfl⟩
            cases hbl : Cssp.blank x
            · rw [hbl] at hE2
              have hs2 := hide h4
              have hu := HU4
              go_upto_region 16 with (fail)
              clear c0 c1 c2 c3 f2
              by_cases hv0 : v = 0
              · subst hv0
                go_wp2_with fail
                go_ret
                refine ⟨by rw [hE2.out]; exact chr_bad (.inl rfl), ?_, hu.out⟩
                rw [hE2.out]; show Lx _ _ (s.drop (1 + N)) _ (o || false) _; rw [hdq.out, Bool.or_false]; exact hs2.out
              · have hvb : ((v : Int) == 0) = false := by rw [beq_eq_false_iff_ne]; omega
                by_cases hvm : 1114111 < v
                · have hvd : decide ((1114111 : Int) < (v : Int)) = true := by simp; omega
                  have HVM := hide hvm
                  clear hv0 hvm
                  go_wp2_with fail
                  go_ret
                  refine ⟨by rw [hE2.out]; exact chr_bad (.inr HVM.out), ?_, hu.out⟩
                  rw [hE2.out]; show Lx _ _ (s.drop (1 + N)) _ (o || false) _; rw [hdq.out, Bool.or_false]; exact hs2.out
                · have hvd : decide ((1114111 : Int) < (v : Int)) = false := by simp; omega
                  have HV0 := hide hv0
                  have HVM := hide hvm
                  clear hv0 hvm
                  go_wp2_with fail
                  go_ret
                  refine ⟨by rw [hE2.out]; exact chr_good HV0.out HVM.out, ?_, hu.out⟩
                  rw [hE2.out]; show Lx _ _ (s.drop (1 + N)) _ (o || false) _; rw [hdq.out, Bool.or_false]; exact hs2.out
            · rw [hbl] at hE2
              have HT2 := hide (take_ (x :: q) s b 1 i o _ h4 (by simp))
              go_wp2_with fail
              refine HT2.out.mono ?_
              rintro e w6 ⟨rfl, h6, hu6⟩
              have hs2 := hide h6
              have hu := hide (HU4.out.trans hu6)
              go_upto_region 16 with (fail)
              clear c0 c1 c2 c3 f2
              by_cases hv0 : v = 0
              · subst hv0
                go_wp2_with fail
                go_ret
                refine ⟨by rw [hE2.out]; exact chr_bad (.inl rfl), ?_, hu.out⟩
                rw [hE2.out]; show Lx _ _ (s.drop (2 + N)) _ (o || false) _; rw [show 2 + N = (1 + N) + 1 by omega, ← List.drop_drop, hdq.out, Bool.or_false]; exact hs2.out
              · have hvb : ((v : Int) == 0) = false := by rw [beq_eq_false_iff_ne]; omega
                by_cases hvm : 1114111 < v
                · have hvd : decide ((1114111 : Int) < (v : Int)) = true := by simp; omega
                  have HVM := hide hvm
                  clear hv0 hvm
                  go_wp2_with fail
                  go_ret
                  refine ⟨by rw [hE2.out]; exact chr_bad (.inr HVM.out), ?_, hu.out⟩
                  rw [hE2.out]; show Lx _ _ (s.drop (2 + N)) _ (o || false) _; rw [show 2 + N = (1 + N) + 1 by omega, ← List.drop_drop, hdq.out, Bool.or_false]; exact hs2.out
                · have hvd : decide ((1114111 : Int) < (v : Int)) = false := by simp; omega
                  have HV0 := hide hv0
                  have HVM := hide hvm
                  clear hv0 hvm
                  go_wp2_with fail
                  go_ret
                  refine ⟨by rw [hE2.out]; exact chr_good HV0.out HVM.out, ?_, hu.out⟩
                  rw [hE2.out]; show Lx _ _ (s.drop (2 + N)) _ (o || false) _; rw [show 2 + N = (1 + N) + 1 by omega, ← List.drop_drop, hdq.out, Bool.or_false]; exact hs2.out
end Go.Proofs.YtojgcangnkjmjaaGreatDoor
