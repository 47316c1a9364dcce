/- The reference: a part's number; a number of a byte. -/
import Derived.Test.YtahjndignkhmoaaGreatDoorRe
namespace Go.Proofs.YtahjndignkhmoaaGreatDoor
open Go.RowKit

theorem digR_false {b : Int} {s : List UInt8} {m : Int} (h : digR b s = (m, false)) : Hostp.allB b s = false ∧ m = 0 := by
  unfold digR at h
  split at h
  · cases h
  · rename_i hn
    exact ⟨by simpa using hn, (Prod.mk.inj h).1.symm⟩
theorem digR_true {b : Int} {s : List UInt8} {m : Int} (h : digR b s = (m, true)) : Hostp.allB b s = true ∧ m = min (Hostp.value b s) 1099511627776 := by
  unfold digR at h
  split at h
  · rename_i hn
    exact ⟨hn, (Prod.mk.inj h).1.symm⟩
  · cases h
def numR (s : List UInt8) : Int × Bool := if s = [] then (0, false) else digR (Hostp.basedP s).2 (Hostp.basedP s).1

set_option maxHeartbeats 2000000 in
set_option maxRecDepth 100000 in
theorem rNumber (s : List UInt8) (n : Int) (ok : Bool) (w : World) (hl : s.length ≤ 4194304) (hd : Hid (numR s = (n, ok))) :
    Calls Tryz.prog 33 #[S s] w (Ret (.tuple #[.int .i64 n, .bool ok]) w) := by
  have hret : ∀ (t : List UInt8) (b : Int) (w : World), Hid (digR b t = (n, ok)) → 2 ≤ b → b ≤ 16 → t.length ≤ 4194304 → Calls Tryz.prog 56 #[S t, .int .i64 b] w (Ret (.tuple #[.int .i64 n, .bool ok]) w) := fun t b w h h1 h2 h3 => rDigits t b n ok w h1 h2 h3 h
  have h0 := hd.out
  unfold numR at h0
  match s, h0, hl with
  | [], h0, hl =>
    rw [if_pos rfl] at h0
    obtain ⟨rfl, rfl⟩ := Prod.mk.inj h0
    clear hd h0
    go_enter Tryz.func33, Tryz.ntmps33
    go_wp2_with fail
    refine bodyPost_ret (v := .tuple #[.int .i64 0, .bool false]) (by simp [results, Tryz.results33, go_sem]) rfl ?_
    exact Ret.of rfl
  | [c], h0, hl =>
    rw [if_neg (by simp)] at h0
    have H0 := hide (show digR 10 [c] = (n, ok) from h0)
    clear hd h0
    go_enter Tryz.func33, Tryz.ntmps33
    go_wp2_with fail
    refine (hret [c] 10 _ H0 (by decide) (by decide) (by simp)).mono ?_
    rintro e w2 ⟨rfl, rfl⟩
    go_wp2_with fail
    refine bodyPost_ret (v := .tuple #[.int .i64 n, .bool ok]) (by simp [results, Tryz.results33, go_sem]) rfl ?_
    exact Ret.of rfl
  | c :: d :: r, h0, hl =>
    rw [if_neg (by simp)] at h0
    simp only [List.length_cons] at hl
    by_cases hc : c = 48
    · subst hc
      by_cases hx : d = 120 ∨ d = 88
      · have H0 : Hid (digR 16 r = (n, ok)) := by rw [show Hostp.basedP (48 :: d :: r) = (r, 16) by rw [Hostp.basedP, if_pos rfl, if_pos hx]] at h0; exact h0
        clear hd h0
        rcases hx with rfl | rfl
        all_goals
          go_enter Tryz.func33, Tryz.ntmps33
          go_wp2_with fail
          refine (hret r 16 _ H0 (by decide) (by decide) (by omega)).mono ?_
          rintro e w2 ⟨rfl, rfl⟩
          go_wp2_with fail
          refine bodyPost_ret (v := .tuple #[.int .i64 n, .bool ok]) (by simp [results, Tryz.results33, go_sem]) rfl ?_
          exact Ret.of rfl
      · have H0 : Hid (digR 8 (d :: r) = (n, ok)) := by
          rw [show Hostp.basedP (48 :: d :: r) = (d :: r, 8) by rw [Hostp.basedP, if_pos rfl, if_neg hx]] at h0
          exact h0
        have b1 : ((d.toNat : Int) == 120) = false := beq_eq_false_iff_ne.2 (fun h => hx (.inl (UInt8.toNat_inj.1 (by show d.toNat = 120; omega))))
        have b2 : ((d.toNat : Int) == 88) = false := beq_eq_false_iff_ne.2 (fun h => hx (.inr (UInt8.toNat_inj.1 (by show d.toNat = 88; omega))))
        clear hd h0 hx
        go_enter Tryz.func33, Tryz.ntmps33
        go_wp2_with fail
        refine (hret (d :: r) 8 _ H0 (by decide) (by decide) (by simp only [List.length_cons]; omega)).mono ?_
        rintro e w2 ⟨rfl, rfl⟩
        go_wp2_with fail
        refine bodyPost_ret (v := .tuple #[.int .i64 n, .bool ok]) (by simp [results, Tryz.results33, go_sem]) rfl ?_
        exact Ret.of rfl
    · have H0 : Hid (digR 10 (c :: d :: r) = (n, ok)) := by
        rw [show Hostp.basedP (c :: d :: r) = (c :: d :: r, 10) by rw [Hostp.basedP, if_neg hc]] at h0
        exact h0
      have b1 : ((c.toNat : Int) == 48) = false := beq_eq_false_iff_ne.2 (fun h => hc (UInt8.toNat_inj.1 (by show c.toNat = 48; omega)))
      clear hd h0 hc
      go_enter Tryz.func33, Tryz.ntmps33
      go_wp2_with fail
      refine (hret (c :: d :: r) 10 _ H0 (by decide) (by decide) (by simp only [List.length_cons]; omega)).mono ?_
      rintro e w2 ⟨rfl, rfl⟩
      go_wp2_with fail
      refine bodyPost_ret (v := .tuple #[.int .i64 n, .bool ok]) (by simp [results, Tryz.results33, go_sem]) rfl ?_
      exact Ret.of rfl

def ByteEnd (s : List UInt8) (w : World) (e : Ending) (w' : World) : Prop := ∃ (m : Int) (b : Bool), e = .returned (.tuple #[.int .i64 m, .bool b]) ∧ Hid (if b = true then Hostp.byteP s = some m else Hostp.byteP s = none) ∧ Below w.heap.size w w'
theorem byteP_yes (s : List UInt8) (m : Int) (h : digR 10 s = (m, true)) (hne : s ≠ []) (hm : m ≤ 255) (h48 : s.length = 1 ∨ s.head? ≠ some 48) : Hostp.byteP s = some m := by
  obtain ⟨ha, hv⟩ := digR_true h
  have : Hostp.value 10 s = m := by omega
  unfold Hostp.byteP
  rw [if_neg, this]
  rintro (h | h | h | ⟨h, h2⟩)
  · exact hne h
  · rw [ha] at h; cases h
  · omega
  · rcases h48 with h3 | h3
    · omega
    · exact h3 h2

set_option maxHeartbeats 2000000 in
set_option maxRecDepth 100000 in
theorem rByte (s : List UInt8) (w : World) (hl : s.length ≤ 4194304) :
    Calls Tryz.prog 63 #[S s] w (ByteEnd s w) := by
  obtain ⟨m, ok, hd⟩ : ∃ m ok, digR 10 s = (m, ok) := ⟨_, _, rfl⟩
  have HD := hide hd
  clear hd
  go_enter Tryz.func63, Tryz.ntmps63
  go_wp2_with fail
  refine (rDigits s 10 m ok _ (by decide) (by decide) hl HD).mono ?_
  rintro e w2 ⟨rfl, rfl⟩
  cases ok with
  | false =>
    have hb : Hid (Hostp.byteP s = none) := by
      unfold Hid Hostp.byteP
      rw [if_pos (.inr (.inl (digR_false HD.out).1))]
    go_wp2_with fail
    go_quiet (fail)
    go_wp2_with fail
    refine bodyPost_ret (v := .tuple #[.int .i64 m, .bool false]) (by simp [results, Tryz.results63, go_sem]) rfl ?_
    exact ⟨m, false, rfl, hb, belowN _ _⟩
  | true =>
    cases s with
    | nil =>
      go_wp2_with fail
      go_quiet (fail)
      go_wp2_with fail
      refine bodyPost_ret (v := .tuple #[.int .i64 m, .bool false]) (by simp [results, Tryz.results63, go_sem]) rfl ?_
      exact ⟨m, false, rfl, rfl, belowN _ _⟩
    | cons c r =>
      by_cases hm : m ≤ 255
      · by_cases hr : r = []
        · subst hr
          have hb := hide (byteP_yes _ _ HD.out (by simp) hm (.inl rfl))
          go_wp2_with fail
          go_quiet (fail)
          go_wp2_with fail
          refine bodyPost_ret (v := .tuple #[.int .i64 m, .bool true]) (by simp [results, Tryz.results63, go_sem]) rfl ?_
          exact ⟨m, true, rfl, hb, belowN _ _⟩
        · obtain ⟨d, r2, rfl⟩ : ∃ d r2, r = d :: r2 := by cases r with | nil => exact absurd rfl hr | cons d r2 => exact ⟨d, r2, rfl⟩
          clear hr
          by_cases hc : c = 48
          · subst hc
            have hln : ((r2.length : Int) + 1 + 1 == 1) = false := beq_eq_false_iff_ne.2 (by omega)
            have hb : Hid (Hostp.byteP (48 :: d :: r2) = none) := by
              unfold Hid Hostp.byteP
              rw [if_pos (.inr (.inr (.inr ⟨by simp, rfl⟩)))]
            go_wp2_with fail
            go_quiet (fail)
            go_wp2_with fail
            refine bodyPost_ret (v := .tuple #[.int .i64 m, .bool false]) (by simp [results, Tryz.results63, go_sem]) rfl ?_
            exact ⟨m, false, rfl, hb, belowN _ _⟩
          · have hln : ((r2.length : Int) + 1 + 1 == 1) = false := beq_eq_false_iff_ne.2 (by omega)
            have hb := hide (byteP_yes _ _ HD.out (by simp) hm (.inr (by simpa using hc)))
            have b1 : ((c.toNat : Int) == 48) = false := beq_eq_false_iff_ne.2 (fun h => hc (UInt8.toNat_inj.1 (by show c.toNat = 48; omega)))
            have b2 : ¬ (c.toNat : Int) = 48 := fun h => hc (UInt8.toNat_inj.1 (by show c.toNat = 48; omega))
            clear hc
            go_wp2_with fail
            go_quiet (fail)
            go_wp2_with fail
            refine bodyPost_ret (v := .tuple #[.int .i64 m, .bool true]) (by simp [results, Tryz.results63, go_sem]; omega) rfl ?_
            exact ⟨m, true, rfl, hb, belowN _ _⟩
      · have hm2 : decide (m ≤ 255) = false := decide_eq_false hm
        have hb : Hid (Hostp.byteP (c :: r) = none) := by
          have := (digR_true HD.out).2
          unfold Hid Hostp.byteP
          rw [if_pos (.inr (.inr (.inl (by omega))))]
        go_wp2_with fail
        go_quiet (fail)
        go_wp2_with fail
        refine bodyPost_ret (v := .tuple #[.int .i64 m, .bool false]) (by simp [results, Tryz.results63, go_sem]) rfl ?_
        exact ⟨m, false, rfl, hb, belowN _ _⟩
end Go.Proofs.YtahjndignkhmoaaGreatDoor
