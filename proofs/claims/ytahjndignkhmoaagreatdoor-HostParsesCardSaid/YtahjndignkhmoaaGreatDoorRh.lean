/- The reference: a number's text. -/
import Derived.Test.YtahjndignkhmoaaGreatDoorLawsC
import Derived.Test.YtahjndignkhmoaaGreatDoorRg
namespace Go.Proofs.YtahjndignkhmoaaGreatDoor
open Go.RowKit

theorem dig_slice64 (d : Nat) (hd : d < 16) (wx : World) : (Instr.slice 9 (.string ⟨#[48, 49, 50, 51, 52, 53, 54, 55, 56, 57, 97, 98, 99, 100, 101, 102]⟩) (some (.int .i64 (d : Int))) (some (.int .i64 ((d : Int) + 1))) none).run Tryz.prog wx = .ok (S [Hostp.digL d]) wx := by
  rw [run_slice_string_if (h := Tryz.underlying9), if_pos ⟨by omega, by show ((d : Int) + 1) ≤ 16; omega⟩, if_pos ⟨by omega, by omega⟩]
  have : ∀ d : Fin 16, (⟨#[48, 49, 50, 51, 52, 53, 54, 55, 56, 57, 97, 98, 99, 100, 101, 102]⟩ : ByteArray).extract d.val (d.val + 1) = ⟨[Hostp.digL d.val].toArray⟩ := by decide +kernel
  have h2 := this ⟨d, hd⟩
  rw [show ((d : Int)).toNat = d by omega, show ((d : Int) + 1).toNat = d + 1 by omega, h2]
/-- the digits that stand, and the number that is left -/
def TextAt (b : Nat) (t : List UInt8) (k : Nat) (acc : List UInt8) : Prop := (if k < b then acc else Hostp.repr b (k / b) ++ acc) = t
theorem text_start (b n : Nat) (t : List UInt8) (h2 : 2 ≤ b) (ht : Hostp.repr b n = t) : TextAt b t n [Hostp.digL (n % b)] := by
  unfold TextAt
  split
  · rename_i h
    rw [← ht, Hostp.repr_lo b n h, Nat.mod_eq_of_lt h]
  · rw [← ht, Hostp.repr_hi b n (by omega) h2]
theorem text_step {b k : Nat} {t acc : List UInt8} (h2 : 2 ≤ b) (h : TextAt b t k acc) (hk : b ≤ k) : TextAt b t (k / b) (Hostp.digL (k / b % b) :: acc) := by
  unfold TextAt at h
  rw [if_neg (by omega)] at h
  have := text_start b (k / b) _ h2 rfl
  unfold TextAt at this ⊢
  split
  · rename_i hq
    rw [if_pos hq] at this
    rw [← h, ← this]; rfl
  · rename_i hq
    rw [if_neg hq] at this
    rw [← h, ← this, List.append_assoc]; rfl
theorem text_len {b k : Nat} {t acc : List UInt8} (h : TextAt b t k acc) (ht : t.length ≤ 64) : acc.length ≤ 64 := by
  unfold TextAt at h
  split at h
  · rw [h]; exact ht
  · rw [← h, List.length_append] at ht; omega

set_option maxHeartbeats 2000000 in
set_option maxRecDepth 100000 in
theorem rText (n b : Nat) (t : List UInt8) (w : World) (hn : n < 4294967296) (h2 : 2 ≤ b) (h16 : b ≤ 16) (ht : Hid (Hostp.repr b n = t)) :
    Calls Tryz.prog 41 #[.int .i64 n, .int .i64 b] w (Fresh (S t) w) := by
  have htl : t.length ≤ 64 := by
    rw [← ht.out]
    have := Hostp.repr_len b h2 31 n (Nat.lt_of_lt_of_le (by omega : n < 2 ^ 32) (Nat.pow_le_pow_left h2 32))
    omega
  have hst := text_start b n t h2 ht.out
  obtain ⟨d, hd'⟩ : ∃ d, n % b = d := ⟨_, rfl⟩
  rw [hd'] at hst
  have hd16 : d < 16 := by rw [← hd']; have := Nat.mod_lt n (show 0 < b by omega); omega
  have e1 : (n : Int) % (b : Int) = (d : Int) := by rw [← hd']; rfl
  have e3 : (n : Int).tmod (b : Int) = (d : Int) := by rw [Int.tmod_eq_emod_of_nonneg (by omega)]; exact e1
  have hds := dig_slice64 d hd16
  have HST := hide hst
  clear hst hd'
  go_enter Tryz.func41, Tryz.ntmps41
  go_wp2_with fail
  go_quiet (fail)
  clear e1 e3 hds
  go_wp2_with fail
  go_loopg [0, 5] n (fun g s0 s5 wx => ∃ (k : Nat) (acc : List UInt8), s0 = .int .i64 k ∧ s5 = S acc ∧ Hid (k = g) ∧ k < 4294967296 ∧ Hid (TextAt b t k acc) ∧ Below w.heap.size w wx)
  case atStart => exact ⟨n, [Hostp.digL d], rfl, rfl, rfl, hn, HST, belowN _ _⟩
  case round =>
    obtain ⟨k, acc, rfl, rfl, hkg, hk32, hT, hb⟩ := hrel
    have hs := hb.size
    clear HST
    have hal := text_len hT.out htl
    by_cases hk : b ≤ k
    · have hst := text_step h2 hT.out hk
      obtain ⟨q, hq'⟩ : ∃ q, k / b = q := ⟨_, rfl⟩
      rw [hq'] at hst
      obtain ⟨d2, hd'⟩ : ∃ d2, q % b = d2 := ⟨_, rfl⟩
      rw [hd'] at hst
      have hd162 : d2 < 16 := by rw [← hd']; have := Nat.mod_lt q (show 0 < b by omega); omega
      have hqk : q < k := by rw [← hq']; exact Nat.div_lt_self (by omega) (by omega)
      have e1 : (q : Int) % (b : Int) = (d2 : Int) := by rw [← hd']; rfl
      have e3 : (q : Int).tmod (b : Int) = (d2 : Int) := by rw [Int.tmod_eq_emod_of_nonneg (by omega)]; exact e1
      have e2 : (k : Int) / (b : Int) = (q : Int) := by rw [← hq']; rfl
      have e4 : (k : Int).tdiv (b : Int) = (q : Int) := by rw [Int.tdiv_eq_ediv_of_nonneg (by omega)]; exact e2
      have hds := dig_slice64 d2 hd162
      have hsum : ¬ 9223372036854775807 < 1 + acc.length := by omega
      have HST := hide hst
      clear hst hq' hd'
      go_wp2_with fail
      go_quiet (fail)
      go_wp2_with fail
      go_roundg q
      case measure => rw [← hkg.out]; exact hqk
      case rel => exact ⟨q, Hostp.digL d2 :: acc, rfl, rfl, rfl, by omega, HST, hb.trans ((belowN wr nq).mono hs)⟩
    · have hT2 := hT.out
      unfold TextAt at hT2
      rw [if_pos (by omega)] at hT2
      subst hT2
      go_wp2_with fail
      go_ret
      exact ⟨rfl, hb⟩
end Go.Proofs.YtahjndignkhmoaaGreatDoor
