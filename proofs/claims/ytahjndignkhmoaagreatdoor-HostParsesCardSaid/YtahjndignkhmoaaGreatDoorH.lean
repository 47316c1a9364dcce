/- A part's number. -/
import Derived.Test.YtahjndignkhmoaaGreatDoorG
namespace Go.Proofs.YtahjndignkhmoaaGreatDoor
open Go.RowKit

namespace Hostp
def valFrom (base : Int) (acc : Int) (s : List UInt8) : Int := s.foldl (fun n c => n * base + hex c) acc
theorem valFrom_ge (base : Int) (hb : 1 ≤ base) : ∀ (s : List UInt8) (acc : Int), 0 ≤ acc → (∀ c ∈ s, 0 ≤ hex c) → acc ≤ valFrom base acc s
  | [], acc, _, _ => Int.le_refl _
  | c :: l, acc, h0, hc => by
    have h1 := hc c (by simp)
    have h2 : acc ≤ acc * base := by
      have := Int.mul_le_mul_of_nonneg_left hb h0
      simpa using this
    have := valFrom_ge base hb l (acc * base + hex c) (by omega) (fun x hx => hc x (by simp [hx]))
    show acc ≤ valFrom base (acc * base + hex c) l
    omega
theorem pu_law (M base : Int) (hb : 1 ≤ base) : ∀ (s : List UInt8) (acc : Int), 0 ≤ acc → acc ≤ M → (∀ c ∈ s, 0 ≤ hex c) → pu M base acc s = if valFrom base acc s ≤ M then some (valFrom base acc s) else none
  | [], acc, _, h, _ => by
    show some acc = if acc ≤ M then some acc else none
    rw [if_pos h]
  | c :: l, acc, h0, hM, hc => by
    have h1 := hc c (by simp)
    have h2 : acc ≤ acc * base := by
      have := Int.mul_le_mul_of_nonneg_left hb h0
      simpa using this
    have hl : ∀ x ∈ l, 0 ≤ hex x := fun x hx => hc x (by simp [hx])
    show (if M < acc * base + hex c then none else pu M base (acc * base + hex c) l) = if valFrom base (acc * base + hex c) l ≤ M then some (valFrom base (acc * base + hex c) l) else none
    by_cases h : M < acc * base + hex c
    · have := valFrom_ge base hb l (acc * base + hex c) (by omega) hl
      rw [if_pos h, if_neg (by omega)]
    · rw [if_neg h, pu_law M base hb l _ (by omega) (by omega) hl]
theorem allB_hex {base : Int} {s : List UInt8} (h : allB base s = true) : ∀ c ∈ s, 0 ≤ hex c := fun c hc => by
  have := List.all_eq_true.1 h c hc
  unfold isDig at this
  rw [Bool.and_eq_true, decide_eq_true_eq] at this
  exact this.1
theorem allB_lt {base : Int} {s : List UInt8} (h : allB base s = true) : ∀ c ∈ s, hex c < base := fun c hc => by
  have := List.all_eq_true.1 h c hc
  unfold isDig at this
  rw [Bool.and_eq_true, decide_eq_true_eq, decide_eq_true_eq] at this
  exact this.2
theorem value_nonneg {base : Int} {s : List UInt8} (hb : 1 ≤ base) (h : allB base s = true) : 0 ≤ value base s := valFrom_ge base hb s 0 (Int.le_refl _) (allB_hex h)
end Hostp

/-- what the public ParseUint hands back -/
def PuEnd (M v : Int) (e : Ending) : Prop := (v ≤ M ∧ e = .returned (.tuple #[.int .u64 v, .nilIface])) ∨ (M < v ∧ ∃ t p, e = .returned (.tuple #[.int .u64 M, .iface t p]))

set_option maxHeartbeats 2000000 in
set_option maxRecDepth 100000 in
theorem sPU (s : List UInt8) (base bt M v : Int) (w : World) (ht : Tab w)
    (hcase : (base = 16 ∧ bt = 40 ∧ M = 1099511627775) ∨ (base = 16 ∧ bt = 16 ∧ M = 65535) ∨ (base = 10 ∧ bt = 40 ∧ M = 1099511627775) ∨ (base = 8 ∧ bt = 40 ∧ M = 1099511627775))
    (hne : 0 < s.length) (hl : s.length ≤ 4194304) (hall : Hostp.allB base s = true) (hv : Hid (Hostp.value base s = v)) :
    Calls Tryz.prog 58 #[S s, .int .i64 base, .int .i64 bt] w fun e w' => PuEnd M v e ∧ Below w.heap.size w w' := by
  have hM : 0 ≤ M := by omega
  have hlaw := Hostp.pu_law M base (by omega) s 0 (Int.le_refl _) hM (Hostp.allB_hex hall)
  have hval : Hostp.valFrom base 0 s = v := hv.out
  rw [hval] at hlaw
  obtain ⟨t, p, hrng⟩ := ht.rng
  clear hval
  go_enter Tryz.func58, Tryz.ntmps58
  by_cases h : v ≤ M
  · rw [if_pos h] at hlaw
    have HL := hide hlaw
    clear hlaw
    go_wp2_with fail
    refine (inPU s base bt M (some v) _ hcase hne hl hall HL).mono ?_
    rintro e w2 ⟨rfl, hb2⟩
    unfold puV
    go_wp2_with fail
    refine bodyPost_ret (v := .tuple #[.int .u64 v, .nilIface]) (by simp [results, Tryz.results58, go_sem]) rfl ?_
    exact ⟨.inl ⟨h, rfl⟩, hb2⟩
  · rw [if_neg h] at hlaw
    have HL := hide hlaw
    clear hlaw
    go_wp2_with fail
    refine (inPU s base bt M none _ hcase hne hl hall HL).mono ?_
    rintro e w2 ⟨rfl, hb2⟩
    have hr2 := cell_below hrng hb2
    have hs2 := hb2.size
    unfold puV
    go_wp2_with fail
    refine (Tryz.strconv_toError_range _ ⟨s.toArray⟩ base bt _ _ (by rw [bl_size]; omega) hr2 (.inr ⟨_, _, rfl⟩)).mono ?_
    rintro e w3 ⟨N, rfl, _, _, hb3⟩
    go_wp2_with fail
    refine bodyPost_ret (v := .tuple #[.int .u64 M, .iface _ (.pointer (some ⟨N, 0, none⟩))]) (by simp [results, Tryz.results58, go_sem]; rfl) rfl ?_
    exact ⟨.inr ⟨by omega, _, _, rfl⟩, hb2.trans (hb3.mono hs2)⟩

def NumV (r : Option Int) (e : Ending) : Prop := ∃ n ok, e = .returned (.tuple #[.int .u64 n, .bool ok]) ∧ r = if ok = true then some n else none

set_option maxHeartbeats 2000000 in
set_option maxRecDepth 100000 in
theorem hNumber (s : List UInt8) (r : Option Int) (w : World) (ht : Tab w) (hl : s.length ≤ 4194304) (hr : Hid (Hostp.numberP s = r)) :
    Calls Tryz.prog 31 #[S s] w fun e w' => NumV r e ∧ Below w.heap.size w w' := by
  obtain ⟨d, base, hdb⟩ : ∃ d base, Hostp.basedP s = (d, base) := ⟨_, _, rfl⟩
  have hbase := basedP_base s
  have hdl := basedP_len s
  have hn := hr.out
  unfold Hostp.numberP at hn
  rw [hdb] at hbase hdl hn
  simp only at hbase hdl hn
  obtain ⟨a, ha⟩ : ∃ a, Hostp.allB base d = a := ⟨_, rfl⟩
  have HDB := hide hdb
  have HA := hide ha
  have HN := hide hn
  clear hdb ha hn hr
  go_enter Tryz.func31, Tryz.ntmps31
  go_wp2_with fail
  refine (hBased s d base _ hl HDB).mono ?_
  rintro e w2 ⟨rfl, rfl⟩
  cases s with
  | nil =>
    have hn := HN.out
    rw [if_pos (.inl rfl)] at hn
    subst hn
    go_wp2_with fail
    refine bodyPost_ret (v := .tuple #[.int .u64 0, .bool false]) (by simp [results, Tryz.results31, go_sem]) rfl ?_
    exact ⟨⟨0, false, rfl, rfl⟩, Below.refl _ _⟩
  | cons c0 s0 =>
    go_wp2_with fail
    refine (hAll d base a _ (by omega) (by omega) HA).mono ?_
    rintro e w3 ⟨rfl, hb3⟩
    have hs3 := hb3.size
    cases a with
    | false =>
      have hn := HN.out
      rw [if_pos (.inr (.inl HA.out))] at hn
      subst hn
      go_wp2_with fail
      refine bodyPost_ret (v := .tuple #[.int .u64 0, .bool false]) (by simp [results, Tryz.results31, go_sem]) rfl ?_
      exact ⟨⟨0, false, rfl, rfl⟩, hb3⟩
    | true =>
      cases d with
      | nil =>
        have hn := HN.out
        rw [if_neg (by
          rintro (h | h | h)
          · cases h
          · rw [HA.out] at h; cases h
          · change 1099511627776 ≤ (0 : Int) at h; exact absurd h (by decide))] at hn
        subst hn
        go_wp2_with fail
        refine bodyPost_ret (v := .tuple #[.int .u64 0, .bool true]) (by simp [results, Tryz.results31, go_sem]) rfl ?_
        exact ⟨⟨0, true, rfl, rfl⟩, hb3⟩
      | cons d0 dr =>
        obtain ⟨v, hv⟩ : ∃ v, Hostp.value base (d0 :: dr) = v := ⟨_, rfl⟩
        have hn := HN.out
        rw [hv] at hn
        have HN2 := hide hn
        have HV := hide hv
        clear hn hv HN
        go_wp2_with fail
        refine (sPU (d0 :: dr) base 40 1099511627775 v _ (ht.below hb3) (by omega) (by simp) (by omega) HA.out HV).mono ?_
        rintro e w4 ⟨hP, hb4⟩
        rcases hP with ⟨hle, rfl⟩ | ⟨hlt, t, p, rfl⟩
        · have hn := HN2.out
          rw [if_neg (by
            rintro (h | h | h)
            · cases h
            · rw [HA.out] at h; cases h
            · omega)] at hn
          have HN3 := hide hn
          clear hn
          go_wp2_with fail
          go_quiet (fail)
          go_wp2_with fail
          refine bodyPost_ret (v := .tuple #[.int .u64 v, .bool true]) (by simp [results, Tryz.results31, go_sem]) rfl ?_
          exact ⟨⟨v, true, rfl, by rw [← HN3.out]; rfl⟩, (hb3.trans (hb4.mono hs3)).trans ((belowN w4 nq).mono (by have := hb4.size; omega))⟩
        · have hn := HN2.out
          rw [if_pos (.inr (.inr (by omega)))] at hn
          subst hn
          clear HN2
          go_wp2_with fail
          go_quiet (fail)
          go_wp2_with fail
          refine bodyPost_ret (v := .tuple #[.int .u64 1099511627775, .bool false]) (by simp [results, Tryz.results31, go_sem]) rfl ?_
          exact ⟨⟨_, false, rfl, rfl⟩, (hb3.trans (hb4.mono hs3)).trans ((belowN w4 nq).mono (by have := hb4.size; omega))⟩
end Go.Proofs.YtahjndignkhmoaaGreatDoor
