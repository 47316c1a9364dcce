/- The law CssStates, walked. (Printed by genCssLs.py.) -/
import Derived.Test.YtojgcangnkjmjaaGreatDoorLj
namespace Go.Proofs.YtojgcangnkjmjaaGreatDoor
open Go.RowKit

set_option maxRecDepth 100000 in
set_option maxHeartbeats 4000000 in
theorem law_states (s u m : List UInt8) (w : World) (hs : s.length ≤ 9223372036854775807) (hu : u.length ≤ 9223372036854775807) (hm : m.length ≤ 9223372036854775807) (ht : Tab w) : Calls Tryz.prog 8 #[S s, S u, S m] w (Fresh (.bool true) w) := by
  have hlt := ht.lt
  have HW := hide (works_ w ht)
  go_enter Tryz.func8, Tryz.ntmps8
  go_wp2_with fail
  refine HW.out.mono ?_
  rintro e w1 ⟨rfl, hb1⟩
  have HB1 := hide hb1
  have HT1 := hide (ht.below (by omega) hb1)
  clear HW hb1
  by_cases hl1 : 8192 < s.length
  · have d1 : (8192 : Int) < (s.length : Int) := by omega
    go_wp2_with fail
    go_ret
    exact ⟨rfl, HB1.out⟩
  have d1 : decide ((8192 : Int) < (s.length : Int)) = false := by rw [decide_eq_false_iff_not]; omega
  by_cases hl2 : 8192 < u.length
  · have d2 : (8192 : Int) < (u.length : Int) := by omega
    go_wp2_with fail
    go_ret
    exact ⟨rfl, HB1.out⟩
  have d2 : decide ((8192 : Int) < (u.length : Int)) = false := by rw [decide_eq_false_iff_not]; omega
  by_cases hl3 : 8192 < m.length
  · have d3 : (8192 : Int) < (m.length : Int) := by omega
    go_wp2_with fail
    go_ret
    exact ⟨rfl, HB1.out⟩
  have d3 : decide ((8192 : Int) < (m.length : Int)) = false := by rw [decide_eq_false_iff_not]; omega
  have HV := hide (valid_ s w1 HT1.out hs)
  go_wp2_with fail
  refine HV.out.mono ?_
  rintro e w2 ⟨rfl, hb⟩
  have HT2 := hide (HT1.out.below (by have := HB1.out.size; omega) hb)
  have HB2 := hide (HB1.out.trans (hb.mono HB1.out.size))
  clear HV hb HB1 HT1
  cases hv : Cssp.valid s with
  | false =>
    clear hv
    go_wp2_with fail
    go_ret
    exact ⟨rfl, HB2.out⟩
  | true =>
  have HVs := hide hv
  clear hv
  have HV := hide (valid_ u w2 HT2.out hu)
  go_wp2_with fail
  refine HV.out.mono ?_
  rintro e w3 ⟨rfl, hb⟩
  have HT3 := hide (HT2.out.below (by have := HB2.out.size; omega) hb)
  have HB3 := hide (HB2.out.trans (hb.mono HB2.out.size))
  clear HV hb HB2 HT2
  cases hv : Cssp.valid u with
  | false =>
    clear hv
    go_wp2_with fail
    go_ret
    exact ⟨rfl, HB3.out⟩
  | true =>
  have HVu := hide hv
  clear hv
  have HV := hide (valid_ m w3 HT3.out hm)
  go_wp2_with fail
  refine HV.out.mono ?_
  rintro e w4 ⟨rfl, hb⟩
  have HT4 := hide (HT3.out.below (by have := HB3.out.size; omega) hb)
  have HB4 := hide (HB3.out.trans (hb.mono HB3.out.size))
  clear HV hb HB3 HT3
  cases hv : Cssp.valid m with
  | false =>
    clear hv
    go_wp2_with fail
    go_ret
    exact ⟨rfl, HB4.out⟩
  | true =>
  have HVm := hide hv
  clear hv
  have hLS : (s.isEmpty = true ∧ s = []) ∨ (s.isEmpty = false ∧ ¬ s = [] ∧ 0 < s.length) := by
    cases s with
    | nil => exact .inl ⟨rfl, rfl⟩
    | cons _ _ => exact .inr ⟨rfl, by simp, by simp⟩
  have hLU : (u.isEmpty = true ∧ u = []) ∨ (u.isEmpty = false ∧ ¬ u = [] ∧ 0 < u.length) := by
    cases u with
    | nil => exact .inl ⟨rfl, rfl⟩
    | cons _ _ => exact .inr ⟨rfl, by simp, by simp⟩
  rcases hLS with ⟨hEs, h0⟩ | ⟨hEs, hNs, hposs⟩
  · have hl : ∀ c, s.getLast? = some c → c ≠ 13 := fun c h => by rw [h0] at h; cases h
    have HLs := hide hl
    clear hl h0
    rcases hLU with ⟨hEu, h0⟩ | ⟨hEu, hNu, hposu⟩
    · have hl : ∀ c, u.getLast? = some c → c ≠ 13 := fun c h => by rw [h0] at h; cases h
      have HLu := hide hl
      clear hl h0
      obtain ⟨A, hA⟩ : ∃ x, (Cssp.read s).w = x := ⟨_, rfl⟩
      obtain ⟨B, hB⟩ : ∃ x, (Cssp.read u).w = x := ⟨_, rfl⟩
      obtain ⟨AS, AQ⟩ := A
      obtain ⟨BS, BQ⟩ := B
      have HQ0 := where_ s w4 (ht.below (by omega) HB4.out) (by omega)
      rw [hA] at HQ0
      have HQ := hide HQ0
      have HA := hide hA
      have HBB := hide hB
      clear HQ0 hA hB
      go_wp2_with fail
      refine HQ.out.mono ?_
      rintro e w5 ⟨rfl, hb⟩
      have HB5 := hide (HB4.out.trans (hb.mono HB4.out.size))
      clear HQ hb HB4
      have HQ0 := where_ u w5 (ht.below (by omega) HB5.out) (by omega)
      rw [HBB.out] at HQ0
      have HQ := hide HQ0
      have e1 := fun W => where_neq AS AQ.toNat BS BQ.toNat W
      clear HQ0
      go_wp2_with fail
      refine HQ.out.mono ?_
      rintro e w6 ⟨rfl, hb⟩
      have HB6 := hide (HB5.out.trans (hb.mono HB5.out.size))
      clear HQ hb HB5 e1
      by_cases hab : AS = BS ∧ AQ = BQ
      · obtain ⟨rfl, rfl⟩ := hab
        have e1 : ∀ W, Sem.run Tryz.prog (binOp .neq 36 (.agg #[.int .u8 AS, .int .u8 AQ.toNat]) (.agg #[.int .u8 AS, .int .u8 AQ.toNat])) W = .ok (.bool false) W := fun W => by rw [where_neq]; simp
        obtain ⟨RA, hRA⟩ : ∃ x, (Cssp.read s).rest = x := ⟨_, rfl⟩
        obtain ⟨RB, hRB⟩ : ∃ x, (Cssp.read u).rest = x := ⟨_, rfl⟩
        have HQ0 := rest_ s w6 (ht.below (by omega) HB6.out) (by omega)
        rw [hRA] at HQ0
        have HQ := hide HQ0
        have HRA := hide hRA
        have HRB := hide hRB
        clear HQ0 hRA hRB
        go_wp2_with fail
        refine HQ.out.mono ?_
        rintro e w7 ⟨rfl, hb⟩
        have HB7 := hide (HB6.out.trans (hb.mono HB6.out.size))
        clear HQ hb HB6
        have HQ0 := rest_ u w7 (ht.below (by omega) HB7.out) (by omega)
        rw [HRB.out] at HQ0
        have HQ := hide HQ0
        clear HQ0
        go_wp2_with fail
        refine HQ.out.mono ?_
        rintro e w8 ⟨rfl, hb⟩
        have HB8 := hide (HB7.out.trans (hb.mono HB7.out.size))
        clear HQ hb HB7
        by_cases hr : RA = RB
        · subst hr
          obtain ⟨r1, r2⟩ := Cssp.read_states s u m HVs.out HVu.out HVm.out HLs.out HLu.out (show (Cssp.read s).w = (Cssp.read u).w by rw [HA.out, HBB.out]) (show (Cssp.read s).rest = (Cssp.read u).rest by rw [HRA.out, HRB.out])
          have r1 : (Cssp.read (s ++ m)).w = (Cssp.read (u ++ m)).w := r1
          have r2 : (Cssp.read (s ++ m)).rest = (Cssp.read (u ++ m)).rest := r2
          obtain ⟨C, hC⟩ : ∃ x, (Cssp.read (u ++ m)).w = x := ⟨_, rfl⟩
          obtain ⟨RC, hRC⟩ : ∃ x, (Cssp.read (u ++ m)).rest = x := ⟨_, rfl⟩
          rw [hC] at r1
          rw [hRC] at r2
          have HR1 := hide r1
          have HR2 := hide r2
          have HR3 := hide hC
          have HR4 := hide hRC
          obtain ⟨CS, CQ⟩ := C
          have hn1 : ¬ 9223372036854775807 < s.length + m.length := by omega
          have hn2 : ¬ 9223372036854775807 < u.length + m.length := by omega
          have e2 := fun W => where_eql CS CQ.toNat CS CQ.toNat W
          clear r1 r2 hC hRC HA HBB HRA HRB HVs HVu HVm HLs HLu
          have HQ := hide (where_ (s ++ m) w8 (ht.below (by omega) HB8.out) (by rw [List.length_append]; omega))
          rw [HR1.out] at HQ
          go_wp2_with fail
          refine HQ.out.mono ?_
          rintro e w9 ⟨rfl, hb⟩
          have HB9 := hide (HB8.out.trans (hb.mono HB8.out.size))
          clear HQ hb HB8
          have HQ := hide (where_ (u ++ m) w9 (ht.below (by omega) HB9.out) (by rw [List.length_append]; omega))
          rw [HR3.out] at HQ
          go_wp2_with fail
          refine HQ.out.mono ?_
          rintro e w10 ⟨rfl, hb⟩
          have HB10 := hide (HB9.out.trans (hb.mono HB9.out.size))
          clear HQ hb HB9
          have HQ := hide (rest_ (s ++ m) w10 (ht.below (by omega) HB10.out) (by rw [List.length_append]; omega))
          rw [HR2.out] at HQ
          go_wp2_with fail
          refine HQ.out.mono ?_
          rintro e w11 ⟨rfl, hb⟩
          have HB11 := hide (HB10.out.trans (hb.mono HB10.out.size))
          clear HQ hb HB10
          have HQ := hide (rest_ (u ++ m) w11 (ht.below (by omega) HB11.out) (by rw [List.length_append]; omega))
          rw [HR4.out] at HQ
          go_wp2_with fail
          refine HQ.out.mono ?_
          rintro e w12 ⟨rfl, hb⟩
          have HB12 := hide (HB11.out.trans (hb.mono HB11.out.size))
          clear HQ hb HB11
          go_wp2_with fail
          go_ret
          exact ⟨by simp, HB12.out⟩
        · have hr2 : (RA == RB) = false := beq_eq_false_iff_ne.2 hr
          have HN := hide hr
          go_wp2_with fail
          go_ret
          exact ⟨rfl, HB8.out⟩
      · have e1 : ∀ W, Sem.run Tryz.prog (binOp .neq 36 (.agg #[.int .u8 AS, .int .u8 AQ.toNat]) (.agg #[.int .u8 BS, .int .u8 BQ.toNat])) W = .ok (.bool true) W := fun W => by
          rw [where_neq]
          have : ((AS : Int) == (BS : Int) && (AQ.toNat : Int) == (BQ.toNat : Int)) = false := by
            rw [Bool.eq_false_iff]
            intro h
            rw [Bool.and_eq_true, beq_iff_eq, beq_iff_eq] at h
            exact hab ⟨by omega, UInt8.toNat_inj.1 (by omega)⟩
          rw [this]; rfl
        clear hab
        go_wp2_with fail
        go_ret
        exact ⟨rfl, HB6.out⟩
    · have hp1u : (1 : Int) ≤ (u.length : Int) := by omega
      have hp2u : (u.length : Int) - 1 < (u.length : Int) := by omega
      obtain ⟨xu, hxu⟩ : ∃ x, u[u.length - 1] = x := ⟨_, rfl⟩
      have hlx := last_get u hposu xu hxu

      by_cases q : xu = 13
      · have qu : ((xu.toNat : Int) == 13) = true := u8t q
        clear q hlx
        go_wp2_with fail
        go_ret
        exact ⟨rfl, HB4.out⟩
      · have qu : ((xu.toNat : Int) == 13) = false := u8f q
        have hl : ∀ c, u.getLast? = some c → c ≠ 13 := fun c h => by rw [hlx c h]; exact q
        have HLu := hide hl
        clear hl hlx q
        obtain ⟨A, hA⟩ : ∃ x, (Cssp.read s).w = x := ⟨_, rfl⟩
        obtain ⟨B, hB⟩ : ∃ x, (Cssp.read u).w = x := ⟨_, rfl⟩
        obtain ⟨AS, AQ⟩ := A
        obtain ⟨BS, BQ⟩ := B
        have HQ0 := where_ s w4 (ht.below (by omega) HB4.out) (by omega)
        rw [hA] at HQ0
        have HQ := hide HQ0
        have HA := hide hA
        have HBB := hide hB
        clear HQ0 hA hB
        go_wp2_with fail
        refine HQ.out.mono ?_
        rintro e w5 ⟨rfl, hb⟩
        have HB5 := hide (HB4.out.trans (hb.mono HB4.out.size))
        clear HQ hb HB4
        have HQ0 := where_ u w5 (ht.below (by omega) HB5.out) (by omega)
        rw [HBB.out] at HQ0
        have HQ := hide HQ0
        have e1 := fun W => where_neq AS AQ.toNat BS BQ.toNat W
        clear HQ0
        go_wp2_with fail
        refine HQ.out.mono ?_
        rintro e w6 ⟨rfl, hb⟩
        have HB6 := hide (HB5.out.trans (hb.mono HB5.out.size))
        clear HQ hb HB5 e1
        by_cases hab : AS = BS ∧ AQ = BQ
        · obtain ⟨rfl, rfl⟩ := hab
          have e1 : ∀ W, Sem.run Tryz.prog (binOp .neq 36 (.agg #[.int .u8 AS, .int .u8 AQ.toNat]) (.agg #[.int .u8 AS, .int .u8 AQ.toNat])) W = .ok (.bool false) W := fun W => by rw [where_neq]; simp
          obtain ⟨RA, hRA⟩ : ∃ x, (Cssp.read s).rest = x := ⟨_, rfl⟩
          obtain ⟨RB, hRB⟩ : ∃ x, (Cssp.read u).rest = x := ⟨_, rfl⟩
          have HQ0 := rest_ s w6 (ht.below (by omega) HB6.out) (by omega)
          rw [hRA] at HQ0
          have HQ := hide HQ0
          have HRA := hide hRA
          have HRB := hide hRB
          clear HQ0 hRA hRB
          go_wp2_with fail
          refine HQ.out.mono ?_
          rintro e w7 ⟨rfl, hb⟩
          have HB7 := hide (HB6.out.trans (hb.mono HB6.out.size))
          clear HQ hb HB6
          have HQ0 := rest_ u w7 (ht.below (by omega) HB7.out) (by omega)
          rw [HRB.out] at HQ0
          have HQ := hide HQ0
          clear HQ0
          go_wp2_with fail
          refine HQ.out.mono ?_
          rintro e w8 ⟨rfl, hb⟩
          have HB8 := hide (HB7.out.trans (hb.mono HB7.out.size))
          clear HQ hb HB7
          by_cases hr : RA = RB
          · subst hr
            obtain ⟨r1, r2⟩ := Cssp.read_states s u m HVs.out HVu.out HVm.out HLs.out HLu.out (show (Cssp.read s).w = (Cssp.read u).w by rw [HA.out, HBB.out]) (show (Cssp.read s).rest = (Cssp.read u).rest by rw [HRA.out, HRB.out])
            have r1 : (Cssp.read (s ++ m)).w = (Cssp.read (u ++ m)).w := r1
            have r2 : (Cssp.read (s ++ m)).rest = (Cssp.read (u ++ m)).rest := r2
            obtain ⟨C, hC⟩ : ∃ x, (Cssp.read (u ++ m)).w = x := ⟨_, rfl⟩
            obtain ⟨RC, hRC⟩ : ∃ x, (Cssp.read (u ++ m)).rest = x := ⟨_, rfl⟩
            rw [hC] at r1
            rw [hRC] at r2
            have HR1 := hide r1
            have HR2 := hide r2
            have HR3 := hide hC
            have HR4 := hide hRC
            obtain ⟨CS, CQ⟩ := C
            have hn1 : ¬ 9223372036854775807 < s.length + m.length := by omega
            have hn2 : ¬ 9223372036854775807 < u.length + m.length := by omega
            have e2 := fun W => where_eql CS CQ.toNat CS CQ.toNat W
            clear r1 r2 hC hRC HA HBB HRA HRB HVs HVu HVm HLs HLu
            have HQ := hide (where_ (s ++ m) w8 (ht.below (by omega) HB8.out) (by rw [List.length_append]; omega))
            rw [HR1.out] at HQ
            go_wp2_with fail
            refine HQ.out.mono ?_
            rintro e w9 ⟨rfl, hb⟩
            have HB9 := hide (HB8.out.trans (hb.mono HB8.out.size))
            clear HQ hb HB8
            have HQ := hide (where_ (u ++ m) w9 (ht.below (by omega) HB9.out) (by rw [List.length_append]; omega))
            rw [HR3.out] at HQ
            go_wp2_with fail
            refine HQ.out.mono ?_
            rintro e w10 ⟨rfl, hb⟩
            have HB10 := hide (HB9.out.trans (hb.mono HB9.out.size))
            clear HQ hb HB9
            have HQ := hide (rest_ (s ++ m) w10 (ht.below (by omega) HB10.out) (by rw [List.length_append]; omega))
            rw [HR2.out] at HQ
            go_wp2_with fail
            refine HQ.out.mono ?_
            rintro e w11 ⟨rfl, hb⟩
            have HB11 := hide (HB10.out.trans (hb.mono HB10.out.size))
            clear HQ hb HB10
            have HQ := hide (rest_ (u ++ m) w11 (ht.below (by omega) HB11.out) (by rw [List.length_append]; omega))
            rw [HR4.out] at HQ
            go_wp2_with fail
            refine HQ.out.mono ?_
            rintro e w12 ⟨rfl, hb⟩
            have HB12 := hide (HB11.out.trans (hb.mono HB11.out.size))
            clear HQ hb HB11
            go_wp2_with fail
            go_ret
            exact ⟨by simp, HB12.out⟩
          · have hr2 : (RA == RB) = false := beq_eq_false_iff_ne.2 hr
            have HN := hide hr
            go_wp2_with fail
            go_ret
            exact ⟨rfl, HB8.out⟩
        · have e1 : ∀ W, Sem.run Tryz.prog (binOp .neq 36 (.agg #[.int .u8 AS, .int .u8 AQ.toNat]) (.agg #[.int .u8 BS, .int .u8 BQ.toNat])) W = .ok (.bool true) W := fun W => by
            rw [where_neq]
            have : ((AS : Int) == (BS : Int) && (AQ.toNat : Int) == (BQ.toNat : Int)) = false := by
              rw [Bool.eq_false_iff]
              intro h
              rw [Bool.and_eq_true, beq_iff_eq, beq_iff_eq] at h
              exact hab ⟨by omega, UInt8.toNat_inj.1 (by omega)⟩
            rw [this]; rfl
          clear hab
          go_wp2_with fail
          go_ret
          exact ⟨rfl, HB6.out⟩
  · have hp1s : (1 : Int) ≤ (s.length : Int) := by omega
    have hp2s : (s.length : Int) - 1 < (s.length : Int) := by omega
    obtain ⟨xs, hxs⟩ : ∃ x, s[s.length - 1] = x := ⟨_, rfl⟩
    have hlx := last_get s hposs xs hxs

    by_cases q : xs = 13
    · have qs : ((xs.toNat : Int) == 13) = true := u8t q
      clear q hlx
      go_wp2_with fail
      go_ret
      exact ⟨rfl, HB4.out⟩
    · have qs : ((xs.toNat : Int) == 13) = false := u8f q
      have hl : ∀ c, s.getLast? = some c → c ≠ 13 := fun c h => by rw [hlx c h]; exact q
      have HLs := hide hl
      clear hl hlx q
      rcases hLU with ⟨hEu, h0⟩ | ⟨hEu, hNu, hposu⟩
      · have hl : ∀ c, u.getLast? = some c → c ≠ 13 := fun c h => by rw [h0] at h; cases h
        have HLu := hide hl
        clear hl h0
        obtain ⟨A, hA⟩ : ∃ x, (Cssp.read s).w = x := ⟨_, rfl⟩
        obtain ⟨B, hB⟩ : ∃ x, (Cssp.read u).w = x := ⟨_, rfl⟩
        obtain ⟨AS, AQ⟩ := A
        obtain ⟨BS, BQ⟩ := B
        have HQ0 := where_ s w4 (ht.below (by omega) HB4.out) (by omega)
        rw [hA] at HQ0
        have HQ := hide HQ0
        have HA := hide hA
        have HBB := hide hB
        clear HQ0 hA hB
        go_wp2_with fail
        refine HQ.out.mono ?_
        rintro e w5 ⟨rfl, hb⟩
        have HB5 := hide (HB4.out.trans (hb.mono HB4.out.size))
        clear HQ hb HB4
        have HQ0 := where_ u w5 (ht.below (by omega) HB5.out) (by omega)
        rw [HBB.out] at HQ0
        have HQ := hide HQ0
        have e1 := fun W => where_neq AS AQ.toNat BS BQ.toNat W
        clear HQ0
        go_wp2_with fail
        refine HQ.out.mono ?_
        rintro e w6 ⟨rfl, hb⟩
        have HB6 := hide (HB5.out.trans (hb.mono HB5.out.size))
        clear HQ hb HB5 e1
        by_cases hab : AS = BS ∧ AQ = BQ
        · obtain ⟨rfl, rfl⟩ := hab
          have e1 : ∀ W, Sem.run Tryz.prog (binOp .neq 36 (.agg #[.int .u8 AS, .int .u8 AQ.toNat]) (.agg #[.int .u8 AS, .int .u8 AQ.toNat])) W = .ok (.bool false) W := fun W => by rw [where_neq]; simp
          obtain ⟨RA, hRA⟩ : ∃ x, (Cssp.read s).rest = x := ⟨_, rfl⟩
          obtain ⟨RB, hRB⟩ : ∃ x, (Cssp.read u).rest = x := ⟨_, rfl⟩
          have HQ0 := rest_ s w6 (ht.below (by omega) HB6.out) (by omega)
          rw [hRA] at HQ0
          have HQ := hide HQ0
          have HRA := hide hRA
          have HRB := hide hRB
          clear HQ0 hRA hRB
          go_wp2_with fail
          refine HQ.out.mono ?_
          rintro e w7 ⟨rfl, hb⟩
          have HB7 := hide (HB6.out.trans (hb.mono HB6.out.size))
          clear HQ hb HB6
          have HQ0 := rest_ u w7 (ht.below (by omega) HB7.out) (by omega)
          rw [HRB.out] at HQ0
          have HQ := hide HQ0
          clear HQ0
          go_wp2_with fail
          refine HQ.out.mono ?_
          rintro e w8 ⟨rfl, hb⟩
          have HB8 := hide (HB7.out.trans (hb.mono HB7.out.size))
          clear HQ hb HB7
          by_cases hr : RA = RB
          · subst hr
            obtain ⟨r1, r2⟩ := Cssp.read_states s u m HVs.out HVu.out HVm.out HLs.out HLu.out (show (Cssp.read s).w = (Cssp.read u).w by rw [HA.out, HBB.out]) (show (Cssp.read s).rest = (Cssp.read u).rest by rw [HRA.out, HRB.out])
            have r1 : (Cssp.read (s ++ m)).w = (Cssp.read (u ++ m)).w := r1
            have r2 : (Cssp.read (s ++ m)).rest = (Cssp.read (u ++ m)).rest := r2
            obtain ⟨C, hC⟩ : ∃ x, (Cssp.read (u ++ m)).w = x := ⟨_, rfl⟩
            obtain ⟨RC, hRC⟩ : ∃ x, (Cssp.read (u ++ m)).rest = x := ⟨_, rfl⟩
            rw [hC] at r1
            rw [hRC] at r2
            have HR1 := hide r1
            have HR2 := hide r2
            have HR3 := hide hC
            have HR4 := hide hRC
            obtain ⟨CS, CQ⟩ := C
            have hn1 : ¬ 9223372036854775807 < s.length + m.length := by omega
            have hn2 : ¬ 9223372036854775807 < u.length + m.length := by omega
            have e2 := fun W => where_eql CS CQ.toNat CS CQ.toNat W
            clear r1 r2 hC hRC HA HBB HRA HRB HVs HVu HVm HLs HLu
            have HQ := hide (where_ (s ++ m) w8 (ht.below (by omega) HB8.out) (by rw [List.length_append]; omega))
            rw [HR1.out] at HQ
            go_wp2_with fail
            refine HQ.out.mono ?_
            rintro e w9 ⟨rfl, hb⟩
            have HB9 := hide (HB8.out.trans (hb.mono HB8.out.size))
            clear HQ hb HB8
            have HQ := hide (where_ (u ++ m) w9 (ht.below (by omega) HB9.out) (by rw [List.length_append]; omega))
            rw [HR3.out] at HQ
            go_wp2_with fail
            refine HQ.out.mono ?_
            rintro e w10 ⟨rfl, hb⟩
            have HB10 := hide (HB9.out.trans (hb.mono HB9.out.size))
            clear HQ hb HB9
            have HQ := hide (rest_ (s ++ m) w10 (ht.below (by omega) HB10.out) (by rw [List.length_append]; omega))
            rw [HR2.out] at HQ
            go_wp2_with fail
            refine HQ.out.mono ?_
            rintro e w11 ⟨rfl, hb⟩
            have HB11 := hide (HB10.out.trans (hb.mono HB10.out.size))
            clear HQ hb HB10
            have HQ := hide (rest_ (u ++ m) w11 (ht.below (by omega) HB11.out) (by rw [List.length_append]; omega))
            rw [HR4.out] at HQ
            go_wp2_with fail
            refine HQ.out.mono ?_
            rintro e w12 ⟨rfl, hb⟩
            have HB12 := hide (HB11.out.trans (hb.mono HB11.out.size))
            clear HQ hb HB11
            go_wp2_with fail
            go_ret
            exact ⟨by simp, HB12.out⟩
          · have hr2 : (RA == RB) = false := beq_eq_false_iff_ne.2 hr
            have HN := hide hr
            go_wp2_with fail
            go_ret
            exact ⟨rfl, HB8.out⟩
        · have e1 : ∀ W, Sem.run Tryz.prog (binOp .neq 36 (.agg #[.int .u8 AS, .int .u8 AQ.toNat]) (.agg #[.int .u8 BS, .int .u8 BQ.toNat])) W = .ok (.bool true) W := fun W => by
            rw [where_neq]
            have : ((AS : Int) == (BS : Int) && (AQ.toNat : Int) == (BQ.toNat : Int)) = false := by
              rw [Bool.eq_false_iff]
              intro h
              rw [Bool.and_eq_true, beq_iff_eq, beq_iff_eq] at h
              exact hab ⟨by omega, UInt8.toNat_inj.1 (by omega)⟩
            rw [this]; rfl
          clear hab
          go_wp2_with fail
          go_ret
          exact ⟨rfl, HB6.out⟩
      · have hp1u : (1 : Int) ≤ (u.length : Int) := by omega
        have hp2u : (u.length : Int) - 1 < (u.length : Int) := by omega
        obtain ⟨xu, hxu⟩ : ∃ x, u[u.length - 1] = x := ⟨_, rfl⟩
        have hlx := last_get u hposu xu hxu

        by_cases q : xu = 13
        · have qu : ((xu.toNat : Int) == 13) = true := u8t q
          clear q hlx
          go_wp2_with fail
          go_ret
          exact ⟨rfl, HB4.out⟩
        · have qu : ((xu.toNat : Int) == 13) = false := u8f q
          have hl : ∀ c, u.getLast? = some c → c ≠ 13 := fun c h => by rw [hlx c h]; exact q
          have HLu := hide hl
          clear hl hlx q
          obtain ⟨A, hA⟩ : ∃ x, (Cssp.read s).w = x := ⟨_, rfl⟩
          obtain ⟨B, hB⟩ : ∃ x, (Cssp.read u).w = x := ⟨_, rfl⟩
          obtain ⟨AS, AQ⟩ := A
          obtain ⟨BS, BQ⟩ := B
          have HQ0 := where_ s w4 (ht.below (by omega) HB4.out) (by omega)
          rw [hA] at HQ0
          have HQ := hide HQ0
          have HA := hide hA
          have HBB := hide hB
          clear HQ0 hA hB
          go_wp2_with fail
          refine HQ.out.mono ?_
          rintro e w5 ⟨rfl, hb⟩
          have HB5 := hide (HB4.out.trans (hb.mono HB4.out.size))
          clear HQ hb HB4
          have HQ0 := where_ u w5 (ht.below (by omega) HB5.out) (by omega)
          rw [HBB.out] at HQ0
          have HQ := hide HQ0
          have e1 := fun W => where_neq AS AQ.toNat BS BQ.toNat W
          clear HQ0
          go_wp2_with fail
          refine HQ.out.mono ?_
          rintro e w6 ⟨rfl, hb⟩
          have HB6 := hide (HB5.out.trans (hb.mono HB5.out.size))
          clear HQ hb HB5 e1
          by_cases hab : AS = BS ∧ AQ = BQ
          · obtain ⟨rfl, rfl⟩ := hab
            have e1 : ∀ W, Sem.run Tryz.prog (binOp .neq 36 (.agg #[.int .u8 AS, .int .u8 AQ.toNat]) (.agg #[.int .u8 AS, .int .u8 AQ.toNat])) W = .ok (.bool false) W := fun W => by rw [where_neq]; simp
            obtain ⟨RA, hRA⟩ : ∃ x, (Cssp.read s).rest = x := ⟨_, rfl⟩
            obtain ⟨RB, hRB⟩ : ∃ x, (Cssp.read u).rest = x := ⟨_, rfl⟩
            have HQ0 := rest_ s w6 (ht.below (by omega) HB6.out) (by omega)
            rw [hRA] at HQ0
            have HQ := hide HQ0
            have HRA := hide hRA
            have HRB := hide hRB
            clear HQ0 hRA hRB
            go_wp2_with fail
            refine HQ.out.mono ?_
            rintro e w7 ⟨rfl, hb⟩
            have HB7 := hide (HB6.out.trans (hb.mono HB6.out.size))
            clear HQ hb HB6
            have HQ0 := rest_ u w7 (ht.below (by omega) HB7.out) (by omega)
            rw [HRB.out] at HQ0
            have HQ := hide HQ0
            clear HQ0
            go_wp2_with fail
            refine HQ.out.mono ?_
            rintro e w8 ⟨rfl, hb⟩
            have HB8 := hide (HB7.out.trans (hb.mono HB7.out.size))
            clear HQ hb HB7
            by_cases hr : RA = RB
            · subst hr
              obtain ⟨r1, r2⟩ := Cssp.read_states s u m HVs.out HVu.out HVm.out HLs.out HLu.out (show (Cssp.read s).w = (Cssp.read u).w by rw [HA.out, HBB.out]) (show (Cssp.read s).rest = (Cssp.read u).rest by rw [HRA.out, HRB.out])
              have r1 : (Cssp.read (s ++ m)).w = (Cssp.read (u ++ m)).w := r1
              have r2 : (Cssp.read (s ++ m)).rest = (Cssp.read (u ++ m)).rest := r2
              obtain ⟨C, hC⟩ : ∃ x, (Cssp.read (u ++ m)).w = x := ⟨_, rfl⟩
              obtain ⟨RC, hRC⟩ : ∃ x, (Cssp.read (u ++ m)).rest = x := ⟨_, rfl⟩
              rw [hC] at r1
              rw [hRC] at r2
              have HR1 := hide r1
              have HR2 := hide r2
              have HR3 := hide hC
              have HR4 := hide hRC
              obtain ⟨CS, CQ⟩ := C
              have hn1 : ¬ 9223372036854775807 < s.length + m.length := by omega
              have hn2 : ¬ 9223372036854775807 < u.length + m.length := by omega
              have e2 := fun W => where_eql CS CQ.toNat CS CQ.toNat W
              clear r1 r2 hC hRC HA HBB HRA HRB HVs HVu HVm HLs HLu
              have HQ := hide (where_ (s ++ m) w8 (ht.below (by omega) HB8.out) (by rw [List.length_append]; omega))
              rw [HR1.out] at HQ
              go_wp2_with fail
              refine HQ.out.mono ?_
              rintro e w9 ⟨rfl, hb⟩
              have HB9 := hide (HB8.out.trans (hb.mono HB8.out.size))
              clear HQ hb HB8
              have HQ := hide (where_ (u ++ m) w9 (ht.below (by omega) HB9.out) (by rw [List.length_append]; omega))
              rw [HR3.out] at HQ
              go_wp2_with fail
              refine HQ.out.mono ?_
              rintro e w10 ⟨rfl, hb⟩
              have HB10 := hide (HB9.out.trans (hb.mono HB9.out.size))
              clear HQ hb HB9
              have HQ := hide (rest_ (s ++ m) w10 (ht.below (by omega) HB10.out) (by rw [List.length_append]; omega))
              rw [HR2.out] at HQ
              go_wp2_with fail
              refine HQ.out.mono ?_
              rintro e w11 ⟨rfl, hb⟩
              have HB11 := hide (HB10.out.trans (hb.mono HB10.out.size))
              clear HQ hb HB10
              have HQ := hide (rest_ (u ++ m) w11 (ht.below (by omega) HB11.out) (by rw [List.length_append]; omega))
              rw [HR4.out] at HQ
              go_wp2_with fail
              refine HQ.out.mono ?_
              rintro e w12 ⟨rfl, hb⟩
              have HB12 := hide (HB11.out.trans (hb.mono HB11.out.size))
              clear HQ hb HB11
              go_wp2_with fail
              go_ret
              exact ⟨by simp, HB12.out⟩
            · have hr2 : (RA == RB) = false := beq_eq_false_iff_ne.2 hr
              have HN := hide hr
              go_wp2_with fail
              go_ret
              exact ⟨rfl, HB8.out⟩
          · have e1 : ∀ W, Sem.run Tryz.prog (binOp .neq 36 (.agg #[.int .u8 AS, .int .u8 AQ.toNat]) (.agg #[.int .u8 BS, .int .u8 BQ.toNat])) W = .ok (.bool true) W := fun W => by
              rw [where_neq]
              have : ((AS : Int) == (BS : Int) && (AQ.toNat : Int) == (BQ.toNat : Int)) = false := by
                rw [Bool.eq_false_iff]
                intro h
                rw [Bool.and_eq_true, beq_iff_eq, beq_iff_eq] at h
                exact hab ⟨by omega, UInt8.toNat_inj.1 (by omega)⟩
              rw [this]; rfl
            clear hab
            go_wp2_with fail
            go_ret
            exact ⟨rfl, HB6.out⟩
end Go.Proofs.YtojgcangnkjmjaaGreatDoor
