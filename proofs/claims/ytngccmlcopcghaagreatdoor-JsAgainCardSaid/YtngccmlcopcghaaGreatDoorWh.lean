/- pending, in full. -/
import Derived.Test.YtngccmlcopcghaaGreatDoorWg
import Derived.Test.YtngccmlcopcghaaGreatDoorTb
namespace Go.Proofs.YtngccmlcopcghaaGreatDoor
open Go.RowKit

set_option maxRecDepth 100000 in
set_option maxHeartbeats 4000000 in
theorem jPending (U : List UInt8) (hv : Cssp.valid U = true) (hl : U.length ≤ 4194000) (w : World) (ht : Tab w) : Calls Tryz.prog 62 #[S U] w (AnyB w) := by
  have hTr := hide (jTrimD U (by omega) w)
  obtain ⟨T, hT⟩ : ∃ T, Lib.trimS U [48, 49, 50, 51, 52, 53, 54, 55, 56, 57] = T := ⟨_, rfl⟩
  rw [hT] at hTr
  have h7 := ht.lt
  have hTab := fun W (hW : Below w.heap.size w W) => hide (ht.below h7 hW)
  by_cases hT0 : T = []
  · have qT : (T == []) = true := beq_iff_eq.2 hT0
    clear hT0 hT
    go_enter Tryz.func62, Tryz.ntmps62
    go_wp2_with fail
    refine hTr.out.mono ?_
    rintro e w1 ⟨rfl, hb1⟩
    have HB1 := hide hb1
    clear hb1
    go_wp2_with fail
    go_ret
    exact ⟨_, rfl, HB1.out⟩
  have hU0 : U ≠ [] := fun e => hT0 (by rw [← hT, e]; rfl)
  have qT : (T == []) = false := beq_eq_false_iff_ne.2 hT0
  clear hT hT0
  by_cases h13 : U = [13]
  · have q13 : (U == [13]) = true := beq_iff_eq.2 h13
    clear h13 hU0 hv hl
    go_enter Tryz.func62, Tryz.ntmps62
    go_wp2_with fail
    refine hTr.out.mono ?_
    rintro e w1 ⟨rfl, hb1⟩
    have HB1 := hide hb1
    clear hb1
    go_wp2_with fail
    go_ret
    exact ⟨_, rfl, HB1.out⟩
  have q13 : (U == [13]) = false := beq_eq_false_iff_ne.2 h13
  clear h13
  by_cases h99 : U = [99]
  · have q99 : (U == [99]) = true := beq_iff_eq.2 h99
    clear h99 hU0 hv hl
    go_enter Tryz.func62, Tryz.ntmps62
    go_wp2_with fail
    refine hTr.out.mono ?_
    rintro e w1 ⟨rfl, hb1⟩
    have HB1 := hide hb1
    clear hb1
    go_wp2_with fail
    go_ret
    exact ⟨_, rfl, HB1.out⟩
  have q99 : (U == [99]) = false := beq_eq_false_iff_ne.2 h99
  clear h99
  obtain ⟨c, t, hct⟩ := List.exists_cons_of_ne_nil hU0
  have hlen : 0 < U.length := List.length_pos_iff.2 hU0
  have hlI : (1 : Int) ≤ (U.length : Int) := by omega
  have hlp : (0 : Int) < (U.length : Int) := by omega
  have hc : U[0] = c := by subst hct; rfl
  have ht1 : U.tail = t := by subst hct; rfl
  have ht2 : List.take (U.length - 1) t = t := List.take_of_length_le (by subst hct; simp)
  have hd1 : List.drop 1 U = t := by subst hct; rfl
  have hcb := u8_lt c
  have hHx := fun W => hide (jHexes t W)
  have htl : t.length ≤ 4194000 := by have : U.length = t.length + 1 := by subst hct; simp
                                      omega
  by_cases hx : c = 120
  · have q1 : ((c.toNat : Int) == 120) = true := u8t hx
    clear hx hct hv
    by_cases h2 : t.length < 2
    · have g2 : decide ((t.length : Int) < 2) = true := by simp; omega
      go_enter Tryz.func62, Tryz.ntmps62
      go_wp2_with fail
      refine hTr.out.mono ?_
      rintro e w1 ⟨rfl, hb1⟩
      have HB1 := hide hb1
      clear hb1
      go_wp2_with fail
      refine (hHx _).out.mono ?_
      rintro e w2 ⟨v2, rfl, hb2⟩
      have HB2 := hide (HB1.out.trans (hb2.mono HB1.out.size))
      clear hb2
      go_wp2_with fail
      go_ret
      exact ⟨_, rfl, HB2.out⟩
    · have g2 : decide ((t.length : Int) < 2) = false := by simp; omega
      go_enter Tryz.func62, Tryz.ntmps62
      go_wp2_with fail
      refine hTr.out.mono ?_
      rintro e w1 ⟨rfl, hb1⟩
      have HB1 := hide hb1
      clear hb1
      go_wp2_with fail
      go_ret
      exact ⟨_, rfl, HB1.out⟩
  have q1 : ((c.toNat : Int) == 120) = false := u8f hx
  by_cases hu : c = 117
  · have q2 : ((c.toNat : Int) == 117) = true := u8t hu
    have hUn := fun W hT1 h71 => hide (jUnit t W hT1 h71 htl)
    rw [← hu, ← hct] at hUn
    clear hu hct hv hx
    obtain ⟨z1, z2, hUn'⟩ : ∃ z1 z2 : Int, ∀ W, Tab W → 7 ≤ W.heap.size → Calls Tryz.prog 108 #[S U] W (Fresh (.tuple #[.int .i32 z1, .int .i64 z2]) W) := ⟨_, _, fun W h1 h2 => (hUn W h1 h2).out⟩
    have hUn := fun W h1 h2 => hide (hUn' W h1 h2)
    have hCp := fun W => hide (sCutPre t [123] W)
    have hHw := fun W => hide (jHexes (Lib.trimPrefix t [123]) W)
    clear hUn'
    generalize Lib.trimPrefix t [123] = wide at hCp hHw
    cases g1 : (z2 == (U.length : Int)) with
    | false =>
      cases hp : [123].isPrefixOf t with
      | true =>
        rw [hp] at hCp
        go_enter Tryz.func62, Tryz.ntmps62
        go_wp2_with fail
        refine hTr.out.mono ?_
        rintro e w1 ⟨rfl, hb1⟩
        have HB1 := hide hb1
        clear hb1
        go_wp2_with fail
        refine (hUn _ (hTab _ HB1.out).out (Nat.le_trans h7 HB1.out.size)).out.mono ?_
        rintro e w2 ⟨rfl, hb2⟩
        have HB2 := hide (HB1.out.trans (hb2.mono HB1.out.size))
        clear hb2
        go_wp2_with fail
        refine (hCp _).out.mono ?_
        rintro e w3 ⟨rfl, rfl⟩
        go_wp2_with fail
        refine (hHw _).out.mono ?_
        rintro e w4 ⟨v2, rfl, hb4⟩
        have HB4 := hide (HB2.out.trans (hb4.mono HB2.out.size))
        clear hb4
        go_wp2_with fail
        go_ret
        exact ⟨_, rfl, HB4.out⟩
      | false =>
        rw [hp] at hCp
        by_cases h4 : t.length < 4
        · have g4 : decide ((t.length : Int) < 4) = true := by simp; omega
          go_enter Tryz.func62, Tryz.ntmps62
          go_wp2_with fail
          refine hTr.out.mono ?_
          rintro e w1 ⟨rfl, hb1⟩
          have HB1 := hide hb1
          clear hb1
          go_wp2_with fail
          refine (hUn _ (hTab _ HB1.out).out (Nat.le_trans h7 HB1.out.size)).out.mono ?_
          rintro e w2 ⟨rfl, hb2⟩
          have HB2 := hide (HB1.out.trans (hb2.mono HB1.out.size))
          clear hb2
          go_wp2_with fail
          refine (hCp _).out.mono ?_
          rintro e w3 ⟨rfl, rfl⟩
          go_wp2_with fail
          refine (hHx _).out.mono ?_
          rintro e w4 ⟨v2, rfl, hb4⟩
          have HB4 := hide (HB2.out.trans (hb4.mono HB2.out.size))
          clear hb4
          go_wp2_with fail
          go_ret
          exact ⟨_, rfl, HB4.out⟩
        · have g4 : decide ((t.length : Int) < 4) = false := by simp; omega
          go_enter Tryz.func62, Tryz.ntmps62
          go_wp2_with fail
          refine hTr.out.mono ?_
          rintro e w1 ⟨rfl, hb1⟩
          have HB1 := hide hb1
          clear hb1
          go_wp2_with fail
          refine (hUn _ (hTab _ HB1.out).out (Nat.le_trans h7 HB1.out.size)).out.mono ?_
          rintro e w2 ⟨rfl, hb2⟩
          have HB2 := hide (HB1.out.trans (hb2.mono HB1.out.size))
          clear hb2
          go_wp2_with fail
          refine (hCp _).out.mono ?_
          rintro e w3 ⟨rfl, rfl⟩
          go_wp2_with fail
          go_ret
          exact ⟨_, rfl, HB2.out⟩
    | true =>
      by_cases g2 : 55296 ≤ z1
      · by_cases g3 : z1 < 56320
        · have g2' : decide (55296 ≤ z1) = true := decide_eq_true g2
          have g3' : decide (z1 < 56320) = true := decide_eq_true g3
          go_enter Tryz.func62, Tryz.ntmps62
          go_wp2_with fail
          refine hTr.out.mono ?_
          rintro e w1 ⟨rfl, hb1⟩
          have HB1 := hide hb1
          clear hb1
          go_wp2_with fail
          refine (hUn _ (hTab _ HB1.out).out (Nat.le_trans h7 HB1.out.size)).out.mono ?_
          rintro e w2 ⟨rfl, hb2⟩
          have HB2 := hide (HB1.out.trans (hb2.mono HB1.out.size))
          clear hb2
          go_wp2_with fail
          go_ret
          exact ⟨_, rfl, HB2.out⟩
        · have g2' : decide (55296 ≤ z1) = true := decide_eq_true g2
          have g3' : decide (z1 < 56320) = false := decide_eq_false g3
          cases hp : [123].isPrefixOf t with
          | true =>
            rw [hp] at hCp
            go_enter Tryz.func62, Tryz.ntmps62
            go_wp2_with fail
            refine hTr.out.mono ?_
            rintro e w1 ⟨rfl, hb1⟩
            have HB1 := hide hb1
            clear hb1
            go_wp2_with fail
            refine (hUn _ (hTab _ HB1.out).out (Nat.le_trans h7 HB1.out.size)).out.mono ?_
            rintro e w2 ⟨rfl, hb2⟩
            have HB2 := hide (HB1.out.trans (hb2.mono HB1.out.size))
            clear hb2
            go_wp2_with fail
            refine (hCp _).out.mono ?_
            rintro e w3 ⟨rfl, rfl⟩
            go_wp2_with fail
            refine (hHw _).out.mono ?_
            rintro e w4 ⟨v2, rfl, hb4⟩
            have HB4 := hide (HB2.out.trans (hb4.mono HB2.out.size))
            clear hb4
            go_wp2_with fail
            go_ret
            exact ⟨_, rfl, HB4.out⟩
          | false =>
            rw [hp] at hCp
            by_cases h4 : t.length < 4
            · have g4 : decide ((t.length : Int) < 4) = true := by simp; omega
              go_enter Tryz.func62, Tryz.ntmps62
              go_wp2_with fail
              refine hTr.out.mono ?_
              rintro e w1 ⟨rfl, hb1⟩
              have HB1 := hide hb1
              clear hb1
              go_wp2_with fail
              refine (hUn _ (hTab _ HB1.out).out (Nat.le_trans h7 HB1.out.size)).out.mono ?_
              rintro e w2 ⟨rfl, hb2⟩
              have HB2 := hide (HB1.out.trans (hb2.mono HB1.out.size))
              clear hb2
              go_wp2_with fail
              refine (hCp _).out.mono ?_
              rintro e w3 ⟨rfl, rfl⟩
              go_wp2_with fail
              refine (hHx _).out.mono ?_
              rintro e w4 ⟨v2, rfl, hb4⟩
              have HB4 := hide (HB2.out.trans (hb4.mono HB2.out.size))
              clear hb4
              go_wp2_with fail
              go_ret
              exact ⟨_, rfl, HB4.out⟩
            · have g4 : decide ((t.length : Int) < 4) = false := by simp; omega
              go_enter Tryz.func62, Tryz.ntmps62
              go_wp2_with fail
              refine hTr.out.mono ?_
              rintro e w1 ⟨rfl, hb1⟩
              have HB1 := hide hb1
              clear hb1
              go_wp2_with fail
              refine (hUn _ (hTab _ HB1.out).out (Nat.le_trans h7 HB1.out.size)).out.mono ?_
              rintro e w2 ⟨rfl, hb2⟩
              have HB2 := hide (HB1.out.trans (hb2.mono HB1.out.size))
              clear hb2
              go_wp2_with fail
              refine (hCp _).out.mono ?_
              rintro e w3 ⟨rfl, rfl⟩
              go_wp2_with fail
              go_ret
              exact ⟨_, rfl, HB2.out⟩
      · have g2' : decide (55296 ≤ z1) = false := decide_eq_false g2
        cases hp : [123].isPrefixOf t with
        | true =>
          rw [hp] at hCp
          go_enter Tryz.func62, Tryz.ntmps62
          go_wp2_with fail
          refine hTr.out.mono ?_
          rintro e w1 ⟨rfl, hb1⟩
          have HB1 := hide hb1
          clear hb1
          go_wp2_with fail
          refine (hUn _ (hTab _ HB1.out).out (Nat.le_trans h7 HB1.out.size)).out.mono ?_
          rintro e w2 ⟨rfl, hb2⟩
          have HB2 := hide (HB1.out.trans (hb2.mono HB1.out.size))
          clear hb2
          go_wp2_with fail
          refine (hCp _).out.mono ?_
          rintro e w3 ⟨rfl, rfl⟩
          go_wp2_with fail
          refine (hHw _).out.mono ?_
          rintro e w4 ⟨v2, rfl, hb4⟩
          have HB4 := hide (HB2.out.trans (hb4.mono HB2.out.size))
          clear hb4
          go_wp2_with fail
          go_ret
          exact ⟨_, rfl, HB4.out⟩
        | false =>
          rw [hp] at hCp
          by_cases h4 : t.length < 4
          · have g4 : decide ((t.length : Int) < 4) = true := by simp; omega
            go_enter Tryz.func62, Tryz.ntmps62
            go_wp2_with fail
            refine hTr.out.mono ?_
            rintro e w1 ⟨rfl, hb1⟩
            have HB1 := hide hb1
            clear hb1
            go_wp2_with fail
            refine (hUn _ (hTab _ HB1.out).out (Nat.le_trans h7 HB1.out.size)).out.mono ?_
            rintro e w2 ⟨rfl, hb2⟩
            have HB2 := hide (HB1.out.trans (hb2.mono HB1.out.size))
            clear hb2
            go_wp2_with fail
            refine (hCp _).out.mono ?_
            rintro e w3 ⟨rfl, rfl⟩
            go_wp2_with fail
            refine (hHx _).out.mono ?_
            rintro e w4 ⟨v2, rfl, hb4⟩
            have HB4 := hide (HB2.out.trans (hb4.mono HB2.out.size))
            clear hb4
            go_wp2_with fail
            go_ret
            exact ⟨_, rfl, HB4.out⟩
          · have g4 : decide ((t.length : Int) < 4) = false := by simp; omega
            go_enter Tryz.func62, Tryz.ntmps62
            go_wp2_with fail
            refine hTr.out.mono ?_
            rintro e w1 ⟨rfl, hb1⟩
            have HB1 := hide hb1
            clear hb1
            go_wp2_with fail
            refine (hUn _ (hTab _ HB1.out).out (Nat.le_trans h7 HB1.out.size)).out.mono ?_
            rintro e w2 ⟨rfl, hb2⟩
            have HB2 := hide (HB1.out.trans (hb2.mono HB1.out.size))
            clear hb2
            go_wp2_with fail
            refine (hCp _).out.mono ?_
            rintro e w3 ⟨rfl, rfl⟩
            go_wp2_with fail
            go_ret
            exact ⟨_, rfl, HB2.out⟩
  have q2 : ((c.toNat : Int) == 117) = false := u8f hu
  by_cases hk : c = 107 ∨ c = 112 ∨ c = 80
  · have hvt : Cssp.valid t = true := (Jsp.Suf.of (hct ▸ hv : Cssp.valid (c :: t) = true)).valid (by rcases hk with rfl | rfl | rfl <;> decide)
    have hCa := fun W => hide (jContAny t hvt (by omega) W)
    clear hct hv hvt hx hu
    rcases hk with hk | hk | hk
    · have q3 : ((c.toNat : Int) == 107) = true := u8t hk
      clear hk
      go_enter Tryz.func62, Tryz.ntmps62
      go_wp2_with fail
      refine hTr.out.mono ?_
      rintro e w1 ⟨rfl, hb1⟩
      have HB1 := hide hb1
      clear hb1
      go_wp2_with fail
      refine (hCa _).out.mono ?_
      rintro e w2 ⟨v2, rfl, hb2⟩
      have HB2 := hide (HB1.out.trans (hb2.mono HB1.out.size))
      clear hb2
      go_wp2_with fail
      go_ret
      exact ⟨_, rfl, HB2.out⟩
    · have q3 : ((c.toNat : Int) == 107) = false := by rw [hk]; rfl
      have q4 : ((c.toNat : Int) == 112) = true := u8t hk
      clear hk
      go_enter Tryz.func62, Tryz.ntmps62
      go_wp2_with fail
      refine hTr.out.mono ?_
      rintro e w1 ⟨rfl, hb1⟩
      have HB1 := hide hb1
      clear hb1
      go_wp2_with fail
      refine (hCa _).out.mono ?_
      rintro e w2 ⟨v2, rfl, hb2⟩
      have HB2 := hide (HB1.out.trans (hb2.mono HB1.out.size))
      clear hb2
      go_wp2_with fail
      go_ret
      exact ⟨_, rfl, HB2.out⟩
    · have q3 : ((c.toNat : Int) == 107) = false := by rw [hk]; rfl
      have q4 : ((c.toNat : Int) == 112) = false := by rw [hk]; rfl
      have q5 : ((c.toNat : Int) == 80) = true := u8t hk
      clear hk
      go_enter Tryz.func62, Tryz.ntmps62
      go_wp2_with fail
      refine hTr.out.mono ?_
      rintro e w1 ⟨rfl, hb1⟩
      have HB1 := hide hb1
      clear hb1
      go_wp2_with fail
      refine (hCa _).out.mono ?_
      rintro e w2 ⟨v2, rfl, hb2⟩
      have HB2 := hide (HB1.out.trans (hb2.mono HB1.out.size))
      clear hb2
      go_wp2_with fail
      go_ret
      exact ⟨_, rfl, HB2.out⟩
  have q3 : ((c.toNat : Int) == 107) = false := u8f (fun e => hk (.inl e))
  have q4 : ((c.toNat : Int) == 112) = false := u8f (fun e => hk (.inr (.inl e)))
  have q5 : ((c.toNat : Int) == 80) = false := u8f (fun e => hk (.inr (.inr e)))
  clear hk hct hv hx hu
  go_enter Tryz.func62, Tryz.ntmps62
  go_wp2_with fail
  refine hTr.out.mono ?_
  rintro e w1 ⟨rfl, hb1⟩
  have HB1 := hide hb1
  clear hb1
  go_wp2_with fail
  go_ret
  exact ⟨_, rfl, HB1.out⟩
theorem jPendingNil (w : World) : Calls Tryz.prog 62 #[S []] w (Fresh (.bool true) w) := by
  have hTr := hide (jTrimD [] (by decide) w)
  rw [show Lib.trimS [] [48, 49, 50, 51, 52, 53, 54, 55, 56, 57] = [] from rfl] at hTr
  go_enter Tryz.func62, Tryz.ntmps62
  go_wp2_with fail
  refine hTr.out.mono ?_
  rintro e w1 ⟨rfl, hb1⟩
  have HB1 := hide hb1
  clear hb1
  go_wp2_with fail
  go_ret
  exact ⟨rfl, HB1.out⟩
/-- it answers; no only where something stands -/
theorem jPendingE (U : List UInt8) (hv : Cssp.valid U = true) (hl : U.length ≤ 4194000) (w : World) (ht : Tab w) : Calls Tryz.prog 62 #[S U] w (fun e w' => ∃ v : Bool, e = .returned (.bool v) ∧ Below w.heap.size w w' ∧ (v = false → U ≠ [])) := by
  by_cases h0 : U = []
  · subst h0
    exact (jPendingNil w).mono fun e w' h => ⟨true, h.1, h.2, fun h => by cases h⟩
  · exact (jPending U hv hl w ht).mono fun e w' ⟨v, h1, h2⟩ => ⟨v, h1, h2, fun _ => h0⟩
end Go.Proofs.YtngccmlcopcghaaGreatDoor
