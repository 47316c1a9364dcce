/- The answer's side: what is a number. -/
import Derived.Test.YtepimjljkkkejaaDoorB
namespace Go.Proofs.YtepimjljkkkejaaDoor
open Go.RowKit

theorem digits_le (l : List UInt8) : Srcp.digits l ≤ l.length := by
  unfold Srcp.digits
  exact (List.takeWhile_prefix _).length_le
theorem dropWhile_digits (l : List UInt8) : l.dropWhile Srcp.dig = l.drop (Srcp.digits l) := by
  unfold Srcp.digits
  induction l with
  | nil => rfl
  | cons a l ih =>
    by_cases h : Srcp.dig a = true
    · rw [List.dropWhile_cons_of_pos h, List.takeWhile_cons_of_pos h, ih]; rfl
    · rw [List.dropWhile_cons_of_neg h, List.takeWhile_cons_of_neg h]; rfl
theorem all_digits (q : List UInt8) : (q != [] && q.all Srcp.dig) = (Srcp.digits q != 0 && Srcp.digits q == q.length) := by
  have h1 : q.all Srcp.dig = true ↔ Srcp.digits q = q.length := by
    rw [← dropWhile_nil, dropWhile_digits, List.drop_eq_nil_iff]
    have := digits_le q
    omega
  cases q with
  | nil => rfl
  | cons a q =>
    cases h : (a :: q).all Srcp.dig
    · have hne : Srcp.digits (a :: q) ≠ (a :: q).length := fun e => by rw [h1.2 e] at h; cases h
      rw [beq_eq_false_iff_ne.2 hne]; simp
    · rw [h1.1 h]; simp

/-- where the digits of a power begin -/
theorem sign_at (l : List UInt8) (a : Nat) (ha : a + 1 ≤ l.length) : ∃ q : Nat, a + 1 ≤ q ∧ q ≤ l.length ∧ Srcp.unsign (l.drop (a + 1)) = l.drop q ∧
    ((q = a + 1 ∧ ∀ z, l[a + 1]? = some z → ((z.toNat : Int) == 43) = false ∧ ((z.toNat : Int) == 45) = false) ∨
      (q = a + 2 ∧ ∃ z, l[a + 1]? = some z ∧ (((z.toNat : Int) == 43) = true ∨ (((z.toNat : Int) == 43) = false ∧ ((z.toNat : Int) == 45) = true)))) := by
  by_cases h1 : a + 1 < l.length
  · have hd1 := List.drop_eq_getElem_cons h1
    obtain ⟨z, hz⟩ : ∃ z, l[a + 1] = z := ⟨_, rfl⟩
    have hz' : l[a + 1]? = some z := by rw [List.getElem?_eq_getElem h1, hz]
    rw [hz] at hd1
    have e1 : ((z.toNat : Int) == 43) = (z == 43) := u8_eq _ 43 (by decide)
    have e2 : ((z.toNat : Int) == 45) = (z == 45) := u8_eq _ 45 (by decide)
    have hu : Srcp.unsign (l.drop (a + 1)) = if z == 43 || z == 45 then l.drop (a + 2) else l.drop (a + 1) := by rw [hd1]; rfl
    cases h43 : (z == 43)
    · cases h45 : (z == 45)
      · exact ⟨a + 1, by omega, by omega, by rw [hu, h43, h45]; rfl, .inl ⟨rfl, fun y hy => by rw [hz'] at hy; injection hy with hy; rw [← hy, e1, e2]; exact ⟨h43, h45⟩⟩⟩
      · exact ⟨a + 2, by omega, by omega, by rw [hu, h43, h45]; rfl, .inr ⟨rfl, z, hz', .inr ⟨by rw [e1, h43], by rw [e2, h45]⟩⟩⟩
    · exact ⟨a + 2, by omega, by omega, by rw [hu, h43]; rfl, .inr ⟨rfl, z, hz', .inl (by rw [e1, h43])⟩⟩
  · exact ⟨a + 1, by omega, by omega, by rw [List.drop_eq_nil_of_le (by omega)]; rfl, .inl ⟨rfl, fun y hy => by rw [List.getElem?_eq_none (by omega)] at hy; cases hy⟩⟩

set_option maxHeartbeats 4000000 in
theorem r13number (l : List UInt8) (b : Bool) (w : World) (hl : l.length ≤ maxLen) (hb : Hid (Srcp.number l = b)) :
    Calls Tryd.prog 34 #[S l] w (Ret (.bool b) w) := by
  have hl' := hl
  unfold maxLen at hl'
  obtain ⟨d0, e0⟩ : ∃ d, Srcp.digits l = d := ⟨_, rfl⟩
  have hd0 : d0 ≤ l.length := by rw [← e0]; exact digits_le l
  have E0 : Hid (Srcp.digits (l.drop (Int.toNat 0)) = d0) := e0
  have HD : Hid (l.dropWhile Srcp.dig = l.drop d0) := by unfold Hid; rw [dropWhile_digits, e0]
  have HE := hide e0
  clear e0
  go_enter Tryd.func34, Tryd.ntmps34
  go_wp2_with fail
  refine (r13digits l 0 d0 _ hl (by omega) (by omega) E0).mono ?_
  rintro e w' ⟨rfl, rfl⟩
  by_cases hlt : d0 < l.length
  · obtain ⟨x, hx⟩ : ∃ x, l[d0] = x := ⟨_, rfl⟩
    have hdr : Hid (l.drop d0 = x :: l.drop (d0 + 1)) := by unfold Hid; rw [← hx]; exact List.drop_eq_getElem_cons hlt
    have h46 : ((x.toNat : Int) == 46) = (x == 46) := u8_eq x 46 (by decide)
    cases hx46 : (x == 46)
    · rw [hx46] at h46
      have HX : Hid (x ≠ 46) := fun e => by rw [e] at hx46; cases hx46
      clear hx46
      by_cases hz : d0 = 0
      · have HB : Hid (b = false) := by
          unfold Hid
          rw [← hb.out, number_no l _ HD.out (by cases hp : Lib.hasPrefix (l.drop d0) [46] with | false => rfl | true => obtain ⟨t, ht⟩ := (hasPrefix_dot _).1 hp; rw [hdr.out] at ht; injection ht with h1 _; exact absurd h1 HX.out), hz, List.drop_zero]
          simp
        subst hz
        go_wp2_with fail
        all_goals go_ret
        all_goals exact Ret.of (v_b HB.out.symm)
      · have hz' : ((d0 : Int) == 0) = false := beq_eq_false_iff_ne.2 (by omega)
        have HB : Hid (b = Srcp.power (l.drop d0)) := by
          unfold Hid
          rw [← hb.out, number_no l _ HD.out (by cases hp : Lib.hasPrefix (l.drop d0) [46] with | false => rfl | true => obtain ⟨t, ht⟩ := (hasPrefix_dot _).1 hp; rw [hdr.out] at ht; injection ht with h1 _; exact absurd h1 HX.out)]
          rw [← HD.out, dw_eq, HE.out, beq_eq_false_iff_ne.2 hz]; rfl
        go_upto_region 10 with fail
        have ha : d0 ≤ l.length := hd0
        clear hz hz' h46 HX hdr hx hlt
        generalize d0 = a at *
        clear hb hd0 E0 HD HE
        by_cases hla : a < l.length
        · obtain ⟨y, hy⟩ : ∃ y, l[a] = y := ⟨_, rfl⟩
          have hdr : l.drop a = y :: l.drop (a + 1) := by rw [← hy]; exact List.drop_eq_getElem_cons hla
          have hE1 : ((y.toNat : Int) == 101) = (y == 101) := u8_eq y 101 (by decide)
          have hE2 : ((y.toNat : Int) == 69) = (y == 69) := u8_eq y 69 (by decide)
          have HB2 : Hid (b = ((y == 101 || y == 69) && (Srcp.unsign (l.drop (a + 1)) != [] && (Srcp.unsign (l.drop (a + 1))).all Srcp.dig))) := by
            unfold Hid; rw [HB.out, hdr, power_cons]
          clear HB hdr
          cases hc : (y == 101 || y == 69)
          · have HC := hide hc
            rw [Bool.or_eq_false_iff] at hc
            rw [hc.1] at hE1
            rw [hc.2] at hE2
            have hne : ((a : Int) == (l.length : Int)) = false := beq_eq_false_iff_ne.2 (by omega)
            clear hc
            go_wp2_with fail
            go_ret
            exact Ret.of (v_b (by rw [HB2.out, HC.out]; rfl))
          · have HB3 : Hid (b = (Srcp.digits (Srcp.unsign (l.drop (a + 1))) != 0 && Srcp.digits (Srcp.unsign (l.drop (a + 1))) == (Srcp.unsign (l.drop (a + 1))).length)) := by
              unfold Hid; rw [HB2.out, hc, Bool.true_and, all_digits]
            clear HB2
            -- where the digits begin
            have hq := sign_at l a (by omega)
            obtain ⟨q, hq1, hq2, hq3, hq4⟩ := hq
            rw [hq3] at HB3
            obtain ⟨m2, em2⟩ : ∃ m, Srcp.digits (l.drop q) = m := ⟨_, rfl⟩
            have hm2 : m2 ≤ l.length - q := by rw [← em2]; have := digits_le (l.drop q); rwa [List.length_drop] at this
            have EM2 : Hid (Srcp.digits (l.drop q) = m2) := em2
            have HB4 : Hid (b = (m2 != 0 && m2 == l.length - q)) := by unfold Hid; rw [HB3.out, em2, List.length_drop]
            clear HB3 em2 hq3
            have hcases : (y == 101) = true ∨ ((y == 101) = false ∧ (y == 69) = true) := by
              rw [Bool.or_eq_true] at hc
              cases h : (y == 101)
              · rw [h] at hc; exact .inr ⟨rfl, by simpa using hc⟩
              · exact .inl rfl
            clear hc
            have hm0 : ((m2 : Int) == 0) = (m2 == 0) := by rw [Bool.eq_iff_iff, beq_iff_eq, beq_iff_eq]; omega
            have hend : (((q : Int) + (m2 : Int)) == (l.length : Int)) = (m2 == l.length - q) := by rw [Bool.eq_iff_iff, beq_iff_eq, beq_iff_eq]; omega
            rcases hq4 with ⟨rfl, hq5⟩ | ⟨rfl, hq5⟩
            · by_cases h1 : a + 1 < l.length
              · obtain ⟨z, hz⟩ : ∃ z, l[a + 1] = z := ⟨_, rfl⟩
                obtain ⟨h43, h45⟩ := hq5 z (by rw [List.getElem?_eq_getElem h1, hz])
                clear hq5
                rcases hcases with h101 | ⟨h101, h69⟩
                all_goals rw [h101] at hE1
                all_goals try rw [h69] at hE2
                all_goals
                  go_wp2_with fail
                  refine (r13digits l ((a : Int) + 1) m2 _ hl (by omega) (by omega) (by rw [show ((a : Int) + 1).toNat = a + 1 by omega]; exact EM2)).mono ?_
                  rintro e w' ⟨rfl, rfl⟩
                  cases h0 : (m2 == 0)
                  · rw [h0] at hm0
                    have H0 := hide h0
                    clear h0
                    go_wp2_with fail
                    go_ret
                    exact Ret.of (v_b (by rw [HB4.out]; simp only [bne, H0.out, Bool.not_false, Bool.true_and]; rw [← hend]; first | rfl | (congr 1; omega) | (congr 2; omega)))
                  · rw [h0] at hm0
                    have H0 := hide h0
                    clear h0
                    go_wp2_with fail
                    go_ret
                    exact Ret.of (v_b (by rw [HB4.out]; simp only [bne, H0.out, Bool.not_true, Bool.false_and]))
              · clear hq5
                rcases hcases with h101 | ⟨h101, h69⟩
                all_goals rw [h101] at hE1
                all_goals try rw [h69] at hE2
                all_goals
                  go_wp2_with fail
                  refine (r13digits l ((a : Int) + 1) m2 _ hl (by omega) (by omega) (by rw [show ((a : Int) + 1).toNat = a + 1 by omega]; exact EM2)).mono ?_
                  rintro e w' ⟨rfl, rfl⟩
                  cases h0 : (m2 == 0)
                  · rw [h0] at hm0
                    have H0 := hide h0
                    clear h0
                    go_wp2_with fail
                    go_ret
                    exact Ret.of (v_b (by rw [HB4.out]; simp only [bne, H0.out, Bool.not_false, Bool.true_and]; rw [← hend]; first | rfl | (congr 1; omega) | (congr 2; omega)))
                  · rw [h0] at hm0
                    have H0 := hide h0
                    clear h0
                    go_wp2_with fail
                    go_ret
                    exact Ret.of (v_b (by rw [HB4.out]; simp only [bne, H0.out, Bool.not_true, Bool.false_and]))
            · obtain ⟨z, hz', hq6⟩ := hq5
              have h1 : a + 1 < l.length := by
                rcases Nat.lt_or_ge (a + 1) l.length with h | h
                · exact h
                · rw [List.getElem?_eq_none h] at hz'; cases hz'
              have hz : l[a + 1] = z := by rw [List.getElem?_eq_getElem h1] at hz'; injection hz'
              clear hz'
              rcases hq6 with h43 | ⟨h43, h45⟩
              all_goals rcases hcases with h101 | ⟨h101, h69⟩
              all_goals rw [h101] at hE1
              all_goals try rw [h69] at hE2
              all_goals
                go_wp2_with fail
                refine (r13digits l ((a : Int) + 1 + 1) m2 _ hl (by omega) (by omega) (by rw [show ((a : Int) + 1 + 1).toNat = a + 2 by omega]; exact EM2)).mono ?_
                rintro e w' ⟨rfl, rfl⟩
                cases h0 : (m2 == 0)
                · rw [h0] at hm0
                  have H0 := hide h0
                  clear h0
                  go_wp2_with fail
                  go_ret
                  exact Ret.of (v_b (by rw [HB4.out]; simp only [bne, H0.out, Bool.not_false, Bool.true_and]; rw [← hend]; first | rfl | (congr 1; omega) | (congr 2; omega)))
                · rw [h0] at hm0
                  have H0 := hide h0
                  clear h0
                  go_wp2_with fail
                  go_ret
                  exact Ret.of (v_b (by rw [HB4.out]; simp only [bne, H0.out, Bool.not_true, Bool.false_and]))
        · have hd : l.drop a = [] := List.drop_eq_nil_of_le (by omega)
          have HB2 : Hid (b = true) := by unfold Hid; rw [HB.out, hd]; rfl
          have he : ((a : Int) == (l.length : Int)) = true := beq_iff_eq.2 (by omega)
          clear hd HB
          go_wp2_with fail
          go_ret
          exact Ret.of (v_b HB2.out.symm)
    · rw [hx46] at h46
      have HX : Hid (x = 46) := by unfold Hid; exact eq_of_beq hx46
      clear hx46
      obtain ⟨m, em⟩ : ∃ m, Srcp.digits (l.drop (d0 + 1)) = m := ⟨_, rfl⟩
      have hm : m ≤ l.length - (d0 + 1) := by rw [← em]; have := digits_le (l.drop (d0 + 1)); rwa [List.length_drop] at this
      have EM : Hid (Srcp.digits (l.drop ((d0 : Int) + 1).toNat) = m) := by unfold Hid; rw [← em]; rfl
      have HB : Hid (b = (m != 0 && Srcp.power (l.drop (d0 + 1 + m)))) := by
        unfold Hid
        rw [← hb.out, number_dot l (l.drop (d0 + 1)) (by rw [HD.out, hdr.out, HX.out]), dw_eq, em, dropWhile_digits, em, List.drop_drop]
        rfl
      clear em
      by_cases hz : m = 0
      · subst hz
        go_wp2_with fail
        refine (r13digits l _ 0 _ hl (by omega) (by omega) EM).mono ?_
        rintro e w' ⟨rfl, rfl⟩
        go_wp2_with fail
        go_ret
        exact Ret.of (v_b (by rw [HB.out]; rfl))
      · have hz' : ((m : Int) == 0) = false := beq_eq_false_iff_ne.2 (by omega)
        go_wp2_with fail
        refine (r13digits l _ m _ hl (by omega) (by omega) EM).mono ?_
        rintro e w' ⟨rfl, rfl⟩
        go_upto_region 10 with fail
        have HB := hide (show b = Srcp.power (l.drop (d0 + 1 + m)) by rw [HB.out, bne_iff_ne.2 hz]; rfl)
        clear hz hz' EM h46 HX hdr
        have ea : ((d0 : Int) + 1 + (m : Int)) = ((d0 + 1 + m : Nat) : Int) := by omega
        rw [ea]
        have ha : d0 + 1 + m ≤ l.length := by omega
        clear ea hm hx hlt
        generalize d0 + 1 + m = a at *
        clear hb hd0 E0 HD HE
        by_cases hla : a < l.length
        · obtain ⟨y, hy⟩ : ∃ y, l[a] = y := ⟨_, rfl⟩
          have hdr : l.drop a = y :: l.drop (a + 1) := by rw [← hy]; exact List.drop_eq_getElem_cons hla
          have hE1 : ((y.toNat : Int) == 101) = (y == 101) := u8_eq y 101 (by decide)
          have hE2 : ((y.toNat : Int) == 69) = (y == 69) := u8_eq y 69 (by decide)
          have HB2 : Hid (b = ((y == 101 || y == 69) && (Srcp.unsign (l.drop (a + 1)) != [] && (Srcp.unsign (l.drop (a + 1))).all Srcp.dig))) := by
            unfold Hid; rw [HB.out, hdr, power_cons]
          clear HB hdr
          cases hc : (y == 101 || y == 69)
          · have HC := hide hc
            rw [Bool.or_eq_false_iff] at hc
            rw [hc.1] at hE1
            rw [hc.2] at hE2
            have hne : ((a : Int) == (l.length : Int)) = false := beq_eq_false_iff_ne.2 (by omega)
            clear hc
            go_wp2_with fail
            go_ret
            exact Ret.of (v_b (by rw [HB2.out, HC.out]; rfl))
          · have HB3 : Hid (b = (Srcp.digits (Srcp.unsign (l.drop (a + 1))) != 0 && Srcp.digits (Srcp.unsign (l.drop (a + 1))) == (Srcp.unsign (l.drop (a + 1))).length)) := by
              unfold Hid; rw [HB2.out, hc, Bool.true_and, all_digits]
            clear HB2
            -- where the digits begin
            have hq := sign_at l a (by omega)
            obtain ⟨q, hq1, hq2, hq3, hq4⟩ := hq
            rw [hq3] at HB3
            obtain ⟨m2, em2⟩ : ∃ m, Srcp.digits (l.drop q) = m := ⟨_, rfl⟩
            have hm2 : m2 ≤ l.length - q := by rw [← em2]; have := digits_le (l.drop q); rwa [List.length_drop] at this
            have EM2 : Hid (Srcp.digits (l.drop q) = m2) := em2
            have HB4 : Hid (b = (m2 != 0 && m2 == l.length - q)) := by unfold Hid; rw [HB3.out, em2, List.length_drop]
            clear HB3 em2 hq3
            have hcases : (y == 101) = true ∨ ((y == 101) = false ∧ (y == 69) = true) := by
              rw [Bool.or_eq_true] at hc
              cases h : (y == 101)
              · rw [h] at hc; exact .inr ⟨rfl, by simpa using hc⟩
              · exact .inl rfl
            clear hc
            have hm0 : ((m2 : Int) == 0) = (m2 == 0) := by rw [Bool.eq_iff_iff, beq_iff_eq, beq_iff_eq]; omega
            have hend : (((q : Int) + (m2 : Int)) == (l.length : Int)) = (m2 == l.length - q) := by rw [Bool.eq_iff_iff, beq_iff_eq, beq_iff_eq]; omega
            rcases hq4 with ⟨rfl, hq5⟩ | ⟨rfl, hq5⟩
            · by_cases h1 : a + 1 < l.length
              · obtain ⟨z, hz⟩ : ∃ z, l[a + 1] = z := ⟨_, rfl⟩
                obtain ⟨h43, h45⟩ := hq5 z (by rw [List.getElem?_eq_getElem h1, hz])
                clear hq5
                rcases hcases with h101 | ⟨h101, h69⟩
                all_goals rw [h101] at hE1
                all_goals try rw [h69] at hE2
                all_goals
                  go_wp2_with fail
                  refine (r13digits l ((a : Int) + 1) m2 _ hl (by omega) (by omega) (by rw [show ((a : Int) + 1).toNat = a + 1 by omega]; exact EM2)).mono ?_
                  rintro e w' ⟨rfl, rfl⟩
                  cases h0 : (m2 == 0)
                  · rw [h0] at hm0
                    have H0 := hide h0
                    clear h0
                    go_wp2_with fail
                    go_ret
                    exact Ret.of (v_b (by rw [HB4.out]; simp only [bne, H0.out, Bool.not_false, Bool.true_and]; rw [← hend]; first | rfl | (congr 1; omega) | (congr 2; omega)))
                  · rw [h0] at hm0
                    have H0 := hide h0
                    clear h0
                    go_wp2_with fail
                    go_ret
                    exact Ret.of (v_b (by rw [HB4.out]; simp only [bne, H0.out, Bool.not_true, Bool.false_and]))
              · clear hq5
                rcases hcases with h101 | ⟨h101, h69⟩
                all_goals rw [h101] at hE1
                all_goals try rw [h69] at hE2
                all_goals
                  go_wp2_with fail
                  refine (r13digits l ((a : Int) + 1) m2 _ hl (by omega) (by omega) (by rw [show ((a : Int) + 1).toNat = a + 1 by omega]; exact EM2)).mono ?_
                  rintro e w' ⟨rfl, rfl⟩
                  cases h0 : (m2 == 0)
                  · rw [h0] at hm0
                    have H0 := hide h0
                    clear h0
                    go_wp2_with fail
                    go_ret
                    exact Ret.of (v_b (by rw [HB4.out]; simp only [bne, H0.out, Bool.not_false, Bool.true_and]; rw [← hend]; first | rfl | (congr 1; omega) | (congr 2; omega)))
                  · rw [h0] at hm0
                    have H0 := hide h0
                    clear h0
                    go_wp2_with fail
                    go_ret
                    exact Ret.of (v_b (by rw [HB4.out]; simp only [bne, H0.out, Bool.not_true, Bool.false_and]))
            · obtain ⟨z, hz', hq6⟩ := hq5
              have h1 : a + 1 < l.length := by
                rcases Nat.lt_or_ge (a + 1) l.length with h | h
                · exact h
                · rw [List.getElem?_eq_none h] at hz'; cases hz'
              have hz : l[a + 1] = z := by rw [List.getElem?_eq_getElem h1] at hz'; injection hz'
              clear hz'
              rcases hq6 with h43 | ⟨h43, h45⟩
              all_goals rcases hcases with h101 | ⟨h101, h69⟩
              all_goals rw [h101] at hE1
              all_goals try rw [h69] at hE2
              all_goals
                go_wp2_with fail
                refine (r13digits l ((a : Int) + 1 + 1) m2 _ hl (by omega) (by omega) (by rw [show ((a : Int) + 1 + 1).toNat = a + 2 by omega]; exact EM2)).mono ?_
                rintro e w' ⟨rfl, rfl⟩
                cases h0 : (m2 == 0)
                · rw [h0] at hm0
                  have H0 := hide h0
                  clear h0
                  go_wp2_with fail
                  go_ret
                  exact Ret.of (v_b (by rw [HB4.out]; simp only [bne, H0.out, Bool.not_false, Bool.true_and]; rw [← hend]; first | rfl | (congr 1; omega) | (congr 2; omega)))
                · rw [h0] at hm0
                  have H0 := hide h0
                  clear h0
                  go_wp2_with fail
                  go_ret
                  exact Ret.of (v_b (by rw [HB4.out]; simp only [bne, H0.out, Bool.not_true, Bool.false_and]))
        · have hd : l.drop a = [] := List.drop_eq_nil_of_le (by omega)
          have HB2 : Hid (b = true) := by unfold Hid; rw [HB.out, hd]; rfl
          have he : ((a : Int) == (l.length : Int)) = true := beq_iff_eq.2 (by omega)
          clear hd HB
          go_wp2_with fail
          go_ret
          exact Ret.of (v_b HB2.out.symm)
  · have hdn : l.drop d0 = [] := List.drop_eq_nil_of_le (by omega)
    by_cases hz : d0 = 0
    · have HB : Hid (b = false) := by
        unfold Hid
        rw [← hb.out, number_no l _ HD.out (by rw [hdn]; rfl), hz, List.drop_zero]
        simp
      subst hz
      clear hdn
      go_wp2_with fail
      all_goals go_ret
      all_goals exact Ret.of (v_b HB.out.symm)
    · have hz' : ((d0 : Int) == 0) = false := beq_eq_false_iff_ne.2 (by omega)
      have HB : Hid (b = Srcp.power (l.drop d0)) := by
        unfold Hid
        rw [← hb.out, number_no l _ HD.out (by rw [hdn]; rfl)]
        rw [← HD.out, dw_eq, HE.out, beq_eq_false_iff_ne.2 hz]; rfl
      clear hdn
      have hde : d0 = l.length := by omega
      have HB2 : Hid (b = true) := by unfold Hid; rw [HB.out, List.drop_eq_nil_of_le (by omega)]; rfl
      have he : ((d0 : Int) == (l.length : Int)) = true := beq_iff_eq.2 (by omega)
      clear hde
      go_wp2_with fail
      go_ret
      exact Ret.of (v_b HB2.out.symm)
end Go.Proofs.YtepimjljkkkejaaDoor

