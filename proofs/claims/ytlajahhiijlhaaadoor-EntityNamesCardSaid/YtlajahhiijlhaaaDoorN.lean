/- The document's answer: the reference at a place; is it open; a text decoded. -/
import Derived.Test.YtlajahhiijlhaaaDoorM
namespace Go.Proofs.YtlajahhiijlhaaaDoor
open Go.RowKit

theorem number_ok (n : Int) : Entp.number n < 55296 ∨ 57343 < Entp.number n := by
  unfold Entp.number
  split
  · omega
  · rename_i h
    split
    · have := windows_le (n - 128).toNat (by omega)
      omega
    · omega
theorem rNum (s : List UInt8) (a : Nat) (b n : Int) (k : Nat) (w : World) (hl : s.length ≤ 4611686018427387904) (ha : a ≤ s.length) (hb : b = 10 ∨ b = 16) (hk : Hid (Entp.many b (s.drop a) = k)) (hn : Hid (Entp.clip 2000000 b 0 ((s.drop a).take k) = n)) :
    Calls Tryd.prog 26 #[S s, .int .i64 a, .int .i64 b] w (Ret (.tuple #[.int .i64 k, .int .i64 n]) w) := by
  rcases hb with rfl | rfl
  · exact rNum10 s a n k w hl ha hk hn
  · exact rNum16 s a n k w hl ha hk hn

set_option maxRecDepth 100000 in
set_option maxHeartbeats 2000000 in
theorem rRef (s : List UInt8) (at_ : Int) (attr : Bool) (n : Nat) (u : List UInt8) (w : World) (hl : s.length ≤ 1152921504606846976) (hn : Hid (Entp.refAt s at_ attr = (n, u))) :
    Calls Tryd.prog 10 #[S s, .int .i64 at_, .bool attr] w (Fresh (.tuple #[.int .i64 n, S u]) w) := by
  have FIN : Hid (∀ (a : Nat) (b : List UInt8), Entp.refAt s at_ attr = (a, b) → a = n ∧ b = u) := fun a b h => by
    have := h.symm.trans hn.out
    injection this with h1 h2
    exact ⟨h1, h2⟩
  clear hn
  by_cases h0 : at_ < 0
  · obtain ⟨rfl, rfl⟩ := FIN.out 0 [] (by rw [Entp.refAt, if_pos (.inl h0)])
    go_enter Tryd.func10, Tryd.ntmps10
    go_wp2_with fail
    refine bodyPost_ret (v := .tuple #[.int .i64 0, S []]) (by simp [results, Tryd.results10, go_sem]) rfl ?_
    exact ⟨rfl, Below.refl _ _⟩
  obtain ⟨a, rfl⟩ := Int.eq_ofNat_of_zero_le (by omega : 0 ≤ at_)
  by_cases h1 : s.length ≤ a
  · obtain ⟨rfl, rfl⟩ := FIN.out 0 [] (by rw [Entp.refAt, if_pos (.inr (.inl (by omega)))])
    go_enter Tryd.func10, Tryd.ntmps10
    go_wp2_with fail
    refine bodyPost_ret (v := .tuple #[.int .i64 0, S []]) (by simp [results, Tryd.results10, go_sem]) rfl ?_
    exact ⟨rfl, Below.refl _ _⟩
  have hlt : a < s.length := by omega
  obtain ⟨x, hx⟩ : ∃ x, s[a] = x := ⟨_, rfl⟩
  have hx? : s[a]? = some x := by rw [List.getElem?_eq_getElem hlt, hx]
  by_cases h38 : x = 38
  case neg =>
    have hne : ((x.toNat : Int) != 38) = true := by rw [bne_iff_ne]; intro e; exact h38 (u8_inj (b := 38) e)
    obtain ⟨rfl, rfl⟩ := FIN.out 0 [] (by rw [Entp.refAt, if_pos (.inr (.inr (by rw [Int.toNat_natCast, hx?]; intro e; exact h38 (Option.some.inj e))))])
    clear hx? h0 h1 h38
    go_enter Tryd.func10, Tryd.ntmps10
    go_wp2_with fail
    refine bodyPost_ret (v := .tuple #[.int .i64 0, S []]) (by simp [results, Tryd.results10, go_sem]) rfl ?_
    exact ⟨rfl, Below.refl _ _⟩
  case pos =>
    subst h38
    have hR : Entp.refAt s a attr = Entp.ref (s.drop (a + 1)) attr := by
      rw [Entp.refAt, if_neg, Int.toNat_natCast]
      rw [Int.toNat_natCast, hx?]
      intro h
      rcases h with h | h | h
      · omega
      · omega
      · exact h rfl
    clear hx? h0 h1
    have hhd : (s.drop (a + 1)).head? = s[a + 1]? := by rw [List.head?_drop]
    by_cases h35 : s[a + 1]? = some 35
    · have h35' := h35
      have hlt2 : a + 1 < s.length := by
        rcases Nat.lt_or_ge (a + 1) s.length with h' | h'
        · exact h'
        · rw [List.getElem?_eq_none h'] at h35; cases h35
      rw [List.getElem?_eq_getElem hlt2] at h35'
      have hx2 : s[a + 1] = 35 := Option.some.inj h35'
      have hR2 : Entp.ref (s.drop (a + 1)) attr = Entp.numRef 2097152 (s.drop (a + 2)) := by rw [Entp.ref, hhd, if_pos h35, List.drop_drop]
      rw [hR2, Entp.numRef] at hR
      obtain ⟨b, sk, hb⟩ : ∃ b sk, Entp.based (s.drop (a + 2)) = (b, sk) := ⟨_, _, rfl⟩
      have hbb := based_base (s.drop (a + 2))
      have hsk := Entp.based_skip (s.drop (a + 2))
      rw [hb] at hbb hsk hR
      rw [List.length_drop] at hsk
      simp only [List.drop_drop] at hR
      simp only at hsk
      obtain ⟨k, hk⟩ : ∃ k, Entp.many b (s.drop (a + 2 + sk)) = k := ⟨_, rfl⟩
      have hkl := Entp.many_le b (s.drop (a + 2 + sk))
      obtain ⟨c, hc⟩ : ∃ c, Entp.clip 2000000 b 0 ((s.drop (a + 2 + sk)).take k) = c := ⟨_, rfl⟩
      have hdg : ∀ y ∈ (s.drop (a + 2 + sk)).take k, 0 ≤ Entp.hex y := by rw [← hk]; exact many_dig b _
      have hb1 : 1 ≤ b := by simp only at hbb; omega
      have hcl := clip_le 2000000 b (by omega) (by omega) ((s.drop (a + 2 + sk)).take k) 0 (by omega) (by omega) hdg
      have hnc : Entp.number (Entp.clip 2097152 b 0 ((s.drop (a + 2 + sk)).take k)) = Entp.number c := by rw [← hc]; exact Entp.number_clip _ _ b hb1 (by decide) (by decide) _ hdg
      rw [hk, List.length_drop] at hkl
      rw [hc] at hcl
      simp only [hk, hnc] at hR
      obtain ⟨hc0, hc1⟩ := hcl
      have hb' : b = 10 ∨ b = 16 := by simp only at hbb; omega
      have hsk1 : sk ≤ 1 := by simp only at hbb; omega
      obtain ⟨z, hz⟩ : ∃ z, Entp.number c = z := ⟨_, rfl⟩
      have hzp := number_pos c
      have hzo := number_ok c
      rw [hz] at hzp hzo hR
      have Hb := hide hb
      have Hb' := hide hb'
      have Hk := hide hk
      have Hc := hide hc
      have Hz := hide hz
      have Hzo := hide hzo
      clear hR2 hbb hb hk hc hb' h35 h35' hhd hdg hnc hb1 hz hzo
      by_cases hk0 : k = 0
      · rw [if_pos hk0] at hR
        obtain ⟨rfl, rfl⟩ := FIN.out _ _ hR
        subst hk0
        clear hR
        go_enter Tryd.func10, Tryd.ntmps10
        go_wp2_with fail
        refine (rBase s (a + 2) b sk _ (by omega) (by omega) Hb).mono ?_
        rintro e w' ⟨rfl, rfl⟩
        go_wp2_with fail
        refine (rNum s (a + 2 + sk) b c 0 _ (by omega) (by omega) Hb'.out Hk Hc).mono ?_
        rintro e w' ⟨rfl, rfl⟩
        go_wp2_with fail
        refine bodyPost_ret (v := .tuple #[.int .i64 0, S []]) (by simp [results, Tryd.results10, go_sem]) rfl ?_
        exact ⟨rfl, Below.refl _ _⟩
      · rw [if_neg hk0] at hR
        have hki : ((k : Int) == 0) = false := beq_eq_false_iff_ne.2 (by omega)
        have hhd2 : (s.drop (a + 2 + sk + k)).head? = s[a + 2 + sk + k]? := by rw [List.head?_drop]
        rw [hhd2] at hR
        have HR := hide hR
        clear hR hhd2
        obtain ⟨hz0, hz1⟩ := hzp
        go_enter Tryd.func10, Tryd.ntmps10
        go_wp2_with fail
        refine (rBase s (a + 2) b sk _ (by omega) (by omega) Hb).mono ?_
        rintro e w' ⟨rfl, rfl⟩
        go_wp2_with fail
        refine (rNum s (a + 2 + sk) b c k _ (by omega) (by omega) Hb'.out Hk Hc).mono ?_
        rintro e w' ⟨rfl, rfl⟩
        rcases (by omega : a + 2 + sk + k < s.length ∨ a + 2 + sk + k = s.length) with hto | hto
        · obtain ⟨y, hy⟩ : ∃ y, s[a + 2 + sk + k] = y := ⟨_, rfl⟩
          have hR := HR.out
          rw [List.getElem?_eq_getElem hto, hy] at hR
          by_cases h59 : y = 59
          · rw [if_pos (by rw [h59])] at hR
            obtain ⟨rfl, rfl⟩ := FIN.out _ _ hR
            subst h59
            clear hR
            go_wp2_with fail
            refine (rNumber c _ ⟨by omega, by omega⟩).mono ?_
            rintro e w2 ⟨rfl, hb2⟩
            rw [Hz.out]
            go_wp2_with fail
            refine (rBytesZ z _ hz0 hz1 Hzo.out).mono ?_
            rintro e w3 ⟨rfl, hb3⟩
            have hb4 := hb2.trans (hb3.mono hb2.size)
            clear hb2 hb3
            go_wp2_with fail
            refine bodyPost_ret (v := .tuple #[.int .i64 ((2 + sk + k + 1 : Nat) : Int), S (Lib.encodeRune z)]) (by simp [results, Tryd.results10, go_sem]; omega) rfl ?_
            exact ⟨rfl, hb4⟩
          · rw [if_neg (fun e => h59 (Option.some.inj e))] at hR
            obtain ⟨rfl, rfl⟩ := FIN.out _ _ hR
            have hy5 : ((y.toNat : Int) == 59) = false := beq_eq_false_iff_ne.2 (fun e => h59 (u8_inj (b := 59) e))
            clear hR h59
            go_wp2_with fail
            refine (rNumber c _ ⟨by omega, by omega⟩).mono ?_
            rintro e w2 ⟨rfl, hb2⟩
            rw [Hz.out]
            go_wp2_with fail
            refine (rBytesZ z _ hz0 hz1 Hzo.out).mono ?_
            rintro e w3 ⟨rfl, hb3⟩
            have hb4 := hb2.trans (hb3.mono hb2.size)
            clear hb2 hb3
            go_wp2_with fail
            refine bodyPost_ret (v := .tuple #[.int .i64 ((2 + sk + k : Nat) : Int), S (Lib.encodeRune z)]) (by simp [results, Tryd.results10, go_sem]; omega) rfl ?_
            exact ⟨rfl, hb4⟩
        · have hR := HR.out
          rw [List.getElem?_eq_none (by omega), if_neg (by simp)] at hR
          obtain ⟨rfl, rfl⟩ := FIN.out _ _ hR
          clear hR
          go_wp2_with fail
          refine (rNumber c _ ⟨by omega, by omega⟩).mono ?_
          rintro e w2 ⟨rfl, hb2⟩
          rw [Hz.out]
          go_wp2_with fail
          refine (rBytesZ z _ hz0 hz1 Hzo.out).mono ?_
          rintro e w3 ⟨rfl, hb3⟩
          have hb4 := hb2.trans (hb3.mono hb2.size)
          clear hb2 hb3
          go_wp2_with fail
          refine bodyPost_ret (v := .tuple #[.int .i64 ((2 + sk + k : Nat) : Int), S (Lib.encodeRune z)]) (by simp [results, Tryd.results10, go_sem]; omega) rfl ?_
          exact ⟨rfl, hb4⟩
    · have hR2 : Entp.ref (s.drop (a + 1)) attr = Entp.nameRef (s.drop (a + 1)) attr := by rw [Entp.ref, hhd, if_neg h35]
      rw [hR2, Entp.nameRef] at hR
      obtain ⟨m, t, hm⟩ : ∃ m t, Entp.named (s.drop (a + 1)) = (m, t) := ⟨_, _, rfl⟩
      have hmr : m ≤ (s.drop (a + 1)).length := by
        have h1 := Entp.downFrom_le (s.drop (a + 1)) (Entp.top (s.drop (a + 1)))
        have h2 := top_le (s.drop (a + 1))
        have h3 : (Entp.named (s.drop (a + 1))).1 = m := by rw [hm]
        rw [Entp.named] at h3
        omega
      rw [List.length_drop] at hmr
      rw [hm] at hR
      simp only at hR
      have Hm := hide hm
      have HR := hide hR
      have hnum : (a + 1 < s.length ∧ ∃ y, s[a + 1]? = some y ∧ ((y.toNat : Int) == 35) = false) ∨ a + 1 = s.length := by
        rcases (by omega : a + 1 < s.length ∨ a + 1 = s.length) with h | h
        · refine .inl ⟨h, s[a + 1], List.getElem?_eq_getElem h, ?_⟩
          refine beq_eq_false_iff_ne.2 (fun e => h35 ?_)
          rw [List.getElem?_eq_getElem h, u8_inj (b := 35) e]
        · exact .inr h
      clear hR2 hm hR h35 hhd
      rcases hnum with ⟨hn1, y0, hn2, hn3⟩ | hn1
      case inr =>
        -- nothing follows
        have hm0 : m = 0 := by omega
        subst hm0
        have hR := HR.out
        rw [if_pos (.inl rfl)] at hR
        obtain ⟨rfl, rfl⟩ := FIN.out _ _ hR
        have hdn : s.drop (a + 1) = [] := List.drop_eq_nil_of_le (by omega)
        rw [hdn] at Hm
        clear hR hmr HR
        go_enter Tryd.func10, Tryd.ntmps10
        go_wp2_with fail
        refine (rNamed [] 0 t _ (by simp) Hm).mono ?_
        rintro e w2 ⟨rfl, hb2⟩
        go_wp2_with fail
        refine bodyPost_ret (v := .tuple #[.int .i64 0, S []]) (by simp [results, Tryd.results10, go_sem]) rfl ?_
        exact ⟨rfl, hb2⟩
      rw [List.getElem?_eq_getElem hn1] at hn2
      have hy0 : s[a + 1] = y0 := Option.some.inj hn2
      clear hn2
      go_enter Tryd.func10, Tryd.ntmps10
      go_wp2_with fail
      refine (rNamed _ m t _ (by simp; omega) Hm).mono ?_
      rintro e w2 ⟨rfl, hb2⟩
      by_cases hm0 : m = 0
      · subst hm0
        have hR := HR.out
        rw [if_pos (.inl rfl)] at hR
        obtain ⟨rfl, rfl⟩ := FIN.out _ _ hR
        clear hR
        go_wp2_with fail
        refine bodyPost_ret (v := .tuple #[.int .i64 0, S []]) (by simp [results, Tryd.results10, go_sem]) rfl ?_
        exact ⟨rfl, hb2⟩
      have hmi : ((m : Int) == 0) = false := beq_eq_false_iff_ne.2 (by omega)
      cases attr
      · have hR := HR.out
        rw [if_neg (by simp [hm0])] at hR
        obtain ⟨rfl, rfl⟩ := FIN.out _ _ hR
        clear hR
        go_wp2_with fail
        refine bodyPost_ret (v := .tuple #[.int .i64 ((m + 1 : Nat) : Int), S t]) (by simp [results, Tryd.results10, go_sem]) rfl ?_
        exact ⟨rfl, hb2⟩
      obtain ⟨j, rfl⟩ : ∃ j, m = j + 1 := ⟨m - 1, by omega⟩
      have hj : a + 1 + j < s.length := by omega
      obtain ⟨y, hy⟩ : ∃ y, s[a + 1 + j] = y := ⟨_, rfl⟩
      have hy? : (s.drop (a + 1))[j + 1 - 1]? = some y := by rw [Nat.add_sub_cancel, List.getElem?_drop, List.getElem?_eq_getElem hj, hy]
      have hR := HR.out
      rw [hy?] at hR
      have hix : ((a : Int) + 1 + ((j : Int) + 1) - 1).toNat = a + 1 + j := by omega
      have hix2 : (a : Int) + 1 + ((j : Int) + 1) - 1 = (a : Int) + 1 + (j : Int) := by omega
      have hix3 : ((a : Int) + 1 + ((j : Int) + 1)).toNat = a + 1 + (j + 1) := by omega
      clear hmi hy? hm0
      by_cases h59 : y = 59
      · rw [if_neg (by rw [h59]; simp)] at hR
        obtain ⟨rfl, rfl⟩ := FIN.out _ _ hR
        clear hR HR
        subst h59
        go_wp2_with fail
        refine bodyPost_ret (v := .tuple #[.int .i64 ((j + 1 + 1 : Nat) : Int), S t]) (by simp [results, Tryd.results10, go_sem]) rfl ?_
        exact ⟨rfl, hb2⟩
      have hy5 : ((y.toNat : Int) != 59) = true := by rw [bne_iff_ne]; intro e; exact h59 (u8_inj (b := 59) e)
      have h59' : ¬ (some y = some (59 : UInt8)) := fun e => h59 (Option.some.inj e)
      have hgd : (s.drop (a + 1))[j + 1]? = s[a + 1 + (j + 1)]? := by rw [List.getElem?_drop]
      rw [hgd] at hR
      by_cases hjl : a + 1 + (j + 1) < s.length
      · obtain ⟨z, hz⟩ : ∃ z, s[a + 1 + (j + 1)] = z := ⟨_, rfl⟩
        rw [List.getElem?_eq_getElem hjl, hz] at hR
        clear hgd
        by_cases h61 : z = 61
        · rw [if_pos (.inr ⟨rfl, h59', .inl (by rw [h61])⟩)] at hR
          obtain ⟨rfl, rfl⟩ := FIN.out _ _ hR
          clear hR HR h59 h59'
          subst h61
          go_wp2_with fail
          refine bodyPost_ret (v := .tuple #[.int .i64 0, S []]) (by simp [results, Tryd.results10, go_sem]) rfl ?_
          exact ⟨rfl, hb2⟩
        have hz6 : ((z.toNat : Int) == 61) = false := beq_eq_false_iff_ne.2 (fun e => h61 (u8_inj (b := 61) e))
        have h61' : ¬ (some z = some (61 : UInt8)) := fun e => h61 (Option.some.inj e)
        have hcz := u8_lt z
        have HR2 := hide hR
        have H59 := hide h59'
        have H61 := hide h61'
        clear hR HR h59 h59' h61 h61'
        go_wp2_with fail
        refine (rAlnum z _).mono ?_
        rintro e w3 ⟨rfl, rfl⟩
        cases hal : Entp.alnum z
        · have hR := HR2.out
          rw [if_neg (by rintro (h | ⟨_, _, h | h⟩); · omega
                         · exact H61.out h
                         · simp [hal] at h)] at hR
          obtain ⟨rfl, rfl⟩ := FIN.out _ _ hR
          clear hR
          go_wp2_with fail
          refine bodyPost_ret (v := .tuple #[.int .i64 ((j + 1 + 1 : Nat) : Int), S t]) (by simp [results, Tryd.results10, go_sem]) rfl ?_
          exact ⟨rfl, hb2⟩
        · have hR := HR2.out
          rw [if_pos (.inr ⟨by trivial, H59.out, .inr (by simp [hal])⟩)] at hR
          obtain ⟨rfl, rfl⟩ := FIN.out _ _ hR
          clear hR
          go_wp2_with fail
          refine bodyPost_ret (v := .tuple #[.int .i64 0, S []]) (by simp [results, Tryd.results10, go_sem]) rfl ?_
          exact ⟨rfl, hb2⟩
      · rw [List.getElem?_eq_none (by omega), if_neg (by simp)] at hR
        obtain ⟨rfl, rfl⟩ := FIN.out _ _ hR
        clear hR HR h59 h59' hgd
        go_wp2_with fail
        refine bodyPost_ret (v := .tuple #[.int .i64 ((j + 1 + 1 : Nat) : Int), S t]) (by simp [results, Tryd.results10, go_sem]) rfl ?_
        exact ⟨rfl, hb2⟩
end Go.Proofs.YtlajahhiijlhaaaDoor
