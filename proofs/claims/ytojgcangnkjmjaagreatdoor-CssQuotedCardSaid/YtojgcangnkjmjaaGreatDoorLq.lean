/- The law CssQuoted, walked. -/
import Derived.Test.YtojgcangnkjmjaaGreatDoorWk
import Derived.Test.YtojgcangnkjmjaaGreatDoorPq
namespace Go.Proofs.YtojgcangnkjmjaaGreatDoor
open Go.RowKit

theorem okQ_of {c : UInt8} (h1 : ¬ c = 34) (h2 : ¬ c = 92) (h3 : ¬ c = 0) (h4 : ¬ c = 10) (h5 : ¬ c = 12) (h6 : ¬ c = 13) : Cssp.okQ c = true := by
  simp only [Cssp.okQ, Bool.and_eq_true, bne_iff_ne, ne_eq]
  exact ⟨⟨⟨⟨⟨h1, h2⟩, h3⟩, h4⟩, h5⟩, h6⟩
set_option maxRecDepth 100000 in
set_option maxHeartbeats 4000000 in
theorem law_quoted (s : List UInt8) (w : World) (hs : s.length ≤ 9223372036854775807) (ht : Tab w) : Calls Tryz.prog 7 #[S s] w (Fresh (.bool true) w) := by
  have hlt := ht.lt
  have HW := hide (works_ w ht)
  go_enter Tryz.func7, Tryz.ntmps7
  go_wp2_with fail
  refine HW.out.mono ?_
  rintro e w1 ⟨rfl, hb1⟩
  have HB1 := hide hb1
  have ht1 := ht.below (by omega) hb1
  have HT1 := hide ht1
  have hsz1 := hb1.size
  clear HW hb1 ht1
  by_cases hlen : 8192 < s.length
  · have d1 : (8192 : Int) < (s.length : Int) := by omega
    go_wp2_with fail
    go_ret
    exact ⟨rfl, HB1.out⟩
  have d1 : decide ((8192 : Int) < (s.length : Int)) = false := by rw [decide_eq_false_iff_not]; omega
  have HV := hide (valid_ s w1 HT1.out hs)
  go_wp2_with fail
  refine HV.out.mono ?_
  rintro e w2 ⟨rfl, hb2⟩
  have HB2 := hide (HB1.out.trans (hb2.mono hsz1))
  have ht2 := HT1.out.below (by omega) hb2
  have HT2 := hide ht2
  have hsz2 := HB2.out.size
  clear HV hb2 ht2 HB1 HT1
  cases hv : Cssp.valid s with
  | false =>
    clear hv
    go_wp2_with fail
    go_ret
    exact ⟨rfl, HB2.out⟩
  | true =>
    have HVS := hide hv
    clear hv
    go_wp2_with fail
    go_loopg [4] s.length (fun g i wx => ∃ n : Nat, i = .int .i64 n ∧ g + n = s.length ∧ w2 = wx ∧ Hid (∀ c ∈ s.take n, Cssp.okQ c = true))
    case atStart => exact ⟨0, rfl, by omega, rfl, by unfold Hid; simp⟩
    case round =>
      obtain ⟨n, rfl, hgn, hwx, hok⟩ := hrel
      subst hwx
      by_cases hn : n < s.length
      · have b0 : (0 : Int) ≤ (n : Int) := by omega
        have b1 : (n : Int) < (s.length : Int) := by omega
        obtain ⟨x, hx⟩ : ∃ x, s[n] = x := ⟨_, rfl⟩
        have htk : ∀ c ∈ s.take (n + 1), c ∈ s.take n ∨ c = x := fun c hc => by
          rw [List.take_add_one, List.getElem?_eq_getElem hn, hx] at hc
          simpa using hc
        have HTK := hide htk
        clear htk
        by_cases h1 : x = 34
        · have q1 : ((x.toNat : Int) == 34) = true := u8t h1
          clear h1
          go_wp2_with fail
          go_ret
          exact ⟨rfl, HB2.out⟩
        have q1 : ((x.toNat : Int) == 34) = false := u8f h1
        by_cases h2 : x = 92
        · have q2 : ((x.toNat : Int) == 92) = true := u8t h2
          clear h1 h2
          go_wp2_with fail
          go_ret
          exact ⟨rfl, HB2.out⟩
        have q2 : ((x.toNat : Int) == 92) = false := u8f h2
        by_cases h3 : x = 0
        · have q3 : ((x.toNat : Int) == 0) = true := u8t h3
          clear h1 h2 h3
          go_wp2_with fail
          go_ret
          exact ⟨rfl, HB2.out⟩
        have q3 : ((x.toNat : Int) == 0) = false := u8f h3
        by_cases h4 : x = 10
        · have q4 : ((x.toNat : Int) == 10) = true := u8t h4
          clear h1 h2 h3 h4
          go_wp2_with fail
          go_ret
          exact ⟨rfl, HB2.out⟩
        have q4 : ((x.toNat : Int) == 10) = false := u8f h4
        by_cases h5 : x = 12
        · have q5 : ((x.toNat : Int) == 12) = true := u8t h5
          clear h1 h2 h3 h4 h5
          go_wp2_with fail
          go_ret
          exact ⟨rfl, HB2.out⟩
        have q5 : ((x.toNat : Int) == 12) = false := u8f h5
        by_cases h6 : x = 13
        · have q6 : ((x.toNat : Int) == 13) = true := u8t h6
          clear h1 h2 h3 h4 h5 h6
          go_wp2_with fail
          go_ret
          exact ⟨rfl, HB2.out⟩
        have q6 : ((x.toNat : Int) == 13) = false := u8f h6
        have HOK := hide (okQ_of h1 h2 h3 h4 h5 h6)
        clear h1 h2 h3 h4 h5 h6
        go_wp2_with fail
        go_roundg (gk - 1)
        case measure => omega
        case rel => exact ⟨n + 1, by go_num, by omega, rfl, fun c hc => (HTK.out c hc).elim (hok.out c) fun h => by rw [h]; exact HOK.out⟩
      · have b1 : ¬ (n : Int) < (s.length : Int) := by omega
        have hall : ∀ c ∈ s, Cssp.okQ c = true := fun c hc => hok.out c (by rw [List.take_of_length_le (by omega)]; exact hc)
        obtain ⟨r1, r2, r3⟩ := Cssp.read_quoted s HVS.out hall
        have H1 := tokens_ (34 :: (s ++ [34])) w2 HT2.out (by simp; omega)
        rw [show (Cssp.read (34 :: (s ++ [34]))).l = _ from r1] at H1
        have H2 := fun W (hT : Tab W) => where_ (34 :: (s ++ [34])) W hT (by simp; omega)
        rw [show (Cssp.read (34 :: (s ++ [34]))).w = _ from r2] at H2
        have H3 := fun W (hT : Tab W) => where_ (34 :: s) W hT (by simp; omega)
        rw [show (Cssp.read (34 :: s)).w = _ from r3] at H3
        have K1 := hide H1
        have K2 := fun W hT => hide (H2 W hT)
        have K3 := fun W hT => hide (H3 W hT)
        have hn1 : ¬ 9223372036854775807 < 1 + s.length := by omega
        have hn2 : ¬ 9223372036854775807 < s.length + 1 := by omega
        have hn3 : ¬ 9223372036854775807 < s.length + 1 + 1 := by omega
        clear H1 H2 H3 r1 r2 r3 hall hok hn HVS
        go_wp2_with fail
        refine Calls.mono K1.out ?_
        rintro e w3 ⟨v3, rfl, ho3, hb3⟩
        obtain ⟨a3, c3, rfl⟩ := slice_of ho3
        have HR3 := hide (RT.of_own ho3)
        have HB3 := hide (HB2.out.trans (hb3.mono hsz2))
        clear K1 ho3 hb3
        have hal := (Below.refl _ w3).alloc (Nat.le_refl _) (.cells (tokCells [⟨6, s, [], false⟩]).toArray 27)
        have hr := RT.of_row w3 [⟨6, s, [], false⟩] 1 (by simp)
        have HS := hide (same_any _ _ [⟨6, s, [], false⟩] [⟨6, s, [], false⟩] _ (HR3.out.below hal) hr (by simp [maxLen]) (by simp [maxLen]))
        clear hr
        go_wp2_with fail
        refine Calls.mono HS.out ?_
        rintro e w4 ⟨rfl, hd4⟩
        have hb4 := hal.trans ((below_drawn hd4).mono hal.size)
        have HB4 := hide (HB3.out.trans (hb4.mono HB3.out.size))
        have K2' := K2 w4 (ht.below (by omega) HB4.out)
        clear HS hd4 hal hb4 HR3 HB3 K2
        have e1 := fun W => where_eql 1 0 1 0 W
        have e2 := fun W => where_eql 3 34 3 34 W
        go_wp2_with fail
        refine Calls.mono K2'.out ?_
        rintro e w5 ⟨rfl, hb5⟩
        have HB5 := hide (HB4.out.trans (hb5.mono HB4.out.size))
        have K3' := K3 w5 (ht.below (by omega) HB5.out)
        clear K2' hb5 K3 HB4
        go_wp2_with fail
        refine Calls.mono K3'.out ?_
        rintro e w6 ⟨rfl, hb6⟩
        have HB6 := hide (HB5.out.trans (hb6.mono HB5.out.size))
        clear K3' hb6 HB5
        go_wp2_with fail
        go_ret
        exact ⟨by simp, HB6.out⟩
end Go.Proofs.YtojgcangnkjmjaaGreatDoor
