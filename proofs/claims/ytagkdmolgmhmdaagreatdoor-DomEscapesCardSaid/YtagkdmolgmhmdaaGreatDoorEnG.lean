/- The reference at a place. -/
import Derived.Test.YtagkdmolgmhmdaaGreatDoorEnE
namespace Go.Proofs.YtagkdmolgmhmdaaGreatDoor.En
open Go.RowKit

theorem u8n (a : Nat) : a.toUInt8 = UInt8.ofNat a := rfl
theorem enc_eq (n : Nat) : Utf8.encode (n : Int) = ⟨(Lib.encodeRune n).toArray⟩ := by
  unfold Lib.encodeRune Utf8.encode
  by_cases hbad : (55296 ≤ (n : Int) ∧ (n : Int) ≤ 57343) ∨ 1114111 < (n : Int)
  · rw [Lib.encodeRuneZ_bad (.inr hbad)]
    have hv : Utf8.valid (n : Int) = false := by rw [← Bool.not_eq_true]; unfold Utf8.valid; simp; omega
    simp only [hv, Bool.false_eq_true, if_false]
    rfl
  · have hv : Utf8.valid (n : Int) = true := by unfold Utf8.valid; simp; omega
    simp only [hv, if_true, Int.toNat_natCast]
    by_cases h1 : n < 128
    · rw [if_pos h1, Lib.encodeRuneZ_one (by omega) (by omega)]
      simp
    rw [if_neg h1]
    by_cases h2 : n < 2048
    · rw [if_pos h2, Lib.encodeRuneZ_two (by omega) (by omega)]
      simp only [List.map_cons, List.map_nil, u8n]
      rw [show (192 + (n : Int) / 64).toNat = 192 + n / 64 by omega, show (128 + (n : Int) % 64).toNat = 128 + n % 64 by omega]
    rw [if_neg h2]
    by_cases h3 : n < 65536
    · rw [if_pos h3, Lib.encodeRuneZ_three (by omega)]
      simp only [List.map_cons, List.map_nil, u8n]
      rw [show (224 + (n : Int) / 4096).toNat = 224 + n / 4096 by omega, show (128 + (n : Int) / 64 % 64).toNat = 128 + n / 64 % 64 by omega, show (128 + (n : Int) % 64).toNat = 128 + n % 64 by omega]
    rw [if_neg h3, Lib.encodeRuneZ_four (by omega) (by omega)]
    simp only [List.map_cons, List.map_nil, u8n]
    rw [show (240 + (n : Int) / 262144).toNat = 240 + n / 262144 by omega, show (128 + (n : Int) / 4096 % 64).toNat = 128 + n / 4096 % 64 by omega, show (128 + (n : Int) / 64 % 64).toNat = 128 + n / 64 % 64 by omega, show (128 + (n : Int) % 64).toNat = 128 + n % 64 by omega]
theorem number_pos (n : Int) : 0 ≤ Entp.number n ∧ Entp.number n ≤ 1114111 := by
  unfold Entp.number
  split
  · omega
  · split
    · rename_i h1 h2
      have := windows_le (n - 128).toNat (by omega)
      omega
    · omega
theorem enc_number (n : Int) : Utf8.encode (Entp.number n) = ⟨(Lib.encodeRune (Entp.number n)).toArray⟩ := by
  obtain ⟨h0, _⟩ := number_pos n
  obtain ⟨k, hk⟩ := Int.eq_ofNat_of_zero_le h0
  rw [hk]; exact enc_eq k

theorem cutPrefix (l p r : List UInt8) (b : Bool) (w : World) (hr : Hid (Lib.trimPrefix l p = r)) (hb : Hid (Lib.hasPrefix l p = b)) :
    Calls Tryz.prog 69 #[S l, S p] w (Ret (.tuple #[S r, .bool b]) w) := by
  rw [← hr.out, ← hb.out]
  exact (Tryz.strings_CutPrefix ⟨l.toArray⟩ ⟨p.toArray⟩ w).mono fun _ _ h => ⟨h.1, h.2.symm⟩
theorem hasPrefix (l p : List UInt8) (b : Bool) (w : World) (hb : Hid (Lib.hasPrefix l p = b)) :
    Calls Tryz.prog 72 #[S l, S p] w (Ret (.bool b) w) := by
  rw [← hb.out]
  exact (Tryz.strings_HasPrefix ⟨l.toArray⟩ ⟨p.toArray⟩ w).mono fun _ _ h => ⟨h.1, h.2.symm⟩
theorem based' (l : List UInt8) (b : Int) (k : Nat) (w : World) (hl : l.length ≤ maxLen) (h : Hid (Entp.based l = (b, k))) :
    Calls Tryz.prog 70 #[S l] w (Ret (.tuple #[.int .i64 b, .int .i64 k]) w) := by
  have := based l w hl
  rw [h.out] at this
  exact this
theorem based_base (l : List UInt8) : ((Entp.based l).1 = 10 ∧ (Entp.based l).2 = 0) ∨ ((Entp.based l).1 = 16 ∧ (Entp.based l).2 = 1) := by
  cases l with
  | nil => exact .inl ⟨rfl, rfl⟩
  | cons c l => rw [Entp.based]; split; exact .inr ⟨rfl, rfl⟩; exact .inl ⟨rfl, rfl⟩
theorem digits (l : List UInt8) (b n : Int) (k : Nat) (w : World) (hl : l.length ≤ maxLen) (hb : b = 10 ∨ b = 16) (hk : Hid (Entp.many b l = k)) (hn : Hid (Entp.clip 2097152 b 0 (l.take k) = n)) :
    Calls Tryz.prog 71 #[S l, .int .i64 b] w (Ret (.tuple #[.int .i64 n, .int .i64 k]) w) := by
  have hn' : Hid (Entp.clip 2097152 b 0 (l.take (Entp.many b l)) = n) := by unfold Hid; rw [hk.out]; exact hn.out
  rcases hb with rfl | rfl
  · exact digits10 l n k w hl hk hn'
  · exact digits16 l n k w hl hk hn'
theorem clip_le (far b : Int) (hb : 0 ≤ b) (hf : 0 ≤ far) : ∀ (l : List UInt8) (n : Int), 0 ≤ n → n ≤ far → (∀ c ∈ l, 0 ≤ Entp.hex c) → 0 ≤ Entp.clip far b n l ∧ Entp.clip far b n l ≤ far
  | [], n, h0, h1, _ => ⟨h0, h1⟩
  | c :: l, n, h0, h1, hc => by
    have h2 : 0 ≤ n * b := Int.mul_nonneg h0 hb
    have h3 := hc c (by simp)
    rw [Entp.clip]
    exact clip_le far b hb hf l _ (by omega) (by omega) (fun x hx => hc x (by simp [hx]))
theorem many_dig (b : Int) : ∀ (l : List UInt8), ∀ c ∈ l.take (Entp.many b l), 0 ≤ Entp.hex c
  | [], c, h => by simp at h
  | x :: s, c, h => by
    rw [Entp.many] at h
    split at h
    · rename_i hx
      rw [List.take_succ_cons] at h
      rcases List.mem_cons.1 h with rfl | h
      · rw [Entp.isDig, Bool.and_eq_true, decide_eq_true_eq] at hx; exact hx.1
      · exact many_dig b s c h
    · simp at h
theorem hasPrefix_one (l : List UInt8) (c : UInt8) : Lib.hasPrefix l [c] = decide (l.head? = some c) := by
  cases l with
  | nil => rfl
  | cons x l =>
    show (c == x && _) = _
    rw [List.isPrefixOf, Bool.and_true, List.head?_cons, Bool.eq_iff_iff, beq_iff_eq, decide_eq_true_eq, Option.some.injEq]
    exact eq_comm

set_option maxRecDepth 100000 in
set_option maxHeartbeats 1000000 in
theorem ref (s : List UInt8) (at_ : Int) (attr : Bool) (n : Nat) (u : List UInt8) (w : World) (hl : s.length ≤ 4611686018427387904) (ht : Tab w) (hn : Hid (Entp.refAt s at_ attr = (n, u))) :
    Calls Tryz.prog 53 #[S s, .int .i64 at_, .bool attr] w (Fresh (.tuple #[.int .i64 n, S u]) w) := by
  have FIN : Hid (∀ (a : Nat) (b : List UInt8), Entp.refAt s at_ attr = (a, b) → a = n ∧ b = u) := fun a b h => by
    have := h.symm.trans hn.out
    injection this with h1 h2
    exact ⟨h1, h2⟩
  have Ht := hide ht
  clear hn ht
  by_cases h0 : at_ < 0
  · obtain ⟨rfl, rfl⟩ := FIN.out 0 [] (by rw [Entp.refAt, if_pos (.inl h0)])
    go_enter Tryz.func53, Tryz.ntmps53
    go_wp2_with fail
    refine bodyPost_ret (v := .tuple #[.int .i64 0, S []]) (by simp [results, Tryz.results53, go_sem]) rfl ?_
    exact ⟨rfl, Below.refl _ _⟩
  obtain ⟨a, rfl⟩ := Int.eq_ofNat_of_zero_le (by omega : 0 ≤ at_)
  by_cases h1 : s.length ≤ a
  · obtain ⟨rfl, rfl⟩ := FIN.out 0 [] (by rw [Entp.refAt, if_pos (.inr (.inl (by omega)))])
    go_enter Tryz.func53, Tryz.ntmps53
    go_wp2_with fail
    refine bodyPost_ret (v := .tuple #[.int .i64 0, S []]) (by simp [results, Tryz.results53, go_sem]) rfl ?_
    exact ⟨rfl, Below.refl _ _⟩
  have hlt : a < s.length := by omega
  obtain ⟨x, hx⟩ : ∃ x, s[a] = x := ⟨_, rfl⟩
  have hx? : s[a]? = some x := by rw [List.getElem?_eq_getElem hlt, hx]
  by_cases h38 : x = 38
  case neg =>
    have hne : ((x.toNat : Int) != 38) = true := by rw [bne_iff_ne]; intro e; exact h38 (u8_inj (b := 38) e)
    obtain ⟨rfl, rfl⟩ := FIN.out 0 [] (by rw [Entp.refAt, if_pos (.inr (.inr (by rw [Int.toNat_natCast, hx?]; intro e; exact h38 (Option.some.inj e))))])
    clear hx? h0 h1 h38
    go_enter Tryz.func53, Tryz.ntmps53
    go_wp2_with fail
    refine bodyPost_ret (v := .tuple #[.int .i64 0, S []]) (by simp [results, Tryz.results53, go_sem]) rfl ?_
    exact ⟨rfl, Below.refl _ _⟩
  case pos =>
    subst h38
    have hR : Entp.refAt s a attr = Entp.ref (s.drop (a + 1)) attr := by
      rw [Entp.refAt, if_neg, Int.toNat_natCast]
      rw [Int.toNat_natCast, hx?]
      intro h
      rcases h with h | h | h
      · omega
      · omega
      · exact h rfl
    clear hx? h0 h1
    obtain ⟨r, hr⟩ : ∃ r, s.drop (a + 1) = r := ⟨_, rfl⟩
    have hrl : r.length + (a + 1) = s.length := by rw [← hr, List.length_drop]; omega
    rw [hr] at hR
    have hrl' : List.length r ≤ 4611686018427387904 := by omega
    by_cases h35 : r.head? = some 35
    · obtain ⟨l, rfl⟩ : ∃ l, r = 35 :: l := by
        cases r with
        | nil => simp at h35
        | cons y l => simp at h35; exact ⟨l, by rw [h35]⟩
      have hR2 : Entp.ref (35 :: l) attr = Entp.numRef 2097152 l := by rw [Entp.ref, if_pos h35]; rfl
      rw [hR2, Entp.numRef] at hR
      obtain ⟨b, sk, hb⟩ : ∃ b sk, Entp.based l = (b, sk) := ⟨_, _, rfl⟩
      have hbb := based_base l
      have hsk := Entp.based_skip l
      rw [hb] at hbb hsk hR
      obtain ⟨k, hk⟩ : ∃ k, Entp.many b (l.drop sk) = k := ⟨_, rfl⟩
      have hkl := Entp.many_le b (l.drop sk)
      obtain ⟨c, hc⟩ : ∃ c, Entp.clip 2097152 b 0 ((l.drop sk).take k) = c := ⟨_, rfl⟩
      have hcl := clip_le 2097152 b (by simp only at hbb; omega) (by omega) ((l.drop sk).take k) 0 (by omega) (by omega) (by rw [← hk]; exact many_dig b _)
      rw [hk, List.length_drop] at hkl
      rw [hc] at hcl
      simp only [hk, hc] at hR
      obtain ⟨hc0, hc1⟩ := hcl
      have hb' : b = 10 ∨ b = 16 := by simp only at hbb; omega
      have hsk1 : sk ≤ 1 := by simp only at hbb; omega
      simp only at hsk
      have Hcut : Hid (Lib.trimPrefix (s.drop (a + 1)) [35] = l) := by unfold Hid; rw [hr]; rfl
      have Hcut2 : Hid (Lib.hasPrefix (s.drop (a + 1)) [35] = true) := by unfold Hid; rw [hr]; rfl
      have Hb := hide hb
      have Hb' := hide hb'
      have Hk := hide hk
      have Hc := hide hc
      have hll : l.length + (a + 2) = s.length := by simp at hrl; omega
      clear hr hrl hrl' h35 hR2 hbb hb hk hc hb'
      by_cases hk0 : k = 0
      · rw [if_pos hk0] at hR
        obtain ⟨rfl, rfl⟩ := FIN.out _ _ hR
        subst hk0
        clear hR
        go_enter Tryz.func53, Tryz.ntmps53
        go_wp2_with fail
        refine (cutPrefix _ _ _ _ _ Hcut Hcut2).mono ?_
        rintro e w' ⟨rfl, rfl⟩
        go_wp2_with fail
        refine (based' l b sk _ (by unfold maxLen; omega) Hb).mono ?_
        rintro e w' ⟨rfl, rfl⟩
        go_wp2_with fail
        refine (digits _ b c 0 _ (by unfold maxLen; simp; omega) Hb'.out Hk Hc).mono ?_
        rintro e w' ⟨rfl, rfl⟩
        go_wp2_with fail
        refine bodyPost_ret (v := .tuple #[.int .i64 0, S []]) (by simp [results, Tryz.results53, go_sem]) rfl ?_
        exact ⟨rfl, Below.refl _ _⟩
      · rw [if_neg hk0] at hR
        obtain ⟨q, hq⟩ : ∃ q, Lib.hasPrefix (l.drop (sk + k)) [59] = q := ⟨_, rfl⟩
        have hq' := hq
        rw [hasPrefix_one, ← List.drop_drop] at hq'
        have Hq := hide hq
        have hki : ((k : Int) == 0) = false := beq_eq_false_iff_ne.2 (by omega)
        go_enter Tryz.func53, Tryz.ntmps53
        have HR := hide hR
        have HQ := hide hq'
        clear hR hq hq'
        go_wp2_with fail
        refine (cutPrefix _ _ _ _ _ Hcut Hcut2).mono ?_
        rintro e w' ⟨rfl, rfl⟩
        go_wp2_with fail
        refine (based' l b sk _ (by unfold maxLen; omega) Hb).mono ?_
        rintro e w' ⟨rfl, rfl⟩
        go_wp2_with fail
        refine (digits _ b c k _ (by unfold maxLen; simp; omega) Hb'.out Hk Hc).mono ?_
        rintro e w' ⟨rfl, rfl⟩
        go_wp2_with fail
        refine (hasPrefix _ _ q _ Hq).mono ?_
        rintro e w' ⟨rfl, rfl⟩
        cases q
        · go_wp2_with fail
          refine (number c _ Ht.out ⟨by omega, by omega⟩).mono ?_
          rintro e w' ⟨rfl, rfl⟩
          have hR := HR.out
          rw [if_neg (by simpa using HQ.out)] at hR
          obtain ⟨rfl, rfl⟩ := FIN.out _ _ hR
          clear hR
          go_wp2_with fail
          refine bodyPost_ret (v := .tuple #[.int .i64 ((2 + sk + k : Nat) : Int), .string (Utf8.encode (Entp.number c))]) (by simp [results, Tryz.results53, go_sem]) rfl ?_
          exact ⟨by rw [enc_number], Below.refl _ _⟩
        · go_wp2_with fail
          refine (number c _ Ht.out ⟨by omega, by omega⟩).mono ?_
          rintro e w' ⟨rfl, rfl⟩
          have hR := HR.out
          rw [if_pos (by simpa using HQ.out)] at hR
          obtain ⟨rfl, rfl⟩ := FIN.out _ _ hR
          clear hR
          go_wp2_with fail
          refine bodyPost_ret (v := .tuple #[.int .i64 ((2 + sk + k + 1 : Nat) : Int), .string (Utf8.encode (Entp.number c))]) (by simp [results, Tryz.results53, go_sem]) rfl ?_
          exact ⟨by rw [enc_number], Below.refl _ _⟩
    · have hR2 : Entp.ref r attr = Entp.nameRef r attr := by rw [Entp.ref, if_neg h35]
      rw [hR2, Entp.nameRef] at hR
      obtain ⟨m, t, hm⟩ : ∃ m t, Entp.named r = (m, t) := ⟨_, _, rfl⟩
      have hmr : m ≤ r.length := by
        have h1 := Entp.downFrom_le r (Entp.top r)
        have h2 := top_le r
        have h3 : (Entp.named r).1 = m := by rw [hm]
        rw [Entp.named] at h3
        omega
      have hp : Lib.hasPrefix r [35] = false := by rw [hasPrefix_one]; simpa using h35
      have hp2 : Lib.trimPrefix r [35] = r := by unfold Lib.trimPrefix; rw [hp]; rfl
      rw [hm] at hR
      simp only at hR
      have Hcut : Hid (Lib.trimPrefix (s.drop (a + 1)) [35] = r) := by unfold Hid; rw [hr]; exact hp2
      have Hcut2 : Hid (Lib.hasPrefix (s.drop (a + 1)) [35] = false) := by unfold Hid; rw [hr]; exact hp
      have Hm := hide hm
      clear hR2 hm hp hp2 h35
      have Hr := hide hr
      have HR := hide hR
      clear hR hr
      go_enter Tryz.func53, Tryz.ntmps53
      go_wp2_with fail
      refine (cutPrefix _ _ _ _ _ Hcut Hcut2).mono ?_
      rintro e w' ⟨rfl, rfl⟩
      go_wp2_with fail
      rw [show List.drop (a + 1) s = r from Hr.out]
      refine (named r m t _ (by unfold maxLen; omega) Ht.out Hm).mono ?_
      rintro e w2 ⟨rfl, hb2⟩
      by_cases hm0 : m = 0
      · subst hm0
        have hR := HR.out
        rw [if_pos (.inl rfl)] at hR
        obtain ⟨rfl, rfl⟩ := FIN.out _ _ hR
        clear hR
        go_wp2_with fail
        refine bodyPost_ret (v := .tuple #[.int .i64 0, S []]) (by simp [results, Tryz.results53, go_sem]) rfl ?_
        exact ⟨rfl, hb2⟩
      have hmi : ((m : Int) == 0) = false := beq_eq_false_iff_ne.2 (by omega)
      cases attr
      · have hR := HR.out
        rw [if_neg (by simp [hm0])] at hR
        obtain ⟨rfl, rfl⟩ := FIN.out _ _ hR
        clear hR
        go_wp2_with fail
        refine bodyPost_ret (v := .tuple #[.int .i64 ((m + 1 : Nat) : Int), S t]) (by simp [results, Tryz.results53, go_sem]) rfl ?_
        exact ⟨rfl, hb2⟩
      obtain ⟨j, rfl⟩ : ∃ j, m = j + 1 := ⟨m - 1, by omega⟩
      have hj : j < r.length := by omega
      obtain ⟨y, hy⟩ : ∃ y, r[j] = y := ⟨_, rfl⟩
      have hy? : r[j + 1 - 1]? = some y := by rw [Nat.add_sub_cancel, List.getElem?_eq_getElem hj, hy]
      have hR := HR.out
      rw [hy?] at hR
      clear hmi hy? hm0
      by_cases h59 : y = 59
      · rw [if_neg (by rw [h59]; simp)] at hR
        obtain ⟨rfl, rfl⟩ := FIN.out _ _ hR
        clear hR HR
        subst h59
        go_wp2_with fail
        refine bodyPost_ret (v := .tuple #[.int .i64 ((j + 1 + 1 : Nat) : Int), S t]) (by simp [results, Tryz.results53, go_sem]) rfl ?_
        exact ⟨rfl, hb2⟩
      have hy5 : ((y.toNat : Int) != 59) = true := by rw [bne_iff_ne]; intro e; exact h59 (u8_inj (b := 59) e)
      have h59' : ¬ (some y = some (59 : UInt8)) := fun e => h59 (Option.some.inj e)
      by_cases hjl : j + 1 < r.length
      · obtain ⟨z, hz⟩ : ∃ z, r[j + 1] = z := ⟨_, rfl⟩
        rw [List.getElem?_eq_getElem hjl, hz] at hR
        by_cases h61 : z = 61
        · rw [if_pos (.inr ⟨rfl, h59', .inl (by rw [h61])⟩)] at hR
          obtain ⟨rfl, rfl⟩ := FIN.out _ _ hR
          clear hR HR h59 h59'
          subst h61
          go_wp2_with fail
          refine bodyPost_ret (v := .tuple #[.int .i64 0, S []]) (by simp [results, Tryz.results53, go_sem]) rfl ?_
          exact ⟨rfl, hb2⟩
        have hz6 : ((z.toNat : Int) == 61) = false := beq_eq_false_iff_ne.2 (fun e => h61 (u8_inj (b := 61) e))
        have h61' : ¬ (some z = some (61 : UInt8)) := fun e => h61 (Option.some.inj e)
        have hcz := u8_lt z
        have HR2 := hide hR
        have H59 := hide h59'
        have H61 := hide h61'
        clear hR HR h59 h59' h61 h61'
        go_wp2_with fail
        refine (alnum z _).mono ?_
        rintro e w3 ⟨rfl, rfl⟩
        cases hal : Entp.alnum z
        · have hR := HR2.out
          rw [if_neg (by rintro (h | ⟨_, _, h | h⟩); · omega
                         · exact H61.out h
                         · simp [hal] at h)] at hR
          obtain ⟨rfl, rfl⟩ := FIN.out _ _ hR
          clear hR
          go_wp2_with fail
          refine bodyPost_ret (v := .tuple #[.int .i64 ((j + 1 + 1 : Nat) : Int), S t]) (by simp [results, Tryz.results53, go_sem]) rfl ?_
          exact ⟨rfl, hb2⟩
        · have hR := HR2.out
          rw [if_pos (.inr ⟨by trivial, H59.out, .inr (by simp [hal])⟩)] at hR
          obtain ⟨rfl, rfl⟩ := FIN.out _ _ hR
          clear hR
          go_wp2_with fail
          refine bodyPost_ret (v := .tuple #[.int .i64 0, S []]) (by simp [results, Tryz.results53, go_sem]) rfl ?_
          exact ⟨rfl, hb2⟩
      · rw [List.getElem?_eq_none (by omega), if_neg (by simp)] at hR
        obtain ⟨rfl, rfl⟩ := FIN.out _ _ hR
        clear hR HR h59 h59'
        go_wp2_with fail
        refine bodyPost_ret (v := .tuple #[.int .i64 ((j + 1 + 1 : Nat) : Int), S t]) (by simp [results, Tryz.results53, go_sem]) rfl ?_
        exact ⟨rfl, hb2⟩

end Go.Proofs.YtagkdmolgmhmdaaGreatDoor.En
namespace Go.Proofs.YtagkdmolgmhmdaaGreatDoor.En
open Go.RowKit

theorem points_le (name t : List UInt8) (h : Entp.points name = some t) : t.length ≤ 8 := by
  unfold Entp.points at h
  cases hf : Entp.find name with
  | none => rw [hf] at h; cases h
  | some tok =>
    rw [hf] at h
    have h := Option.some.inj h
    have hmem := List.mem_of_find?_eq_some hf
    have hpre : (name ++ [61]).isPrefixOf tok = true := List.find?_some hf
    obtain ⟨r, hr⟩ := List.isPrefixOf_iff_prefix.1 hpre
    have hg := List.all_eq_true.1 Entp.toks_good tok hmem
    have h61 : tok[name.length]? = some 61 := by rw [← hr, List.append_assoc, List.getElem?_append_right (Nat.le_refl _), Nat.sub_self]; rfl
    have hlt : name.length < tok.length := by rw [← hr]; simp only [List.length_cons, List.length_append, List.length_nil]; omega
    have h3 := List.all_eq_true.1 hg name.length (List.mem_range.2 hlt)
    rw [h61] at h3
    have h4 : Entp.good (tok.drop (name.length + 1)) = true := by simpa using h3
    have h5 : (Entp.parts (tok.drop (name.length + 1))).length ≤ 2 := by
      rw [Entp.good, Bool.and_eq_true, decide_eq_true_eq] at h4; exact h4.1
    have hle : ∀ ps : List (List UInt8), (ps.flatMap fun p => Lib.encodeRune (Entp.num p)).length ≤ 4 * ps.length := fun ps => by
      induction ps with
      | nil => simp
      | cons p ps ih =>
        have := Lib.runeCells_le (Entp.num p)
        rw [Lib.runeCells_length] at this
        rw [List.flatMap_cons, List.length_append, List.length_cons]; omega
    rw [← h]
    exact Nat.le_trans (hle (Entp.parts (tok.drop (name.length + 1)))) (by omega)
theorem downFrom_text (s : List UInt8) : ∀ k, (Entp.downFrom s k).2.length ≤ 8
  | 0 => by simp [Entp.downFrom]
  | k + 1 => by
    rw [Entp.downFrom]
    split
    · rename_i t ht; exact points_le _ _ ht
    · exact downFrom_text s k
theorem enc_le (r : Int) : (Lib.encodeRune r).length ≤ 4 := by
  have := Lib.runeCells_le r
  rw [Lib.runeCells_length] at this
  exact this.2
theorem ref_le (r : List UInt8) (attr : Bool) : (Entp.ref r attr).1 ≤ r.length + 1 ∧ (Entp.ref r attr).2.length ≤ 8 := by
  unfold Entp.ref
  split
  · rename_i h
    obtain ⟨l, rfl⟩ : ∃ l, r = 35 :: l := by
      cases r with
      | nil => simp at h
      | cons y l => simp at h; exact ⟨l, by rw [h]⟩
    rw [List.drop_succ_cons, List.drop_zero]
    have h1 := Entp.based_skip l
    have h2 := Entp.many_le (Entp.based l).1 (l.drop (Entp.based l).2)
    rw [List.length_drop] at h2
    unfold Entp.numRef
    simp only
    split
    · simp
    · refine ⟨?_, Nat.le_trans (enc_le _) (by decide)⟩
      split
      · rename_i hs
        have : (Entp.based l).2 + Entp.many (Entp.based l).1 (l.drop (Entp.based l).2) < l.length := by
          rw [List.drop_drop] at hs
          rcases Nat.lt_or_ge ((Entp.based l).2 + Entp.many (Entp.based l).1 (l.drop (Entp.based l).2)) l.length with h' | h'
          · exact h'
          · rw [List.drop_eq_nil_of_le h'] at hs; simp at hs
        simp only [List.length_cons]; omega
      · simp only [List.length_cons]; omega
  · unfold Entp.nameRef
    simp only
    split
    · simp
    · have h1 := Entp.downFrom_le r (Entp.top r)
      have h2 := top_le r
      have h3 := downFrom_text r (Entp.top r)
      unfold Entp.named
      exact ⟨by omega, h3⟩
theorem step_le (r : List UInt8) (attr : Bool) : (Entp.step r attr).1 ≤ r.length + 1 ∧ (Entp.step r attr).2.length ≤ 8 := by
  unfold Entp.step
  split
  · simp
  · exact ref_le r attr

theorem indexByte (l : List UInt8) (n : Int) (w : World) (hn : Hid (Lib.indexByte l 38 = n)) :
    Calls Tryz.prog 52 #[S l, .int .u8 38] w (Ret (.int .i64 n) w) :=
  (Tryz.strings_IndexByte ⟨l.toArray⟩ 38 w).mono fun _ _ h => ⟨by rw [h.1, ← hn.out]; rfl, h.2.symm⟩

set_option maxRecDepth 100000 in
set_option maxHeartbeats 1000000 in
theorem decode (s : List UInt8) (attr : Bool) (u : List UInt8) (w : World) (hl : s.length ≤ 1048576) (ht : Tab w) (hu : Hid (Entp.decode s attr = u)) :
    Calls Tryz.prog 33 #[S s, .bool attr] w (Fresh (S u) w) := by
  have hbl := bld_new w
  have Ht := hide ht
  have hsz : (w.alloc (.cells #[.pointer none, .slice none 0 0] 54)).heap.size = w.heap.size + 1 := by simp
  have hb1 : Below w.heap.size w (w.alloc (.cells #[.pointer none, .slice none 0 0] 54)) := (Below.refl _ _).alloc (Nat.le_refl _) _
  clear ht
  go_enter Tryz.func33, Tryz.ntmps33
  go_wp2_with fail
  obtain ⟨w1, hw1⟩ : ∃ x, x = w.alloc (.cells #[.pointer none, .slice none 0 0] 54) := ⟨_, rfl⟩
  rw [← hw1] at hbl hsz hb1 ⊢
  obtain ⟨B, hB⟩ : ∃ B, B = w.heap.size := ⟨_, rfl⟩
  rw [← hB] at hbl hsz hb1 ⊢
  clear hw1
  go_loopg [0] s.length (fun g s0 wx => ∃ (l acc : List UInt8), l.length = g ∧ s0 = S l ∧ l.length ≤ s.length ∧ acc.length + 8 * l.length ≤ 8 * s.length ∧ Hid (acc ++ Entp.decode l attr = u) ∧ Bld B B acc wx ∧ Below B w wx ∧ B < wx.heap.size)
  case atStart => exact ⟨s, [], rfl, rfl, by omega, by simp, by unfold Hid; rw [List.nil_append]; exact hu.out, hbl, hb1, by omega⟩
  case round =>
    obtain ⟨l, acc, hlg, rfl, hls, hal, hd, hbx, hbe, hsx⟩ := hrel
    have htr : Tab wr := Ht.out.below (by rw [← hB]; exact hbe)
    have Htr := hide htr
    have hB' := hide hB
    clear htr hsz hbl hb1 hB
    rcases Entp.part l with hno | ⟨a, r, rfl, ha⟩
    · have e := hd.out
      rw [Entp.decode_no attr l hno] at e
      have Hi := hide (Entp.indexByte_no l hno)
      clear hno
      go_wp2_with fail
      refine (indexByte l _ _ Hi).mono ?_
      rintro e w' ⟨rfl, rfl⟩
      go_wp2_with fail
      refine (writeString B B acc l _ hbx (by omega) (by omega)).mono ?_
      rintro e w2 ⟨rfl, hb2, hk2⟩
      go_wp2_with fail
      refine (Tryz.Builder_String_any B B (acc ++ l) _ (.inr hb2) (by have := hk2.below.size; omega)).mono ?_
      rintro e w3 ⟨rfl, hb3⟩
      go_wp2_with fail
      go_ret
      exact ⟨by rw [← e]; rfl, by rw [← hB'.out]; exact hbe.trans (hk2.below.trans hb3)⟩
    · have Hi := hide (Entp.indexByte_at a r ha)
      have e := hd.out
      rw [Entp.decode_at attr a r ha] at e
      obtain ⟨n, t, hnt⟩ : ∃ n t, Entp.refAt (a ++ 38 :: r) (a.length : Int) attr = (n, t) := ⟨_, _, rfl⟩
      have hst : Entp.ref r attr = (n, t) := by
        rw [← hnt, Entp.refAt, if_neg, Int.toNat_natCast, ← List.drop_drop, List.drop_left, List.drop_succ_cons, List.drop_zero]
        rw [Int.toNat_natCast, List.getElem?_append_right (Nat.le_refl _), Nat.sub_self]
        simp
        omega
      have hle := step_le r attr
      have Hnt := hide hnt
      simp only [List.length_append, List.length_cons] at hlg hls hal
      have HE := hide e
      have HS := hide hst
      clear ha hnt hst e hd
      go_wp2_with fail
      refine (indexByte _ _ _ Hi).mono ?_
      rintro e w' ⟨rfl, rfl⟩
      go_wp2_with fail
      refine (ref _ _ attr n t _ (by simp; omega) Htr.out Hnt).mono ?_
      rintro e w2 ⟨rfl, hb2⟩
      have hbx2 := bld_below hbx hb2
      have hbe2 := hbe.trans (hb2.mono (by omega))
      have hs2 := hb2.size
      have HBX := hide hbx
      clear hbx hbe
      have hB2 : B < w2.heap.size := by omega
      by_cases hn0 : n = 0
      · subst hn0
        have hse : Entp.step r attr = (1, [38]) := by rw [Entp.step, HS.out, if_pos rfl]
        have HSE := hide hse
        clear hse hle
        go_wp2_with fail
        refine (writeString B B acc a _ hbx2 (by omega) (by omega)).mono ?_
        rintro e w3 ⟨rfl, hb3, hk3⟩
        have hs3 := hk3.below.size
        go_wp2_with fail
        refine (writeString B B _ [38] _ (.inr hb3) (by omega) (by simp only [List.length_append, List.length_cons, List.length_nil]; omega)).mono ?_
        rintro e w4 ⟨rfl, hb4, hk4⟩
        have hs4 := hk4.below.size
        go_wp2_with fail
        go_roundg r.length
        case measure => omega
        case rel =>
          have e := HE.out
          rw [HSE.out] at e
          refine ⟨r, acc ++ a ++ [38], rfl, by rw [List.take_of_length_le (by omega)], by omega, by simp only [List.length_append, List.length_cons, List.length_nil]; omega, ?_, .inr hb4, hbe2.trans (hk3.below.trans hk4.below), by omega⟩
          unfold Hid
          rw [← e]
          simp
      · have hni : ((n : Int) == 0) = false := beq_eq_false_iff_ne.2 (by omega)
        have hse : Entp.step r attr = (n, t) := by rw [Entp.step, HS.out, if_neg hn0]
        rw [hse] at hle
        obtain ⟨hn1, ht8⟩ := hle
        simp only at hn1 ht8
        have HSE := hide hse
        clear hse
        go_wp2_with fail
        refine (writeString B B acc a _ hbx2 (by omega) (by omega)).mono ?_
        rintro e w3 ⟨rfl, hb3, hk3⟩
        have hs3 := hk3.below.size
        go_wp2_with fail
        refine (writeString B B _ t _ (.inr hb3) (by omega) (by simp only [List.length_append]; omega)).mono ?_
        rintro e w4 ⟨rfl, hb4, hk4⟩
        have hs4 := hk4.below.size
        go_wp2_with fail
        go_roundg (r.length + 1 - n)
        case measure => omega
        case rel =>
          have e := HE.out
          rw [HSE.out] at e
          have hd : List.drop (a.length + n) (a ++ 38 :: r) = (38 :: r).drop n := by rw [← List.drop_drop, List.drop_left]
          refine ⟨(38 :: r).drop n, acc ++ a ++ t, by rw [List.length_drop, List.length_cons], by rw [hd, List.take_of_length_le (by rw [List.length_drop, List.length_cons]; omega)], by rw [List.length_drop, List.length_cons]; omega, by simp only [List.length_append, List.length_drop, List.length_cons]; omega, ?_, .inr hb4, hbe2.trans (hk3.below.trans hk4.below), by omega⟩
          unfold Hid
          rw [← e]
          simp
end Go.Proofs.YtagkdmolgmhmdaaGreatDoor.En
