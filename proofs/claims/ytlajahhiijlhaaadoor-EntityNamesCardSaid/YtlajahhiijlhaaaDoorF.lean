/- The reference at a place. -/
import Derived.Test.YtlajahhiijlhaaaDoorE
namespace Go.Proofs.YtlajahhiijlhaaaDoor
open Go.RowKit

theorem u8n (a : Nat) : a.toUInt8 = UInt8.ofNat a := rfl
theorem enc_eq (n : Nat) : Utf8.encode (n : Int) = ⟨(Lib.encodeRune n).toArray⟩ := by
  unfold Lib.encodeRune Utf8.encode
  by_cases hbad : (55296 ≤ (n : Int) ∧ (n : Int) ≤ 57343) ∨ 1114111 < (n : Int)
  · rw [Lib.encodeRuneZ_bad (.inr hbad)]
    have hv : Utf8.valid (n : Int) = false := by rw [← Bool.not_eq_true]; unfold Utf8.valid; simp; omega
    simp only [hv, Bool.false_eq_true, if_false]
    rfl
  · have hv : Utf8.valid (n : Int) = true := by unfold Utf8.valid; simp; omega
    simp only [hv, if_true, Int.toNat_natCast]
    by_cases h1 : n < 128
    · rw [if_pos h1, Lib.encodeRuneZ_one (by omega) (by omega)]
      simp [u8n]
    rw [if_neg h1]
    by_cases h2 : n < 2048
    · rw [if_pos h2, Lib.encodeRuneZ_two (by omega) (by omega)]
      simp only [List.map_cons, List.map_nil, u8n]
      rw [show (192 + (n : Int) / 64).toNat = 192 + n / 64 by omega, show (128 + (n : Int) % 64).toNat = 128 + n % 64 by omega]
    rw [if_neg h2]
    by_cases h3 : n < 65536
    · rw [if_pos h3, Lib.encodeRuneZ_three (by omega)]
      simp only [List.map_cons, List.map_nil, u8n]
      rw [show (224 + (n : Int) / 4096).toNat = 224 + n / 4096 by omega, show (128 + (n : Int) / 64 % 64).toNat = 128 + n / 64 % 64 by omega, show (128 + (n : Int) % 64).toNat = 128 + n % 64 by omega]
    rw [if_neg h3, Lib.encodeRuneZ_four (by omega) (by omega)]
    simp only [List.map_cons, List.map_nil, u8n]
    rw [show (240 + (n : Int) / 262144).toNat = 240 + n / 262144 by omega, show (128 + (n : Int) / 4096 % 64).toNat = 128 + n / 4096 % 64 by omega, show (128 + (n : Int) / 64 % 64).toNat = 128 + n / 64 % 64 by omega, show (128 + (n : Int) % 64).toNat = 128 + n % 64 by omega]
theorem number_pos (n : Int) : 0 ≤ Entp.number n ∧ Entp.number n ≤ 1114111 := by
  unfold Entp.number
  split
  · omega
  · split
    · rename_i h1 h2
      have := windows_le (n - 128).toNat (by omega)
      omega
    · omega
theorem enc_number (n : Int) : Utf8.encode (Entp.number n) = ⟨(Lib.encodeRune (Entp.number n)).toArray⟩ := by
  obtain ⟨h0, _⟩ := number_pos n
  obtain ⟨k, hk⟩ := Int.eq_ofNat_of_zero_le h0
  rw [hk]; exact enc_eq k

theorem cutPrefix (l p r : List UInt8) (b : Bool) (w : World) (hr : Hid (Lib.trimPrefix l p = r)) (hb : Hid (Lib.hasPrefix l p = b)) :
    Calls Tryd.prog 20 #[S l, S p] w (Ret (.tuple #[S r, .bool b]) w) := by
  rw [← hr.out, ← hb.out]
  exact (Tryd.strings_CutPrefix ⟨l.toArray⟩ ⟨p.toArray⟩ w).mono fun _ _ h => ⟨h.1, h.2.symm⟩
theorem hasPrefix (l p : List UInt8) (b : Bool) (w : World) (hb : Hid (Lib.hasPrefix l p = b)) :
    Calls Tryd.prog 23 #[S l, S p] w (Ret (.bool b) w) := by
  rw [← hb.out]
  exact (Tryd.strings_HasPrefix ⟨l.toArray⟩ ⟨p.toArray⟩ w).mono fun _ _ h => ⟨h.1, h.2.symm⟩
theorem based' (l : List UInt8) (b : Int) (k : Nat) (w : World) (hl : l.length ≤ maxLen) (h : Hid (Entp.based l = (b, k))) :
    Calls Tryd.prog 21 #[S l] w (Ret (.tuple #[.int .i64 b, .int .i64 k]) w) := by
  have := based l w hl
  rw [h.out] at this
  exact this
theorem based_base (l : List UInt8) : ((Entp.based l).1 = 10 ∧ (Entp.based l).2 = 0) ∨ ((Entp.based l).1 = 16 ∧ (Entp.based l).2 = 1) := by
  cases l with
  | nil => exact .inl ⟨rfl, rfl⟩
  | cons c l => rw [Entp.based]; split; exact .inr ⟨rfl, rfl⟩; exact .inl ⟨rfl, rfl⟩
theorem digits (l : List UInt8) (b n : Int) (k : Nat) (w : World) (hl : l.length ≤ maxLen) (hb : b = 10 ∨ b = 16) (hk : Hid (Entp.many b l = k)) (hn : Hid (Entp.clip 2097152 b 0 (l.take k) = n)) :
    Calls Tryd.prog 22 #[S l, .int .i64 b] w (Ret (.tuple #[.int .i64 n, .int .i64 k]) w) := by
  have hn' : Hid (Entp.clip 2097152 b 0 (l.take (Entp.many b l)) = n) := by unfold Hid; rw [hk.out]; exact hn.out
  rcases hb with rfl | rfl
  · exact digits10 l n k w hl hk hn'
  · exact digits16 l n k w hl hk hn'
theorem clip_le (far b : Int) (hb : 0 ≤ b) (hf : 0 ≤ far) : ∀ (l : List UInt8) (n : Int), 0 ≤ n → n ≤ far → (∀ c ∈ l, 0 ≤ Entp.hex c) → 0 ≤ Entp.clip far b n l ∧ Entp.clip far b n l ≤ far
  | [], n, h0, h1, _ => ⟨h0, h1⟩
  | c :: l, n, h0, h1, hc => by
    have h2 : 0 ≤ n * b := Int.mul_nonneg h0 hb
    have h3 := hc c (by simp)
    rw [Entp.clip]
    exact clip_le far b hb hf l _ (by omega) (by omega) (fun x hx => hc x (by simp [hx]))
theorem many_dig (b : Int) : ∀ (l : List UInt8), ∀ c ∈ l.take (Entp.many b l), 0 ≤ Entp.hex c
  | [], c, h => by simp at h
  | x :: s, c, h => by
    rw [Entp.many] at h
    split at h
    · rename_i hx
      rw [List.take_succ_cons] at h
      rcases List.mem_cons.1 h with rfl | h
      · rw [Entp.isDig, Bool.and_eq_true, decide_eq_true_eq] at hx; exact hx.1
      · exact many_dig b s c h
    · simp at h
theorem hasPrefix_one (l : List UInt8) (c : UInt8) : Lib.hasPrefix l [c] = decide (l.head? = some c) := by
  cases l with
  | nil => rfl
  | cons x l =>
    show (c == x && _) = _
    rw [List.isPrefixOf, Bool.and_true, List.head?_cons, Bool.eq_iff_iff, beq_iff_eq, decide_eq_true_eq, Option.some.injEq]
    exact eq_comm

set_option maxRecDepth 100000 in
set_option maxHeartbeats 1000000 in
theorem ref (s : List UInt8) (at_ : Int) (attr : Bool) (n : Nat) (u : List UInt8) (w : World) (hl : s.length ≤ 4611686018427387904) (ht : Tab w) (hn : Hid (Entp.refAt s at_ attr = (n, u))) :
    Calls Tryd.prog 9 #[S s, .int .i64 at_, .bool attr] w (Fresh (.tuple #[.int .i64 n, S u]) w) := by
  have FIN : Hid (∀ (a : Nat) (b : List UInt8), Entp.refAt s at_ attr = (a, b) → a = n ∧ b = u) := fun a b h => by
    have := h.symm.trans hn.out
    injection this with h1 h2
    exact ⟨h1, h2⟩
  have Ht := hide ht
  clear hn ht
  by_cases h0 : at_ < 0
  · obtain ⟨rfl, rfl⟩ := FIN.out 0 [] (by rw [Entp.refAt, if_pos (.inl h0)])
    go_enter Tryd.func9, Tryd.ntmps9
    go_wp2_with fail
    refine bodyPost_ret (v := .tuple #[.int .i64 0, S []]) (by simp [results, Tryd.results9, go_sem]) rfl ?_
    exact ⟨rfl, Below.refl _ _⟩
  obtain ⟨a, rfl⟩ := Int.eq_ofNat_of_zero_le (by omega : 0 ≤ at_)
  by_cases h1 : s.length ≤ a
  · obtain ⟨rfl, rfl⟩ := FIN.out 0 [] (by rw [Entp.refAt, if_pos (.inr (.inl (by omega)))])
    go_enter Tryd.func9, Tryd.ntmps9
    go_wp2_with fail
    refine bodyPost_ret (v := .tuple #[.int .i64 0, S []]) (by simp [results, Tryd.results9, go_sem]) rfl ?_
    exact ⟨rfl, Below.refl _ _⟩
  have hlt : a < s.length := by omega
  obtain ⟨x, hx⟩ : ∃ x, s[a] = x := ⟨_, rfl⟩
  have hx? : s[a]? = some x := by rw [List.getElem?_eq_getElem hlt, hx]
  by_cases h38 : x = 38
  case neg =>
    have hne : ((x.toNat : Int) != 38) = true := by rw [bne_iff_ne]; intro e; exact h38 (u8_inj (b := 38) e)
    obtain ⟨rfl, rfl⟩ := FIN.out 0 [] (by rw [Entp.refAt, if_pos (.inr (.inr (by rw [Int.toNat_natCast, hx?]; intro e; exact h38 (Option.some.inj e))))])
    clear hx? h0 h1 h38
    go_enter Tryd.func9, Tryd.ntmps9
    go_wp2_with fail
    refine bodyPost_ret (v := .tuple #[.int .i64 0, S []]) (by simp [results, Tryd.results9, go_sem]) rfl ?_
    exact ⟨rfl, Below.refl _ _⟩
  case pos =>
    subst h38
    have hR : Entp.refAt s a attr = Entp.ref (s.drop (a + 1)) attr := by
      rw [Entp.refAt, if_neg, Int.toNat_natCast]
      rw [Int.toNat_natCast, hx?]
      intro h
      rcases h with h | h | h
      · omega
      · omega
      · exact h rfl
    clear hx? h0 h1
    obtain ⟨r, hr⟩ : ∃ r, s.drop (a + 1) = r := ⟨_, rfl⟩
    have hrl : r.length + (a + 1) = s.length := by rw [← hr, List.length_drop]; omega
    rw [hr] at hR
    have hrl' : List.length r ≤ 4611686018427387904 := by omega
    by_cases h35 : r.head? = some 35
    · obtain ⟨l, rfl⟩ : ∃ l, r = 35 :: l := by
        cases r with
        | nil => simp at h35
        | cons y l => simp at h35; exact ⟨l, by rw [h35]⟩
      have hR2 : Entp.ref (35 :: l) attr = Entp.numRef 2097152 l := by rw [Entp.ref, if_pos h35]; rfl
      rw [hR2, Entp.numRef] at hR
      obtain ⟨b, sk, hb⟩ : ∃ b sk, Entp.based l = (b, sk) := ⟨_, _, rfl⟩
      have hbb := based_base l
      have hsk := Entp.based_skip l
      rw [hb] at hbb hsk hR
      obtain ⟨k, hk⟩ : ∃ k, Entp.many b (l.drop sk) = k := ⟨_, rfl⟩
      have hkl := Entp.many_le b (l.drop sk)
      obtain ⟨c, hc⟩ : ∃ c, Entp.clip 2097152 b 0 ((l.drop sk).take k) = c := ⟨_, rfl⟩
      have hcl := clip_le 2097152 b (by simp only at hbb; omega) (by omega) ((l.drop sk).take k) 0 (by omega) (by omega) (by rw [← hk]; exact many_dig b _)
      rw [hk, List.length_drop] at hkl
      rw [hc] at hcl
      simp only [hk, hc] at hR
      obtain ⟨hc0, hc1⟩ := hcl
      have hb' : b = 10 ∨ b = 16 := by simp only at hbb; omega
      have hsk1 : sk ≤ 1 := by simp only at hbb; omega
      simp only at hsk
      have Hcut : Hid (Lib.trimPrefix (s.drop (a + 1)) [35] = l) := by unfold Hid; rw [hr]; rfl
      have Hcut2 : Hid (Lib.hasPrefix (s.drop (a + 1)) [35] = true) := by unfold Hid; rw [hr]; rfl
      have Hb := hide hb
      have Hb' := hide hb'
      have Hk := hide hk
      have Hc := hide hc
      have hll : l.length + (a + 2) = s.length := by simp at hrl; omega
      clear hr hrl hrl' h35 hR2 hbb hb hk hc hb'
      by_cases hk0 : k = 0
      · rw [if_pos hk0] at hR
        obtain ⟨rfl, rfl⟩ := FIN.out _ _ hR
        subst hk0
        clear hR
        go_enter Tryd.func9, Tryd.ntmps9
        go_wp2_with fail
        refine (cutPrefix _ _ _ _ _ Hcut Hcut2).mono ?_
        rintro e w' ⟨rfl, rfl⟩
        go_wp2_with fail
        refine (based' l b sk _ (by unfold maxLen; omega) Hb).mono ?_
        rintro e w' ⟨rfl, rfl⟩
        go_wp2_with fail
        refine (digits _ b c 0 _ (by unfold maxLen; simp; omega) Hb'.out Hk Hc).mono ?_
        rintro e w' ⟨rfl, rfl⟩
        go_wp2_with fail
        refine bodyPost_ret (v := .tuple #[.int .i64 0, S []]) (by simp [results, Tryd.results9, go_sem]) rfl ?_
        exact ⟨rfl, Below.refl _ _⟩
      · rw [if_neg hk0] at hR
        obtain ⟨q, hq⟩ : ∃ q, Lib.hasPrefix (l.drop (sk + k)) [59] = q := ⟨_, rfl⟩
        have hq' := hq
        rw [hasPrefix_one, ← List.drop_drop] at hq'
        have Hq := hide hq
        have hki : ((k : Int) == 0) = false := beq_eq_false_iff_ne.2 (by omega)
        go_enter Tryd.func9, Tryd.ntmps9
        have HR := hide hR
        have HQ := hide hq'
        clear hR hq hq'
        go_wp2_with fail
        refine (cutPrefix _ _ _ _ _ Hcut Hcut2).mono ?_
        rintro e w' ⟨rfl, rfl⟩
        go_wp2_with fail
        refine (based' l b sk _ (by unfold maxLen; omega) Hb).mono ?_
        rintro e w' ⟨rfl, rfl⟩
        go_wp2_with fail
        refine (digits _ b c k _ (by unfold maxLen; simp; omega) Hb'.out Hk Hc).mono ?_
        rintro e w' ⟨rfl, rfl⟩
        go_wp2_with fail
        refine (hasPrefix _ _ q _ Hq).mono ?_
        rintro e w' ⟨rfl, rfl⟩
        cases q
        · go_wp2_with fail
          refine (number c _ Ht.out ⟨by omega, by omega⟩).mono ?_
          rintro e w' ⟨rfl, rfl⟩
          have hR := HR.out
          rw [if_neg (by simpa using HQ.out)] at hR
          obtain ⟨rfl, rfl⟩ := FIN.out _ _ hR
          clear hR
          go_wp2_with fail
          refine bodyPost_ret (v := .tuple #[.int .i64 ((2 + sk + k : Nat) : Int), .string (Utf8.encode (Entp.number c))]) (by simp [results, Tryd.results9, go_sem]) rfl ?_
          exact ⟨by rw [enc_number], Below.refl _ _⟩
        · go_wp2_with fail
          refine (number c _ Ht.out ⟨by omega, by omega⟩).mono ?_
          rintro e w' ⟨rfl, rfl⟩
          have hR := HR.out
          rw [if_pos (by simpa using HQ.out)] at hR
          obtain ⟨rfl, rfl⟩ := FIN.out _ _ hR
          clear hR
          go_wp2_with fail
          refine bodyPost_ret (v := .tuple #[.int .i64 ((2 + sk + k + 1 : Nat) : Int), .string (Utf8.encode (Entp.number c))]) (by simp [results, Tryd.results9, go_sem]) rfl ?_
          exact ⟨by rw [enc_number], Below.refl _ _⟩
    · have hR2 : Entp.ref r attr = Entp.nameRef r attr := by rw [Entp.ref, if_neg h35]
      rw [hR2, Entp.nameRef] at hR
      obtain ⟨m, t, hm⟩ : ∃ m t, Entp.named r = (m, t) := ⟨_, _, rfl⟩
      have hmr : m ≤ r.length := by
        have h1 := Entp.downFrom_le r (Entp.top r)
        have h2 := top_le r
        have h3 : (Entp.named r).1 = m := by rw [hm]
        rw [Entp.named] at h3
        omega
      have hp : Lib.hasPrefix r [35] = false := by rw [hasPrefix_one]; simpa using h35
      have hp2 : Lib.trimPrefix r [35] = r := by unfold Lib.trimPrefix; rw [hp]; rfl
      rw [hm] at hR
      simp only at hR
      have Hcut : Hid (Lib.trimPrefix (s.drop (a + 1)) [35] = r) := by unfold Hid; rw [hr]; exact hp2
      have Hcut2 : Hid (Lib.hasPrefix (s.drop (a + 1)) [35] = false) := by unfold Hid; rw [hr]; exact hp
      have Hm := hide hm
      clear hR2 hm hp hp2 h35
      have Hr := hide hr
      have HR := hide hR
      clear hR hr
      go_enter Tryd.func9, Tryd.ntmps9
      go_wp2_with fail
      refine (cutPrefix _ _ _ _ _ Hcut Hcut2).mono ?_
      rintro e w' ⟨rfl, rfl⟩
      go_wp2_with fail
      rw [show List.drop (a + 1) s = r from Hr.out]
      refine (named r m t _ (by unfold maxLen; omega) Ht.out Hm).mono ?_
      rintro e w2 ⟨rfl, hb2⟩
      by_cases hm0 : m = 0
      · subst hm0
        have hR := HR.out
        rw [if_pos (.inl rfl)] at hR
        obtain ⟨rfl, rfl⟩ := FIN.out _ _ hR
        clear hR
        go_wp2_with fail
        refine bodyPost_ret (v := .tuple #[.int .i64 0, S []]) (by simp [results, Tryd.results9, go_sem]) rfl ?_
        exact ⟨rfl, hb2⟩
      have hmi : ((m : Int) == 0) = false := beq_eq_false_iff_ne.2 (by omega)
      cases attr
      · have hR := HR.out
        rw [if_neg (by simp [hm0])] at hR
        obtain ⟨rfl, rfl⟩ := FIN.out _ _ hR
        clear hR
        go_wp2_with fail
        refine bodyPost_ret (v := .tuple #[.int .i64 ((m + 1 : Nat) : Int), S t]) (by simp [results, Tryd.results9, go_sem]) rfl ?_
        exact ⟨rfl, hb2⟩
      obtain ⟨j, rfl⟩ : ∃ j, m = j + 1 := ⟨m - 1, by omega⟩
      have hj : j < r.length := by omega
      obtain ⟨y, hy⟩ : ∃ y, r[j] = y := ⟨_, rfl⟩
      have hy? : r[j + 1 - 1]? = some y := by rw [Nat.add_sub_cancel, List.getElem?_eq_getElem hj, hy]
      have hR := HR.out
      rw [hy?] at hR
      clear hmi hy? hm0
      by_cases h59 : y = 59
      · rw [if_neg (by rw [h59]; simp)] at hR
        obtain ⟨rfl, rfl⟩ := FIN.out _ _ hR
        clear hR HR
        subst h59
        go_wp2_with fail
        refine bodyPost_ret (v := .tuple #[.int .i64 ((j + 1 + 1 : Nat) : Int), S t]) (by simp [results, Tryd.results9, go_sem]) rfl ?_
        exact ⟨rfl, hb2⟩
      have hy5 : ((y.toNat : Int) != 59) = true := by rw [bne_iff_ne]; intro e; exact h59 (u8_inj (b := 59) e)
      have h59' : ¬ (some y = some (59 : UInt8)) := fun e => h59 (Option.some.inj e)
      by_cases hjl : j + 1 < r.length
      · obtain ⟨z, hz⟩ : ∃ z, r[j + 1] = z := ⟨_, rfl⟩
        rw [List.getElem?_eq_getElem hjl, hz] at hR
        by_cases h61 : z = 61
        · rw [if_pos (.inr ⟨rfl, h59', .inl (by rw [h61])⟩)] at hR
          obtain ⟨rfl, rfl⟩ := FIN.out _ _ hR
          clear hR HR h59 h59'
          subst h61
          go_wp2_with fail
          refine bodyPost_ret (v := .tuple #[.int .i64 0, S []]) (by simp [results, Tryd.results9, go_sem]) rfl ?_
          exact ⟨rfl, hb2⟩
        have hz6 : ((z.toNat : Int) == 61) = false := beq_eq_false_iff_ne.2 (fun e => h61 (u8_inj (b := 61) e))
        have h61' : ¬ (some z = some (61 : UInt8)) := fun e => h61 (Option.some.inj e)
        have hcz := u8_lt z
        have HR2 := hide hR
        have H59 := hide h59'
        have H61 := hide h61'
        clear hR HR h59 h59' h61 h61'
        go_wp2_with fail
        refine (alnum z _).mono ?_
        rintro e w3 ⟨rfl, rfl⟩
        cases hal : Entp.alnum z
        · have hR := HR2.out
          rw [if_neg (by rintro (h | ⟨_, _, h | h⟩); · omega
                         · exact H61.out h
                         · simp [hal] at h)] at hR
          obtain ⟨rfl, rfl⟩ := FIN.out _ _ hR
          clear hR
          go_wp2_with fail
          refine bodyPost_ret (v := .tuple #[.int .i64 ((j + 1 + 1 : Nat) : Int), S t]) (by simp [results, Tryd.results9, go_sem]) rfl ?_
          exact ⟨rfl, hb2⟩
        · have hR := HR2.out
          rw [if_pos (.inr ⟨by trivial, H59.out, .inr (by simp [hal])⟩)] at hR
          obtain ⟨rfl, rfl⟩ := FIN.out _ _ hR
          clear hR
          go_wp2_with fail
          refine bodyPost_ret (v := .tuple #[.int .i64 0, S []]) (by simp [results, Tryd.results9, go_sem]) rfl ?_
          exact ⟨rfl, hb2⟩
      · rw [List.getElem?_eq_none (by omega), if_neg (by simp)] at hR
        obtain ⟨rfl, rfl⟩ := FIN.out _ _ hR
        clear hR HR h59 h59'
        go_wp2_with fail
        refine bodyPost_ret (v := .tuple #[.int .i64 ((j + 1 + 1 : Nat) : Int), S t]) (by simp [results, Tryd.results9, go_sem]) rfl ?_
        exact ⟨rfl, hb2⟩

set_option maxRecDepth 100000 in
set_option maxHeartbeats 1000000 in
theorem openAt (s : List UInt8) (at_ : Int) (b : Bool) (w : World) (hl : s.length ≤ 4611686018427387904) (hn : Hid (Entp.openAt s at_ = b)) :
    Calls Tryd.prog 13 #[S s, .int .i64 at_] w (Ret (.bool b) w) := by
  by_cases h0 : at_ < 0
  · obtain rfl : false = b := by rw [← hn.out, Entp.openAt, if_pos (.inl h0)]
    clear hn
    go_enter Tryd.func13, Tryd.ntmps13
    go_wp2_with fail
    go_ret
    exact Ret.of rfl
  obtain ⟨a, rfl⟩ := Int.eq_ofNat_of_zero_le (by omega : 0 ≤ at_)
  by_cases h1 : s.length ≤ a
  · obtain rfl : false = b := by rw [← hn.out, Entp.openAt, if_pos (.inr (.inl (by omega)))]
    clear hn
    go_enter Tryd.func13, Tryd.ntmps13
    go_wp2_with fail
    go_ret
    exact Ret.of rfl
  have hlt : a < s.length := by omega
  obtain ⟨x, hx⟩ : ∃ x, s[a] = x := ⟨_, rfl⟩
  have hx? : s[a]? = some x := by rw [List.getElem?_eq_getElem hlt, hx]
  by_cases h38 : x = 38
  case neg =>
    have hne : ((x.toNat : Int) != 38) = true := by rw [bne_iff_ne]; intro e; exact h38 (u8_inj (b := 38) e)
    obtain rfl : false = b := by rw [← hn.out, Entp.openAt, if_pos (.inr (.inr (by rw [Int.toNat_natCast, hx?]; intro e; exact h38 (Option.some.inj e))))]
    clear hx? h0 h1 h38 hn
    go_enter Tryd.func13, Tryd.ntmps13
    go_wp2_with fail
    go_ret
    exact Ret.of rfl
  case pos =>
    subst h38
    have hR : Entp.openR (s.drop (a + 1)) = b := by
      rw [← hn.out, Entp.openAt, if_neg, Int.toNat_natCast]
      rw [Int.toNat_natCast, hx?]
      intro h
      rcases h with h | h | h
      · omega
      · omega
      · exact h rfl
    clear hx? h0 h1 hn
    obtain ⟨r, hr⟩ : ∃ r, s.drop (a + 1) = r := ⟨_, rfl⟩
    have hrl : r.length + (a + 1) = s.length := by rw [← hr, List.length_drop]; omega
    rw [hr, Entp.openR] at hR
    by_cases h35 : r.head? = some 35
    · rw [if_pos h35] at hR
      obtain ⟨l, rfl⟩ : ∃ l, r = 35 :: l := by
        cases r with
        | nil => simp at h35
        | cons y l => simp at h35; exact ⟨l, by rw [h35]⟩
      rw [List.drop_succ_cons, List.drop_zero] at hR
      obtain ⟨bs, sk, hb⟩ : ∃ b sk, Entp.based l = (b, sk) := ⟨_, _, rfl⟩
      have hbb := based_base l
      have hsk := Entp.based_skip l
      rw [hb] at hbb hsk hR
      simp only at hR hsk
      obtain ⟨k, hk⟩ : ∃ k, Entp.many bs (l.drop sk) = k := ⟨_, rfl⟩
      have hkl := Entp.many_le bs (l.drop sk)
      rw [hk, List.length_drop] at hkl
      rw [hk] at hR
      have hb' : bs = 10 ∨ bs = 16 := by simp only at hbb; omega
      have Hcut : Hid (Lib.trimPrefix (s.drop (a + 1)) [35] = l) := by unfold Hid; rw [hr]; rfl
      have Hcut2 : Hid (Lib.hasPrefix (s.drop (a + 1)) [35] = true) := by unfold Hid; rw [hr]; rfl
      have Hb := hide hb
      have Hb' := hide hb'
      have Hk := hide hk
      have HR := hide hR
      have hll : l.length + (a + 2) = s.length := by simp at hrl; omega
      clear hr hrl h35 hbb hb hk hb' hR
      go_enter Tryd.func13, Tryd.ntmps13
      go_wp2_with fail
      refine (cutPrefix _ _ _ _ _ Hcut Hcut2).mono ?_
      rintro e w' ⟨rfl, rfl⟩
      go_wp2_with fail
      refine (based' l bs sk _ (by unfold maxLen; omega) Hb).mono ?_
      rintro e w' ⟨rfl, rfl⟩
      go_wp2_with fail
      refine (digits _ bs _ k _ (by unfold maxLen; simp; omega) Hb'.out Hk (hide rfl)).mono ?_
      rintro e w' ⟨rfl, rfl⟩
      go_wp2_with fail
      go_ret
      refine Ret.of (v_b ?_)
      rw [← HR.out, Bool.eq_iff_iff, beq_iff_eq, decide_eq_true_eq]
      omega
    · rw [if_neg h35] at hR
      have hp : Lib.hasPrefix r [35] = false := by rw [hasPrefix_one]; simpa using h35
      have hp2 : Lib.trimPrefix r [35] = r := by unfold Lib.trimPrefix; rw [hp]; rfl
      have Hcut : Hid (Lib.trimPrefix (s.drop (a + 1)) [35] = r) := by unfold Hid; rw [hr]; exact hp2
      have Hcut2 : Hid (Lib.hasPrefix (s.drop (a + 1)) [35] = false) := by unfold Hid; rw [hr]; exact hp
      have Hr := hide hr
      have HR := hide hR
      have hle := Entp.lets_le r
      clear hr h35 hp hp2 hR
      go_enter Tryd.func13, Tryd.ntmps13
      go_wp2_with fail
      refine (cutPrefix _ _ _ _ _ Hcut Hcut2).mono ?_
      rintro e w' ⟨rfl, rfl⟩
      go_wp2_with fail
      rw [show List.drop (a + 1) s = r from Hr.out]
      refine (letters r _ _ (by unfold maxLen; omega) (hide rfl)).mono ?_
      rintro e w' ⟨rfl, rfl⟩
      go_wp2_with fail
      go_ret
      refine Ret.of (v_b ?_)
      rw [← HR.out, Bool.eq_iff_iff, beq_iff_eq, decide_eq_true_eq]
      omega
end Go.Proofs.YtlajahhiijlhaaaDoor
