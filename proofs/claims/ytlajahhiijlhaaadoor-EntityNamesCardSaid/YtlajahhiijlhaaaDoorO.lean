/- The document's answer: is a reference open; a text decoded. -/
import Derived.Test.YtlajahhiijlhaaaDoorN
namespace Go.Proofs.YtlajahhiijlhaaaDoor
open Go.RowKit

set_option maxRecDepth 100000 in
set_option maxHeartbeats 2000000 in
theorem rOpen (s : List UInt8) (at_ : Int) (b : Bool) (w : World) (hl : s.length ≤ 1152921504606846976) (hn : Hid (Entp.openAt s at_ = b)) :
    Calls Tryd.prog 14 #[S s, .int .i64 at_] w (Ret (.bool b) w) := by
  by_cases h0 : at_ < 0
  · obtain rfl : false = b := by rw [← hn.out, Entp.openAt, if_pos (.inl h0)]
    clear hn
    go_enter Tryd.func14, Tryd.ntmps14
    go_wp2_with fail
    go_ret
    exact Ret.of rfl
  obtain ⟨a, rfl⟩ := Int.eq_ofNat_of_zero_le (by omega : 0 ≤ at_)
  by_cases h1 : s.length ≤ a
  · obtain rfl : false = b := by rw [← hn.out, Entp.openAt, if_pos (.inr (.inl (by omega)))]
    clear hn
    go_enter Tryd.func14, Tryd.ntmps14
    go_wp2_with fail
    go_ret
    exact Ret.of rfl
  have hlt : a < s.length := by omega
  obtain ⟨x, hx⟩ : ∃ x, s[a] = x := ⟨_, rfl⟩
  have hx? : s[a]? = some x := by rw [List.getElem?_eq_getElem hlt, hx]
  by_cases h38 : x = 38
  case neg =>
    have hne : ((x.toNat : Int) != 38) = true := by rw [bne_iff_ne]; intro e; exact h38 (u8_inj (b := 38) e)
    obtain rfl : false = b := by rw [← hn.out, Entp.openAt, if_pos (.inr (.inr (by rw [Int.toNat_natCast, hx?]; intro e; exact h38 (Option.some.inj e))))]
    clear hx? h0 h1 h38 hn
    go_enter Tryd.func14, Tryd.ntmps14
    go_wp2_with fail
    go_ret
    exact Ret.of rfl
  case pos =>
    subst h38
    have hR : Entp.openR (s.drop (a + 1)) = b := by
      rw [← hn.out, Entp.openAt, if_neg, Int.toNat_natCast]
      rw [Int.toNat_natCast, hx?]
      intro h
      rcases h with h | h | h
      · omega
      · omega
      · exact h rfl
    clear hx? h0 h1 hn
    have hhd : (s.drop (a + 1)).head? = s[a + 1]? := by rw [List.head?_drop]
    rw [Entp.openR, hhd] at hR
    by_cases h35 : s[a + 1]? = some 35
    · have h35' := h35
      have hlt2 : a + 1 < s.length := by
        rcases Nat.lt_or_ge (a + 1) s.length with h' | h'
        · exact h'
        · rw [List.getElem?_eq_none h'] at h35; cases h35
      rw [List.getElem?_eq_getElem hlt2] at h35'
      have hx2 : s[a + 1] = 35 := Option.some.inj h35'
      rw [if_pos h35, List.drop_drop] at hR
      obtain ⟨bs, sk, hb⟩ : ∃ b sk, Entp.based (s.drop (a + 1 + 1)) = (b, sk) := ⟨_, _, rfl⟩
      have hbb := based_base (s.drop (a + 1 + 1))
      have hsk := Entp.based_skip (s.drop (a + 1 + 1))
      rw [hb] at hbb hsk hR
      rw [List.length_drop] at hsk
      simp only [List.drop_drop] at hR hsk
      obtain ⟨k, hk⟩ : ∃ k, Entp.many bs (s.drop (a + 1 + 1 + sk)) = k := ⟨_, rfl⟩
      have hkl := Entp.many_le bs (s.drop (a + 1 + 1 + sk))
      rw [hk, List.length_drop] at hkl
      rw [hk, List.length_drop] at hR
      have hb' : bs = 10 ∨ bs = 16 := by simp only at hbb; omega
      have hsk1 : sk ≤ 1 := by simp only at hbb; omega
      have Hb := hide hb
      have Hb' := hide hb'
      have Hk := hide hk
      have HR := hide hR
      clear hhd h35 h35' hbb hb hk hb' hR
      go_enter Tryd.func14, Tryd.ntmps14
      go_wp2_with fail
      refine (rBase s (a + 2) bs sk _ (by omega) (by omega) Hb).mono ?_
      rintro e w' ⟨rfl, rfl⟩
      go_wp2_with fail
      refine (rNum s (a + 2 + sk) bs _ k _ (by omega) (by omega) Hb'.out Hk (hide rfl)).mono ?_
      rintro e w' ⟨rfl, rfl⟩
      go_wp2_with fail
      go_ret
      refine Ret.of (v_b ?_)
      rw [← HR.out, Bool.eq_iff_iff, beq_iff_eq, decide_eq_true_eq]
      omega
    · rw [if_neg h35] at hR
      have hnum : (a + 1 < s.length ∧ ∃ y, s[a + 1]? = some y ∧ ((y.toNat : Int) == 35) = false) ∨ a + 1 = s.length := by
        rcases (by omega : a + 1 < s.length ∨ a + 1 = s.length) with h | h
        · refine .inl ⟨h, s[a + 1], List.getElem?_eq_getElem h, ?_⟩
          refine beq_eq_false_iff_ne.2 (fun e => h35 ?_)
          rw [List.getElem?_eq_getElem h, u8_inj (b := 35) e]
        · exact .inr h
      have HR := hide hR
      clear hR h35 hhd
      rcases hnum with ⟨hn1, y0, hn2, hn3⟩ | hn1
      case inr =>
        have hdn : s.drop (a + 1) = [] := List.drop_eq_nil_of_le (by omega)
        have hR := HR.out
        rw [hdn, Entp.lets] at hR
        obtain rfl : true = b := by rw [← hR]; rfl
        clear hR HR hdn
        go_enter Tryd.func14, Tryd.ntmps14
        go_wp2_with fail
        go_loopg [9] 0 (fun g s9 wx => s9 = .int .i64 ((a : Int) + 1) ∧ w = wx)
        case atStart => exact ⟨rfl, rfl⟩
        case round =>
          obtain ⟨rfl, rfl⟩ := hrel
          go_wp2_with fail
          go_ret
          exact Ret.of rfl
      rw [List.getElem?_eq_getElem hn1] at hn2
      have hy0 : s[a + 1] = y0 := Option.some.inj hn2
      clear hn2
      go_enter Tryd.func14, Tryd.ntmps14
      go_wp2_with fail
      go_loopg [9] (s.length - (a + 1)) (fun g s9 wx => ∃ i : Nat, a + 1 + i + g = s.length ∧ s9 = .int .i64 ((a + 1 + i : Nat) : Int) ∧ w = wx ∧ Hid (decide (Entp.lets (s.drop (a + 1 + i)) = (s.drop (a + 1 + i)).length) = b))
      case atStart => exact ⟨0, by omega, by go_num, rfl, HR.out⟩
      case round =>
        obtain ⟨i, hi, rfl, rfl, hd⟩ := hrel
        clear hy0 hn3
        by_cases hlt3 : a + 1 + i < s.length
        · obtain ⟨y, hy⟩ : ∃ y, s[a + 1 + i] = y := ⟨_, rfl⟩
          have hy? : s[a + 1 + i]? = some y := by rw [List.getElem?_eq_getElem hlt3, hy]
          have hdd := hd.out
          rw [lets_drop hy?] at hdd
          have hlen : (s.drop (a + 1 + i)).length = (s.drop (a + 1 + i + 1)).length + 1 := by rw [List.length_drop, List.length_drop]; omega
          clear hd hy?
          cases hal : Entp.alnum y
          · rw [hal, if_neg (by decide), hlen] at hdd
            obtain rfl : false = b := by rw [← hdd]; simp
            clear hdd hlen
            go_wp2_with fail
            refine (rAlnum y _).mono ?_
            rintro e w' ⟨rfl, rfl⟩
            rw [hal]
            go_wp2_with fail
            go_ret
            exact Ret.of rfl
          · rw [hal, if_pos rfl, hlen] at hdd
            have hdd2 : Hid (decide (Entp.lets (s.drop (a + 1 + (i + 1))) = (s.drop (a + 1 + (i + 1))).length) = b) := by
              unfold Hid
              rw [← hdd, ← Nat.add_assoc, decide_eq_decide]
              omega
            clear hdd hlen
            go_wp2_with fail
            refine (rAlnum y _).mono ?_
            rintro e w' ⟨rfl, rfl⟩
            rw [hal]
            go_wp2_with fail
            go_roundg (gk - 1)
            case measure => omega
            case rel => exact ⟨i + 1, by omega, by go_num, rfl, hdd2⟩
        · have hdd := hd.out
          rw [List.drop_eq_nil_of_le (by omega), Entp.lets] at hdd
          obtain rfl : true = b := by rw [← hdd]; rfl
          clear hd hdd
          go_wp2_with fail
          go_ret
          exact Ret.of rfl

theorem dec_amp (r : List UInt8) (attr : Bool) : Entp.decode (38 :: r) attr = (Entp.step r attr).2 ++ Entp.decode ((38 :: r).drop (Entp.step r attr).1) attr := by
  have := Entp.decode_at attr [] r (by simp)
  simpa using this
theorem dec_cons (c : UInt8) (r : List UInt8) (attr : Bool) (hc : c ≠ 38) : Entp.decode (c :: r) attr = c :: Entp.decode r attr := by
  rcases Entp.part r with h | ⟨a, q, rfl, h⟩
  · rw [Entp.decode_no attr r h, Entp.decode_no attr (c :: r) (fun x hx => by rcases List.mem_cons.1 hx with rfl | hx; exact hc; exact h x hx)]
  · have h2 := Entp.decode_at attr (c :: a) q (fun x hx => by rcases List.mem_cons.1 hx with rfl | hx; exact hc; exact h x hx)
    rw [List.cons_append] at h2
    rw [h2, Entp.decode_at attr a q h]
    rfl
theorem mid_snoc {s : List UInt8} {f i : Nat} {c : UInt8} (hf : f ≤ i) (h : s[i]? = some c) : (s.drop f).take (i + 1 - f) = (s.drop f).take (i - f) ++ [c] := by
  rw [show i + 1 - f = (i - f) + 1 by omega, List.take_add_one, List.getElem?_drop, show f + (i - f) = i by omega, h]
  rfl

set_option maxRecDepth 100000 in
set_option maxHeartbeats 2000000 in
theorem rDecode (s : List UInt8) (attr : Bool) (u : List UInt8) (w : World) (hl : s.length ≤ 1048576) (hu : Hid (Entp.decode s attr = u)) :
    Calls Tryd.prog 18 #[S s, .bool attr] w (Fresh (S u) w) := by
  go_enter Tryd.func18, Tryd.ntmps18
  go_wp2_with fail
  go_loopg [5, 6, 7] s.length (fun g s5 s6 s7 wx => ∃ (i f : Nat) (out : List UInt8), i + g = s.length ∧ f ≤ i ∧ s5 = S out ∧ s6 = .int .i64 f ∧ s7 = .int .i64 i ∧ out.length ≤ 8 * f ∧ Hid (out ++ (s.drop f).take (i - f) ++ Entp.decode (s.drop i) attr = u) ∧ Below w.heap.size w wx)
  case atStart => exact ⟨0, 0, [], by omega, Nat.le_refl _, rfl, rfl, rfl, by simp, by unfold Hid; simpa using hu.out, Below.refl _ _⟩
  case round =>
    obtain ⟨i, f, out, hi, hfi, rfl, rfl, rfl, hol, hd, hb⟩ := hrel
    by_cases hlt : i < s.length
    · obtain ⟨c, hc⟩ : ∃ c, s[i] = c := ⟨_, rfl⟩
      have hc? : s[i]? = some c := by rw [List.getElem?_eq_getElem hlt, hc]
      have hcons : s.drop i = c :: s.drop (i + 1) := by rw [List.drop_eq_getElem_cons hlt, hc]
      have hdd := hd.out
      rw [hcons] at hdd
      have hmid := mid_snoc hfi hc?
      by_cases h38 : c = 38
      · subst h38
        rw [dec_amp] at hdd
        obtain ⟨n, t, hnt⟩ : ∃ n t, Entp.refAt s (i : Int) attr = (n, t) := ⟨_, _, rfl⟩
        have hst : Entp.ref (s.drop (i + 1)) attr = (n, t) := by
          rw [← hnt, Entp.refAt, if_neg, Int.toNat_natCast]
          rw [Int.toNat_natCast, hc?]
          simp
          omega
        have hle := step_le (s.drop (i + 1)) attr
        rw [List.length_drop] at hle
        have Hnt := hide hnt
        by_cases hn0 : n = 0
        · have hse : Entp.step (s.drop (i + 1)) attr = (1, [38]) := by rw [Entp.step, hst, if_pos (by rw [hn0])]
          have hdd2 : Hid (out ++ (s.drop f).take (i + 1 - f) ++ Entp.decode (s.drop (i + 1)) attr = u) := by
            unfold Hid
            rw [hmid, ← hdd, hse]
            simp
          subst hn0
          clear hd hdd hcons hmid hst hnt hle hse hc?
          go_wp2_with fail
          refine (rRef s _ attr 0 t _ (by omega) Hnt).mono ?_
          rintro e w2 ⟨rfl, hb2⟩
          go_wp2_with fail
          go_roundg (gk - 1)
          case measure => omega
          case rel => exact ⟨i + 1, f, out, by omega, by omega, rfl, rfl, by go_num, hol, hdd2, hb.trans (hb2.mono hb.size)⟩
        · have hse : Entp.step (s.drop (i + 1)) attr = (n, t) := by rw [Entp.step, hst, if_neg (by simpa using hn0)]
          rw [hse] at hle hdd
          obtain ⟨hn1, ht8⟩ := hle
          simp only at hn1 ht8 hdd
          have hdd2 : Hid ((out ++ (s.drop f).take (i - f) ++ t) ++ (s.drop (i + n)).take (i + n - (i + n)) ++ Entp.decode (s.drop (i + n)) attr = u) := by
            unfold Hid
            rw [← hdd, ← hcons, List.drop_drop, Nat.sub_self, List.take_zero, List.append_nil]
            simp
          have hni : ((n : Int) == 0) = false := beq_eq_false_iff_ne.2 (by omega)
          have hml : ((s.drop f).take (i - f)).length ≤ i - f := by rw [List.length_take]; omega
          clear hd hdd hcons hmid hst hnt hse hc?
          go_wp2_with fail
          refine (rRef s _ attr n t _ (by omega) Hnt).mono ?_
          rintro e w2 ⟨rfl, hb2⟩
          go_wp2_with fail
          go_roundg (gk - n)
          case measure => omega
          case rel => exact ⟨i + n, i + n, out ++ (s.drop f).take (i - f) ++ t, by omega, by omega, by first | rfl | simp, by go_num, by go_num, by simp only [List.length_append]; omega, hdd2, hb.trans (hb2.mono hb.size)⟩
      · rw [dec_cons c _ attr h38] at hdd
        have hdd2 : Hid (out ++ (s.drop f).take (i + 1 - f) ++ Entp.decode (s.drop (i + 1)) attr = u) := by
          unfold Hid
          rw [hmid, ← hdd]
          simp
        have hcn : ((c.toNat : Int) == 38) = false := beq_eq_false_iff_ne.2 (fun e => h38 (u8_inj (b := 38) e))
        clear hd hdd hcons hmid hc? h38
        go_wp2_with fail
        go_roundg (gk - 1)
        case measure => omega
        case rel => exact ⟨i + 1, f, out, by omega, by omega, rfl, rfl, by go_num, hol, hdd2, hb⟩
    · have hil : i = s.length := by omega
      have hdd := hd.out
      rw [List.drop_eq_nil_of_le (by omega : s.length ≤ i), Entp.decode_no attr [] (by simp), List.append_nil, List.take_of_length_le (by rw [List.length_drop]; omega)] at hdd
      subst hil
      subst hdd
      clear hd
      go_wp2_with fail
      go_ret
      exact ⟨by first | rfl | simp, hb⟩
end Go.Proofs.YtlajahhiijlhaaaDoor
