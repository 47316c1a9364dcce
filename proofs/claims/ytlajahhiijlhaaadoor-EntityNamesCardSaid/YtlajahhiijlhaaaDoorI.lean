/- The laws EntityPlain and EntitySure. -/
import Derived.Test.YtlajahhiijlhaaaDoorH
import Derived.Deep.QuietTactic
import Derived.BigQuiet
namespace Go.Proofs.YtlajahhiijlhaaaDoor
open Go.RowKit

def fst (l : List UInt8) : Nat := (l.takeWhile fun c => c != 38).length
theorem fst_step {s : List UInt8} {j : Nat} {x : UInt8} (h : s[j]? = some x) : j + fst (s.drop j) = if x = 38 then j else j + 1 + fst (s.drop (j + 1)) := by
  have hlt : j < s.length := by rcases Nat.lt_or_ge j s.length with h' | h'; exact h'; rw [List.getElem?_eq_none h'] at h; cases h
  rw [List.getElem?_eq_getElem hlt] at h
  rw [List.drop_eq_getElem_cons hlt, Option.some.inj h]
  unfold fst
  rw [List.takeWhile_cons]
  by_cases hx : x = 38
  · subst hx; simp
  · rw [if_neg hx, if_pos (by simpa using hx), List.length_cons]; omega
theorem fst_no (s : List UInt8) (h : ∀ c ∈ s, c ≠ 38) : fst s = s.length := by
  induction s with
  | nil => rfl
  | cons c s ih =>
    have hc : (c != 38) = true := by simpa using h c (by simp)
    unfold fst at ih ⊢
    rw [List.takeWhile_cons, if_pos hc, List.length_cons, ih (fun x hx => h x (by simp [hx])), List.length_cons]
theorem fst_at (a r : List UInt8) (h : ∀ c ∈ a, c ≠ 38) : fst (a ++ 38 :: r) = a.length := by
  unfold fst
  rw [List.takeWhile_append_of_pos (by intro x hx; simpa using h x hx)]
  simp

set_option maxRecDepth 100000 in
set_option maxHeartbeats 2000000 in
theorem law_plain (s : List UInt8) (attr : Bool) (w : World) (hs : s.length ≤ maxLen) (ht : Tab w) :
    Calls Tryd.prog 5 #[S s, .bool attr] w (Fresh (.bool true) w) := by
  unfold maxLen at hs
  have Ht := hide ht
  clear ht
  go_enter Tryd.func5, Tryd.ntmps5
  go_wp2_with fail
  refine (works _ Ht.out).mono ?_
  rintro e w1 ⟨rfl, hb1⟩
  have HB1 := hide hb1
  clear hb1
  by_cases hlen : 4096 < s.length
  · go_wp2_with fail
    go_ret
    exact ⟨rfl, HB1.out⟩
  go_wp2_with fail
  go_loopg [6, 7] s.length (fun g s6 s7 wx => g ≤ s.length ∧ (∃ k : Nat, s6 = .int .i64 k ∧ Hid (k = g + fst (s.drop g))) ∧ s7 = .int .i64 ((g : Int) - 1) ∧ w1 = wx)
  case atStart => exact ⟨Nat.le_refl _, ⟨s.length, rfl, by unfold Hid; rw [List.drop_length]; rfl⟩, by go_num, rfl⟩
  case round =>
    obtain ⟨hg, ⟨k, rfl, hk⟩, rfl, rfl⟩ := hrel
    by_cases hg0 : gk = 0
    · subst hg0
      have hk0 := hk.out
      rw [Nat.zero_add, List.drop_zero] at hk0
      clear hk
      rcases Entp.part s with hno | ⟨a, r, hsa, ha⟩
      · have e := Entp.decode_no attr s hno
        rw [fst_no s hno] at hk0
        have He := hide e
        clear hno e
        subst hk0
        go_wp2_with fail
        refine (decode s attr s _ (by omega) (Ht.out.below HB1.out) He).mono ?_
        rintro e w2 ⟨rfl, hb2⟩
        go_wp2_with fail
        go_quiet (fail)
        go_wp2_with fail
        go_ret
        first
          | exact ⟨rfl, (HB1.out.trans (hb2.mono HB1.out.size)).trans ((belowN w2 _).mono (HB1.out.trans (hb2.mono HB1.out.size)).size)⟩
          | exact ⟨by simp, (HB1.out.trans (hb2.mono HB1.out.size)).trans ((belowN w2 _).mono (HB1.out.trans (hb2.mono HB1.out.size)).size)⟩
      · have hd := Entp.decode_at attr a r ha
        rw [← hsa, List.append_assoc] at hd
        obtain ⟨v, hv⟩ : ∃ v, Entp.decode s attr = a ++ v := ⟨_, hd⟩
        have hka : k = a.length := by rw [hk0, hsa, fst_at a r ha]
        have He := hide hv
        have hsl := congrArg List.length hsa
        rw [List.length_append, List.length_cons] at hsl
        have hsa' := hide hsa
        clear hd hv hk0 ha hsa
        subst hka
        go_wp2_with fail
        refine (decode s attr (a ++ v) _ (by omega) (Ht.out.below HB1.out) He).mono ?_
        rintro e w2 ⟨rfl, hb2⟩
        obtain rfl := hsa'.out
        have f1 : (a.length : Int) ≤ (a.length : Int) + (v.length : Int) := by omega
        have f2 : (a.length : Int) ≤ (a.length : Int) + ((r.length : Int) + 1) := by omega
        have f3 : (a.length : Int) < (a.length : Int) + ((r.length : Int) + 1) := by omega
        go_wp2_with fail
        go_quiet (fail)
        go_wp2_with fail
        go_ret
        first
          | exact ⟨rfl, (HB1.out.trans (hb2.mono HB1.out.size)).trans ((belowN w2 _).mono (HB1.out.trans (hb2.mono HB1.out.size)).size)⟩
          | exact ⟨by simp, (HB1.out.trans (hb2.mono HB1.out.size)).trans ((belowN w2 _).mono (HB1.out.trans (hb2.mono HB1.out.size)).size)⟩
    · obtain ⟨j, rfl⟩ : ∃ j, gk = j + 1 := ⟨gk - 1, by omega⟩
      have hj : j < s.length := by omega
      obtain ⟨x, hx⟩ : ∃ x, s[j] = x := ⟨_, rfl⟩
      have hst := fst_step (show s[j]? = some x by rw [List.getElem?_eq_getElem hj, hx])
      have hji : ((j + 1 : Nat) : Int) - 1 = j := by omega
      have hx38 : ((x.toNat : Int) == 38) = (x == 38) := u8_eq x 38 (by decide)
      rw [hji]
      clear hji hg0
      by_cases h38 : x = 38
      · rw [if_pos h38] at hst
        have Hst := hide hst
        clear hst hx38
        subst h38
        go_wp2_with fail
        go_roundg j
        case measure => omega
        case rel => exact ⟨by omega, ⟨j, rfl, Hst.out.symm⟩, by go_num, rfl⟩
      · rw [if_neg h38] at hst
        have Hst := hide hst
        have hxf : ((x.toNat : Int) == 38) = false := by rw [hx38]; exact beq_eq_false_iff_ne.2 h38
        clear hst hx38 h38
        go_wp2_with fail
        go_roundg j
        case measure => omega
        case rel => exact ⟨by omega, ⟨k, rfl, by unfold Hid; rw [Hst.out]; exact hk.out⟩, by go_num, rfl⟩

set_option maxRecDepth 100000 in
set_option maxHeartbeats 2000000 in
theorem law_sure (s m : List UInt8) (at_ : Int) (attr : Bool) (w : World) (hs : s.length ≤ maxLen) (hm : m.length ≤ maxLen) (ht : Tab w) :
    Calls Tryd.prog 7 #[S s, S m, .int .i64 at_, .bool attr] w (Fresh (.bool true) w) := by
  unfold maxLen at hs hm
  have Ht := hide ht
  clear ht
  go_enter Tryd.func7, Tryd.ntmps7
  go_wp2_with fail
  refine (works _ Ht.out).mono ?_
  rintro e w1 ⟨rfl, hb1⟩
  have HB1 := hide hb1
  clear hb1
  by_cases hlen : 4096 < s.length
  · go_wp2_with fail
    go_ret
    exact ⟨rfl, HB1.out⟩
  by_cases hlen2 : 4096 < m.length
  · go_wp2_with fail
    go_ret
    exact ⟨rfl, HB1.out⟩
  obtain ⟨o, ho⟩ : ∃ o, Entp.openAt s at_ = o := ⟨_, rfl⟩
  have Ho := hide ho
  clear ho
  go_wp2_with fail
  refine (openAt s at_ o _ (by omega) Ho).mono ?_
  rintro e w2 ⟨rfl, rfl⟩
  cases o
  case true =>
    go_wp2_with fail
    go_ret
    exact ⟨rfl, HB1.out⟩
  by_cases h0 : at_ < 0
  · go_wp2_with fail
    go_ret
    exact ⟨rfl, HB1.out⟩
  by_cases h1 : (s.length : Int) ≤ at_
  · go_wp2_with fail
    go_ret
    exact ⟨rfl, HB1.out⟩
  have hsu := Entp.sure s m at_ attr Ho.out (by omega) (by omega)
  obtain ⟨n, u, hn⟩ : ∃ n u, Entp.refAt s at_ attr = (n, u) := ⟨_, _, rfl⟩
  have H1 := hide hn
  have H2 : Hid (Entp.refAt (s ++ m) at_ attr = (n, u)) := hsu.trans hn
  clear hsu hn
  go_wp2_with fail
  refine (ref s at_ attr n u _ (by omega) (Ht.out.below HB1.out) H1).mono ?_
  rintro e w2 ⟨rfl, hb2⟩
  have HB2 := hide (HB1.out.trans (hb2.mono HB1.out.size))
  clear hb2
  go_wp2_with fail
  refine (ref (s ++ m) at_ attr n u _ (by rw [List.length_append]; omega) (Ht.out.below HB2.out) H2).mono ?_
  rintro e w3 ⟨rfl, hb3⟩
  have HB3 := hide (HB2.out.trans (hb3.mono HB2.out.size))
  clear hb3
  go_wp2_with fail
  go_ret
  exact ⟨rfl, HB3.out⟩
end Go.Proofs.YtlajahhiijlhaaaDoor
