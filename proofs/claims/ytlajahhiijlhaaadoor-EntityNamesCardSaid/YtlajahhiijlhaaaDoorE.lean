/- The longest name that a text begins with. -/
import Derived.Test.YtlajahhiijlhaaaDoorD
namespace Go.Proofs.YtlajahhiijlhaaaDoor
open Go.RowKit

theorem lets_all : ∀ (s : List UInt8), ∀ c ∈ s.take (Entp.lets s), Entp.alnum c = true
  | [], c, h => by simp at h
  | x :: s, c, h => by
    rw [Entp.lets] at h
    split at h
    · rename_i hx
      rw [List.take_succ_cons] at h
      rcases List.mem_cons.1 h with rfl | h
      · exact hx
      · exact lets_all s c h
    · simp at h
theorem take_top (s : List UInt8) (k : Nat) (hk : k ≤ Entp.top s) : k ≤ 33 ∧ ∀ c ∈ s.take k, c ≠ 32 := by
  rw [Entp.top_eq] at hk
  have h1 : ∀ c ∈ s.take (min 32 (Entp.lets s)), c ≠ 32 := fun c hc => by
    have : c ∈ s.take (Entp.lets s) := by
      have e : s.take (min 32 (Entp.lets s)) = (s.take (Entp.lets s)).take 32 := by rw [List.take_take]
      rw [e] at hc
      exact List.mem_of_mem_take hc
    have := lets_all s c this
    rintro rfl
    exact absurd this (by decide)
  refine ⟨by split at hk <;> omega, ?_⟩
  split at hk
  · rename_i h59
    intro c hc
    have : s.take k = (s.take (min 32 (Entp.lets s) + 1)).take k := by rw [List.take_take]; congr 1; omega
    rw [this] at hc
    have hc := List.mem_of_mem_take hc
    rw [List.take_add_one, h59] at hc
    rcases List.mem_append.1 hc with hc | hc
    · exact h1 c hc
    · simp at hc; subst hc; decide
  · intro c hc
    have : s.take k = (s.take (min 32 (Entp.lets s))).take k := by rw [List.take_take]; congr 1; omega
    rw [this] at hc
    exact h1 c (List.mem_of_mem_take hc)
theorem top_le (s : List UInt8) : Entp.top s ≤ s.length := by
  have := Entp.lets_le s
  rw [Entp.top_eq]
  split
  · rename_i h
    rcases Nat.lt_or_ge (min 32 (Entp.lets s)) s.length with h' | h'
    · omega
    · rw [List.getElem?_eq_none h'] at h; cases h
  · omega
theorem downFrom_succ (s : List UInt8) (k : Nat) : Entp.downFrom s (k + 1) = if (Entp.points (s.take (k + 1))).isSome = true then (k + 1, (Entp.points (s.take (k + 1))).getD []) else Entp.downFrom s k := by
  rw [Entp.downFrom]
  cases Entp.points (s.take (k + 1)) <;> rfl

/-- where the longest name may end -/
theorem top_cases (s : List UInt8) (k T : Nat) (hk : Entp.lets (s.take 32) = k) (hT : Entp.top s = T) :
    (k < s.length ∧ s[k]? = some 59 ∧ T = k + 1) ∨ (∃ x, k < s.length ∧ s[k]? = some x ∧ ((x.toNat : Int) == 59) = false ∧ T = k) ∨ (k = s.length ∧ T = k) := by
  have hks : k ≤ s.length := by have := Entp.lets_le (s.take 32); rw [hk, List.length_take] at this; omega
  rw [Entp.top, hk] at hT
  rcases Nat.lt_or_ge k s.length with h | h
  · rw [List.getElem?_eq_getElem h] at hT ⊢
    by_cases hx : s[k] = 59
    · rw [if_pos (by rw [hx])] at hT
      exact .inl ⟨h, by rw [hx], hT.symm⟩
    · rw [if_neg (fun e => hx (Option.some.inj e))] at hT
      refine .inr (.inl ⟨s[k], h, rfl, ?_, hT.symm⟩)
      exact (u8_eq s[k] 59 (by decide)).trans (beq_eq_false_iff_ne.2 hx)
  · rw [List.getElem?_eq_none h, if_neg (by simp)] at hT
    exact .inr (.inr ⟨by omega, hT.symm⟩)

set_option maxRecDepth 100000 in
set_option maxHeartbeats 1000000 in
theorem named (s : List UInt8) (n : Nat) (u : List UInt8) (w : World) (hl : s.length ≤ maxLen) (ht : Tab w) (hn : Hid (Entp.named s = (n, u))) :
    Calls Tryd.prog 11 #[S s] w (Fresh (.tuple #[.int .i64 n, S u]) w) := by
  unfold maxLen at hl
  obtain ⟨k, hk⟩ : ∃ k, Entp.lets (s.take 32) = k := ⟨_, rfl⟩
  have hk32 : k ≤ 32 := by rw [← hk, Entp.lets_take]; omega
  have hks : k ≤ s.length := by have := Entp.lets_le (s.take 32); rw [hk, List.length_take] at this; omega
  obtain ⟨T, hT⟩ : ∃ T, Entp.top s = T := ⟨_, rfl⟩
  have hTs : T ≤ s.length := by rw [← hT]; exact top_le s
  have HTT := hide hT
  have HD : Hid (Entp.downFrom s T = (n, u)) := by have := hn.out; rw [Entp.named, hT] at this; exact this
  have HK : Hid (Entp.lets (List.take (min 32 (s.length : Int)).toNat s) = k) := by
    unfold Hid
    rw [← hk]
    rcases Nat.le_total 32 s.length with h | h
    · rw [show (min 32 (s.length : Int)).toNat = 32 by omega]
    · rw [show (min 32 (s.length : Int)).toNat = s.length by omega, List.take_length, List.take_of_length_le h]
  have hcase := top_cases s k T hk hT
  have Ht := hide ht
  clear hk ht hT hn
  go_enter Tryd.func11, Tryd.ntmps11
  go_wp2_with fail
  refine (letters _ k _ (by simp [maxLen]; omega) HK).mono ?_
  rintro e w' ⟨rfl, rfl⟩
  rcases hcase with ⟨hc1, hc2, hc3⟩ | ⟨x, hc1, hc2, hcx, hc3⟩ | ⟨hc1, hc3⟩
  · obtain ⟨y, hy⟩ : ∃ y, s[k] = y := ⟨_, rfl⟩
    have hy5 : y = 59 := by rw [List.getElem?_eq_getElem hc1, hy] at hc2; exact Option.some.inj hc2
    clear hc2
    subst hy5
    go_wp2_with fail
    go_loopg [4] T (fun g s4 wx => g ≤ T ∧ s4 = .int .i64 g ∧ Below w.heap.size w wx ∧ Hid (Entp.downFrom s g = (n, u)))
    case atStart => exact ⟨Nat.le_refl _, by rw [hc3]; go_num, Below.refl _ _, HD⟩
    case round =>
      obtain ⟨hgT, rfl, hbw, hd⟩ := hrel
      have Htr := hide (Ht.out.below hbw)
      by_cases hg0 : gk = 0
      · subst hg0
        have e := hd.out
        rw [Entp.downFrom] at e
        injection e with e1 e2
        subst e1
        subst e2
        go_wp2_with fail
        refine bodyPost_ret (v := .tuple #[.int .i64 0, S []]) (by simp [results, Tryd.results11, go_sem]) rfl ?_
        exact ⟨rfl, hbw⟩
      · obtain ⟨j, rfl⟩ : ∃ j, gk = j + 1 := ⟨gk - 1, by omega⟩
        have htk := take_top s (j + 1) (by rw [HTT.out]; exact hgT)
        have e := hd.out
        rw [downFrom_succ] at e
        obtain ⟨is, his⟩ : ∃ is, (Entp.points (s.take (j + 1))).isSome = is := ⟨_, rfl⟩
        obtain ⟨t, hu⟩ : ∃ t, (Entp.points (s.take (j + 1))).getD [] = t := ⟨_, rfl⟩
        rw [his, hu] at e
        have HIS := hide his
        have HU := hide hu
        have HE := hide e
        have HTK := hide htk
        clear e his hu htk hg0
        go_wp2_with fail
        refine (points _ _ (by have := HTK.out.1; simp; omega) HTK.out.2 Htr.out t is HU HIS).mono ?_
        rintro e w2 ⟨rfl, hb2⟩
        have hb3 := hbw.trans (hb2.mono hbw.size)
        cases is
        · go_wp2_with fail
          go_roundg j
          case measure => omega
          case rel => exact ⟨by omega, by go_num, hb3, by have := HE.out; rw [if_neg (by decide)] at this; exact this⟩
        · have e := HE.out
          rw [if_pos rfl] at e
          injection e with e1 e2
          subst e1
          subst e2
          go_wp2_with fail
          refine bodyPost_ret (v := .tuple #[.int .i64 ((j + 1 : Nat) : Int), S t]) (by simp [results, Tryd.results11, go_sem]) rfl ?_
          exact ⟨rfl, hb3⟩
  · have hy : s[k] = x := by rw [List.getElem?_eq_getElem hc1] at hc2; exact Option.some.inj hc2
    clear hc2
    go_wp2_with fail
    go_loopg [4] T (fun g s4 wx => g ≤ T ∧ s4 = .int .i64 g ∧ Below w.heap.size w wx ∧ Hid (Entp.downFrom s g = (n, u)))
    case atStart => exact ⟨Nat.le_refl _, by rw [hc3], Below.refl _ _, HD⟩
    case round =>
      obtain ⟨hgT, rfl, hbw, hd⟩ := hrel
      have Htr := hide (Ht.out.below hbw)
      by_cases hg0 : gk = 0
      · subst hg0
        have e := hd.out
        rw [Entp.downFrom] at e
        injection e with e1 e2
        subst e1
        subst e2
        go_wp2_with fail
        refine bodyPost_ret (v := .tuple #[.int .i64 0, S []]) (by simp [results, Tryd.results11, go_sem]) rfl ?_
        exact ⟨rfl, hbw⟩
      · obtain ⟨j, rfl⟩ : ∃ j, gk = j + 1 := ⟨gk - 1, by omega⟩
        have htk := take_top s (j + 1) (by rw [HTT.out]; exact hgT)
        have e := hd.out
        rw [downFrom_succ] at e
        obtain ⟨is, his⟩ : ∃ is, (Entp.points (s.take (j + 1))).isSome = is := ⟨_, rfl⟩
        obtain ⟨t, hu⟩ : ∃ t, (Entp.points (s.take (j + 1))).getD [] = t := ⟨_, rfl⟩
        rw [his, hu] at e
        have HIS := hide his
        have HU := hide hu
        have HE := hide e
        have HTK := hide htk
        clear e his hu htk hg0
        go_wp2_with fail
        refine (points _ _ (by have := HTK.out.1; simp; omega) HTK.out.2 Htr.out t is HU HIS).mono ?_
        rintro e w2 ⟨rfl, hb2⟩
        have hb3 := hbw.trans (hb2.mono hbw.size)
        cases is
        · go_wp2_with fail
          go_roundg j
          case measure => omega
          case rel => exact ⟨by omega, by go_num, hb3, by have := HE.out; rw [if_neg (by decide)] at this; exact this⟩
        · have e := HE.out
          rw [if_pos rfl] at e
          injection e with e1 e2
          subst e1
          subst e2
          go_wp2_with fail
          refine bodyPost_ret (v := .tuple #[.int .i64 ((j + 1 : Nat) : Int), S t]) (by simp [results, Tryd.results11, go_sem]) rfl ?_
          exact ⟨rfl, hb3⟩
  · subst hc1
    go_wp2_with fail
    go_loopg [4] T (fun g s4 wx => g ≤ T ∧ s4 = .int .i64 g ∧ Below w.heap.size w wx ∧ Hid (Entp.downFrom s g = (n, u)))
    case atStart => exact ⟨Nat.le_refl _, by rw [hc3], Below.refl _ _, HD⟩
    case round =>
      obtain ⟨hgT, rfl, hbw, hd⟩ := hrel
      have Htr := hide (Ht.out.below hbw)
      by_cases hg0 : gk = 0
      · subst hg0
        have e := hd.out
        rw [Entp.downFrom] at e
        injection e with e1 e2
        subst e1
        subst e2
        go_wp2_with fail
        refine bodyPost_ret (v := .tuple #[.int .i64 0, S []]) (by simp [results, Tryd.results11, go_sem]) rfl ?_
        exact ⟨rfl, hbw⟩
      · obtain ⟨j, rfl⟩ : ∃ j, gk = j + 1 := ⟨gk - 1, by omega⟩
        have htk := take_top s (j + 1) (by rw [HTT.out]; exact hgT)
        have e := hd.out
        rw [downFrom_succ] at e
        obtain ⟨is, his⟩ : ∃ is, (Entp.points (s.take (j + 1))).isSome = is := ⟨_, rfl⟩
        obtain ⟨t, hu⟩ : ∃ t, (Entp.points (s.take (j + 1))).getD [] = t := ⟨_, rfl⟩
        rw [his, hu] at e
        have HIS := hide his
        have HU := hide hu
        have HE := hide e
        have HTK := hide htk
        clear e his hu htk hg0
        go_wp2_with fail
        refine (points _ _ (by have := HTK.out.1; simp; omega) HTK.out.2 Htr.out t is HU HIS).mono ?_
        rintro e w2 ⟨rfl, hb2⟩
        have hb3 := hbw.trans (hb2.mono hbw.size)
        cases is
        · go_wp2_with fail
          go_roundg j
          case measure => omega
          case rel => exact ⟨by omega, by go_num, hb3, by have := HE.out; rw [if_neg (by decide)] at this; exact this⟩
        · have e := HE.out
          rw [if_pos rfl] at e
          injection e with e1 e2
          subst e1
          subst e2
          go_wp2_with fail
          refine bodyPost_ret (v := .tuple #[.int .i64 ((j + 1 : Nat) : Int), S t]) (by simp [results, Tryd.results11, go_sem]) rfl ?_
          exact ⟨rfl, hb3⟩
end Go.Proofs.YtlajahhiijlhaaaDoor
