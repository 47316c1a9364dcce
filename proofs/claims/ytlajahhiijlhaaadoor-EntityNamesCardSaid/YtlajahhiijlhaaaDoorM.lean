/- The document's answer: the longest name. -/
import Derived.Test.YtlajahhiijlhaaaDoorL
namespace Go.Proofs.YtlajahhiijlhaaaDoor
open Go.RowKit

theorem foldN_drop {s : List UInt8} {m : Nat × List UInt8} {L : List Entp.Entry} {i : Nat} {x : Entp.Entry} (h : L[i]? = some x) : Entp.foldN s m (L.drop i) = Entp.foldN s (Entp.stepN s m x) (L.drop (i + 1)) := by
  have hlt : i < L.length := by rcases Nat.lt_or_ge i L.length with h' | h'; exact h'; rw [List.getElem?_eq_none h'] at h; cases h
  rw [List.getElem?_eq_getElem hlt] at h
  rw [List.drop_eq_getElem_cons hlt, Option.some.inj h, Entp.foldN]

set_option maxRecDepth 100000 in
set_option maxHeartbeats 4000000 in
theorem rNamed (s : List UInt8) (n : Nat) (u : List UInt8) (w : World) (hl : s.length ≤ 4611686018427387904) (hn : Hid (Entp.named s = (n, u))) :
    Calls Tryd.prog 12 #[S s] w (Fresh (.tuple #[.int .i64 n, S u]) w) := by
  have hf0 : Hid (Entp.foldN s (0, []) Entp.entries = (n, u)) := (Entp.named_eq s).trans hn.out
  have hL : Entp.entries.length = 236 := by unfold Entp.entries; rw [List.length_map]; exact Entp.toks_len
  have hnm : Hid (∀ x ∈ Entp.entries, x.1.length ≤ 32) := fun x hx => by
    obtain ⟨t, ht, rfl⟩ := List.mem_map.1 hx
    have h1 := List.all_eq_true.1 Entp.toks_names t ht
    simp only [Bool.and_eq_true, Bool.or_eq_true, decide_eq_true_eq] at h1
    exact h1.1.2
  clear hn
  go_enter Tryd.func12, Tryd.ntmps12
  go_wp2_with fail
  refine (rEntries _).mono ?_
  rintro e w1 ⟨v, rfl, hre, hb1⟩
  generalize Entp.entries = L at hf0 hL hnm hre ⊢
  obtain ⟨a1, c1, rfl⟩ := hre.length
  have HRE := hide hre
  have HB1 := hide hb1
  clear hre hb1
  go_wp2_with fail
  go_loopg [5, 6, 7] L.length (fun g s5 s6 s7 wx => ∃ (i m : Nat) (t : List UInt8) (q : Nat), i + g = L.length ∧ s5 = .int .i64 m ∧ s6 = S t ∧ s7 = .int .i64 i ∧ wx = w1.drewN q ∧ m ≤ 32 ∧ Hid (Entp.foldN s (m, t) (L.drop i) = (n, u)))
  case atStart => exact ⟨0, 0, [], 0, by omega, rfl, rfl, rfl, rfl, by omega, hf0⟩
  case round =>
    obtain ⟨i, m, t, q, hi, rfl, rfl, rfl, rfl, hm, hf⟩ := hrel
    by_cases hlt : i < L.length
    · obtain ⟨x, hx⟩ : ∃ x, L[i]? = some x := ⟨L[i], List.getElem?_eq_getElem hlt⟩
      obtain ⟨b, o, rfl, hbl, d0, d1⟩ := HRE.out.at hx
      have hxl := hnm.out x (List.mem_of_getElem? hx)
      have hfd := hf.out
      rw [foldN_drop hx] at hfd
      clear hx hf
      unfold Entp.stepN at hfd
      simp only at hfd
      by_cases h1 : m < x.1.length
      · by_cases h2 : x.1.length ≤ s.length
        · obtain ⟨p, hp⟩ : ∃ p, List.take x.1.length s = p := ⟨_, rfl⟩
          by_cases h3 : p = x.1
          · rw [if_pos ⟨h1, h2, by rw [hp]; exact h3⟩] at hfd
            have HF := hide hfd
            clear hfd
            go_wp2_with fail
            go_quiet (fail)
            go_wp2_with fail
            go_roundg (gk - 1)
            case measure => omega
            case rel => exact ⟨i + 1, _, _, _, by omega, rfl, rfl, by go_num, by first | rfl | exact World.drewN_drewN _ _ _, by omega, HF.out⟩
          · rw [if_neg (fun h => h3 (hp.symm.trans h.2.2))] at hfd
            have HF := hide hfd
            have h3' : (p == x.1) = false := beq_eq_false_iff_ne.2 h3
            clear hfd h3
            go_wp2_with fail
            go_quiet (fail)
            go_wp2_with fail
            go_roundg (gk - 1)
            case measure => omega
            case rel => exact ⟨i + 1, _, _, _, by omega, rfl, rfl, by go_num, by first | rfl | exact World.drewN_drewN _ _ _, by omega, HF.out⟩
        · rw [if_neg (fun h => h2 h.2.1)] at hfd
          have HF := hide hfd
          clear hfd
          go_wp2_with fail
          go_quiet (fail)
          go_wp2_with fail
          go_roundg (gk - 1)
          case measure => omega
          case rel => exact ⟨i + 1, _, _, _, by omega, rfl, rfl, by go_num, by first | rfl | exact World.drewN_drewN _ _ _, by omega, HF.out⟩
      · rw [if_neg (fun h => h1 h.1)] at hfd
        have HF := hide hfd
        clear hfd
        go_wp2_with fail
        go_quiet (fail)
        go_wp2_with fail
        go_roundg (gk - 1)
        case measure => omega
        case rel => exact ⟨i + 1, _, _, _, by omega, rfl, rfl, by go_num, by first | rfl | exact World.drewN_drewN _ _ _, by omega, HF.out⟩
    · have hfd := hf.out
      rw [List.drop_eq_nil_of_le (by omega), Entp.foldN] at hfd
      injection hfd with e1 e2
      subst e1
      subst e2
      clear hf
      go_wp2_with fail
      refine bodyPost_ret (v := .tuple #[.int .i64 m, S t]) (by simp [results, Tryd.results12, go_sem]) rfl ?_
      exact ⟨rfl, HB1.out.trans ((belowN w1 q).mono HB1.out.size)⟩
end Go.Proofs.YtlajahhiijlhaaaDoor
