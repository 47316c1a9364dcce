/- How long what is written is. -/
import Derived.Test.YtepimjljkkkejaaDoorR
namespace Go.Proofs.YtepimjljkkkejaaDoor
namespace Srcp

theorem words_wt : ∀ (s : List UInt8) (inn : Bool) (word : List UInt8) (l : List (List UInt8)) (x : List UInt8), x ∈ (words inn word l s).1 → x ∈ l ∨ x.length + (words inn word l s).2.length ≤ word.length + s.length
  | [], inn, word, l, x, h => by
    unfold words at h ⊢
    unfold pushW at h
    split at h
    · exact .inl h
    · rcases List.mem_append.1 h with h | h
      · exact .inl h
      · simp at h; subst h; right; simp
  | c :: s, inn, word, l, x, h => by
    have ih := words_wt s
    unfold words at h ⊢
    split at h
    · rename_i h1
      rw [if_pos h1]
      unfold pushW at h
      split at h
      · exact .inl h
      · rcases List.mem_append.1 h with h | h
        · exact .inl h
        · simp at h; subst h; right; simp
    · rename_i h1
      rw [if_neg h1]
      split at h
      · rename_i h2
        rw [if_pos h2]
        rcases ih _ _ _ _ h with h | h
        · unfold pushW at h
          split at h
          · exact .inl h
          · rcases List.mem_append.1 h with h | h
            · exact .inl h
            · simp at h; subst h; right
              have := words_len s inn [] (pushW l x)
              simp only [List.length_cons]; omega
        · right; simp only [List.length_cons, List.length_nil] at h ⊢; omega
      · rename_i h2
        rw [if_neg h2]
        rcases ih _ _ _ _ h with h | h
        · exact .inl h
        · right; simp only [List.length_append, List.length_cons, List.length_nil] at h ⊢; omega

theorem cut_le {w d : List UInt8} {c : UInt8} (h : cut w c = some d) : d.length ≤ w.length := by
  unfold cut at h
  split at h
  · injection h with h; subst h; simp
  · cases h
theorem getD_cut_le (w : List UInt8) (c : UInt8) : ((cut w c).getD []).length ≤ w.length := by
  cases h : cut w c with
  | none => simp
  | some d => exact cut_le h

theorem described_wt (u : List UInt8) (ws : List (List UInt8)) (x : Cand) (h : described u ws = some x) : x.url = u ∧ (x.text = [] ∨ ∃ w ∈ ws, x.text.length ≤ w.length) := by
  match ws, h with
  | [], h => injection h with h; subst h; exact ⟨rfl, .inl rfl⟩
  | [a], h =>
    rw [described1] at h
    have h1 := getD_cut_le a 119
    have h2 := getD_cut_le a 120
    split at h
    · injection h with h; subst h; exact ⟨rfl, .inr ⟨a, by simp, h1⟩⟩
    · split at h
      · injection h with h; subst h; exact ⟨rfl, .inr ⟨a, by simp, h2⟩⟩
      · cases h
  | [a, b], h =>
    rw [described2] at h
    have h1 := getD_cut_le a 119
    have h2 := getD_cut_le b 119
    split at h
    · injection h with h; subst h; exact ⟨rfl, .inr ⟨a, by simp, h1⟩⟩
    · split at h
      · injection h with h; subst h; exact ⟨rfl, .inr ⟨b, by simp, h2⟩⟩
      · cases h
  | _ :: _ :: _ :: _, h => cases h

theorem trimC_le (u : List UInt8) : (trimC u).length ≤ u.length := by
  unfold trimC
  rw [List.length_reverse]
  have := dropWhile_len (· == 44) u.reverse
  rwa [List.length_reverse] at this

theorem one_wt (s : List UInt8) (x : Cand) (h : (one s).1 = some x) : x.url.length + x.text.length + (one s).2.length ≤ s.length := by
  have hs : (s.takeWhile (fun c => !sp c)).length + (s.dropWhile (fun c => !sp c)).length = s.length := by
    rw [← List.length_append, List.takeWhile_append_dropWhile]
  unfold one at h ⊢
  simp only at h ⊢
  split at h
  · rename_i h1
    rw [if_pos h1]
    obtain ⟨h2, h3⟩ := described_wt _ _ _ h
    rw [h2]
    rcases h3 with h3 | ⟨w, hw, h3⟩
    · rw [h3]
      have := words_len (s.dropWhile (fun c => !sp c)) false [] []
      simp only [List.length_nil]; omega
    · rcases words_wt _ _ _ _ _ hw with h4 | h4
      · cases h4
      · simp only [List.length_nil] at h4 ⊢; omega
  · rename_i h1
    rw [if_neg h1]
    obtain ⟨h2, h3⟩ := described_wt (trimC (s.takeWhile (fun c => !sp c))) [] x h
    rcases h3 with h3 | ⟨w, hw, h3⟩
    · rw [h2, h3]
      have := trimC_le (s.takeWhile (fun c => !sp c))
      simp only [List.length_nil]; omega
    · cases hw

def wgt : List Cand → Nat
  | [] => 0
  | x :: l => x.url.length + x.text.length + 4 + wgt l
theorem wgt_append (l m : List Cand) : wgt (l ++ m) = wgt l + wgt m := by
  induction l with
  | nil => simp [wgt]
  | cons x l ih => simp only [List.cons_append, wgt, ih]; omega
theorem showC_wt (x : Cand) : (showC x).length ≤ x.url.length + x.text.length + 2 := by
  unfold showC
  split
  · omega
  · simp only [List.length_append, List.length_cons, List.length_nil]; omega
theorem show_wt : ∀ l : List Cand, (show_ l).length ≤ wgt l
  | [] => by simp [show_]
  | [x] => by have := showC_wt x; simp only [show_, wgt]; omega
  | x :: y :: l => by
    have h := show_wt (y :: l)
    have h1 := showC_wt x
    rw [show_, wgt]
    simp only [List.length_append, List.length_cons, List.length_nil]; omega
theorem parseF_wt : ∀ (n : Nat) (s : List UInt8), wgt (parseF n s) ≤ 5 * s.length ∧ (parseF n s).length ≤ s.length
  | 0, s => by simp [parseF, wgt]
  | n + 1, s => by
    unfold parseF
    by_cases hd : s.dropWhile skip = []
    · rw [if_pos hd]; simp [wgt]
    · rw [if_neg hd]
      have h1 := rest_len s hd
      have h2 := dropWhile_len skip s
      have ⟨h3, h4⟩ := parseF_wt n (one (s.dropWhile skip)).2
      rw [wgt_append, List.length_append]
      cases ho : (one (s.dropWhile skip)).1 with
      | none => simp only [Option.toList, wgt, List.length_nil]; omega
      | some x =>
        have h5 := one_wt _ _ ho
        simp only [Option.toList, wgt, List.length_cons, List.length_nil]; omega
theorem parse_wt (s : List UInt8) : (show_ (parse s)).length ≤ 5 * s.length ∧ (parse s).length ≤ s.length := by
  have ⟨h1, h2⟩ := parseF_wt (s.length + 1) s
  exact ⟨Nat.le_trans (show_wt _) h1, h2⟩
end Srcp
end Go.Proofs.YtepimjljkkkejaaDoor
