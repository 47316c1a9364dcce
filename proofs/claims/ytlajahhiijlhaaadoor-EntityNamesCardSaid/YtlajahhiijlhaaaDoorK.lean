/- The document's answer: the number that a reference names; the base of its digits; the digits. -/
import Derived.Test.YtlajahhiijlhaaaDoorJ
namespace Go.Proofs.YtlajahhiijlhaaaDoor
open Go.RowKit

set_option maxRecDepth 100000 in
set_option maxHeartbeats 4000000 in
theorem rNumber (n : Int) (w : World) (hn : -9223372036854775808 ≤ n ∧ n ≤ 9223372036854775807) :
    Calls Tryd.prog 16 #[.int .i64 n] w (Fresh (.int .i32 (Entp.number n)) w) := by
  obtain ⟨z, hz⟩ : ∃ z, Entp.number n = z := ⟨_, rfl⟩
  have HZ := hide hz
  rw [hz]
  clear hz
  have hb1 : ∀ o, Below w.heap.size w (w.alloc o) := fun o => (Below.refl _ _).alloc (Nat.le_refl _) o
  have HB1 := hide hb1
  clear hb1
  by_cases h0 : n ≤ 0
  · go_enter Tryd.func16, Tryd.ntmps16
    go_wp2_with fail
    go_ret
    exact ⟨by rw [← HZ.out, Entp.number, if_pos (Or.inl h0)]; rfl, HB1.out _⟩
  by_cases h1 : 1114111 < n
  · go_enter Tryd.func16, Tryd.ntmps16
    go_wp2_with fail
    go_ret
    exact ⟨by rw [← HZ.out, Entp.number, if_pos (Or.inr (Or.inl h1))]; rfl, HB1.out _⟩
  by_cases h2 : 55296 ≤ n ∧ n ≤ 57343
  · have H2 := hide h2
    obtain ⟨h3, h4⟩ := h2
    go_enter Tryd.func16, Tryd.ntmps16
    go_wp2_with fail
    go_ret
    exact ⟨by rw [← HZ.out, Entp.number, if_pos (Or.inr (Or.inr H2.out))]; rfl, HB1.out _⟩
  have hno : ¬ (n ≤ 0 ∨ 1114111 < n ∨ (55296 ≤ n ∧ n ≤ 57343)) := by omega
  have HNO := hide hno
  clear hno
  by_cases h3 : 128 ≤ n ∧ n ≤ 159
  · have hk : (n - 128).toNat < 32 := by omega
    obtain ⟨x, hx⟩ : ∃ x, Entp.windows[(n - 128).toNat]? = some x := ⟨Entp.windows[(n - 128).toNat], List.getElem?_eq_getElem hk⟩
    have hxd : Entp.windows.getD (n - 128).toNat 0 = x := by rw [List.getD_eq_getElem?_getD, hx]; rfl
    have HX := hide hxd
    have hb := windows_le _ hk
    rw [hxd] at hb
    obtain ⟨hb0, hb1⟩ := hb
    have H3 := hide h3
    obtain ⟨h4, h5⟩ := h3
    have hc : (w.alloc (.cells #[.int .i64 8364, .int .i64 0, .int .i64 8218, .int .i64 402, .int .i64 8222, .int .i64 8230, .int .i64 8224, .int .i64 8225, .int .i64 710, .int .i64 8240, .int .i64 352, .int .i64 8249, .int .i64 338, .int .i64 0, .int .i64 381, .int .i64 0, .int .i64 0, .int .i64 8216, .int .i64 8217, .int .i64 8220, .int .i64 8221, .int .i64 8226, .int .i64 8211, .int .i64 8212, .int .i64 732, .int .i64 8482, .int .i64 353, .int .i64 8250, .int .i64 339, .int .i64 0, .int .i64 382, .int .i64 376] 3)).cell? ⟨w.heap.size, (n - 128).toNat, none⟩ = some (.int .i64 x) := by
      rw [World.cell?_alloc_at _ _ _ _ rfl]
      have e : (#[.int .i64 8364, .int .i64 0, .int .i64 8218, .int .i64 402, .int .i64 8222, .int .i64 8230, .int .i64 8224, .int .i64 8225, .int .i64 710, .int .i64 8240, .int .i64 352, .int .i64 8249, .int .i64 338, .int .i64 0, .int .i64 381, .int .i64 0, .int .i64 0, .int .i64 8216, .int .i64 8217, .int .i64 8220, .int .i64 8221, .int .i64 8226, .int .i64 8211, .int .i64 8212, .int .i64 732, .int .i64 8482, .int .i64 353, .int .i64 8250, .int .i64 339, .int .i64 0, .int .i64 382, .int .i64 376] : Array Value) = (Entp.windows.map (Value.int .i64)).toArray := rfl
      rw [e, List.getElem?_toArray, List.getElem?_map, hx]
      rfl
    clear hx hxd h2 h0 h1 hk
    by_cases hx0 : 0 < x
    · go_enter Tryd.func16, Tryd.ntmps16
      go_wp2_with fail
      go_ret
      exact ⟨by rw [← HZ.out, Entp.number, if_neg HNO.out, HX.out, if_pos ⟨H3.out.1, H3.out.2, hx0⟩]; rfl, HB1.out _⟩
    · go_enter Tryd.func16, Tryd.ntmps16
      go_wp2_with fail
      go_ret
      exact ⟨by rw [← HZ.out, Entp.number, if_neg HNO.out, HX.out, if_neg (fun h => absurd h.2.2 (by omega))]; rfl, HB1.out _⟩
  · have H3 := hide h3
    have h3' : n < 128 ∨ 159 < n := by omega
    clear h3
    have h2' : n < 55296 ∨ 57343 < n := by omega
    clear h2
    rcases h3' with h3' | h3' <;> rcases h2' with h2' | h2'
    all_goals first
      | (exfalso; omega)
      | (go_enter Tryd.func16, Tryd.ntmps16
         go_wp2_with fail
         go_ret
         exact ⟨by rw [← HZ.out, Entp.number, if_neg HNO.out, if_neg (fun h => H3.out ⟨h.1, h.2.1⟩)]; rfl, HB1.out _⟩)

set_option maxRecDepth 100000 in
/-- the base of the digits behind a place -/
theorem rBase (s : List UInt8) (a : Nat) (b : Int) (k : Nat) (w : World) (hl : s.length ≤ 4611686018427387904) (ha : a ≤ s.length) (h : Hid (Entp.based (s.drop a) = (b, k))) :
    Calls Tryd.prog 25 #[S s, .int .i64 a] w (Ret (.tuple #[.int .i64 b, .int .i64 ((a + k : Nat) : Int)]) w) := by
  by_cases hlt : a < s.length
  · obtain ⟨x, hx⟩ : ∃ x, s[a] = x := ⟨_, rfl⟩
    have hd : Entp.based (s.drop a) = if x = 120 ∨ x = 88 then (16, 1) else (10, 0) := by
      rw [List.drop_eq_getElem_cons hlt, hx, Entp.based]
    rw [Hid, hd] at h
    by_cases h1 : x = 120
    · rw [if_pos (.inl h1)] at h
      injection h with e1 e2
      subst e1; subst e2; subst h1
      clear hd
      go_enter Tryd.func25, Tryd.ntmps25
      go_wp2_with fail
      refine bodyPost_ret (v := .tuple #[.int .i64 16, .int .i64 ((a + 1 : Nat) : Int)]) (by simp [results, Tryd.results25, go_sem]) rfl ?_
      exact Ret.of rfl
    have hx1 : ((x.toNat : Int) == 120) = false := beq_eq_false_iff_ne.2 (fun e => h1 (u8_inj (b := 120) e))
    by_cases h2 : x = 88
    · rw [if_pos (.inr h2)] at h
      injection h with e1 e2
      subst e1; subst e2; subst h2
      clear hd h1 hx1
      go_enter Tryd.func25, Tryd.ntmps25
      go_wp2_with fail
      refine bodyPost_ret (v := .tuple #[.int .i64 16, .int .i64 ((a + 1 : Nat) : Int)]) (by simp [results, Tryd.results25, go_sem]) rfl ?_
      exact Ret.of rfl
    have hx2 : ((x.toNat : Int) == 88) = false := beq_eq_false_iff_ne.2 (fun e => h2 (u8_inj (b := 88) e))
    rw [if_neg (by simp [h1, h2])] at h
    injection h with e1 e2
    subst e1; subst e2
    clear hd h1 h2
    go_enter Tryd.func25, Tryd.ntmps25
    go_wp2_with fail
    refine bodyPost_ret (v := .tuple #[.int .i64 10, .int .i64 ((a + 0 : Nat) : Int)]) (by simp [results, Tryd.results25, go_sem]) rfl ?_
    exact Ret.of rfl
  · obtain rfl : a = s.length := by omega
    rw [Hid, List.drop_length, Entp.based] at h
    injection h with e1 e2
    subst e1; subst e2
    go_enter Tryd.func25, Tryd.ntmps25
    go_wp2_with fail
    refine bodyPost_ret (v := .tuple #[.int .i64 10, .int .i64 ((s.length + 0 : Nat) : Int)]) (by simp [results, Tryd.results25, go_sem]) rfl ?_
    exact Ret.of rfl
end Go.Proofs.YtlajahhiijlhaaaDoor
