/- The document's answer: letters, digits, a code point's bytes, the number that a reference names. -/
import Derived.Test.YtlajahhiijlhaaaDoorI
namespace Go.Proofs.YtlajahhiijlhaaaDoor
open Go.RowKit

theorem rDigit (c : UInt8) (w : World) : Calls Tryd.prog 42 #[.int .i32 c.toNat] w (Ret (.bool (isDigit c)) w) := by
  go_enter Tryd.func42, Tryd.ntmps42
  go_wp2
  all_goals go_ret
  all_goals exact Ret.of (v_b (by rw [Bool.eq_iff_iff, isDigit_iff]; simp only [decide_eq_true_eq, Bool.false_eq_true, false_iff]; omega))
theorem rAlpha (c : UInt8) (w : World) : Calls Tryd.prog 41 #[.int .i32 c.toNat] w (Ret (.bool (isAlpha c)) w) := by
  go_enter Tryd.func41, Tryd.ntmps41
  go_wp2
  all_goals go_ret
  all_goals exact Ret.of (v_b (by rw [Bool.eq_iff_iff, isAlpha_iff]; simp only [decide_eq_true_eq, Bool.false_eq_true, false_iff, true_iff, Bool.or_eq_true, Bool.and_eq_true]; omega))
set_option maxRecDepth 100000 in
theorem rHex (c : UInt8) (w : World) : Calls Tryd.prog 50 #[.int .i32 c.toNat] w (Ret (.int .i64 (Entp.hex c)) w) := by
  have hc := u8_lt c
  go_enter Tryd.func50, Tryd.ntmps50
  go_wp2
  all_goals go_ret
  all_goals refine Ret.of (v_i ?_)
  all_goals unfold Entp.hex
  all_goals (repeat' split)
  all_goals first | omega | (go_num <;> omega)
theorem rAlnum (c : UInt8) (w : World) : Calls Tryd.prog 28 #[B8 c] w (Ret (.bool (Entp.alnum c)) w) := by
  have hc := u8_lt c
  go_enter Tryd.func28, Tryd.ntmps28
  go_wp2_with fail
  refine (rAlpha c _).mono ?_
  rintro e w' ⟨rfl, rfl⟩
  cases ha : isAlpha c
  · go_wp2_with fail
    refine (rDigit c _).mono ?_
    rintro e w' ⟨rfl, rfl⟩
    go_wp2_with fail
    go_ret
    exact Ret.of (v_b (by rw [alnum_eq, ha]; rfl))
  · go_wp2_with fail
    go_ret
    exact Ret.of (v_b (by rw [alnum_eq, ha]; rfl))
/-- a digit's value to a base -/
def val (b : Int) (c : UInt8) : Int := if Entp.hex c ≥ b then -1 else Entp.hex c
set_option maxRecDepth 100000 in
theorem rValue (c : UInt8) (b : Int) (v : Int) (w : World) (hv : Hid (val b c = v)) (hb : -9223372036854775808 ≤ b ∧ b ≤ 9223372036854775807) : Calls Tryd.prog 40 #[B8 c, .int .i64 b] w (Ret (.int .i64 v) w) := by
  have hc := u8_lt c
  go_enter Tryd.func40, Tryd.ntmps40
  go_wp2_with fail
  refine (rHex c _).mono ?_
  rintro e w' ⟨rfl, rfl⟩
  by_cases h : Entp.hex c ≥ b
  · go_wp2_with fail
    go_ret
    exact Ret.of (v_i (by rw [← hv.out, val, if_pos h]))
  · go_wp2_with fail
    go_ret
    exact Ret.of (v_i (by rw [← hv.out, val, if_neg (by omega)]))

theorem conv_new (w : World) (l : List UInt8) (cs : Array Value) (n : Nat) (hn : l.length = n) (h : cs = (l.map B8).toArray) :
    Sem.run Tryd.prog (convert 35 9 (.slice (some ⟨w.heap.size, 0, none⟩) n n)) (w.alloc (.cells cs 5)) = .ok (S l) (w.alloc (.cells cs 5)) := by
  subst hn
  exact run_convert_bytes_back _ 35 9 5 ⟨w.heap.size, 0, none⟩ l.length l Tryd.underlying35 Tryd.underlying5 Tryd.underlying9 (fun j hj => by
    have e : (⟨w.heap.size, 0, none⟩ : Addr).add j = ⟨w.heap.size, j, none⟩ := by simp [Addr.add]; try (intro h; exact h.symm)
    rw [e, World.cell?_alloc_at _ _ _ _ rfl, h]
    simp [hj])
theorem enc1k (k : Nat) (h : k < 128) : Lib.encodeRune k = [UInt8.ofNat k] := by
  unfold Lib.encodeRune
  rw [Lib.encodeRuneZ_one (by omega) (by omega)]
  simp [u8n]
theorem enc2k (k : Nat) (h1 : ¬ k < 128) (h : k < 2048) : Lib.encodeRune k = [UInt8.ofNat (192 + k / 64), UInt8.ofNat (128 + k % 64)] := by
  unfold Lib.encodeRune
  rw [Lib.encodeRuneZ_two (by omega) (by omega)]
  simp only [List.map_cons, List.map_nil, u8n]
  rw [show (192 + (k : Int) / 64).toNat = 192 + k / 64 by omega, show (128 + (k : Int) % 64).toNat = 128 + k % 64 by omega]
theorem enc3k (k : Nat) (h1 : ¬ k < 2048) (h : k < 65536) (hs : ¬ (55296 ≤ k ∧ k ≤ 57343)) : Lib.encodeRune k = [UInt8.ofNat (224 + k / 4096), UInt8.ofNat (128 + k / 64 % 64), UInt8.ofNat (128 + k % 64)] := by
  unfold Lib.encodeRune
  rw [Lib.encodeRuneZ_three (by omega)]
  simp only [List.map_cons, List.map_nil, u8n]
  rw [show (224 + (k : Int) / 4096).toNat = 224 + k / 4096 by omega, show (128 + (k : Int) / 64 % 64).toNat = 128 + k / 64 % 64 by omega, show (128 + (k : Int) % 64).toNat = 128 + k % 64 by omega]
theorem enc4k (k : Nat) (h1 : ¬ k < 65536) (h : k ≤ 1114111) : Lib.encodeRune k = [UInt8.ofNat (240 + k / 262144), UInt8.ofNat (128 + k / 4096 % 64), UInt8.ofNat (128 + k / 64 % 64), UInt8.ofNat (128 + k % 64)] := by
  unfold Lib.encodeRune
  rw [Lib.encodeRuneZ_four (by omega) (by omega)]
  simp only [List.map_cons, List.map_nil, u8n]
  rw [show (240 + (k : Int) / 262144).toNat = 240 + k / 262144 by omega, show (128 + (k : Int) / 4096 % 64).toNat = 128 + k / 4096 % 64 by omega, show (128 + (k : Int) / 64 % 64).toNat = 128 + k / 64 % 64 by omega, show (128 + (k : Int) % 64).toNat = 128 + k % 64 by omega]
theorem b8_of (a : Nat) (x : Int) (h : x = a) (ha : a < 256) : Value.int .u8 x = B8 (UInt8.ofNat a) := by
  subst h
  show _ = Value.int .u8 _
  rw [UInt8.toNat_ofNat_of_lt' (by simpa using ha)]

set_option maxRecDepth 100000 in
set_option maxHeartbeats 1000000 in
theorem rBytesZ (r : Int) (w : World) (h0 : 0 ≤ r) (hk : r ≤ 1114111) (hs : r < 55296 ∨ 57343 < r) : Calls Tryd.prog 27 #[.int .i32 r] w (Fresh (S (Lib.encodeRune r)) w) := by
  have hb1 : ∀ o, Below w.heap.size w (w.alloc o) := fun o => (Below.refl _ _).alloc (Nat.le_refl _) o
  have HB1 := hide hb1
  clear hb1
  obtain ⟨l, hl⟩ : ∃ l, Lib.encodeRune r = l := ⟨_, rfl⟩
  obtain ⟨k, hrk⟩ := Int.eq_ofNat_of_zero_le h0
  rw [hl]
  by_cases h1 : r < 128
  · have he : l = [UInt8.ofNat k] := by rw [← hl, hrk]; exact enc1k k (by omega)
    have hrun := conv_new w l #[.int .u8 r] 1 (by rw [he]; rfl) (by rw [he, b8_of k r hrk (by omega)]; rfl)
    clear hl hrk he hs
    go_enter Tryd.func27, Tryd.ntmps27
    go_wp2_with fail
    go_ret
    exact ⟨rfl, HB1.out _⟩
  obtain ⟨c, hc⟩ : ∃ c : Int, r % 64 = c := ⟨_, rfl⟩
  have hc0 : 0 ≤ c ∧ c < 64 := by omega
  by_cases h2 : r < 2048
  · obtain ⟨a, ha⟩ : ∃ a : Int, r / 64 = a := ⟨_, rfl⟩
    have ha0 : 2 ≤ a ∧ a < 32 := by omega
    have he : l = [UInt8.ofNat (192 + k / 64), UInt8.ofNat (128 + k % 64)] := by rw [← hl, hrk]; exact enc2k k (by omega) (by omega)
    have hrun := conv_new w l #[.int .u8 (192 + a), .int .u8 (128 + c)] 2 (by rw [he]; rfl) (by rw [he, b8_of (192 + k / 64) _ (by omega) (by omega), b8_of (128 + k % 64) _ (by omega) (by omega)]; rfl)
    obtain ⟨c0, c1⟩ := hc0
    obtain ⟨a0, a1⟩ := ha0
    clear hl hrk he hs
    go_enter Tryd.func27, Tryd.ntmps27
    go_wp2_with fail
    go_ret
    exact ⟨rfl, HB1.out _⟩
  obtain ⟨b, hb⟩ : ∃ b : Int, r / 64 % 64 = b := ⟨_, rfl⟩
  have hb0 : 0 ≤ b ∧ b < 64 := by omega
  by_cases h3 : r < 65536
  · obtain ⟨a, ha⟩ : ∃ a : Int, r / 4096 = a := ⟨_, rfl⟩
    have ha0 : 0 ≤ a ∧ a < 16 := by omega
    have he : l = [UInt8.ofNat (224 + k / 4096), UInt8.ofNat (128 + k / 64 % 64), UInt8.ofNat (128 + k % 64)] := by rw [← hl, hrk]; exact enc3k k (by omega) (by omega) (by omega)
    have hrun := conv_new w l #[.int .u8 (224 + a), .int .u8 (128 + b), .int .u8 (128 + c)] 3 (by rw [he]; rfl)
      (by rw [he, b8_of (224 + k / 4096) _ (by omega) (by omega), b8_of (128 + k / 64 % 64) _ (by omega) (by omega), b8_of (128 + k % 64) _ (by omega) (by omega)]; rfl)
    obtain ⟨c0, c1⟩ := hc0
    obtain ⟨a0, a1⟩ := ha0
    obtain ⟨b0, b1⟩ := hb0
    clear hl hrk he
    rcases hs with hs | hs
    all_goals
      go_enter Tryd.func27, Tryd.ntmps27
      go_wp2_with fail
      go_ret
      exact ⟨rfl, HB1.out _⟩
  · obtain ⟨a, ha⟩ : ∃ a : Int, r / 4096 % 64 = a := ⟨_, rfl⟩
    obtain ⟨d, hd⟩ : ∃ d : Int, r / 262144 = d := ⟨_, rfl⟩
    have ha0 : 0 ≤ a ∧ a < 64 := by omega
    have hd0 : 0 ≤ d ∧ d < 5 := by omega
    have he : l = [UInt8.ofNat (240 + k / 262144), UInt8.ofNat (128 + k / 4096 % 64), UInt8.ofNat (128 + k / 64 % 64), UInt8.ofNat (128 + k % 64)] := by rw [← hl, hrk]; exact enc4k k (by omega) (by omega)
    have hrun := conv_new w l #[.int .u8 (240 + d), .int .u8 (128 + a), .int .u8 (128 + b), .int .u8 (128 + c)] 4 (by rw [he]; rfl)
      (by rw [he, b8_of (240 + k / 262144) _ (by omega) (by omega), b8_of (128 + k / 4096 % 64) _ (by omega) (by omega), b8_of (128 + k / 64 % 64) _ (by omega) (by omega), b8_of (128 + k % 64) _ (by omega) (by omega)]; rfl)
    obtain ⟨c0, c1⟩ := hc0
    obtain ⟨a0, a1⟩ := ha0
    obtain ⟨b0, b1⟩ := hb0
    obtain ⟨d0, d1⟩ := hd0
    clear hl hrk he hs
    go_enter Tryd.func27, Tryd.ntmps27
    go_wp2_with fail
    go_ret
    exact ⟨rfl, HB1.out _⟩
end Go.Proofs.YtlajahhiijlhaaaDoor
