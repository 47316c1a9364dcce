/- The number that a reference names; the base of its digits; a name's characters. -/
import Derived.Test.YtlajahhiijlhaaaDoorB
import Derived.Test.YtlajahhiijlhaaaDoorLaws
import Derived.Lib.ConvBytes
namespace Go.Proofs.YtlajahhiijlhaaaDoor
open Go.RowKit

/-! ### what lies in the package's variables -/
structure Tab (w : World) : Prop where
  win : ∀ (i : Nat) (z : Int), Entp.windows[i]? = some z → w.cell? ⟨0, i, none⟩ = some (.int .i32 z)
  max : ∃ m : Int, w.cell? ⟨1, 0, none⟩ = some (.int .i64 m)
theorem Tab.below {w w' : World} (h : Tab w) (hb : Below w.heap.size w w') : Tab w' := by
  refine ⟨fun i z hz => ?_, ?_⟩
  · have := h.win i z hz
    exact (hb.cell (World.block_lt_of_cell? w _ this)).trans this
  · obtain ⟨m, hm⟩ := h.max
    exact ⟨m, (hb.cell (World.block_lt_of_cell? w _ hm)).trans hm⟩
theorem belowN (w : World) (n : Nat) : Below w.heap.size w (w.drewN n) := ⟨rfl, rfl, rfl, Nat.le_refl _, fun _ _ => rfl⟩
theorem belowBytes (w : World) (e : TypeId) (s : ByteArray) : Below w.heap.size w (Lib.bytesWorld w e s) :=
  ⟨rfl, rfl, rfl, by rw [Lib.bytesWorld_size]; omega, fun k hk => Lib.bytesWorld_at_old w e s k hk⟩

theorem windows_len : Entp.windows.length = 32 := rfl
set_option maxRecDepth 100000 in
theorem windows_le : ∀ i, i < 32 → 0 ≤ Entp.windows.getD i 0 ∧ Entp.windows.getD i 0 ≤ 8482 := by decide

set_option maxRecDepth 100000 in
theorem number (n : Int) (w : World) (ht : Tab w) (hn : -9223372036854775808 ≤ n ∧ n ≤ 9223372036854775807) :
    Calls Tryd.prog 15 #[.int .i64 n] w (Ret (.int .i32 (Entp.number n)) w) := by
  obtain ⟨z, hz⟩ : ∃ z, Entp.number n = z := ⟨_, rfl⟩
  have HZ := hide hz
  rw [hz]
  clear hz
  by_cases h0 : n ≤ 0
  · have HT := hide ht
    clear ht
    go_enter Tryd.func15, Tryd.ntmps15
    go_wp2_with fail
    go_ret
    exact Ret.of (v_i (by rw [← HZ.out, Entp.number, if_pos (Or.inl h0)]))
  by_cases h1 : 1114111 < n
  · have HT := hide ht
    clear ht
    go_enter Tryd.func15, Tryd.ntmps15
    go_wp2_with fail
    go_ret
    exact Ret.of (v_i (by rw [← HZ.out, Entp.number, if_pos (Or.inr (Or.inl h1))]))
  have hv : Lib.validRune n = decide ¬ (55296 ≤ n ∧ n ≤ 57343) := by
    unfold Lib.validRune
    rw [decide_eq_decide]
    omega
  by_cases h2 : 55296 ≤ n ∧ n ≤ 57343
  · have HT := hide ht
    have hv' : Lib.validRune n = false := by rw [hv]; simp [h2]
    have H2 := hide h2
    clear ht hv h2
    go_enter Tryd.func15, Tryd.ntmps15
    go_wp2_with fail
    refine (Tryd.utf8_ValidRune n _).mono ?_
    rintro e w' ⟨rfl, rfl⟩
    rw [hv']
    go_wp2_with fail
    go_ret
    exact Ret.of (v_i (by rw [← HZ.out, Entp.number, if_pos (Or.inr (Or.inr H2.out))]))
  have hv' : Lib.validRune n = true := by rw [hv]; simp only [decide_eq_true_eq]; exact h2
  have hno : ¬ (n ≤ 0 ∨ 1114111 < n ∨ (55296 ≤ n ∧ n ≤ 57343)) := by omega
  have HNO := hide hno
  clear hno hv
  by_cases h3 : 128 ≤ n ∧ n ≤ 159
  · have hk : (n - 128).toNat < 32 := by omega
    obtain ⟨x, hx⟩ : ∃ x, Entp.windows[(n - 128).toNat]? = some x := ⟨Entp.windows[(n - 128).toNat], List.getElem?_eq_getElem hk⟩
    have hc := ht.win _ x hx
    have hxd : Entp.windows.getD (n - 128).toNat 0 = x := by rw [List.getD_eq_getElem?_getD, hx]; rfl
    have HX := hide hxd
    have hb := windows_le _ hk
    rw [hxd] at hb
    obtain ⟨hb0, hb1⟩ := hb
    have H3 := hide h3
    obtain ⟨h4, h5⟩ := h3
    clear ht hx hxd h2 h0 h1 hk
    by_cases hx0 : 0 < x
    · go_enter Tryd.func15, Tryd.ntmps15
      go_wp2_with fail
      refine (Tryd.utf8_ValidRune _ _).mono ?_
      rintro e w' ⟨rfl, rfl⟩
      rw [hv']
      go_wp2_with fail
      go_ret
      exact Ret.of (v_i (by rw [← HZ.out, Entp.number, if_neg HNO.out, HX.out, if_pos ⟨H3.out.1, H3.out.2, hx0⟩]))
    · go_enter Tryd.func15, Tryd.ntmps15
      go_wp2_with fail
      refine (Tryd.utf8_ValidRune _ _).mono ?_
      rintro e w' ⟨rfl, rfl⟩
      rw [hv']
      go_wp2_with fail
      go_ret
      exact Ret.of (v_i (by rw [← HZ.out, Entp.number, if_neg HNO.out, HX.out, if_neg (fun h => absurd h.2.2 (by omega))]))
  · have HT := hide ht
    have H3 := hide h3
    clear ht h2
    have h3' : n < 128 ∨ 159 < n := by omega
    clear h3
    rcases h3' with h3' | h3'
    all_goals
      go_enter Tryd.func15, Tryd.ntmps15
      go_wp2_with fail
      refine (Tryd.utf8_ValidRune n _).mono ?_
      rintro e w' ⟨rfl, rfl⟩
      rw [hv']
      go_wp2_with fail
      go_ret
      exact Ret.of (v_i (by rw [← HZ.out, Entp.number, if_neg HNO.out, if_neg (fun h => H3.out ⟨h.1, h.2.1⟩)]))

/-! ### the base -/
theorem or8_all : ∀ n : Fin 256, bits BinOp.or .u8 (n.val : Int) 32 = 120 ↔ (n.val = 120 ∨ n.val = 88) := by decide +kernel
theorem u8_eq_iff (c : UInt8) (k : Nat) (hk : k < 256) : c = UInt8.ofNat k ↔ c.toNat = k := by
  constructor
  · rintro rfl; simp; omega
  · intro h; rw [← h]; simp
theorem based (l : List UInt8) (w : World) (hl : l.length ≤ maxLen) :
    Calls Tryd.prog 21 #[S l] w (Ret (.tuple #[.int .i64 (Entp.based l).1, .int .i64 (Entp.based l).2]) w) := by
  unfold maxLen at hl
  cases l with
  | nil =>
    go_enter Tryd.func21, Tryd.ntmps21
    go_wp2_with fail
    refine bodyPost_ret (v := .tuple #[.int .i64 10, .int .i64 0]) (by simp [results, Tryd.results21, go_sem]) rfl ?_
    exact Ret.of rfl
  | cons c l =>
    have hor := or8_all ⟨c.toNat, c.toNat_lt⟩
    have hc := u8_lt c
    have hcc : (c = 120 ∨ c = 88) ↔ (c.toNat = 120 ∨ c.toNat = 88) := by
      rw [show (120 : UInt8) = UInt8.ofNat 120 from rfl, show (88 : UInt8) = UInt8.ofNat 88 from rfl, u8_eq_iff c 120 (by decide), u8_eq_iff c 88 (by decide)]
    by_cases hx : c.toNat = 120 ∨ c.toNat = 88
    · have e : Entp.based (c :: l) = (16, 1) := by rw [Entp.based, if_pos (hcc.2 hx)]
      rw [e]
      have hb : bits BinOp.or .u8 (c.toNat : Int) 32 = 120 := hor.2 hx
      have HX := hide hx
      clear hor hcc hx e
      go_enter Tryd.func21, Tryd.ntmps21
      go_wp2_with fail
      refine bodyPost_ret (v := .tuple #[.int .i64 16, .int .i64 1]) (by simp [results, Tryd.results21, go_sem]) rfl ?_
      exact Ret.of rfl
    · have e : Entp.based (c :: l) = (10, 0) := by rw [Entp.based, if_neg (fun h => hx (hcc.1 h))]
      rw [e]
      obtain ⟨m, hm⟩ : ∃ m, bits BinOp.or .u8 (c.toNat : Int) 32 = m := ⟨_, rfl⟩
      have hb : (m == 120) = false := beq_eq_false_iff_ne.2 (fun h => hx (hor.1 (hm.trans h)))
      have HX := hide hx
      clear hor hcc hx e
      go_enter Tryd.func21, Tryd.ntmps21
      go_wp2_with fail
      refine bodyPost_ret (v := .tuple #[.int .i64 10, .int .i64 0]) (by simp [results, Tryd.results21, go_sem]) rfl ?_
      exact Ret.of rfl
end Go.Proofs.YtlajahhiijlhaaaDoor
