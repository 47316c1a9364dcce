/- What the loops take: the closures, and while at each of them. (Printed by genCssE.py.) -/
import Derived.Test.YtojgcangnkjmjaaGreatDoorD
import Derived.Test.YtojgcangnkjmjaaGreatDoorRun2
namespace Go.Proofs.YtojgcangnkjmjaaGreatDoor
open Go.RowKit

theorem u8n {c d : UInt8} (h : ¬ c = d) : ((c.toNat : Int) != (d.toNat : Int)) = true := by rw [bne, u8f h]; rfl
theorem u8y {c d : UInt8} (h : c = d) : ((c.toNat : Int) != (d.toNat : Int)) = false := by rw [bne, u8t h]; rfl
theorem run_at {p : UInt8 → Bool} {s : List UInt8} {n : Nat} {x : UInt8} (h : s[n]? = some x) : Cssp.run p (s.drop n) = if p x = true then Cssp.run p (s.drop (n + 1)) + 1 else 0 := by
  have hlt : n < s.length := (List.getElem?_eq_some_iff.1 h).1
  rw [List.drop_eq_getElem_cons hlt, Cssp.run]
  rw [List.getElem?_eq_getElem hlt] at h
  rw [Option.some.inj h]
theorem text1 (q c : UInt8) (b : Nat) (w : World) (hq : w.cell? ⟨b, 0, none⟩ = some (.int .u8 q.toNat)) :
    Calls Tryz.prog 66 #[.int .u8 c.toNat, .pointer (some ⟨b, 0, none⟩)] w (Ret (.bool (Cssp.strU q c)) w) := by
  have hc := u8_lt c
  go_enter Tryz.func66, Tryz.ntmps66
  by_cases h0 : c = q
  · have q0 : ((c.toNat : Int) != (q.toNat : Int)) = false := u8y h0
    have H0 := hide h0
    clear h0
    go_wp2_with fail
    go_ret
    exact Ret.of (v_b (by rw [Cssp.strU, H0.out]; simp))
  have q0 : ((c.toNat : Int) != (q.toNat : Int)) = true := u8n h0
  have H0 := hide h0
  clear h0
  by_cases h1 : c = 10
  · have q1 : ((c.toNat : Int) != 10) = false := u8y h1
    have H1 := hide h1
    clear h1
    go_wp2_with fail
    go_ret
    exact Ret.of (v_b (by rw [Cssp.strU, H1.out]; simp))
  have q1 : ((c.toNat : Int) != 10) = true := u8n h1
  have H1 := hide h1
  clear h1
  by_cases h2 : c = 92
  · have q2 : ((c.toNat : Int) != 92) = false := u8y h2
    have H2 := hide h2
    clear h2
    go_wp2_with fail
    go_ret
    exact Ret.of (v_b (by rw [Cssp.strU, H2.out]; simp))
  have q2 : ((c.toNat : Int) != 92) = true := u8n h2
  have H2 := hide h2
  clear h2
  go_wp2_with fail
  go_ret
  exact Ret.of (v_b (by rw [Cssp.strU]; simp [H0.out, H1.out, H2.out]))
theorem bad1 (c : UInt8) (w : World) :
    Calls Tryz.prog 152 #[.int .u8 c.toNat] w (Ret (.bool (Cssp.badC c)) w) := by
  have hc := u8_lt c
  go_enter Tryz.func152, Tryz.ntmps152
  by_cases h0 : c = 41
  · have q0 : ((c.toNat : Int) != 41) = false := u8y h0
    have H0 := hide h0
    clear h0
    go_wp2_with fail
    go_ret
    exact Ret.of (v_b (by rw [Cssp.badC, H0.out]; simp))
  have q0 : ((c.toNat : Int) != 41) = true := u8n h0
  have H0 := hide h0
  clear h0
  by_cases h1 : c = 92
  · have q1 : ((c.toNat : Int) != 92) = false := u8y h1
    have H1 := hide h1
    clear h1
    go_wp2_with fail
    go_ret
    exact Ret.of (v_b (by rw [Cssp.badC, H1.out]; simp))
  have q1 : ((c.toNat : Int) != 92) = true := u8n h1
  have H1 := hide h1
  clear h1
  go_wp2_with fail
  go_ret
  exact Ret.of (v_b (by rw [Cssp.badC]; simp [H0.out, H1.out]))
theorem url1 (c : UInt8) (w : World) :
    Calls Tryz.prog 135 #[.int .u8 c.toNat] w (Ret (.bool (Cssp.plainU c)) w) := by
  have hc := u8_lt c
  go_enter Tryz.func135, Tryz.ntmps135
  by_cases h32 : c.toNat ≤ 32
  · have d0 : decide ((32 : Int) < (c.toNat : Int)) = false := by simp; omega
    have H32 := hide h32
    clear h32
    go_wp2_with fail
    go_ret
    exact Ret.of (v_b (by have := H32.out; rw [Cssp.plainU, decide_eq_false (by omega)]; simp))
  have d0 : decide ((32 : Int) < (c.toNat : Int)) = true := by simp; omega
  have H32 := hide h32
  clear h32
  by_cases h0 : c = 34
  · have q0 : ((c.toNat : Int) != 34) = false := u8y h0
    have H0 := hide h0
    clear h0
    go_wp2_with fail
    go_ret
    exact Ret.of (v_b (by rw [Cssp.plainU, H0.out]; simp))
  have q0 : ((c.toNat : Int) != 34) = true := u8n h0
  have H0 := hide h0
  clear h0
  by_cases h1 : c = 39
  · have q1 : ((c.toNat : Int) != 39) = false := u8y h1
    have H1 := hide h1
    clear h1
    go_wp2_with fail
    go_ret
    exact Ret.of (v_b (by rw [Cssp.plainU, H1.out]; simp))
  have q1 : ((c.toNat : Int) != 39) = true := u8n h1
  have H1 := hide h1
  clear h1
  by_cases h2 : c = 40
  · have q2 : ((c.toNat : Int) != 40) = false := u8y h2
    have H2 := hide h2
    clear h2
    go_wp2_with fail
    go_ret
    exact Ret.of (v_b (by rw [Cssp.plainU, H2.out]; simp))
  have q2 : ((c.toNat : Int) != 40) = true := u8n h2
  have H2 := hide h2
  clear h2
  by_cases h3 : c = 41
  · have q3 : ((c.toNat : Int) != 41) = false := u8y h3
    have H3 := hide h3
    clear h3
    go_wp2_with fail
    go_ret
    exact Ret.of (v_b (by rw [Cssp.plainU, H3.out]; simp))
  have q3 : ((c.toNat : Int) != 41) = true := u8n h3
  have H3 := hide h3
  clear h3
  by_cases h4 : c = 92
  · have q4 : ((c.toNat : Int) != 92) = false := u8y h4
    have H4 := hide h4
    clear h4
    go_wp2_with fail
    go_ret
    exact Ret.of (v_b (by rw [Cssp.plainU, H4.out]; simp))
  have q4 : ((c.toNat : Int) != 92) = true := u8n h4
  have H4 := hide h4
  clear h4
  by_cases h5 : c = 127
  · have q5 : ((c.toNat : Int) != 127) = false := u8y h5
    have H5 := hide h5
    clear h5
    go_wp2_with fail
    go_ret
    exact Ret.of (v_b (by rw [Cssp.plainU, H5.out]; simp))
  have q5 : ((c.toNat : Int) != 127) = true := u8n h5
  have H5 := hide h5
  clear h5
  go_wp2_with fail
  go_ret
  exact Ret.of (v_b (by have := H32.out; rw [Cssp.plainU, decide_eq_true (by omega)]; simp [H0.out, H1.out, H2.out, H3.out, H4.out, H5.out]))
theorem url2 (c : UInt8) (w : World) :
    Calls Tryz.prog 136 #[.int .u8 c.toNat] w (Ret (.bool (Cssp.plainU c)) w) := by
  have hc := u8_lt c
  go_enter Tryz.func136, Tryz.ntmps136
  by_cases h32 : c.toNat ≤ 32
  · have d0 : decide ((32 : Int) < (c.toNat : Int)) = false := by simp; omega
    have H32 := hide h32
    clear h32
    go_wp2_with fail
    go_ret
    exact Ret.of (v_b (by have := H32.out; rw [Cssp.plainU, decide_eq_false (by omega)]; simp))
  have d0 : decide ((32 : Int) < (c.toNat : Int)) = true := by simp; omega
  have H32 := hide h32
  clear h32
  by_cases h0 : c = 34
  · have q0 : ((c.toNat : Int) != 34) = false := u8y h0
    have H0 := hide h0
    clear h0
    go_wp2_with fail
    go_ret
    exact Ret.of (v_b (by rw [Cssp.plainU, H0.out]; simp))
  have q0 : ((c.toNat : Int) != 34) = true := u8n h0
  have H0 := hide h0
  clear h0
  by_cases h1 : c = 39
  · have q1 : ((c.toNat : Int) != 39) = false := u8y h1
    have H1 := hide h1
    clear h1
    go_wp2_with fail
    go_ret
    exact Ret.of (v_b (by rw [Cssp.plainU, H1.out]; simp))
  have q1 : ((c.toNat : Int) != 39) = true := u8n h1
  have H1 := hide h1
  clear h1
  by_cases h2 : c = 40
  · have q2 : ((c.toNat : Int) != 40) = false := u8y h2
    have H2 := hide h2
    clear h2
    go_wp2_with fail
    go_ret
    exact Ret.of (v_b (by rw [Cssp.plainU, H2.out]; simp))
  have q2 : ((c.toNat : Int) != 40) = true := u8n h2
  have H2 := hide h2
  clear h2
  by_cases h3 : c = 41
  · have q3 : ((c.toNat : Int) != 41) = false := u8y h3
    have H3 := hide h3
    clear h3
    go_wp2_with fail
    go_ret
    exact Ret.of (v_b (by rw [Cssp.plainU, H3.out]; simp))
  have q3 : ((c.toNat : Int) != 41) = true := u8n h3
  have H3 := hide h3
  clear h3
  by_cases h4 : c = 92
  · have q4 : ((c.toNat : Int) != 92) = false := u8y h4
    have H4 := hide h4
    clear h4
    go_wp2_with fail
    go_ret
    exact Ret.of (v_b (by rw [Cssp.plainU, H4.out]; simp))
  have q4 : ((c.toNat : Int) != 92) = true := u8n h4
  have H4 := hide h4
  clear h4
  by_cases h5 : c = 127
  · have q5 : ((c.toNat : Int) != 127) = false := u8y h5
    have H5 := hide h5
    clear h5
    go_wp2_with fail
    go_ret
    exact Ret.of (v_b (by rw [Cssp.plainU, H5.out]; simp))
  have q5 : ((c.toNat : Int) != 127) = true := u8n h5
  have H5 := hide h5
  clear h5
  go_wp2_with fail
  go_ret
  exact Ret.of (v_b (by have := H32.out; rw [Cssp.plainU, decide_eq_true (by omega)]; simp [H0.out, H1.out, H2.out, H3.out, H4.out, H5.out]))
set_option maxRecDepth 100000 in
theorem whileBlank (s t : List UInt8) (b : Nat) (n o : Bool) (w : World) (h : Lx w b s n o t) (hl : s.length ≤ 140737488355328) :
    Calls Tryz.prog 65 #[.pointer (some ⟨b, 0, none⟩), .func (.func 75) #[] #[]] w (Left (S (s.take (Cssp.run Cssp.blank s))) w b (s.drop (Cssp.run Cssp.blank s)) n o t) := by
  obtain ⟨c0, c1, c2, c3⟩ := h.cells
  obtain ⟨N, hN⟩ : ∃ N, Cssp.run Cssp.blank s = N := ⟨_, rfl⟩
  have hle := Cssp.run_le Cssp.blank s
  rw [hN] at hle ⊢
  have HT := hide (take_ s t b N n o w h hle)
  have HN : Hid (Cssp.run Cssp.blank (s.drop 0) = N) := by unfold Hid; rw [List.drop_zero]; exact hN
  clear h hN
  go_enter Tryz.func65, Tryz.ntmps65
  go_wp2_with fail
  go_loopg [5] s.length (fun g s5 wx => ∃ i : Nat, i + g = s.length ∧ s5 = .int .i64 i ∧ w = wx ∧ Hid (N = i + Cssp.run Cssp.blank (s.drop i)))
  case atStart => exact ⟨0, by omega, rfl, rfl, by unfold Hid; rw [HN.out]; omega⟩
  case round =>
    obtain ⟨i, hi, rfl, rfl, hd⟩ := hrel
    by_cases hlt : i < s.length
    · have b0 : (0 : Int) ≤ (i : Int) := by omega
      have b1 : (i : Int) < (s.length : Int) := by omega
      obtain ⟨x, hx⟩ : ∃ x, s[i] = x := ⟨_, rfl⟩
      have HX : Hid (s[i]? = some x) := by unfold Hid; rw [List.getElem?_eq_getElem hlt, hx]
      go_wp2_with fail
      refine (cBlank x _).mono ?_
      rintro e w' ⟨rfl, rfl⟩
      cases ha : Cssp.blank x
      · have hN2 : N = i := by
          have := hd.out
          rw [run_at HX.out, ha, if_neg (by decide)] at this
          omega
        subst hN2
        clear hd HX hx
        go_wp2_with fail
        refine HT.out.mono ?_
        rintro e w' ⟨rfl, h1, h2⟩
        go_wp2_with fail
        go_ret
        exact ⟨rfl, h1, h2⟩
      · have hd2 : Hid (N = (i + 1) + Cssp.run Cssp.blank (s.drop (i + 1))) := by
          have := hd.out
          rw [run_at HX.out, ha, if_pos rfl] at this
          unfold Hid; omega
        clear hd HX hx
        go_wp2_with fail
        go_roundg (gk - 1)
        case measure => omega
        case rel => exact ⟨i + 1, by omega, by go_num, rfl, hd2⟩
    · obtain rfl : i = s.length := by omega
      have hN2 : N = s.length := by
        have := hd.out
        rw [List.drop_length, Cssp.run] at this
        omega
      subst hN2
      have b1 : ¬ (s.length : Int) < (s.length : Int) := by omega
      clear hd
      go_wp2_with fail
      refine HT.out.mono ?_
      rintro e w' ⟨rfl, h1, h2⟩
      go_wp2_with fail
      go_ret
      exact ⟨by rw [List.take_length]; rfl, h1, h2⟩
set_option maxRecDepth 100000 in
theorem whileDigit (s t : List UInt8) (b : Nat) (n o : Bool) (w : World) (h : Lx w b s n o t) (hl : s.length ≤ 140737488355328) :
    Calls Tryz.prog 65 #[.pointer (some ⟨b, 0, none⟩), .func (.func 101) #[] #[]] w (Left (S (s.take (Cssp.run Cssp.digit s))) w b (s.drop (Cssp.run Cssp.digit s)) n o t) := by
  obtain ⟨c0, c1, c2, c3⟩ := h.cells
  obtain ⟨N, hN⟩ : ∃ N, Cssp.run Cssp.digit s = N := ⟨_, rfl⟩
  have hle := Cssp.run_le Cssp.digit s
  rw [hN] at hle ⊢
  have HT := hide (take_ s t b N n o w h hle)
  have HN : Hid (Cssp.run Cssp.digit (s.drop 0) = N) := by unfold Hid; rw [List.drop_zero]; exact hN
  clear h hN
  go_enter Tryz.func65, Tryz.ntmps65
  go_wp2_with fail
  go_loopg [5] s.length (fun g s5 wx => ∃ i : Nat, i + g = s.length ∧ s5 = .int .i64 i ∧ w = wx ∧ Hid (N = i + Cssp.run Cssp.digit (s.drop i)))
  case atStart => exact ⟨0, by omega, rfl, rfl, by unfold Hid; rw [HN.out]; omega⟩
  case round =>
    obtain ⟨i, hi, rfl, rfl, hd⟩ := hrel
    by_cases hlt : i < s.length
    · have b0 : (0 : Int) ≤ (i : Int) := by omega
      have b1 : (i : Int) < (s.length : Int) := by omega
      obtain ⟨x, hx⟩ : ∃ x, s[i] = x := ⟨_, rfl⟩
      have HX : Hid (s[i]? = some x) := by unfold Hid; rw [List.getElem?_eq_getElem hlt, hx]
      go_wp2_with fail
      refine (cDigit x _).mono ?_
      rintro e w' ⟨rfl, rfl⟩
      cases ha : Cssp.digit x
      · have hN2 : N = i := by
          have := hd.out
          rw [run_at HX.out, ha, if_neg (by decide)] at this
          omega
        subst hN2
        clear hd HX hx
        go_wp2_with fail
        refine HT.out.mono ?_
        rintro e w' ⟨rfl, h1, h2⟩
        go_wp2_with fail
        go_ret
        exact ⟨rfl, h1, h2⟩
      · have hd2 : Hid (N = (i + 1) + Cssp.run Cssp.digit (s.drop (i + 1))) := by
          have := hd.out
          rw [run_at HX.out, ha, if_pos rfl] at this
          unfold Hid; omega
        clear hd HX hx
        go_wp2_with fail
        go_roundg (gk - 1)
        case measure => omega
        case rel => exact ⟨i + 1, by omega, by go_num, rfl, hd2⟩
    · obtain rfl : i = s.length := by omega
      have hN2 : N = s.length := by
        have := hd.out
        rw [List.drop_length, Cssp.run] at this
        omega
      subst hN2
      have b1 : ¬ (s.length : Int) < (s.length : Int) := by omega
      clear hd
      go_wp2_with fail
      refine HT.out.mono ?_
      rintro e w' ⟨rfl, h1, h2⟩
      go_wp2_with fail
      go_ret
      exact ⟨by rw [List.take_length]; rfl, h1, h2⟩
set_option maxRecDepth 100000 in
theorem whileGoesOn (s t : List UInt8) (b : Nat) (n o : Bool) (w : World) (h : Lx w b s n o t) (hl : s.length ≤ 140737488355328) :
    Calls Tryz.prog 65 #[.pointer (some ⟨b, 0, none⟩), .func (.func 71) #[] #[]] w (Left (S (s.take (Cssp.run Cssp.goesOn s))) w b (s.drop (Cssp.run Cssp.goesOn s)) n o t) := by
  obtain ⟨c0, c1, c2, c3⟩ := h.cells
  obtain ⟨N, hN⟩ : ∃ N, Cssp.run Cssp.goesOn s = N := ⟨_, rfl⟩
  have hle := Cssp.run_le Cssp.goesOn s
  rw [hN] at hle ⊢
  have HT := hide (take_ s t b N n o w h hle)
  have HN : Hid (Cssp.run Cssp.goesOn (s.drop 0) = N) := by unfold Hid; rw [List.drop_zero]; exact hN
  clear h hN
  go_enter Tryz.func65, Tryz.ntmps65
  go_wp2_with fail
  go_loopg [5] s.length (fun g s5 wx => ∃ i : Nat, i + g = s.length ∧ s5 = .int .i64 i ∧ w = wx ∧ Hid (N = i + Cssp.run Cssp.goesOn (s.drop i)))
  case atStart => exact ⟨0, by omega, rfl, rfl, by unfold Hid; rw [HN.out]; omega⟩
  case round =>
    obtain ⟨i, hi, rfl, rfl, hd⟩ := hrel
    by_cases hlt : i < s.length
    · have b0 : (0 : Int) ≤ (i : Int) := by omega
      have b1 : (i : Int) < (s.length : Int) := by omega
      obtain ⟨x, hx⟩ : ∃ x, s[i] = x := ⟨_, rfl⟩
      have HX : Hid (s[i]? = some x) := by unfold Hid; rw [List.getElem?_eq_getElem hlt, hx]
      go_wp2_with fail
      refine (cGoesOn x _).mono ?_
      rintro e w' ⟨rfl, rfl⟩
      cases ha : Cssp.goesOn x
      · have hN2 : N = i := by
          have := hd.out
          rw [run_at HX.out, ha, if_neg (by decide)] at this
          omega
        subst hN2
        clear hd HX hx
        go_wp2_with fail
        refine HT.out.mono ?_
        rintro e w' ⟨rfl, h1, h2⟩
        go_wp2_with fail
        go_ret
        exact ⟨rfl, h1, h2⟩
      · have hd2 : Hid (N = (i + 1) + Cssp.run Cssp.goesOn (s.drop (i + 1))) := by
          have := hd.out
          rw [run_at HX.out, ha, if_pos rfl] at this
          unfold Hid; omega
        clear hd HX hx
        go_wp2_with fail
        go_roundg (gk - 1)
        case measure => omega
        case rel => exact ⟨i + 1, by omega, by go_num, rfl, hd2⟩
    · obtain rfl : i = s.length := by omega
      have hN2 : N = s.length := by
        have := hd.out
        rw [List.drop_length, Cssp.run] at this
        omega
      subst hN2
      have b1 : ¬ (s.length : Int) < (s.length : Int) := by omega
      clear hd
      go_wp2_with fail
      refine HT.out.mono ?_
      rintro e w' ⟨rfl, h1, h2⟩
      go_wp2_with fail
      go_ret
      exact ⟨by rw [List.take_length]; rfl, h1, h2⟩
set_option maxRecDepth 100000 in
theorem whileText (s t : List UInt8) (b : Nat) (n o : Bool) (w : World) (h : Lx w b s n o t) (hl : s.length ≤ 140737488355328) (q : UInt8) (bq : Nat) (hq : w.cell? ⟨bq, 0, none⟩ = some (.int .u8 q.toNat)) :
    Calls Tryz.prog 65 #[.pointer (some ⟨b, 0, none⟩), .func (.func 66) #[] #[.pointer (some ⟨bq, 0, none⟩)]] w (Left (S (s.take (Cssp.run (Cssp.strU q) s))) w b (s.drop (Cssp.run (Cssp.strU q) s)) n o t) := by
  obtain ⟨c0, c1, c2, c3⟩ := h.cells
  obtain ⟨N, hN⟩ : ∃ N, Cssp.run (Cssp.strU q) s = N := ⟨_, rfl⟩
  have hle := Cssp.run_le (Cssp.strU q) s
  rw [hN] at hle ⊢
  have HT := hide (take_ s t b N n o w h hle)
  have HN : Hid (Cssp.run (Cssp.strU q) (s.drop 0) = N) := by unfold Hid; rw [List.drop_zero]; exact hN
  clear h hN
  go_enter Tryz.func65, Tryz.ntmps65
  go_wp2_with fail
  go_loopg [5] s.length (fun g s5 wx => ∃ i : Nat, i + g = s.length ∧ s5 = .int .i64 i ∧ w = wx ∧ Hid (N = i + Cssp.run (Cssp.strU q) (s.drop i)))
  case atStart => exact ⟨0, by omega, rfl, rfl, by unfold Hid; rw [HN.out]; omega⟩
  case round =>
    obtain ⟨i, hi, rfl, rfl, hd⟩ := hrel
    by_cases hlt : i < s.length
    · have b0 : (0 : Int) ≤ (i : Int) := by omega
      have b1 : (i : Int) < (s.length : Int) := by omega
      obtain ⟨x, hx⟩ : ∃ x, s[i] = x := ⟨_, rfl⟩
      have HX : Hid (s[i]? = some x) := by unfold Hid; rw [List.getElem?_eq_getElem hlt, hx]
      go_wp2_with fail
      refine (text1 q x bq _ hq).mono ?_
      rintro e w' ⟨rfl, rfl⟩
      cases ha : (Cssp.strU q) x
      · have hN2 : N = i := by
          have := hd.out
          rw [run_at HX.out, ha, if_neg (by decide)] at this
          omega
        subst hN2
        clear hd HX hx
        go_wp2_with fail
        refine HT.out.mono ?_
        rintro e w' ⟨rfl, h1, h2⟩
        go_wp2_with fail
        go_ret
        exact ⟨rfl, h1, h2⟩
      · have hd2 : Hid (N = (i + 1) + Cssp.run (Cssp.strU q) (s.drop (i + 1))) := by
          have := hd.out
          rw [run_at HX.out, ha, if_pos rfl] at this
          unfold Hid; omega
        clear hd HX hx
        go_wp2_with fail
        go_roundg (gk - 1)
        case measure => omega
        case rel => exact ⟨i + 1, by omega, by go_num, rfl, hd2⟩
    · obtain rfl : i = s.length := by omega
      have hN2 : N = s.length := by
        have := hd.out
        rw [List.drop_length, Cssp.run] at this
        omega
      subst hN2
      have b1 : ¬ (s.length : Int) < (s.length : Int) := by omega
      clear hd
      go_wp2_with fail
      refine HT.out.mono ?_
      rintro e w' ⟨rfl, h1, h2⟩
      go_wp2_with fail
      go_ret
      exact ⟨by rw [List.take_length]; rfl, h1, h2⟩
set_option maxRecDepth 100000 in
theorem whileUrl1 (s t : List UInt8) (b : Nat) (n o : Bool) (w : World) (h : Lx w b s n o t) (hl : s.length ≤ 140737488355328) :
    Calls Tryz.prog 65 #[.pointer (some ⟨b, 0, none⟩), .func (.func 135) #[] #[]] w (Left (S (s.take (Cssp.run Cssp.plainU s))) w b (s.drop (Cssp.run Cssp.plainU s)) n o t) := by
  obtain ⟨c0, c1, c2, c3⟩ := h.cells
  obtain ⟨N, hN⟩ : ∃ N, Cssp.run Cssp.plainU s = N := ⟨_, rfl⟩
  have hle := Cssp.run_le Cssp.plainU s
  rw [hN] at hle ⊢
  have HT := hide (take_ s t b N n o w h hle)
  have HN : Hid (Cssp.run Cssp.plainU (s.drop 0) = N) := by unfold Hid; rw [List.drop_zero]; exact hN
  clear h hN
  go_enter Tryz.func65, Tryz.ntmps65
  go_wp2_with fail
  go_loopg [5] s.length (fun g s5 wx => ∃ i : Nat, i + g = s.length ∧ s5 = .int .i64 i ∧ w = wx ∧ Hid (N = i + Cssp.run Cssp.plainU (s.drop i)))
  case atStart => exact ⟨0, by omega, rfl, rfl, by unfold Hid; rw [HN.out]; omega⟩
  case round =>
    obtain ⟨i, hi, rfl, rfl, hd⟩ := hrel
    by_cases hlt : i < s.length
    · have b0 : (0 : Int) ≤ (i : Int) := by omega
      have b1 : (i : Int) < (s.length : Int) := by omega
      obtain ⟨x, hx⟩ : ∃ x, s[i] = x := ⟨_, rfl⟩
      have HX : Hid (s[i]? = some x) := by unfold Hid; rw [List.getElem?_eq_getElem hlt, hx]
      go_wp2_with fail
      refine (url1 x _).mono ?_
      rintro e w' ⟨rfl, rfl⟩
      cases ha : Cssp.plainU x
      · have hN2 : N = i := by
          have := hd.out
          rw [run_at HX.out, ha, if_neg (by decide)] at this
          omega
        subst hN2
        clear hd HX hx
        go_wp2_with fail
        refine HT.out.mono ?_
        rintro e w' ⟨rfl, h1, h2⟩
        go_wp2_with fail
        go_ret
        exact ⟨rfl, h1, h2⟩
      · have hd2 : Hid (N = (i + 1) + Cssp.run Cssp.plainU (s.drop (i + 1))) := by
          have := hd.out
          rw [run_at HX.out, ha, if_pos rfl] at this
          unfold Hid; omega
        clear hd HX hx
        go_wp2_with fail
        go_roundg (gk - 1)
        case measure => omega
        case rel => exact ⟨i + 1, by omega, by go_num, rfl, hd2⟩
    · obtain rfl : i = s.length := by omega
      have hN2 : N = s.length := by
        have := hd.out
        rw [List.drop_length, Cssp.run] at this
        omega
      subst hN2
      have b1 : ¬ (s.length : Int) < (s.length : Int) := by omega
      clear hd
      go_wp2_with fail
      refine HT.out.mono ?_
      rintro e w' ⟨rfl, h1, h2⟩
      go_wp2_with fail
      go_ret
      exact ⟨by rw [List.take_length]; rfl, h1, h2⟩
set_option maxRecDepth 100000 in
theorem whileUrl2 (s t : List UInt8) (b : Nat) (n o : Bool) (w : World) (h : Lx w b s n o t) (hl : s.length ≤ 140737488355328) :
    Calls Tryz.prog 65 #[.pointer (some ⟨b, 0, none⟩), .func (.func 136) #[] #[]] w (Left (S (s.take (Cssp.run Cssp.plainU s))) w b (s.drop (Cssp.run Cssp.plainU s)) n o t) := by
  obtain ⟨c0, c1, c2, c3⟩ := h.cells
  obtain ⟨N, hN⟩ : ∃ N, Cssp.run Cssp.plainU s = N := ⟨_, rfl⟩
  have hle := Cssp.run_le Cssp.plainU s
  rw [hN] at hle ⊢
  have HT := hide (take_ s t b N n o w h hle)
  have HN : Hid (Cssp.run Cssp.plainU (s.drop 0) = N) := by unfold Hid; rw [List.drop_zero]; exact hN
  clear h hN
  go_enter Tryz.func65, Tryz.ntmps65
  go_wp2_with fail
  go_loopg [5] s.length (fun g s5 wx => ∃ i : Nat, i + g = s.length ∧ s5 = .int .i64 i ∧ w = wx ∧ Hid (N = i + Cssp.run Cssp.plainU (s.drop i)))
  case atStart => exact ⟨0, by omega, rfl, rfl, by unfold Hid; rw [HN.out]; omega⟩
  case round =>
    obtain ⟨i, hi, rfl, rfl, hd⟩ := hrel
    by_cases hlt : i < s.length
    · have b0 : (0 : Int) ≤ (i : Int) := by omega
      have b1 : (i : Int) < (s.length : Int) := by omega
      obtain ⟨x, hx⟩ : ∃ x, s[i] = x := ⟨_, rfl⟩
      have HX : Hid (s[i]? = some x) := by unfold Hid; rw [List.getElem?_eq_getElem hlt, hx]
      go_wp2_with fail
      refine (url2 x _).mono ?_
      rintro e w' ⟨rfl, rfl⟩
      cases ha : Cssp.plainU x
      · have hN2 : N = i := by
          have := hd.out
          rw [run_at HX.out, ha, if_neg (by decide)] at this
          omega
        subst hN2
        clear hd HX hx
        go_wp2_with fail
        refine HT.out.mono ?_
        rintro e w' ⟨rfl, h1, h2⟩
        go_wp2_with fail
        go_ret
        exact ⟨rfl, h1, h2⟩
      · have hd2 : Hid (N = (i + 1) + Cssp.run Cssp.plainU (s.drop (i + 1))) := by
          have := hd.out
          rw [run_at HX.out, ha, if_pos rfl] at this
          unfold Hid; omega
        clear hd HX hx
        go_wp2_with fail
        go_roundg (gk - 1)
        case measure => omega
        case rel => exact ⟨i + 1, by omega, by go_num, rfl, hd2⟩
    · obtain rfl : i = s.length := by omega
      have hN2 : N = s.length := by
        have := hd.out
        rw [List.drop_length, Cssp.run] at this
        omega
      subst hN2
      have b1 : ¬ (s.length : Int) < (s.length : Int) := by omega
      clear hd
      go_wp2_with fail
      refine HT.out.mono ?_
      rintro e w' ⟨rfl, h1, h2⟩
      go_wp2_with fail
      go_ret
      exact ⟨by rw [List.take_length]; rfl, h1, h2⟩
set_option maxRecDepth 100000 in
theorem whileBad (s t : List UInt8) (b : Nat) (n o : Bool) (w : World) (h : Lx w b s n o t) (hl : s.length ≤ 140737488355328) :
    Calls Tryz.prog 65 #[.pointer (some ⟨b, 0, none⟩), .func (.func 152) #[] #[]] w (Left (S (s.take (Cssp.run Cssp.badC s))) w b (s.drop (Cssp.run Cssp.badC s)) n o t) := by
  obtain ⟨c0, c1, c2, c3⟩ := h.cells
  obtain ⟨N, hN⟩ : ∃ N, Cssp.run Cssp.badC s = N := ⟨_, rfl⟩
  have hle := Cssp.run_le Cssp.badC s
  rw [hN] at hle ⊢
  have HT := hide (take_ s t b N n o w h hle)
  have HN : Hid (Cssp.run Cssp.badC (s.drop 0) = N) := by unfold Hid; rw [List.drop_zero]; exact hN
  clear h hN
  go_enter Tryz.func65, Tryz.ntmps65
  go_wp2_with fail
  go_loopg [5] s.length (fun g s5 wx => ∃ i : Nat, i + g = s.length ∧ s5 = .int .i64 i ∧ w = wx ∧ Hid (N = i + Cssp.run Cssp.badC (s.drop i)))
  case atStart => exact ⟨0, by omega, rfl, rfl, by unfold Hid; rw [HN.out]; omega⟩
  case round =>
    obtain ⟨i, hi, rfl, rfl, hd⟩ := hrel
    by_cases hlt : i < s.length
    · have b0 : (0 : Int) ≤ (i : Int) := by omega
      have b1 : (i : Int) < (s.length : Int) := by omega
      obtain ⟨x, hx⟩ : ∃ x, s[i] = x := ⟨_, rfl⟩
      have HX : Hid (s[i]? = some x) := by unfold Hid; rw [List.getElem?_eq_getElem hlt, hx]
      go_wp2_with fail
      refine (bad1 x _).mono ?_
      rintro e w' ⟨rfl, rfl⟩
      cases ha : Cssp.badC x
      · have hN2 : N = i := by
          have := hd.out
          rw [run_at HX.out, ha, if_neg (by decide)] at this
          omega
        subst hN2
        clear hd HX hx
        go_wp2_with fail
        refine HT.out.mono ?_
        rintro e w' ⟨rfl, h1, h2⟩
        go_wp2_with fail
        go_ret
        exact ⟨rfl, h1, h2⟩
      · have hd2 : Hid (N = (i + 1) + Cssp.run Cssp.badC (s.drop (i + 1))) := by
          have := hd.out
          rw [run_at HX.out, ha, if_pos rfl] at this
          unfold Hid; omega
        clear hd HX hx
        go_wp2_with fail
        go_roundg (gk - 1)
        case measure => omega
        case rel => exact ⟨i + 1, by omega, by go_num, rfl, hd2⟩
    · obtain rfl : i = s.length := by omega
      have hN2 : N = s.length := by
        have := hd.out
        rw [List.drop_length, Cssp.run] at this
        omega
      subst hN2
      have b1 : ¬ (s.length : Int) < (s.length : Int) := by omega
      clear hd
      go_wp2_with fail
      refine HT.out.mono ?_
      rintro e w' ⟨rfl, h1, h2⟩
      go_wp2_with fail
      go_ret
      exact ⟨by rw [List.take_length]; rfl, h1, h2⟩
end Go.Proofs.YtojgcangnkjmjaaGreatDoor
