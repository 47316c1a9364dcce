/- strconv.ParseUint, hex, unit, unicode. -/
import Derived.Test.YtngccmlcopcghaaGreatDoorSa
import Derived.Test.YtngccmlcopcghaaGreatDoorQg
namespace Go.Proofs.YtngccmlcopcghaaGreatDoor
open Go.RowKit

/-- a number, or an error -/
def ParsedU (s : List UInt8) (w : World) (e : Ending) (w' : World) : Prop :=
  ∃ (v : Int) (ev : Value), e = .returned (.tuple #[.int .u64 v, ev]) ∧ Below w.heap.size w w' ∧ ((s ≠ [] ∧ Jsp.pur 0 s = .ok v ∧ ev = .nilIface) ∨ ((s = [] ∨ ∀ v0, Jsp.pur 0 s ≠ .ok v0) ∧ ∃ t p, ev = .iface t p))
set_option maxRecDepth 100000 in
theorem parseU (s : List UInt8) (w : World) (ht : Tab w) (hl : s.length ≤ 4194304) : Calls Tryz.prog 158 #[S s, .int .i64 16, .int .i64 32] w (ParsedU s w) := by
  obtain ⟨t1, p1, hs1⟩ := ht.syn
  obtain ⟨t2, p2, hs2⟩ := ht.rng
  by_cases h0 : s = []
  · subst h0
    have H1 := hide (Tryz.internal_strconv_ParseUint_empty 16 32 w)
    go_enter Tryz.func158, Tryz.ntmps158
    go_wp2_with fail
    refine H1.out.mono ?_
    rintro e w1 ⟨rfl, rfl⟩
    clear H1
    go_wp2_with fail
    refine (Tryz.strconv_toError_syntax _ ⟨#[]⟩ 16 32 _ _ (by decide) hs1 (.inr ⟨_, _, rfl⟩)).mono ?_
    rintro e w2 ⟨N, rfl, -, -, hb2⟩
    go_wp2_with fail
    refine bodyPost_ret (v := .tuple #[.int .u64 0, .iface 185 (.pointer (some ⟨N, 0, none⟩))]) (by simp [results, Tryz.results158, go_sem]) rfl ?_
    exact ⟨0, _, rfl, hb2, .inr ⟨.inl rfl, _, _, rfl⟩⟩
  · obtain ⟨r, hr⟩ : ∃ r, Jsp.pur 0 s = r := ⟨_, rfl⟩
    have H1 := hide (inPU s r w (List.length_pos_iff.2 h0) hl hr)
    have HR := hide hr
    have H0 := hide h0
    have hlim : (⟨s.toArray⟩ : ByteArray).size ≤ 281474976710656 := by rw [bl_size]; omega
    have HL := hide hlim
    clear hr h0 hl hlim
    go_enter Tryz.func158, Tryz.ntmps158
    go_wp2_with fail
    refine H1.out.mono ?_
    rintro e w1 ⟨rfl, hb⟩
    clear H1
    cases r with
    | ok v =>
      unfold purV
      clear hs1 hs2
      go_wp2_with fail
      refine bodyPost_ret (v := .tuple #[.int .u64 v, .nilIface]) (by simp [results, Tryz.results158, go_sem]) rfl ?_
      exact ⟨v, _, rfl, hb, .inl ⟨H0.out, HR.out, rfl⟩⟩
    | syn =>
      have hs1' := cell_below hs1 hb
      unfold purV
      clear hs1 hs2
      go_wp2_with fail
      refine (Tryz.strconv_toError_syntax _ ⟨s.toArray⟩ 16 32 _ _ HL.out hs1' (.inr ⟨_, _, rfl⟩)).mono ?_
      rintro e w2 ⟨N, rfl, -, -, hb2⟩
      go_wp2_with fail
      refine bodyPost_ret (v := .tuple #[.int .u64 0, .iface 185 (.pointer (some ⟨N, 0, none⟩))]) (by simp [results, Tryz.results158, go_sem]) rfl ?_
      exact ⟨0, _, rfl, hb.trans (hb2.mono hb.size), .inr ⟨.inr fun v0 e => (by rw [HR.out] at e; cases e), _, _, rfl⟩⟩
    | rng =>
      have hs2' := cell_below hs2 hb
      unfold purV
      clear hs1 hs2
      go_wp2_with fail
      refine (Tryz.strconv_toError_range _ ⟨s.toArray⟩ 16 32 _ _ HL.out hs2' (.inr ⟨_, _, rfl⟩)).mono ?_
      rintro e w2 ⟨N, rfl, -, -, hb2⟩
      go_wp2_with fail
      refine bodyPost_ret (v := .tuple #[.int .u64 4294967295, .iface 185 (.pointer (some ⟨N, 0, none⟩))]) (by simp [results, Tryz.results158, go_sem]) rfl ?_
      exact ⟨_, _, rfl, hb.trans (hb2.mono hb.size), .inr ⟨.inr fun v0 e => (by rw [HR.out] at e; cases e), _, _, rfl⟩⟩
/-- a number of so many digits -/
def HexP (s : List UInt8) (n : Nat) (w : World) (e : Ending) (w' : World) : Prop :=
  ∃ (v : Int) (ok : Bool), e = .returned (.tuple #[.int .i32 v, .bool ok]) ∧ Below w.heap.size w w' ∧ (n ≤ 6 → (Jsp.hexOf s n = none → ok = false) ∧ ∀ k, Jsp.hexOf s n = some k → ok = true ∧ v = (k : Int))
theorem foldl_lt : ∀ (l : List UInt8) (n v : Nat), l.foldl Jsp.hexStep (some n) = some v → v < (n + 1) * 16 ^ l.length
  | [], n, v, h => by injection h with h; simp; omega
  | c :: l, n, v, h => by
    rw [List.foldl_cons] at h
    by_cases hd : Jsp.hexV c < 0
    · have : Jsp.hexStep (some n) c = none := by unfold Jsp.hexStep; simp only; rw [if_pos hd]
      rw [this, Jsp.hexStep_none] at h; cases h
    · have h16 := Jsp.hexV_hi c
      have : Jsp.hexStep (some n) c = some (n * 16 + (Jsp.hexV c).toNat) := by unfold Jsp.hexStep; simp only; rw [if_neg hd]
      rw [this] at h
      have ih := foldl_lt l _ v h
      rw [List.length_cons, Nat.pow_succ, Nat.mul_comm (16 ^ l.length) 16, ← Nat.mul_assoc]
      exact Nat.lt_of_lt_of_le ih (Nat.mul_le_mul_right _ (by omega))
theorem hexN_lt {l : List UInt8} {v : Nat} (h : Jsp.hexN l = some v) (hl : l.length ≤ 6) : v < 16777216 := by
  rw [Jsp.hexN_eq] at h
  split at h
  · cases h
  · have h1 := foldl_lt l 0 v h
    have h2 : 16 ^ l.length ≤ 16 ^ 6 := Nat.pow_le_pow_right (by decide) hl
    omega
set_option maxRecDepth 100000 in
theorem jHexF (s : List UInt8) (n : Nat) (w : World) (ht : Tab w) (hl : s.length ≤ 4194304) : Calls Tryz.prog 141 #[S s, .int .i64 (n : Int)] w (HexP s n w) := by
  by_cases hn : s.length < n
  · have q : decide ((s.length : Int) < (n : Int)) = true := by simp; omega
    have hh : Jsp.hexOf s n = none := by unfold Jsp.hexOf; rw [if_pos hn]
    have HH := hide hh
    clear hh ht
    go_enter Tryz.func141, Tryz.ntmps141
    go_wp2_with fail
    refine bodyPost_ret (v := .tuple #[.int .i32 0, .bool false]) (by simp [results, Tryz.results141, go_sem]) rfl ?_
    exact ⟨0, false, rfl, Below.refl _ _, fun _ => ⟨fun _ => rfl, fun k h => by rw [HH.out] at h; cases h⟩⟩
  · have q : decide ((s.length : Int) < (n : Int)) = false := by simp; omega
    have b1 : (n : Int) ≤ (s.length : Int) := by omega
    have b0 : (0 : Int) ≤ (n : Int) := by omega
    have hh : Jsp.hexOf s n = Jsp.hexN (s.take n) := by unfold Jsp.hexOf; rw [if_neg hn]
    have hlen : (s.take n).length = n := by rw [List.length_take]; omega
    have H1 := hide (parseU (s.take n) w ht (by rw [hlen]; omega))
    have hcase : n ≤ 6 → s.take n ≠ [] → Jsp.pur 0 (s.take n) = match Jsp.hexN (s.take n) with | none => .syn | some v => .ok (v : Int) := fun h h0 => Jsp.pur_hexN _ h0 (by omega)
    have hlt : ∀ v, n ≤ 6 → Jsp.hexN (s.take n) = some v → v < 16777216 := fun v h hv => hexN_lt hv (by omega)
    have hnil : s.take n = [] → Jsp.hexN (s.take n) = none := fun h => by rw [Jsp.hexN_eq, if_pos h]
    rw [← hh] at hcase hlt hnil
    have HC := hide hcase
    have HLT := hide hlt
    have HN := hide hnil
    clear hh hcase hlt hnil hlen hn ht
    go_enter Tryz.func141, Tryz.ntmps141
    go_wp2_with fail
    refine H1.out.mono ?_
    rintro e w1 ⟨v, ev, rfl, hb, hE⟩
    clear H1
    rcases hE with ⟨h1, h2, rfl⟩ | ⟨h1, t, p, rfl⟩
    · have H1 := hide h1
      have H2 := hide h2
      clear h1 h2
      go_wp2_with fail
      go_quiet (fail)
      go_wp2_with fail
      refine bodyPost_ret (v := .tuple #[.int .i32 (wrap32 v), .bool true]) (by simp [results, Tryz.results141, go_sem]) rfl ?_
      refine ⟨_, true, rfl, hb.trans ((belowN _ _).mono hb.size), fun h6 => ?_⟩
      have hC := HC.out h6 H1.out
      rw [H2.out] at hC
      cases hx : Jsp.hexOf s n with
      | none => rw [hx] at hC; cases hC
      | some k =>
        rw [hx] at hC
        injection hC with hC
        refine ⟨fun h => (by cases h), fun j hj => ⟨rfl, ?_⟩⟩
        injection hj with hj
        have := HLT.out k h6 hx
        rw [hC, ← hj]
        exact IntWalk.wrap32_in _ (by omega)
    · have H1 := hide h1
      clear h1
      go_wp2_with fail
      go_quiet (fail)
      go_wp2_with fail
      refine bodyPost_ret (v := .tuple #[.int .i32 (wrap32 v), .bool false]) (by simp [results, Tryz.results141, go_sem]) rfl ?_
      refine ⟨_, false, rfl, hb.trans ((belowN _ _).mono hb.size), fun h6 => ⟨fun _ => rfl, fun k hk => ?_⟩⟩
      exfalso
      rcases H1.out with h | h
      · rw [HN.out h] at hk; cases hk
      · by_cases h0 : s.take n = []
        · rw [HN.out h0] at hk; cases hk
        · have hC := HC.out h6 h0
          rw [hk] at hC
          exact h _ hC
end Go.Proofs.YtngccmlcopcghaaGreatDoor
namespace Go.Proofs.YtngccmlcopcghaaGreatDoor
open Go.RowKit

theorem enc_eq (n : Nat) : Utf8.encode (n : Int) = ⟨(Lib.encodeRune n).toArray⟩ := by
  unfold Lib.encodeRune Utf8.encode
  by_cases hbad : (55296 ≤ (n : Int) ∧ (n : Int) ≤ 57343) ∨ 1114111 < (n : Int)
  · rw [Lib.encodeRuneZ_bad (.inr hbad)]
    have hv : Utf8.valid (n : Int) = false := by rw [← Bool.not_eq_true]; unfold Utf8.valid; simp; omega
    simp only [hv, Bool.false_eq_true, if_false]
    rfl
  · have hv : Utf8.valid (n : Int) = true := by unfold Utf8.valid; simp; omega
    simp only [hv, if_true, Int.toNat_natCast]
    by_cases h1 : n < 128
    · rw [if_pos h1, Lib.encodeRuneZ_one (by omega) (by omega)]
      simp
    rw [if_neg h1]
    by_cases h2 : n < 2048
    · rw [if_pos h2, Lib.encodeRuneZ_two (by omega) (by omega)]
      simp only [List.map_cons, List.map_nil]
      rw [show (192 + (n : Int) / 64).toNat = 192 + n / 64 by omega, show (128 + (n : Int) % 64).toNat = 128 + n % 64 by omega]
    rw [if_neg h2]
    by_cases h3 : n < 65536
    · rw [if_pos h3, Lib.encodeRuneZ_three (by omega)]
      simp only [List.map_cons, List.map_nil]
      rw [show (224 + (n : Int) / 4096).toNat = 224 + n / 4096 by omega, show (128 + (n : Int) / 64 % 64).toNat = 128 + n / 64 % 64 by omega, show (128 + (n : Int) % 64).toNat = 128 + n % 64 by omega]
    rw [if_neg h3, Lib.encodeRuneZ_four (by omega) (by omega)]
    simp only [List.map_cons, List.map_nil]
    rw [show (240 + (n : Int) / 262144).toNat = 240 + n / 262144 by omega, show (128 + (n : Int) / 4096 % 64).toNat = 128 + n / 4096 % 64 by omega, show (128 + (n : Int) / 64 % 64).toNat = 128 + n / 64 % 64 by omega, show (128 + (n : Int) % 64).toNat = 128 + n % 64 by omega]
theorem enc_S (n : Nat) : Value.string (Utf8.encode (n : Int)) = S (Jsp.chr n) := by rw [enc_eq]; rfl

theorem unit_lt {s : List UInt8} {v k : Nat} (h : Jsp.unit s = some (v, k)) : v < 1114112 ∧ k ≤ s.length + 3 := by
  unfold Jsp.unit at h
  split at h
  · simp only at h
    split at h
    · cases hx : Jsp.hexN ((s.drop 2).take (Jsp.runH (s.drop 2))) with
      | none => rw [hx] at h; cases h
      | some n =>
        rw [hx] at h
        simp only at h
        split at h
        · cases h
        · injection h with h
          injection h with h1 h2
          have : ((s.drop 2).take (Jsp.runH (s.drop 2))).length ≤ s.length := by rw [List.length_take, List.length_drop]; omega
          omega
    · cases h
  · cases hx : Jsp.hexOf (s.drop 1) 4 with
    | none => rw [hx] at h; cases h
    | some n =>
      rw [hx] at h
      injection h with h
      injection h with h1 h2
      unfold Jsp.hexOf at hx
      split at hx
      · cases hx
      · rename_i hl
        rw [Jsp.hexN_eq] at hx
        split at hx
        · cases hx
        · have h3 := foldl_lt _ 0 _ hx
          have : ((s.drop 1).take 4).length = 4 := by rw [List.length_take]; omega
          rw [this] at h3
          rw [List.length_drop] at hl
          omega
/-- the number of a u, and its bytes; or none -/
def UnitP (s : List UInt8) (w : World) (e : Ending) (w' : World) : Prop := Fresh (.tuple #[.int .i32 (match Jsp.unit s with | none => 0 | some (v, _) => (v : Int)), .int .i64 (match Jsp.unit s with | none => -1 | some (_, k) => (k : Int))]) w e w'
theorem UnitP.none {s : List UInt8} {w : World} {e : Ending} {w' : World} (h : Jsp.unit s = none) (hf : Fresh (.tuple #[.int .i32 0, .int .i64 (-1)]) w e w') : UnitP s w e w' := by unfold UnitP; rw [h]; exact hf
theorem UnitP.some {s : List UInt8} {v k : Nat} {w : World} {e : Ending} {w' : World} (h : Jsp.unit s = some (v, k)) (hf : Fresh (.tuple #[.int .i32 (v : Int), .int .i64 (k : Int)]) w e w') : UnitP s w e w' := by unfold UnitP; rw [h]; exact hf
theorem trimPre_hit (p s : List UInt8) : Lib.trimPrefix (p ++ s) p = s := by
  unfold Lib.trimPrefix
  simp [Lib.hasPrefix]
set_option maxRecDepth 100000 in
set_option maxHeartbeats 2000000 in
theorem jUnit (r : List UInt8) (w : World) (ht : Tab w) (h11 : 7 ≤ w.heap.size) (hl : r.length ≤ 4194000) : Calls Tryz.prog 108 #[S (117 :: r), ] w (UnitP (117 :: r) w) := by
  by_cases hb : ∃ D, r = 123 :: D
  · obtain ⟨D, rfl⟩ := hb
    have hu := Jsp.unit_brace D
    have hP := hide (sCutPre (117 :: 123 :: D) [117, 123] w)
    rw [show (117 :: 123 :: D : List UInt8) = [117, 123] ++ D from rfl, trimPre_hit, show ([117, 123] : List UInt8).isPrefixOf ([117, 123] ++ D) = true from by simp [List.isPrefixOf]] at hP
    have hC := fun W (hT : Tab W) => hide (sCut D [125] W hT (by simp only [List.length_cons] at hl; omega))
    simp only [List.length_cons] at hl
    obtain ⟨d, x, is, hcut⟩ : ∃ d x is, Lib.cut D [125] = (d, x, is) := ⟨_, _, _, rfl⟩
    have hdl : d.length ≤ D.length := by
      rcases Jsp.cut_one 125 D with ⟨h1, h2⟩ | ⟨a, r, h1, h2, h3⟩
      · rw [hcut] at h2
        injection h2 with h2
        rw [h2]; exact Nat.le_refl _
      · rw [hcut] at h3
        injection h3 with h3
        rw [h3, h1]; simp
    rw [hcut] at hu hC
    simp only at hu hC
    have HU := hide hu
    have hH := fun W (hT : Tab W) => hide (jHexF d d.length W hT (by omega))
    have hde : Jsp.hexOf d d.length = Jsp.hexN d := by unfold Jsp.hexOf; rw [if_neg (by omega), List.take_length]
    have HDE := hide hde
    have HT := hide ht
    have hS : S (117 :: 123 :: D) = S ([117, 123] ++ D) := rfl
    rw [hS]
    obtain ⟨Z, hZ⟩ : ∃ Z, ([117, 123] ++ D : List UInt8) = Z := ⟨_, rfl⟩
    rw [hZ] at hP ⊢
    have HZ := hide hZ
    clear hu hcut hde ht hZ hS
    go_enter Tryz.func108, Tryz.ntmps108
    go_wp2_with fail
    refine hP.out.mono ?_
    rintro e w1 ⟨rfl, rfl⟩
    go_wp2_with fail
    refine (hC w HT.out).out.mono ?_
    rintro e w1 ⟨rfl, nq, rfl⟩
    go_wp2_with fail
    refine (hH (w.drewN nq) (HT.out.below h11 (belowN w nq))).out.mono ?_
    rintro e w2 ⟨v, ok, rfl, hb2, hk⟩
    have hb3 : Below w.heap.size w w2 := (belowN w nq).trans hb2
    have HK := hide hk
    clear hP hC hH hb2 hk
    cases is with
    | false =>
      have hn : Jsp.unit (117 :: 123 :: D) = none := by rw [HU.out]; simp
      have HN := hide hn
      clear hn
      go_wp2_with fail
      refine bodyPost_ret (v := .tuple #[.int .i32 0, .int .i64 (-1)]) (by simp [results, Tryz.results108, go_sem]) rfl ?_
      exact UnitP.none HN.out ⟨rfl, hb3⟩
    | true =>
      cases ok with
      | false =>
        have hn : Jsp.unit (117 :: 123 :: D) = none := by
          rw [HU.out]
          simp only [true_and]
          split
          · rename_i h6
            have := HK.out h6
            rw [HDE.out] at this
            cases hx : Jsp.hexN d with
            | none => rfl
            | some k => exact absurd (this.2 k hx).1 (by decide)
          · rfl
        have HN := hide hn
        clear hn
        go_wp2_with fail
        refine bodyPost_ret (v := .tuple #[.int .i32 0, .int .i64 (-1)]) (by simp [results, Tryz.results108, go_sem]) rfl ?_
        exact UnitP.none HN.out ⟨rfl, hb3⟩
      | true =>
        by_cases h6 : d.length ≤ 6
        · have q6 : decide ((6 : Int) < (d.length : Int)) = false := by simp; omega
          have hK := HK.out h6
          rw [HDE.out] at hK
          cases hx : Jsp.hexN d with
          | none => exact absurd (hK.1 hx) (by decide)
          | some k =>
            obtain ⟨-, hv⟩ := hK.2 k hx
            have HX := hide hx
            have H6 := hide h6
            subst hv
            clear hx hK h6
            by_cases hm : 1114111 < k
            · have qm : decide ((1114111 : Int) < (k : Int)) = true := by simp; omega
              have hn : Jsp.unit (117 :: 123 :: D) = none := by
                rw [HU.out, HX.out]
                simp only [true_and, H6.out, if_true]
                rw [if_pos hm]
              have HN := hide hn
              clear hn hm
              go_wp2_with fail
              refine bodyPost_ret (v := .tuple #[.int .i32 0, .int .i64 (-1)]) (by simp [results, Tryz.results108, go_sem]) rfl ?_
              exact UnitP.none HN.out ⟨rfl, hb3⟩
            · have qm : decide ((1114111 : Int) < (k : Int)) = false := by simp; omega
              have hn : Jsp.unit (117 :: 123 :: D) = some (k, d.length + 3) := by
                rw [HU.out, HX.out]
                simp only [true_and, H6.out, if_true]
                rw [if_neg hm]
              have HN := hide hn
              have hw : wrap64 ((d.length : Int) + 3) = (d.length : Int) + 3 := by have := H6.out; unfold wrap64; omega
              clear hn hm
              go_wp2_with fail
              refine bodyPost_ret (v := .tuple #[.int .i32 (k : Int), .int .i64 ((d.length + 3 : Nat) : Int)]) (by simp [results, Tryz.results108, go_sem]) rfl ?_
              exact UnitP.some HN.out ⟨rfl, hb3⟩
        · have q6 : decide ((6 : Int) < (d.length : Int)) = true := by simp; omega
          have hn : Jsp.unit (117 :: 123 :: D) = none := by
            rw [HU.out]
            simp [h6]
          have HN := hide hn
          clear hn h6
          go_wp2_with fail
          refine bodyPost_ret (v := .tuple #[.int .i32 0, .int .i64 (-1)]) (by simp [results, Tryz.results108, go_sem]) rfl ?_
          exact UnitP.none HN.out ⟨rfl, hb3⟩
  · have hu := Jsp.unit_plain r (fun D h => hb ⟨D, h⟩)
    have hP := hide (sCutPre (117 :: r) [117, 123] w)
    have hnp : ([117, 123] : List UInt8).isPrefixOf (117 :: r) = false := by
      rw [← Bool.not_eq_true]
      intro e
      obtain ⟨t, ht⟩ := List.isPrefixOf_iff_prefix.1 e
      injection ht with h1 h2
      exact hb ⟨t, h2.symm⟩
    rw [hnp] at hP
    have hT := hide (sTrimPre (117 :: r) [117] w)
    rw [show (117 :: r : List UInt8) = [117] ++ r from rfl, trimPre_hit] at hT
    have hH := hide (jHexF r 4 w ht (by omega))
    have HU := hide hu
    have hS : S (117 :: r) = S ([117] ++ r) := rfl
    have hPS : Lib.trimPrefix (117 :: r) [117, 123] = [117] ++ r := by
      unfold Lib.trimPrefix
      unfold Lib.hasPrefix
      rw [hnp]
      rfl
    rw [hPS] at hP
    rw [hS] at hP ⊢
    obtain ⟨Z, hZ⟩ : ∃ Z, ([117] ++ r : List UInt8) = Z := ⟨_, rfl⟩
    rw [hZ] at hP hT ⊢
    have HZ := hide hZ
    clear hu hnp ht hS hPS hZ hb
    go_enter Tryz.func108, Tryz.ntmps108
    go_wp2_with fail
    refine hP.out.mono ?_
    rintro e w1 ⟨rfl, rfl⟩
    go_wp2_with fail
    refine hT.out.mono ?_
    rintro e w1 ⟨rfl, rfl⟩
    go_wp2_with fail
    refine hH.out.mono ?_
    rintro e w2 ⟨v, ok, rfl, hb2, hk⟩
    have hK := hk (by decide)
    clear hP hT hH hk
    cases hx : Jsp.hexOf r 4 with
    | none =>
      obtain rfl := hK.1 hx
      have hn : Jsp.unit (117 :: r) = none := by rw [HU.out, hx]
      have HN := hide hn
      clear hn hK hx
      go_wp2_with fail
      refine bodyPost_ret (v := .tuple #[.int .i32 0, .int .i64 (-1)]) (by simp [results, Tryz.results108, go_sem]) rfl ?_
      exact UnitP.none HN.out ⟨rfl, hb2⟩
    | some k =>
      obtain ⟨rfl, rfl⟩ := hK.2 k hx
      have hn : Jsp.unit (117 :: r) = some (k, 5) := by rw [HU.out, hx]
      have HN := hide hn
      clear hn hK hx
      go_wp2_with fail
      refine bodyPost_ret (v := .tuple #[.int .i32 (k : Int), .int .i64 ((5 : Nat) : Int)]) (by simp [results, Tryz.results108, go_sem]) rfl ?_
      exact UnitP.some HN.out ⟨rfl, hb2⟩
end Go.Proofs.YtngccmlcopcghaaGreatDoor
