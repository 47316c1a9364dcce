/- unicode. -/
import Derived.Test.YtngccmlcopcghaaGreatDoorSa
import Derived.Test.YtngccmlcopcghaaGreatDoorQl
import Derived.Test.YtngccmlcopcghaaGreatDoorTb
set_option maxRecDepth 100000
set_option maxHeartbeats 8000000
namespace Go.Proofs.YtngccmlcopcghaaGreatDoor
open Go.RowKit
def ParsedU (s : List UInt8) (w : World) (e : Ending) (w' : World) : Prop :=
 ∃ (v : Int) (ev : Value), e = .returned (.tuple #[.int .u64 v, ev]) /\ Below w.heap.size w w' /\ ((s ≠ [] /\ Jsp.pur 0 s = .ok v /\ ev = .nilIface) \/ ((s = [] \/ ∀ v0, Jsp.pur 0 s ≠ .ok v0) /\ ∃ t p, ev = .iface t p))
theorem parseU (s : List UInt8) (w : World) (ht : Tab w) (hl : s.length <= 4194304) : Calls Tryz.prog 158 #[S s, .int .i64 16, .int .i64 32] w (ParsedU s w) := by
 obtain ⟨t1, p1, hs1⟩ := ht.syn
 obtain ⟨t2, p2, hs2⟩ := ht.rng
 by_cases h0 : s = []
 ·subst h0
  have H1 := hide (Tryz.internal_strconv_ParseUint_empty 16 32 w)
  go_enter Tryz.func158, Tryz.ntmps158
  go_wp2_with fail
  refine H1.out.mono ?_
  rintro e w1 ⟨rfl, rfl⟩
  clear H1
  go_wp2_with fail
  refine (Tryz.strconv_toError_syntax _ ⟨#[]⟩ 16 32 _ _ (by decide) hs1 (.inr ⟨_, _, rfl⟩)).mono ?_
  rintro e w2 ⟨N, rfl, -, -, hb2⟩
  go_wp2_with fail
  refine bodyPost_ret (v := .tuple #[.int .u64 0, .iface 185 (.pointer (some ⟨N, 0, none⟩))]) (by simp [results, Tryz.results158, go_sem]) rfl ?_
  exact ⟨0, _, rfl, hb2, .inr ⟨.inl rfl, _, _, rfl⟩⟩
 ·obtain ⟨r, hr⟩ : ∃ r, Jsp.pur 0 s = r := ⟨_, rfl⟩
  have H1 := hide (inPU s r w (List.length_pos_iff.2 h0) hl hr)
  have HR := hide hr
  have H0 := hide h0
  have hlim : (⟨s.toArray⟩ : ByteArray).size <= 281474976710656 := by rw [bl_size]; omega
  have HL := hide hlim
  clear hr h0 hl hlim
  go_enter Tryz.func158, Tryz.ntmps158
  go_wp2_with fail
  refine H1.out.mono ?_
  rintro e w1 ⟨rfl, hb⟩
  clear H1
  cases r with
  | ok v =>
   unfold purV
   clear hs1 hs2
   go_wp2_with fail
   refine bodyPost_ret (v := .tuple #[.int .u64 v, .nilIface]) (by simp [results, Tryz.results158, go_sem]) rfl ?_
   exact ⟨v, _, rfl, hb, .inl ⟨H0.out, HR.out, rfl⟩⟩
  | syn =>
   have hs1' := cell_below hs1 hb
   unfold purV
   clear hs1 hs2
   go_wp2_with fail
   refine (Tryz.strconv_toError_syntax _ ⟨s.toArray⟩ 16 32 _ _ HL.out hs1' (.inr ⟨_, _, rfl⟩)).mono ?_
   rintro e w2 ⟨N, rfl, -, -, hb2⟩
   go_wp2_with fail
   refine bodyPost_ret (v := .tuple #[.int .u64 0, .iface 185 (.pointer (some ⟨N, 0, none⟩))]) (by simp [results, Tryz.results158, go_sem]) rfl ?_
   exact ⟨0, _, rfl, hb.trans (hb2.mono hb.size), .inr ⟨.inr fun v0 e => (by rw [HR.out] at e; cases e), _, _, rfl⟩⟩
  | rng =>
   have hs2' := cell_below hs2 hb
   unfold purV
   clear hs1 hs2
   go_wp2_with fail
   refine (Tryz.strconv_toError_range _ ⟨s.toArray⟩ 16 32 _ _ HL.out hs2' (.inr ⟨_, _, rfl⟩)).mono ?_
   rintro e w2 ⟨N, rfl, -, -, hb2⟩
   go_wp2_with fail
   refine bodyPost_ret (v := .tuple #[.int .u64 4294967295, .iface 185 (.pointer (some ⟨N, 0, none⟩))]) (by simp [results, Tryz.results158, go_sem]) rfl ?_
   exact ⟨_, _, rfl, hb.trans (hb2.mono hb.size), .inr ⟨.inr fun v0 e => (by rw [HR.out] at e; cases e), _, _, rfl⟩⟩
def HexP (s : List UInt8) (n : Nat) (w : World) (e : Ending) (w' : World) : Prop :=
 ∃ (v : Int) (ok : Bool), e = .returned (.tuple #[.int .i32 v, .bool ok]) /\ Below w.heap.size w w' /\ (n <= 6 -> (Jsp.hexOf s n = none -> ok = false) /\ ∀ k, Jsp.hexOf s n = some k -> ok = true /\ v = (k : Int))
theorem foldl_lt : ∀ (l : List UInt8) (n v : Nat), l.foldl Jsp.hexStep (some n) = some v -> v < (n + 1) * 16 ^ l.length
 | [], n, v, h => by injection h with h; simp; omega
 | c :: l, n, v, h => by
  rw [List.foldl_cons] at h
  by_cases hd : Jsp.hexV c < 0
  ·have : Jsp.hexStep (some n) c = none := by unfold Jsp.hexStep; simp only; rw [if_pos hd]
   rw [this, Jsp.hexStep_none] at h; cases h
  ·have h16 := Jsp.hexV_hi c
   have : Jsp.hexStep (some n) c = some (n * 16 + (Jsp.hexV c).toNat) := by unfold Jsp.hexStep; simp only; rw [if_neg hd]
   rw [this] at h
   have ih := foldl_lt l _ v h
   rw [List.length_cons, Nat.pow_succ, Nat.mul_comm (16 ^ l.length) 16, <- Nat.mul_assoc]
   exact Nat.lt_of_lt_of_le ih (Nat.mul_le_mul_right _ (by omega))
theorem hexN_lt {l : List UInt8} {v : Nat} (h : Jsp.hexN l = some v) (hl : l.length <= 6) : v < 16777216 := by
 rw [Jsp.hexN_eq] at h
 split at h
 ·cases h
 ·have h1 := foldl_lt l 0 v h
  have h2 : 16 ^ l.length <= 16 ^ 6 := Nat.pow_le_pow_right (by decide) hl
  omega
theorem jHexF (s : List UInt8) (n : Nat) (w : World) (ht : Tab w) (hl : s.length <= 4194304) : Calls Tryz.prog 141 #[S s, .int .i64 (n : Int)] w (HexP s n w) := by
 by_cases hn : s.length < n
 ·have q : decide ((s.length : Int) < (n : Int)) = true := by simp; omega
  have hh : Jsp.hexOf s n = none := by unfold Jsp.hexOf; rw [if_pos hn]
  have HH := hide hh
  clear hh ht
  go_enter Tryz.func141, Tryz.ntmps141
  go_wp2_with fail
  refine bodyPost_ret (v := .tuple #[.int .i32 0, .bool false]) (by simp [results, Tryz.results141, go_sem]) rfl ?_
  exact ⟨0, false, rfl, Below.refl _ _, fun _ => ⟨fun _ => rfl, fun k h => by rw [HH.out] at h; cases h⟩⟩
 ·have q : decide ((s.length : Int) < (n : Int)) = false := by simp; omega
  have b1 : (n : Int) <= (s.length : Int) := by omega
  have b0 : (0 : Int) <= (n : Int) := by omega
  have hh : Jsp.hexOf s n = Jsp.hexN (s.take n) := by unfold Jsp.hexOf; rw [if_neg hn]
  have hlen : (s.take n).length = n := by rw [List.length_take]; omega
  have H1 := hide (parseU (s.take n) w ht (by rw [hlen]; omega))
  have hcase : n <= 6 -> s.take n ≠ [] -> Jsp.pur 0 (s.take n) = match Jsp.hexN (s.take n) with | none => .syn | some v => .ok (v : Int) := fun h h0 => Jsp.pur_hexN _ h0 (by omega)
  have hlt : ∀ v, n <= 6 -> Jsp.hexN (s.take n) = some v -> v < 16777216 := fun v h hv => hexN_lt hv (by omega)
  have hnil : s.take n = [] -> Jsp.hexN (s.take n) = none := fun h => by rw [Jsp.hexN_eq, if_pos h]
  rw [<- hh] at hcase hlt hnil
  have HC := hide hcase
  have HLT := hide hlt
  have HN := hide hnil
  clear hh hcase hlt hnil hlen hn ht
  go_enter Tryz.func141, Tryz.ntmps141
  go_wp2_with fail
  refine H1.out.mono ?_
  rintro e w1 ⟨v, ev, rfl, hb, hE⟩
  clear H1
  rcases hE with ⟨h1, h2, rfl⟩ | ⟨h1, t, p, rfl⟩
  ·have H1 := hide h1
   have H2 := hide h2
   clear h1 h2
   go_wp2_with fail
   go_quiet (fail)
   go_wp2_with fail
   refine bodyPost_ret (v := .tuple #[.int .i32 (wrap32 v), .bool true]) (by simp [results, Tryz.results141, go_sem]) rfl ?_
   refine ⟨_, true, rfl, hb.trans ((belowN _ _).mono hb.size), fun h6 => ?_⟩
   have hC := HC.out h6 H1.out
   rw [H2.out] at hC
   cases hx : Jsp.hexOf s n with
   | none => rw [hx] at hC; cases hC
   | some k =>
    rw [hx] at hC
    injection hC with hC
    refine ⟨fun h => (by cases h), fun j hj => ⟨rfl, ?_⟩⟩
    injection hj with hj
    have := HLT.out k h6 hx
    rw [hC, <- hj]
    exact IntWalk.wrap32_in _ (by omega)
  ·have H1 := hide h1
   clear h1
   go_wp2_with fail
   go_quiet (fail)
   go_wp2_with fail
   refine bodyPost_ret (v := .tuple #[.int .i32 (wrap32 v), .bool false]) (by simp [results, Tryz.results141, go_sem]) rfl ?_
   refine ⟨_, false, rfl, hb.trans ((belowN _ _).mono hb.size), fun h6 => ⟨fun _ => rfl, fun k hk => ?_⟩⟩
   exfalso
   rcases H1.out with h | h
   ·rw [HN.out h] at hk; cases hk
   ·by_cases h0 : s.take n = []
    ·rw [HN.out h0] at hk; cases hk
    ·have hC := HC.out h6 h0
     rw [hk] at hC
     exact h _ hC
theorem enc_eq (n : Nat) : Utf8.encode (n : Int) = ⟨(Lib.encodeRune n).toArray⟩ := by
 unfold Lib.encodeRune Utf8.encode
 by_cases hbad : (55296 <= (n : Int) /\ (n : Int) <= 57343) \/ 1114111 < (n : Int)
 ·rw [Lib.encodeRuneZ_bad (.inr hbad)]
  have hv : Utf8.valid (n : Int) = false := by rw [<- Bool.not_eq_true]; unfold Utf8.valid; simp; omega
  simp only [hv, Bool.false_eq_true, if_false]
  rfl
 ·have hv : Utf8.valid (n : Int) = true := by unfold Utf8.valid; simp; omega
  simp only [hv, if_true, Int.toNat_natCast]
  by_cases h1 : n < 128
  ·rw [if_pos h1, Lib.encodeRuneZ_one (by omega) (by omega)]
   simp
  rw [if_neg h1]
  by_cases h2 : n < 2048
  ·rw [if_pos h2, Lib.encodeRuneZ_two (by omega) (by omega)]
   simp only [List.map_cons, List.map_nil]
   rw [show (192 + (n : Int) / 64).toNat = 192 + n / 64 by omega, show (128 + (n : Int) % 64).toNat = 128 + n % 64 by omega]
  rw [if_neg h2]
  by_cases h3 : n < 65536
  ·rw [if_pos h3, Lib.encodeRuneZ_three (by omega)]
   simp only [List.map_cons, List.map_nil]
   rw [show (224 + (n : Int) / 4096).toNat = 224 + n / 4096 by omega, show (128 + (n : Int) / 64 % 64).toNat = 128 + n / 64 % 64 by omega, show (128 + (n : Int) % 64).toNat = 128 + n % 64 by omega]
  rw [if_neg h3, Lib.encodeRuneZ_four (by omega) (by omega)]
  simp only [List.map_cons, List.map_nil]
  rw [show (240 + (n : Int) / 262144).toNat = 240 + n / 262144 by omega, show (128 + (n : Int) / 4096 % 64).toNat = 128 + n / 4096 % 64 by omega, show (128 + (n : Int) / 64 % 64).toNat = 128 + n / 64 % 64 by omega, show (128 + (n : Int) % 64).toNat = 128 + n % 64 by omega]
theorem enc_S (n : Nat) : Value.string (Utf8.encode (n : Int)) = S (Jsp.chr n) := by rw [enc_eq]; rfl
theorem unit_lt {s : List UInt8} {v k : Nat} (h : Jsp.unit s = some (v, k)) : v < 1114112 /\ k <= s.length + 3 := by
 unfold Jsp.unit at h
 split at h
 ·simp only at h
  split at h
  ·cases hx : Jsp.hexN ((s.drop 2).take (Jsp.runH (s.drop 2))) with
   | none => rw [hx] at h; cases h
   | some n =>
    rw [hx] at h
    simp only at h
    split at h
    ·cases h
    ·injection h with h
     injection h with h1 h2
     have : ((s.drop 2).take (Jsp.runH (s.drop 2))).length <= s.length := by rw [List.length_take, List.length_drop]; omega
     omega
  ·cases h
 ·cases hx : Jsp.hexOf (s.drop 1) 4 with
  | none => rw [hx] at h; cases h
  | some n =>
   rw [hx] at h
   injection h with h
   injection h with h1 h2
   unfold Jsp.hexOf at hx
   split at hx
   ·cases hx
   ·rename_i hl
    rw [Jsp.hexN_eq] at hx
    split at hx
    ·cases hx
    ·have h3 := foldl_lt _ 0 _ hx
     have : ((s.drop 1).take 4).length = 4 := by rw [List.length_take]; omega
     rw [this] at h3
     rw [List.length_drop] at hl
     omega
def UnitP (s : List UInt8) (w : World) (e : Ending) (w' : World) : Prop := Fresh (.tuple #[.int .i32 (match Jsp.unit s with | none => 0 | some (v, _) => (v : Int)), .int .i64 (match Jsp.unit s with | none => -1 | some (_, k) => (k : Int))]) w e w'
theorem UnitP.none {s : List UInt8} {w : World} {e : Ending} {w' : World} (h : Jsp.unit s = none) (hf : Fresh (.tuple #[.int .i32 0, .int .i64 (-1)]) w e w') : UnitP s w e w' := by unfold UnitP; rw [h]; exact hf
theorem UnitP.some {s : List UInt8} {v k : Nat} {w : World} {e : Ending} {w' : World} (h : Jsp.unit s = some (v, k)) (hf : Fresh (.tuple #[.int .i32 (v : Int), .int .i64 (k : Int)]) w e w') : UnitP s w e w' := by unfold UnitP; rw [h]; exact hf
theorem trimPre_hit (p s : List UInt8) : Lib.trimPrefix (p ++ s) p = s := by
 unfold Lib.trimPrefix
 simp [Lib.hasPrefix]
theorem jUnit (r : List UInt8) (w : World) (ht : Tab w) (h11 : 7 <= w.heap.size) (hl : r.length <= 4194000) : Calls Tryz.prog 108 #[S (117 :: r), ] w (UnitP (117 :: r) w) := by
 by_cases hb : ∃ D, r = 123 :: D
 ·obtain ⟨D, rfl⟩ := hb
  have hu := Jsp.unit_brace D
  have hP := hide (sCutPre (117 :: 123 :: D) [117, 123] w)
  rw [show (117 :: 123 :: D : List UInt8) = [117, 123] ++ D from rfl, trimPre_hit, show ([117, 123] : List UInt8).isPrefixOf ([117, 123] ++ D) = true from by simp [List.isPrefixOf]] at hP
  have hC := fun W (hT : Tab W) => hide (sCut D [125] W hT (by simp only [List.length_cons] at hl; omega))
  simp only [List.length_cons] at hl
  obtain ⟨d, x, is, hcut⟩ : ∃ d x is, Lib.cut D [125] = (d, x, is) := ⟨_, _, _, rfl⟩
  have hdl : d.length <= D.length := by
   rcases Jsp.cut_one 125 D with ⟨h1, h2⟩ | ⟨a, r, h1, h2, h3⟩
   ·rw [hcut] at h2
    injection h2 with h2
    rw [h2]; exact Nat.le_refl _
   ·rw [hcut] at h3
    injection h3 with h3
    rw [h3, h1]; simp
  rw [hcut] at hu hC
  simp only at hu hC
  have HU := hide hu
  have hH := fun W (hT : Tab W) => hide (jHexF d d.length W hT (by omega))
  have hde : Jsp.hexOf d d.length = Jsp.hexN d := by unfold Jsp.hexOf; rw [if_neg (by omega), List.take_length]
  have HDE := hide hde
  have HT := hide ht
  have hS : S (117 :: 123 :: D) = S ([117, 123] ++ D) := rfl
  rw [hS]
  obtain ⟨Z, hZ⟩ : ∃ Z, ([117, 123] ++ D : List UInt8) = Z := ⟨_, rfl⟩
  rw [hZ] at hP ⊢
  clear hu hcut hde ht hZ hS
  go_enter Tryz.func108, Tryz.ntmps108
  go_wp2_with fail
  refine hP.out.mono ?_
  rintro e w1 ⟨rfl, rfl⟩
  go_wp2_with fail
  refine (hC w HT.out).out.mono ?_
  rintro e w1 ⟨rfl, nq, rfl⟩
  go_wp2_with fail
  refine (hH (w.drewN nq) (HT.out.below h11 (belowN w nq))).out.mono ?_
  rintro e w2 ⟨v, ok, rfl, hb2, hk⟩
  have hb3 : Below w.heap.size w w2 := (belowN w nq).trans hb2
  have HK := hide hk
  clear hP hC hH hb2 hk
  cases is with
  | false =>
   have hn : Jsp.unit (117 :: 123 :: D) = none := by rw [HU.out]; simp
   have HN := hide hn
   clear hn
   go_wp2_with fail
   refine bodyPost_ret (v := .tuple #[.int .i32 0, .int .i64 (-1)]) (by simp [results, Tryz.results108, go_sem]) rfl ?_
   exact UnitP.none HN.out ⟨rfl, hb3⟩
  | true =>
   cases ok with
   | false =>
    have hn : Jsp.unit (117 :: 123 :: D) = none := by
     rw [HU.out]
     simp only [true_and]
     split
     ·rename_i h6
      have := HK.out h6
      rw [HDE.out] at this
      cases hx : Jsp.hexN d with
      | none => rfl
      | some k => exact absurd (this.2 k hx).1 (by decide)
     ·rfl
    have HN := hide hn
    clear hn
    go_wp2_with fail
    refine bodyPost_ret (v := .tuple #[.int .i32 0, .int .i64 (-1)]) (by simp [results, Tryz.results108, go_sem]) rfl ?_
    exact UnitP.none HN.out ⟨rfl, hb3⟩
   | true =>
    by_cases h6 : d.length <= 6
    ·have q6 : decide ((6 : Int) < (d.length : Int)) = false := by simp; omega
     have hK := HK.out h6
     rw [HDE.out] at hK
     cases hx : Jsp.hexN d with
     | none => exact absurd (hK.1 hx) (by decide)
     | some k =>
      obtain ⟨-, hv⟩ := hK.2 k hx
      have HX := hide hx
      have H6 := hide h6
      subst hv
      clear hx hK h6
      by_cases hm : 1114111 < k
      ·have qm : decide ((1114111 : Int) < (k : Int)) = true := by simp; omega
       have hn : Jsp.unit (117 :: 123 :: D) = none := by
        rw [HU.out, HX.out]
        simp only [true_and, H6.out, if_true]
        rw [if_pos hm]
       have HN := hide hn
       clear hn hm
       go_wp2_with fail
       refine bodyPost_ret (v := .tuple #[.int .i32 0, .int .i64 (-1)]) (by simp [results, Tryz.results108, go_sem]) rfl ?_
       exact UnitP.none HN.out ⟨rfl, hb3⟩
      ·have qm : decide ((1114111 : Int) < (k : Int)) = false := by simp; omega
       have hn : Jsp.unit (117 :: 123 :: D) = some (k, d.length + 3) := by
        rw [HU.out, HX.out]
        simp only [true_and, H6.out, if_true]
        rw [if_neg hm]
       have HN := hide hn
       have hw : wrap64 ((d.length : Int) + 3) = (d.length : Int) + 3 := by have := H6.out; unfold wrap64; omega
       clear hn hm
       go_wp2_with fail
       refine bodyPost_ret (v := .tuple #[.int .i32 (k : Int), .int .i64 ((d.length + 3 : Nat) : Int)]) (by simp [results, Tryz.results108, go_sem]) rfl ?_
       exact UnitP.some HN.out ⟨rfl, hb3⟩
    ·have q6 : decide ((6 : Int) < (d.length : Int)) = true := by simp; omega
     have hn : Jsp.unit (117 :: 123 :: D) = none := by
      rw [HU.out]
      simp [h6]
     have HN := hide hn
     clear hn h6
     go_wp2_with fail
     refine bodyPost_ret (v := .tuple #[.int .i32 0, .int .i64 (-1)]) (by simp [results, Tryz.results108, go_sem]) rfl ?_
     exact UnitP.none HN.out ⟨rfl, hb3⟩
 ·have hu := Jsp.unit_plain r (fun D h => hb ⟨D, h⟩)
  have hP := hide (sCutPre (117 :: r) [117, 123] w)
  have hnp : ([117, 123] : List UInt8).isPrefixOf (117 :: r) = false := by
   rw [<- Bool.not_eq_true]
   intro e
   obtain ⟨t, ht⟩ := List.isPrefixOf_iff_prefix.1 e
   injection ht with h1 h2
   exact hb ⟨t, h2.symm⟩
  rw [hnp] at hP
  have hT := hide (sTrimPre (117 :: r) [117] w)
  rw [show (117 :: r : List UInt8) = [117] ++ r from rfl, trimPre_hit] at hT
  have hH := hide (jHexF r 4 w ht (by omega))
  have HU := hide hu
  have hS : S (117 :: r) = S ([117] ++ r) := rfl
  have hPS : Lib.trimPrefix (117 :: r) [117, 123] = [117] ++ r := by
   unfold Lib.trimPrefix
   unfold Lib.hasPrefix
   rw [hnp]
   rfl
  rw [hPS] at hP
  rw [hS] at hP ⊢
  obtain ⟨Z, hZ⟩ : ∃ Z, ([117] ++ r : List UInt8) = Z := ⟨_, rfl⟩
  rw [hZ] at hP hT ⊢
  clear hu hnp ht hS hPS hZ hb
  go_enter Tryz.func108, Tryz.ntmps108
  go_wp2_with fail
  refine hP.out.mono ?_
  rintro e w1 ⟨rfl, rfl⟩
  go_wp2_with fail
  refine hT.out.mono ?_
  rintro e w1 ⟨rfl, rfl⟩
  go_wp2_with fail
  refine hH.out.mono ?_
  rintro e w2 ⟨v, ok, rfl, hb2, hk⟩
  have hK := hk (by decide)
  clear hP hT hH hk
  cases hx : Jsp.hexOf r 4 with
  | none =>
   obtain rfl := hK.1 hx
   have hn : Jsp.unit (117 :: r) = none := by rw [HU.out, hx]
   have HN := hide hn
   clear hn hK hx
   go_wp2_with fail
   refine bodyPost_ret (v := .tuple #[.int .i32 0, .int .i64 (-1)]) (by simp [results, Tryz.results108, go_sem]) rfl ?_
   exact UnitP.none HN.out ⟨rfl, hb2⟩
  | some k =>
   obtain ⟨rfl, rfl⟩ := hK.2 k hx
   have hn : Jsp.unit (117 :: r) = some (k, 5) := by rw [HU.out, hx]
   have HN := hide hn
   clear hn hK hx
   go_wp2_with fail
   refine bodyPost_ret (v := .tuple #[.int .i32 (k : Int), .int .i64 ((5 : Nat) : Int)]) (by simp [results, Tryz.results108, go_sem]) rfl ?_
   exact UnitP.some HN.out ⟨rfl, hb2⟩
theorem unit_le {s : List UInt8} {v k : Nat} (h : Jsp.unit s = some (v, k)) : 1 <= k /\ k <= s.length := by
 unfold Jsp.unit at h
 split at h
 ·simp only at h
  split at h
  ·rename_i q
   cases hx : Jsp.hexN ((s.drop 2).take (Jsp.runH (s.drop 2))) with
   | none => rw [hx] at h; cases h
   | some n =>
    rw [hx] at h
    simp only at h
    split at h
    ·cases h
    ·injection h with h
     injection h with h1 h2
     have hb := q.1
     cases hr : s.drop (2 + ((s.drop 2).take (Jsp.runH (s.drop 2))).length) with
     | nil => rw [hr] at hb; cases hb
     | cons c r =>
      have hl := congrArg List.length hr
      rw [List.length_drop, List.length_cons] at hl
      omega
  ·cases h
 ·cases hx : Jsp.hexOf (s.drop 1) 4 with
  | none => rw [hx] at h; cases h
  | some n =>
   rw [hx] at h
   injection h with h
   injection h with h1 h2
   have := (Jsp.hexOf_some hx).1
   rw [List.length_drop] at this
   omega
def TxP (r : Option (List UInt8 × Nat)) (w : World) (e : Ending) (w' : World) : Prop :=
 ∃ (y : List UInt8) (k : Int), e = .returned (.tuple #[S y, .int .i64 k]) /\ Below w.heap.size w w' /\ (r = none -> k = -1) /\ ∀ x n, r = some (x, n) -> y = x /\ k = (n : Int)
theorem TxP.none {w : World} {e : Ending} {w' : World} (y : List UInt8) (he : e = .returned (.tuple #[S y, .int .i64 (-1)])) (hb : Below w.heap.size w w') : TxP none w e w' := ⟨y, -1, he, hb, fun _ => rfl, fun x n h => by cases h⟩
theorem TxP.some {w : World} {e : Ending} {w' : World} {x : List UInt8} {n : Nat} (he : e = .returned (.tuple #[S x, .int .i64 (n : Int)])) (hb : Below w.heap.size w w') : TxP (some (x, n)) w e w' := ⟨x, n, he, hb, fun h => (by cases h), fun y m h => by cases h; exact ⟨rfl, rfl⟩⟩
theorem jUnicode (r : List UInt8) (w : World) (ht : Tab w) (h11 : 7 <= w.heap.size) (hl : r.length <= 4190000) : Calls Tryz.prog 146 #[S (117 :: r)] w (TxP (Jsp.unicode (117 :: r)) w) := by
 have hU := hide (jUnit r w ht h11 (by omega))
 obtain ⟨s, hs⟩ : ∃ s, (117 :: r : List UInt8) = s := ⟨_, rfl⟩
 have hsl : s.length <= 4190001 := by rw [<- hs]; simp only [List.length_cons]; omega
 have hU2 := fun t W (hT : Tab W) (h11' : 7 <= W.heap.size) (hl' : t.length <= 4190000) => hide (jUnit t W hT h11' (by omega))
 unfold UnitP at hU
 rw [hs] at hU ⊢
 obtain ⟨R, hR⟩ : ∃ R, Jsp.unicode s = R := ⟨_, rfl⟩
 rw [hR]
 unfold Jsp.unicode at hR
 have HT := hide ht
 have H11 := hide h11
 clear ht h11 hs hl
 cases hu : Jsp.unit s with
 | none =>
  rw [hu] at hU hR
  have HR := hide hR
  clear hR hu hU2
  go_enter Tryz.func146, Tryz.ntmps146
  go_wp2_with fail
  refine hU.out.mono ?_
  rintro e w1 ⟨rfl, hb⟩
  go_wp2_with fail
  refine bodyPost_ret (v := .tuple #[.string (Utf8.encode ((0 : Nat) : Int)), .int .i64 (-1)]) (by simp [results, Tryz.results146, go_sem]) rfl ?_
  rw [enc_S, <- HR.out]
  exact TxP.none _ rfl hb
 | some p =>
  obtain ⟨v, k⟩ := p
  rw [hu] at hU hR
  simp only at hU hR
  obtain ⟨hk1, hk2⟩ := unit_le hu
  have hv := (unit_lt hu).1
  have qk : decide ((0 : Int) < (k : Int)) = true := by simp; omega
  obtain ⟨V, hVV⟩ : ∃ V : Int, V = (v : Int) := ⟨_, rfl⟩
  rw [<- hVV] at hU
  have HVV := hide hVV
  clear hu hVV hv
  go_enter Tryz.func146, Tryz.ntmps146
  go_wp2_with fail
  refine hU.out.mono ?_
  rintro e w1 ⟨rfl, hb⟩
  clear hU
  have plainEnd : ∀ {w2 : World} {e : Ending}, some (Jsp.chr v, k) = R -> Below w.heap.size w w2 -> e = .returned (.tuple #[.string (Utf8.encode V), .int .i64 (k : Int)]) -> TxP R w e w2 := fun h hb he => by
   rw [<- h]
   rw [HVV.out, enc_S] at he
   exact TxP.some he hb
  have HPE := fun {w2 : World} {e : Ending} h h2 h3 => hide (@plainEnd w2 e h h2 h3)
  clear plainEnd
  by_cases h1 : 55296 <= v
  ·have q1 : decide ((55296 : Int) <= V) = true := by rw [HVV.out]; simp; omega
   have H1 := hide h1
   clear h1
   by_cases h2 : v < 56320
   ·have q2 : decide (V < (56320 : Int)) = true := by rw [HVV.out]; simp; omega
    have H2 := hide h2
    clear h2
    have b0 : (0 : Int) <= (k : Int) := by omega
    have b1 : (k : Int) <= (s.length : Int) := by omega
    have hP := fun W => hide (sHasPre (s.drop k) [92, 117] W)
    cases hp : ([92, 117] : List UInt8).isPrefixOf (s.drop k) with
    | false =>
     rw [hp] at hP
     rw [if_neg (by rw [hp]; simp)] at hR
     have HR := hide hR
     clear hR hU2 hp
     go_wp2_with fail
     refine (hP _).out.mono ?_
     rintro e w2 ⟨rfl, rfl⟩
     go_wp2_with fail
     refine bodyPost_ret (v := .tuple #[.string (Utf8.encode V), .int .i64 (k : Int)]) (by simp [results, Tryz.results146, go_sem]) rfl ?_
     exact (HPE HR.out hb rfl).out
    | true =>
     rw [hp] at hP
     rw [if_pos ⟨H1.out, H2.out, hp⟩] at hR
     obtain ⟨t, ht⟩ := List.isPrefixOf_iff_prefix.1 hp
     have hm1 : s.drop (k + 1) = 117 :: t := by rw [<- List.drop_drop, <- ht]; rfl
     have htl : t.length <= 4190000 := by
      have := congrArg List.length hm1
      rw [List.length_drop, List.length_cons] at this
      omega
     have hkl : k + 1 <= s.length := by
      have := congrArg List.length hm1
      rw [List.length_drop, List.length_cons] at this
      omega
     have b2 : (0 : Int) <= (k : Int) + 1 := by omega
     have b3 : (k : Int) + 1 <= (s.length : Int) := by omega
     have b4 : ((k : Int) + 1).toNat = k + 1 := by omega
     have bw : wrap64 ((k : Int) + 1) = (k : Int) + 1 := by unfold wrap64; omega
     have hV := (hU2 t w1 (HT.out.below H11.out (hb.mono (Nat.le_refl _))) (Nat.le_trans H11.out hb.size) htl).out
     unfold UnitP at hV
     rw [<- hm1] at hV
     have HV := hide hV
     clear hV hU2 hp ht hm1
     cases hu2 : Jsp.unit (s.drop (k + 1)) with
     | none =>
      rw [hu2] at HV hR
      have HR := hide hR
      clear hR hu2
      go_wp2_with fail
      refine (hP _).out.mono ?_
      rintro e w2 ⟨rfl, rfl⟩
      go_wp2_with fail
      refine HV.out.mono ?_
      rintro e w2 ⟨rfl, hb2⟩
      go_wp2_with fail
      refine bodyPost_ret (v := .tuple #[.string (Utf8.encode V), .int .i64 (k : Int)]) (by simp [results, Tryz.results146, go_sem]) rfl ?_
      exact (HPE HR.out (hb.trans (hb2.mono hb.size)) rfl).out
     | some p2 =>
      obtain ⟨x, j⟩ := p2
      rw [hu2] at HV hR
      simp only at HV hR
      obtain ⟨hj1, hj2⟩ := unit_le hu2
      rw [List.length_drop] at hj2
      have hx := (unit_lt hu2).1
      obtain ⟨X, hXX⟩ : ∃ X : Int, X = (x : Int) := ⟨_, rfl⟩
      rw [<- hXX] at HV
      have HXX := hide hXX
      clear hXX hx
      have qj : decide ((0 : Int) < (j : Int)) = true := by simp; omega
      clear hu2
      by_cases h3 : 56320 <= x /\ x < 57344
      ·rw [if_pos h3] at hR
       have q3 : decide ((56320 : Int) <= X) = true := by rw [HXX.out]; simp; omega
       have q4 : decide (X < (57344 : Int)) = true := by rw [HXX.out]; simp; omega
       have H3 := hide h3
       clear h3
       have HR := hide hR
       clear hR
       go_wp2_with fail
       refine (hP _).out.mono ?_
       rintro e w2 ⟨rfl, rfl⟩
       go_wp2_with fail
       refine HV.out.mono ?_
       rintro e w2 ⟨rfl, hb2⟩
       go_wp2_with fail
       refine bodyPost_ret (v := .tuple #[.string (Utf8.encode (wrap32 (wrap32 (wrap32 (65536 + wrap32 (wrap32 (V - 55296) * 1024)) + X) - 56320))), .int .i64 ((k : Int) + 1 + (j : Int))]) (by simp [results, Tryz.results146, go_sem]) rfl ?_
       have a1 := HVV.out
       have a2 := HXX.out
       have a3 := H1.out
       have a4 := H2.out
       have a5 := H3.out
       have e1 : wrap32 (V - 55296) = V - 55296 := IntWalk.wrap32_in _ (by omega)
       have e2 : wrap32 ((V - 55296) * 1024) = (V - 55296) * 1024 := IntWalk.wrap32_in _ (by omega)
       have e3 : wrap32 (65536 + (V - 55296) * 1024) = 65536 + (V - 55296) * 1024 := IntWalk.wrap32_in _ (by omega)
       have e4 : wrap32 (65536 + (V - 55296) * 1024 + X) = 65536 + (V - 55296) * 1024 + X := IntWalk.wrap32_in _ (by omega)
       have e5 : wrap32 (65536 + (V - 55296) * 1024 + X - 56320) = ((65536 + (v - 55296) * 1024 + x - 56320 : Nat) : Int) := by rw [IntWalk.wrap32_in _ (by omega)]; omega
       rw [e1, e2, e3, e4, e5, enc_S, <- HR.out, show (k : Int) + 1 + (j : Int) = ((k + 1 + j : Nat) : Int) by omega]
       exact TxP.some rfl (hb.trans (hb2.mono hb.size))
      ·rw [if_neg h3] at hR
       have HR := hide hR
       clear hR
       have hq : decide ((56320 : Int) <= X) = false \/ (decide ((56320 : Int) <= X) = true /\ decide (X < (57344 : Int)) = false) := by
        rw [HXX.out]
        by_cases h : 56320 <= x
        ·exact .inr ⟨by simp; omega, by simp; omega⟩
        ·exact .inl (by simp; omega)
       clear h3
       rcases hq with q3 | ⟨q3, q4⟩
       all_goals
        go_wp2_with fail
        refine (hP _).out.mono ?_
        rintro e w2 ⟨rfl, rfl⟩
        go_wp2_with fail
        refine HV.out.mono ?_
        rintro e w2 ⟨rfl, hb2⟩
        go_wp2_with fail
        refine bodyPost_ret (v := .tuple #[.string (Utf8.encode V), .int .i64 (k : Int)]) (by simp [results, Tryz.results146, go_sem]) rfl ?_
        exact (HPE HR.out (hb.trans (hb2.mono hb.size)) rfl).out
   ·have q2 : decide (V < (56320 : Int)) = false := by rw [HVV.out]; simp; omega
    rw [if_neg (fun h => h2 h.2.1)] at hR
    have HR := hide hR
    clear hR hU2 h2
    go_wp2_with fail
    refine bodyPost_ret (v := .tuple #[.string (Utf8.encode V), .int .i64 (k : Int)]) (by simp [results, Tryz.results146, go_sem]) rfl ?_
    exact (HPE HR.out hb rfl).out
  ·have q1 : decide ((55296 : Int) <= V) = false := by rw [HVV.out]; simp; omega
   rw [if_neg (fun h => h1 h.1)] at hR
   have HR := hide hR
   clear hR hU2 h1
   go_wp2_with fail
   refine bodyPost_ret (v := .tuple #[.string (Utf8.encode V), .int .i64 (k : Int)]) (by simp [results, Tryz.results146, go_sem]) rfl ?_
   exact (HPE HR.out hb rfl).out
theorem letterOf_cases (c : UInt8) : (∃ (i : Nat) (d : UInt8), i <= 5 /\ Jsp.letterOf c = some d /\ Lib.indexByte [98, 116, 110, 118, 102, 114] c = (i : Int) /\ ([8, 9, 10, 11, 12, 13] : List UInt8).drop i = d :: ([8, 9, 10, 11, 12, 13] : List UInt8).drop (i + 1)) \/ (Jsp.letterOf c = none /\ Lib.indexByte [98, 116, 110, 118, 102, 114] c = -1) := by
 by_cases h1 : c = 98
 ·subst h1; exact .inl ⟨0, 8, by decide, rfl, by decide, rfl⟩
 by_cases h2 : c = 116
 ·subst h2; exact .inl ⟨1, 9, by decide, rfl, by decide, rfl⟩
 by_cases h3 : c = 110
 ·subst h3; exact .inl ⟨2, 10, by decide, rfl, by decide, rfl⟩
 by_cases h4 : c = 118
 ·subst h4; exact .inl ⟨3, 11, by decide, rfl, by decide, rfl⟩
 by_cases h5 : c = 102
 ·subst h5; exact .inl ⟨4, 12, by decide, rfl, by decide, rfl⟩
 by_cases h6 : c = 114
 ·subst h6; exact .inl ⟨5, 13, by decide, rfl, by decide, rfl⟩
 refine .inr ⟨by unfold Jsp.letterOf; rw [if_neg h1, if_neg h2, if_neg h3, if_neg h4, if_neg h5, if_neg h6], ?_⟩
 simp [Lib.indexByte, Ne.symm h1, Ne.symm h2, Ne.symm h3, Ne.symm h4, Ne.symm h5, Ne.symm h6]
theorem jEscape (s : List UInt8) (w : World) (ht : Tab w) (h11 : 7 <= w.heap.size) (h0 : s ≠ []) (hv : Cssp.valid s = true) (hl : s.length <= 4190000) : Calls Tryz.prog 112 #[S s] w (TxP (Jsp.escape s) w) := by
 have hpos := List.length_pos_iff.2 h0
 obtain ⟨c, hc⟩ : ∃ c, s[0] = c := ⟨_, rfl⟩
 have hat : Cssp.at_ s 0 = c := by rw [Cssp.at_, List.getD_eq_getElem?_getD, List.getElem?_eq_getElem hpos, hc]; rfl
 have hcb := u8_lt c
 have hI := hide (sIndexByte [98, 116, 110, 118, 102, 114] c w)
 obtain ⟨R, hR⟩ : ∃ R, Jsp.escape s = R := ⟨_, rfl⟩
 rw [hR]
 unfold Jsp.escape at hR
 rw [hat] at hR
 have z0 : (0 : Int) < (s.length : Int) := by omega
 have hD := hide (sDecode s w ht hv h0)
 have hpn := Jsp.pn_le h0
 rcases letterOf_cases c with ⟨i, d, hi, hl1, hl2, hl3⟩ | ⟨hl1, hl2⟩
 ·rw [hl1] at hR
  rw [hl2] at hI
  have HR := hide hR
  have i0 : (0 : Int) <= (i : Int) := by omega
  have i1 : (i : Int) <= 5 := by omega
  have i2 : (i : Int) <= (i : Int) + 1 := by omega
  have i3 : (i : Int) + 1 <= 6 := by omega
  have i4 : ((i : Int) + 1).toNat = i + 1 := by omega
  have iw : wrap64 ((i : Int) + 1) = (i : Int) + 1 := by unfold wrap64; omega
  have HL3 := hide hl3
  clear hR hl1 hl2 hl3 hat hD hpn hi
  go_enter Tryz.func112, Tryz.ntmps112
  go_wp2_with fail
  refine hI.out.mono ?_
  rintro e w1 ⟨rfl, rfl⟩
  clear hI
  go_wp2_with fail
  refine bodyPost_ret (v := .tuple #[S (List.take 1 (List.drop i [8, 9, 10, 11, 12, 13])), .int .i64 1]) (by simp [results, Tryz.results112, go_sem]) rfl ?_
  rw [HL3.out, <- HR.out]
  exact TxP.some rfl (Below.refl _ _)
 ·rw [hl1] at hR
  rw [hl2] at hI
  clear hl1 hl2 hat
  obtain ⟨r, hr⟩ : ∃ r, Jsp.pt s = r := ⟨_, rfl⟩
  obtain ⟨n, hn⟩ : ∃ n, Jsp.pn s = n := ⟨_, rfl⟩
  have hr1 : r <= 1114111 := by rw [<- hr]; exact Jsp.pt_le s
  have hsm : r < 128 -> ∃ q, s = c :: q /\ c.toNat = r := fun h => by
   obtain ⟨c2, q, h1, h2, _⟩ := Jsp.pt_small hv h0 (by rw [hr]; exact h)
   subst h1
   have : c2 = c := hc
   exact ⟨q, by rw [this], by rw [<- this, h2, hr]⟩
  have HS := hide hsm
  rw [hr, hn] at hD
  simp only [hr, hn] at hR hpn
  have HR0 := hide hR
  have HPN := hide hpn
  clear hr hn hsm hv hR hr1 hpn
  go_enter Tryz.func112, Tryz.ntmps112
  go_wp2_with fail
  refine hI.out.mono ?_
  rintro e w1 ⟨rfl, rfl⟩
  clear hI
  go_wp2_with fail
  refine hD.out.mono ?_
  rintro e w1 ⟨rfl, hb⟩
  have HT1 := hide (ht.below h11 hb)
  have H11 := hide (Nat.le_trans h11 hb.size)
  clear hD ht h11
  obtain ⟨h1n, h2n⟩ := HPN.out
  have hR := HR0.out
  clear HR0 HPN
  have n0 : (0 : Int) <= (n : Int) := by omega
  have n1 : (n : Int) <= (s.length : Int) := by omega
  by_cases c1 : r = 120
  ·have q1 : ((r : Int) == 120) = true := ji_t c1
   rw [if_pos c1] at hR
   have o1 : (1 : Int) <= (s.length : Int) := by omega
   obtain ⟨t, htl⟩ : ∃ t, s.tail = t := ⟨_, rfl⟩
   have hd1 : s.drop 1 = t := by rw [List.drop_one, htl]
   have htn : t.length <= s.length := by rw [<- htl, List.length_tail]; omega
   have htt : List.take (s.length - 1) t = t := List.take_of_length_le (by rw [<- htl, List.length_tail]; exact Nat.le_refl _)
   have hH := hide (jHexF t 2 w1 HT1.out (by omega))
   rw [hd1] at hR
   clear hd1
   have HR := hide hR
   clear hR c1
   go_wp2_with fail
   refine hH.out.mono ?_
   rintro e w2 ⟨v, ok, rfl, hb2, hk⟩
   obtain ⟨k1, k2⟩ := hk (by decide)
   clear hH hk
   cases hx : Jsp.hexOf t 2 with
   | none =>
    obtain rfl := k1 hx
    have HX := hide hx
    clear k1 k2 hx
    go_wp2_with fail
    refine bodyPost_ret (v := .tuple #[S [], .int .i64 (-1)]) (by simp [results, Tryz.results112, go_sem]) rfl ?_
    rw [<- HR.out, HX.out]
    exact TxP.none _ rfl (hb.trans (hb2.mono hb.size))
   | some v' =>
    obtain ⟨rfl, rfl⟩ := k2 v' hx
    have HX := hide hx
    clear k1 k2 hx
    go_wp2_with fail
    refine bodyPost_ret (v := .tuple #[.string (Utf8.encode (v' : Int)), .int .i64 3]) (by simp [results, Tryz.results112, go_sem]) rfl ?_
    rw [enc_S, <- HR.out, HX.out]
    exact TxP.some rfl (hb.trans (hb2.mono hb.size))
  have q1 : ((r : Int) == 120) = false := ji_f c1
  rw [if_neg c1] at hR
  clear c1
  by_cases c2 : r = 117
  ·have q2 : ((r : Int) == 117) = true := ji_t c2
   rw [if_pos c2] at hR
   obtain ⟨q, hq1, hq2⟩ := HS.out (by omega)
   have hc117 : c = 117 := UInt8.toNat_inj.1 (by rw [hq2, c2]; rfl)
   rw [hc117] at hq1
   have hU := hide (jUnicode q w1 HT1.out H11.out (by rw [hq1] at hl; simp only [List.length_cons] at hl; omega))
   rw [<- hq1, hR] at hU
   clear hR c2 hq1 hq2 hc117 HS
   go_wp2_with fail
   refine hU.out.mono ?_
   rintro e w2 ⟨y, k, rfl, hb2, hk1, hk2⟩
   have HK1 := hide hk1
   have HK2 := hide hk2
   clear hU hk1 hk2
   go_wp2_with fail
   refine bodyPost_ret (v := .tuple #[S y, .int .i64 k]) (by simp [results, Tryz.results112, go_sem]) rfl ?_
   exact ⟨y, k, rfl, hb.trans (hb2.mono hb.size), HK1.out, HK2.out⟩
  have q2 : ((r : Int) == 117) = false := ji_f c2
  rw [if_neg c2] at hR
  clear c2
  have hdig := fun W => hide (jDigit r W)
  by_cases c3 : r = 48
  ·have q3 : ((r : Int) == 48) = true := ji_t c3
   have hd48 : Jsp.digit r = true := by rw [c3]; rfl
   rw [hd48] at hR hdig
   clear HS
   by_cases hl1 : s.length = 1
   ·have q4 : ((s.length : Int) == 1) = true := by rw [hl1]; rfl
    have hb0 : Jsp.isB (fun c => Jsp.digit c.toNat) (s.drop 1) = false := by rw [List.drop_eq_nil_of_le (by omega)]; rfl
    rw [if_pos ⟨c3, hb0⟩] at hR
    have HR := hide hR
    clear hR hb0 c3 hl1 hd48 hdig
    go_wp2_with fail
    refine bodyPost_ret (v := .tuple #[S [0], .int .i64 1]) (by simp [results, Tryz.results112, go_sem]) rfl ?_
    rw [<- HR.out]
    exact TxP.some rfl hb
   ·have q4 : ((s.length : Int) == 1) = false := by rw [beq_eq_false_iff_ne]; omega
    have hlt1 : 1 < s.length := by omega
    have o1 : (1 : Int) < (s.length : Int) := by omega
    obtain ⟨d, hd⟩ : ∃ d, s[1] = d := ⟨_, rfl⟩
    have hdb := u8_lt d
    have hbb : Jsp.isB (fun c => Jsp.digit c.toNat) (s.drop 1) = Jsp.digit d.toNat := by rw [List.drop_eq_getElem_cons hlt1, hd]; rfl
    rw [hbb] at hR
    have hdd := fun W => hide (jDigit d.toNat W)
    cases hx : Jsp.digit d.toNat with
    | false =>
     rw [if_pos ⟨c3, hx⟩] at hR
     rw [hx] at hdd
     have HR := hide hR
     clear hR hbb c3 hl1 hd48 hdig hx
     go_wp2_with fail
     refine (hdd _).out.mono ?_
     rintro e w2 ⟨rfl, rfl⟩
     go_wp2_with fail
     refine bodyPost_ret (v := .tuple #[S [0], .int .i64 1]) (by simp [results, Tryz.results112, go_sem]) rfl ?_
     rw [<- HR.out]
     exact TxP.some rfl hb
    | true =>
     rw [if_neg (by rw [hx]; simp), if_pos rfl] at hR
     rw [hx] at hdd
     have HR := hide hR
     clear hR hbb c3 hl1 hd48 hx
     go_wp2_with fail
     refine (hdd _).out.mono ?_
     rintro e w2 ⟨rfl, rfl⟩
     go_wp2_with fail
     refine (hdig _).out.mono ?_
     rintro e w2 ⟨rfl, rfl⟩
     go_wp2_with fail
     refine bodyPost_ret (v := .tuple #[S [], .int .i64 (-1)]) (by simp [results, Tryz.results112, go_sem]) rfl ?_
     rw [<- HR.out]
     exact TxP.none _ rfl hb
  have q3 : ((r : Int) == 48) = false := ji_f c3
  rw [if_neg (fun h => c3 h.1)] at hR
  clear c3 HS
  cases hx : Jsp.digit r with
  | true =>
   rw [hx, if_pos rfl] at hR
   rw [hx] at hdig
   have HR := hide hR
   clear hR hx
   go_wp2_with fail
   refine (hdig _).out.mono ?_
   rintro e w2 ⟨rfl, rfl⟩
   go_wp2_with fail
   refine bodyPost_ret (v := .tuple #[S [], .int .i64 (-1)]) (by simp [results, Tryz.results112, go_sem]) rfl ?_
   rw [<- HR.out]
   exact TxP.none _ rfl hb
  | false =>
   rw [hx, if_neg (by decide)] at hR
   rw [hx] at hdig
   clear hx
   have hP := fun W => hide (sHasPre s [13, 10] W)
   cases hp : ([13, 10] : List UInt8).isPrefixOf s with
   | true =>
    rw [hp, if_pos rfl] at hR
    rw [hp] at hP
    have HR := hide hR
    clear hR hp
    go_wp2_with fail
    refine (hdig _).out.mono ?_
    rintro e w2 ⟨rfl, rfl⟩
    go_wp2_with fail
    refine (hP _).out.mono ?_
    rintro e w2 ⟨rfl, rfl⟩
    go_wp2_with fail
    refine bodyPost_ret (v := .tuple #[S [], .int .i64 2]) (by simp [results, Tryz.results112, go_sem]) rfl ?_
    rw [<- HR.out]
    exact TxP.some rfl hb
   | false =>
    rw [hp, if_neg (by decide)] at hR
    rw [hp] at hP
    have hL := fun W => hide (jLineEnd r W)
    cases he : Jsp.lineEnd r with
    | true =>
     rw [he, if_pos rfl] at hR
     rw [he] at hL
     have HR := hide hR
     clear hR hp he
     go_wp2_with fail
     refine (hdig _).out.mono ?_
     rintro e w2 ⟨rfl, rfl⟩
     go_wp2_with fail
     refine (hP _).out.mono ?_
     rintro e w2 ⟨rfl, rfl⟩
     go_wp2_with fail
     refine (hL _).out.mono ?_
     rintro e w2 ⟨rfl, rfl⟩
     go_wp2_with fail
     refine bodyPost_ret (v := .tuple #[S [], .int .i64 (n : Int)]) (by simp [results, Tryz.results112, go_sem]) rfl ?_
     rw [<- HR.out]
     exact TxP.some rfl hb
    | false =>
     rw [he, if_neg (by decide)] at hR
     rw [he] at hL
     have HR := hide hR
     clear hR hp he
     go_wp2_with fail
     refine (hdig _).out.mono ?_
     rintro e w2 ⟨rfl, rfl⟩
     go_wp2_with fail
     refine (hP _).out.mono ?_
     rintro e w2 ⟨rfl, rfl⟩
     go_wp2_with fail
     refine (hL _).out.mono ?_
     rintro e w2 ⟨rfl, rfl⟩
     go_wp2_with fail
     refine bodyPost_ret (v := .tuple #[S (s.take n), .int .i64 (n : Int)]) (by simp [results, Tryz.results112, go_sem]) rfl ?_
     rw [<- HR.out]
     exact TxP.some rfl hb
end Go.Proofs.YtngccmlcopcghaaGreatDoor
