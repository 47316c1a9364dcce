/- Small letters; digits of a base; a part's base. -/
import Derived.Test.YtahjndignkhmoaaGreatDoorD
import Derived.Lib.ConvBytes
import Derived.Lib.OthersKept
import Derived.Laws.IdiomStrings
import Derived.Laws.RangeAny
import Derived.LoopTactic
namespace Go.Proofs.YtahjndignkhmoaaGreatDoor
open Go.RowKit

/-! ### great and small letters -/
theorem or8 : ∀ n : Fin 256, (65 ≤ n.val ∧ n.val ≤ 90) → bits BinOp.or .u8 (n.val : Int) 32 = ((n.val + 32 : Nat) : Int) := by decide +kernel
theorem lowB_hit (c : UInt8) (h : 65 ≤ c.toNat ∧ c.toNat ≤ 90) : Value.int .u8 (bits BinOp.or .u8 (c.toNat : Int) 32) = B8 (Hostp.lowB c) := by
  rw [or8 ⟨c.toNat, c.toNat_lt⟩ h]
  unfold Hostp.lowB
  rw [if_pos h]
  unfold B8
  rw [UInt8.toNat_ofNat_of_lt' (by show c.toNat + 32 < 256; omega)]
theorem lowB_miss (c : UInt8) (h : ¬ (65 ≤ c.toNat ∧ c.toNat ≤ 90)) : Hostp.lowB c = c := by
  unfold Hostp.lowB
  rw [if_neg h]

/-- a row of bytes at g: the first n of its cells are xs; no mark among them -/
def RowAt (w : World) (g : Nat) (xs : List UInt8) : Prop := ∃ C N, w.heap[g]? = some (Obj.cells C 5 (N, N + 1)) ∧ xs.length ≤ N ∧ ∀ j (h : j < xs.length), C[j]? = some (B8 xs[j])
theorem RowAt.cell {w : World} {g : Nat} {xs : List UInt8} (h : RowAt w g xs) (j : Nat) (hj : j < xs.length) : w.cell? ⟨g, j, none⟩ = some (B8 xs[j]) := by
  obtain ⟨C, N, hg, hN, hc⟩ := h
  rw [Lib.cell_of_heap hg]; exact hc j hj
theorem RowAt.free {w : World} {g : Nat} {xs : List UInt8} (h : RowAt w g xs) (j : Nat) (hj : j < xs.length) : w.frozen? ⟨g, j, none⟩ = false := by
  obtain ⟨C, N, hg, hN, hc⟩ := h
  simp [World.frozen?, hg]
  omega
theorem RowAt.set {w : World} {g : Nat} {xs : List UInt8} (h : RowAt w g xs) (j : Nat) (c : UInt8) : RowAt (w.setCell ⟨g, j, none⟩ (B8 c)) g (xs.set j c) := by
  obtain ⟨C, N, hg, hN, hc⟩ := h
  refine ⟨C.setIfInBounds j (B8 c), N, by simp [World.setCell, Array.getElem?_modify, hg], by simpa using hN, fun k hk => ?_⟩
  rw [List.length_set] at hk
  have := hc k hk
  rw [Array.getElem?_setIfInBounds, List.getElem_set]
  by_cases e : j = k
  · subst e
    have hlt : j < C.size := (Array.getElem?_eq_some_iff.1 this).1
    simp [hlt]
  · simp [e, this]
theorem rowAt_new (w : World) (s : List UInt8) : RowAt (Lib.bytesWorld w 5 ⟨s.toArray⟩) w.heap.size s := by
  have hN : s.length ≤ (Lib.bytesCells w 5 ⟨s.toArray⟩).size := by simp [Lib.bytesCells]
  refine ⟨_, _, Lib.bytesWorld_at_new w _ _, hN, fun j hj => ?_⟩
  simp [Lib.bytesCells, Array.getElem?_append, hj]
theorem below_bytes (w : World) (e : TypeId) (s : ByteArray) : Below w.heap.size w (Lib.bytesWorld w e s) := ⟨rfl, rfl, rfl, by rw [Lib.bytesWorld_size]; omega, fun k hk => Lib.bytesWorld_at_old w e s k hk⟩

set_option maxHeartbeats 2000000 in
set_option maxRecDepth 100000 in
theorem tLower (s : List UInt8) (u : List UInt8) (w : World) (hl : s.length ≤ 4194304) (hu : Hid (Hostp.lower s = u)) :
    Calls Tryz.prog 19 #[S s] w (Fresh (S u) w) := by
  have hr := rowAt_new w s
  have hb := below_bytes w 5 ⟨s.toArray⟩
  have hcv := Lib.run_convert_string_bytes (P := Tryz.prog) w 9 40 5 ⟨s.toArray⟩ Tryz.underlying9 Tryz.underlying40 Tryz.underlying5
  rw [bl_size] at hcv
  obtain ⟨B, hB⟩ : ∃ B, B = w.heap.size := ⟨_, rfl⟩
  obtain ⟨w1, hw1⟩ : ∃ x, x = Lib.bytesWorld w 5 ⟨s.toArray⟩ := ⟨_, rfl⟩
  obtain ⟨cap, hcap⟩ : ∃ x, x = grownCap w s.length 0 5 := ⟨_, rfl⟩
  rw [← hw1, ← hB] at hr hb
  rw [← hw1, ← hB, ← hcap] at hcv
  have hB' := hide hB
  clear hw1 hB hcap
  go_enter Tryz.func19, Tryz.ntmps19
  go_wp2_with fail
  clear hcv
  go_loopg [10] s.length (fun g s10 wx => ∃ (i : Nat), i + g = s.length ∧ s10 = .int .i64 i ∧ RowAt wx B ((s.take i).map Hostp.lowB ++ s.drop i) ∧ Below B w wx)
  case atStart => exact ⟨0, by omega, rfl, by simpa using hr, hb⟩
  case round =>
    obtain ⟨i, hi, rfl, hrx, hbx⟩ := hrel
    clear hr hb
    by_cases hlt : i < s.length
    · have hlen : ((s.take i).map Hostp.lowB ++ s.drop i).length = s.length := by simp; omega
      have hc0 := hrx.cell i (by rw [hlen]; exact hlt)
      have hf0 := hrx.free i (by rw [hlen]; exact hlt)
      obtain ⟨c, hc⟩ : ∃ c, s[i] = c := ⟨_, rfl⟩
      have hx : ((s.take i).map Hostp.lowB ++ s.drop i)[i]'(by rw [hlen]; exact hlt) = c := by
        rw [List.getElem_append_right (by simp; omega)]
        simp [Nat.min_eq_left (Nat.le_of_lt hlt), hc]
      rw [hx] at hc0
      have hstep : (s.take (i + 1)).map Hostp.lowB ++ s.drop (i + 1) = ((s.take i).map Hostp.lowB ++ s.drop i).set i (Hostp.lowB c) := by
        rw [List.set_append_right _ _ (by simp; omega), List.take_succ_eq_append_getElem hlt, List.drop_eq_getElem_cons hlt, hc]
        simp [Nat.min_eq_left (Nat.le_of_lt hlt)]
      have HS := hide hstep
      have hcb := u8_lt c
      clear hstep hx hc hlen
      by_cases h65 : 65 ≤ c.toNat ∧ c.toNat ≤ 90
      · obtain ⟨h1, h2⟩ := h65
        have HW := hide (lowB_hit c ⟨h1, h2⟩)
        go_wp2_with fail
        rw [HW.out]
        have hr2 := hrx.set i (Hostp.lowB c)
        rw [← HS.out] at hr2
        have hb2 : Below B w (wr.setCell ⟨B, i, none⟩ (B8 (Hostp.lowB c))) := hbx.setCell (Nat.le_refl _) _
        go_roundg (gk - 1)
        case measure => omega
        case rel => exact ⟨i + 1, by omega, by go_num, hr2, hb2⟩
      · have h3 : c.toNat < 65 ∨ (65 ≤ c.toNat ∧ 90 < c.toNat) := by omega
        have hm := lowB_miss c h65
        have hr2 : RowAt wr B ((s.take (i + 1)).map Hostp.lowB ++ s.drop (i + 1)) := by
          rw [HS.out, hm]
          obtain ⟨C, N, q1, q2, q3⟩ := hrx
          refine ⟨C, N, q1, by rw [List.length_set]; exact q2, fun j hj => ?_⟩
          rw [List.length_set] at hj
          rw [q3 j hj, List.getElem_set]
          by_cases e : i = j
          · subst e
            have := q3 i hj
            rw [Lib.cell_of_heap q1, this] at hc0
            rw [if_pos rfl]; exact hc0
          · rw [if_neg e]
        clear h65 hm
        rcases h3 with h3 | ⟨h3, h4⟩
        all_goals
          go_wp2_with fail
          go_roundg (gk - 1)
          (case measure => omega)
          (case rel => exact ⟨i + 1, by omega, by go_num, hr2, hbx⟩)
    · have e : i = s.length := by omega
      subst e
      rw [List.take_length, List.drop_length, List.append_nil] at hrx
      have hcv := run_convert_bytes_back (P := Tryz.prog) wr 40 9 5 ⟨B, 0, none⟩ cap (Hostp.lower s) Tryz.underlying40 Tryz.underlying5 Tryz.underlying9 (fun j hj => by
        have := hrx.cell j hj
        rw [show (⟨B, 0, none⟩ : Addr).add j = ⟨B, j, none⟩ by unfold Addr.add; split <;> simp_all]
        exact this)
      rw [show (Hostp.lower s).length = s.length by simp [Hostp.lower]] at hcv
      go_wp2_with fail
      go_ret
      exact ⟨by rw [← hu.out]; rfl, by rw [← hB'.out]; exact hbx⟩

/-! ### a digit that is no byte -/
theorem i32_or_nat (n : Nat) (h : n ≤ 2147483647) : bits BinOp.or .i32 (n : Int) 32 = ((n ||| 32 : Nat) : Int) := by
  have hx : n ||| 32 < 2 ^ 31 := Nat.or_lt_two_pow (by omega) (by omega)
  show IntKind.i32.wrap ((BitVec.ofInt 32 (n : Int) ||| BitVec.ofInt 32 ((32 : Nat) : Int)).toNat : Int) = _
  rw [BitVec.toNat_or, BitVec.ofInt_natCast, BitVec.ofInt_natCast, BitVec.toNat_ofNat, BitVec.toNat_ofNat, Nat.mod_eq_of_lt (by omega), Nat.mod_eq_of_lt (by omega)]
  simp only [IntKind.wrap, IntKind.bits, IntKind.signed]
  simp
  omega
theorem tHexHigh (n : Nat) (h1 : 128 ≤ n) (h2 : n ≤ 2147483647) (w : World) : Calls Tryz.prog 48 #[.int .i32 n] w (Ret (.int .i64 (-1)) w) := by
  have hle : n ≤ n ||| 32 := Nat.left_le_or
  obtain ⟨m, hm⟩ : ∃ m, n ||| 32 = m := ⟨_, rfl⟩
  have ho := i32_or_nat n h2
  rw [hm] at ho hle
  have hd : Calls Tryz.prog 76 #[.int .i32 n] w (Ret (.bool false) w) := by
    go_enter Tryz.func76, Tryz.ntmps76
    go_wp2
    all_goals go_ret
    all_goals exact Ret.of (v_b (by simp only [decide_eq_false_iff_not]; omega))
  have ha : Calls Tryz.prog 77 #[.int .i32 n] w (Ret (.bool false) w) := by
    go_enter Tryz.func77, Tryz.ntmps77
    go_wp2
    all_goals go_ret
    all_goals exact Ret.of (v_b (by simp only [decide_eq_false_iff_not]; omega))
  clear hm ho hle
  go_enter Tryz.func48, Tryz.ntmps48
  go_wp2_with fail
  refine hd.mono ?_
  rintro e w' ⟨rfl, rfl⟩
  go_wp2_with fail
  refine ha.mono ?_
  rintro e w' ⟨rfl, rfl⟩
  go_wp2_with fail
  go_ret
  exact ⟨rfl, rfl⟩

theorem isDig_high (base : Int) (c : UInt8) (h : 128 ≤ c.toNat) : Hostp.isDig base c = false := by
  unfold Hostp.isDig Hostp.hex
  rw [if_neg (by omega), if_neg (by omega), if_neg (by omega)]
  rfl
theorem allB_cons (base : Int) (c : UInt8) (l : List UInt8) : Hostp.allB base (c :: l) = (Hostp.isDig base c && Hostp.allB base l) := rfl
theorem isDig_eq (base : Int) (c : UInt8) : Hostp.isDig base c = !(decide (Hostp.hex c < 0) || decide (base ≤ Hostp.hex c)) := by
  unfold Hostp.isDig
  rw [Bool.not_or, ← decide_not, ← decide_not]
  congr 1
  · exact decide_eq_decide.2 (by omega)
  · exact decide_eq_decide.2 (by omega)

set_option maxHeartbeats 2000000 in
set_option maxRecDepth 100000 in
theorem hAll (s : List UInt8) (base : Int) (b : Bool) (w : World) (_ : 0 < base) (_ : base ≤ 16) (hb : Hid (Hostp.allB base s = b)) :
    Calls Tryz.prog 53 #[S s, .int .i64 base] w (Fresh (.bool b) w) := by
  have hsz : (⟨s.toArray⟩ : ByteArray).size = s.length := bl_size s
  have hit0 : (w.iter ⟨s.toArray⟩ 0).heap[w.heap.size]? = some (.stringIter ⟨s.toArray⟩ 0) := World.iter_heap _ _ _
  have hbl0 : Below w.heap.size w (w.iter ⟨s.toArray⟩ 0) := (Below.refl _ w).alloc (Nat.le_refl _) _
  go_enter Tryz.func53, Tryz.ntmps53
  go_wp2
  obtain ⟨w1, hw1⟩ : ∃ x, x = w.iter ⟨s.toArray⟩ 0 := ⟨_, rfl⟩
  obtain ⟨B, hB⟩ : ∃ B, B = w.heap.size := ⟨_, rfl⟩
  rw [← hw1, ← hB] at hit0 hbl0
  rw [← hw1, ← hB]
  clear hw1
  go_loopg [] s.length (fun g wx => ∃ (i : Nat), i + g = s.length ∧ wx.heap[B]? = some (.stringIter ⟨s.toArray⟩ i) ∧ Below B w wx ∧ Hid (Hostp.allB base (s.drop i) = b))
  case atStart => exact ⟨0, by omega, hit0, hbl0, hb⟩
  case round =>
    obtain ⟨i, hi, hit, hbx, hd⟩ := hrel
    have hB' := hide hB
    clear hit0 hbl0 hB hb
    by_cases hlt : i < s.length
    · obtain ⟨c, hc⟩ : ∃ c, s[i] = c := ⟨_, rfl⟩
      have hcons : s.drop i = c :: s.drop (i + 1) := by rw [List.drop_eq_getElem_cons hlt, hc]
      have hd2 := hd.out
      rw [hcons, allB_cons] at hd2
      have hp : i < (⟨s.toArray⟩ : ByteArray).size := by rw [hsz]; exact hlt
      have hcc : (⟨s.toArray⟩ : ByteArray)[i]'hp = c := hc
      clear hd hcons
      by_cases hh : c.toNat < 128
      · have hnx : ∀ ty, (Instr.next (.pointer (some ⟨B, 0, none⟩)) true ty).run Tryz.prog wr = _ := fun ty => Lib.run_next_ascii_at wr B ⟨s.toArray⟩ i ty hit hp (by rw [hcc]; exact hh)
        rw [hcc] at hnx
        have hit2 := Lib.iterAt_heap wr B ⟨s.toArray⟩ i (i + 1) hit
        have hbw2 := Lib.below_iterAt hbx (k := B) (Nat.le_refl _) ⟨s.toArray⟩ (i + 1)
        have he := isDig_eq base c
        obtain ⟨x0, x1⟩ := hex_ge c
        clear hc hcc hp
        obtain ⟨X, hX⟩ : ∃ X, Hostp.hex c = X := ⟨_, rfl⟩
        rw [hX] at he x0 x1
        have HX := hide hX
        clear hX
        have HD2 := hide hd2
        have HE := hide he
        have hit' := hide hit
        have hit2' := hide hit2
        clear hd2 he hit hit2
        go_wp2_with fail
        refine (tHex c _).mono ?_
        rintro e w' ⟨rfl, rfl⟩
        rw [HX.out]
        have h3 : X < 0 ∨ (0 ≤ X ∧ base ≤ X) ∨ (0 ≤ X ∧ X < base) := by omega
        rcases h3 with h3 | ⟨h3, h4⟩ | ⟨h3, h4⟩
        · have hd3 := HD2.out
          rw [HE.out, decide_eq_true h3, Bool.true_or] at hd3
          go_wp2_with fail
          go_ret
          exact ⟨by rw [← hd3]; rfl, by rw [← hB'.out]; exact hbw2⟩
        · have hd3 := HD2.out
          rw [HE.out, decide_eq_true h4, Bool.or_true] at hd3
          go_wp2_with fail
          go_ret
          exact ⟨by rw [← hd3]; rfl, by rw [← hB'.out]; exact hbw2⟩
        · have hd3 := HD2.out
          rw [HE.out, decide_eq_false (by omega), decide_eq_false (by omega), Bool.or_false, Bool.not_false, Bool.true_and] at hd3
          have HD3 := hide hd3
          clear hd3
          go_wp2_with fail
          go_roundg (gk - 1)
          case measure => omega
          case rel => exact ⟨i + 1, by omega, hit2'.out, hbw2, HD3⟩
      · have hnx : ∀ ty, (Instr.next (.pointer (some ⟨B, 0, none⟩)) true ty).run Tryz.prog wr = _ := fun ty => Lib.run_next_any_at wr B ⟨s.toArray⟩ i ty hit hp
        have hdh := (decode_high ⟨s.toArray⟩ i hp (by rw [hcc]; omega)).1
        have hdl := decode_le ⟨s.toArray⟩ i
        have hbw2 := Lib.below_iterAt hbx (k := B) (Nat.le_refl _) ⟨s.toArray⟩ (i + (Utf8.decode ⟨s.toArray⟩ i).2)
        rw [isDig_high base c (by omega), Bool.false_and] at hd2
        have HIT := hide hit
        clear hc hcc hp hit
        subst hd2
        generalize (Utf8.decode ⟨s.toArray⟩ i).1 = r at *
        go_wp2_with fail
        refine (tHexHigh r hdh hdl _).mono ?_
        rintro e w' ⟨rfl, rfl⟩
        go_wp2_with fail
        go_ret
        exact ⟨rfl, by rw [← hB'.out]; exact hbw2⟩
    · have e : i = s.length := by omega
      subst e
      have hd2 := hd.out
      rw [List.drop_length] at hd2
      subst hd2
      have hnx : ∀ ty, (Instr.next (.pointer (some ⟨B, 0, none⟩)) true ty).run Tryz.prog wr = _ := fun ty => Lib.run_next_end_at wr B ⟨s.toArray⟩ s.length ty hit (by rw [hsz]; exact hlt)
      go_wp2_with fail
      go_ret
      exact ⟨rfl, by rw [← hB'.out]; exact hbx⟩

theorem or8x : ∀ n : Fin 256, (bits BinOp.or .u8 (n.val : Int) 32 = 120 ↔ (n.val = 120 ∨ n.val = 88)) := by decide +kernel
set_option maxHeartbeats 2000000 in
set_option maxRecDepth 100000 in
theorem hBased (s d : List UInt8) (base : Int) (w : World) (hl : s.length ≤ 4194304) (hb : Hid (Hostp.basedP s = (d, base))) :
    Calls Tryz.prog 52 #[S s] w (Ret (.tuple #[S d, .int .i64 base]) w) := by
  match s, hb with
  | [], hb =>
    obtain ⟨rfl, rfl⟩ := Prod.mk.inj hb.out
    go_enter Tryz.func52, Tryz.ntmps52
    go_wp2
    refine bodyPost_ret (v := .tuple #[S [], .int .i64 10]) (by simp [results, Tryz.results52, go_sem]) rfl ?_
    exact ⟨rfl, rfl⟩
  | [c], hb =>
    obtain ⟨rfl, rfl⟩ := Prod.mk.inj hb.out
    go_enter Tryz.func52, Tryz.ntmps52
    go_wp2
    refine bodyPost_ret (v := .tuple #[S [c], .int .i64 10]) (by simp [results, Tryz.results52, go_sem]) rfl ?_
    exact ⟨rfl, rfl⟩
  | c :: e :: r, hb =>
    have h := hb.out
    rw [Hostp.basedP] at h
    have hor := or8x ⟨e.toNat, e.toNat_lt⟩
    simp only at hor
    have ex : (e = 120 ∨ e = 88) ↔ (e.toNat = 120 ∨ e.toNat = 88) := by
      constructor
      · rintro (rfl | rfl)
        · exact .inl rfl
        · exact .inr rfl
      · rintro (h | h)
        · exact .inl (UInt8.toNat_inj.1 h)
        · exact .inr (UInt8.toNat_inj.1 h)
    rw [← ex] at hor
    obtain ⟨x, hx⟩ : ∃ x, bits BinOp.or .u8 (e.toNat : Int) 32 = x := ⟨_, rfl⟩
    rw [hx] at hor
    simp only [List.length_cons] at hl
    by_cases hc : c = 48
    · rw [if_pos hc] at h
      subst hc
      by_cases he : e = 120 ∨ e = 88
      · rw [if_pos he] at h
        obtain ⟨rfl, rfl⟩ := Prod.mk.inj h
        have h120 := hor.2 he
        subst h120
        clear hor h ex he
        go_enter Tryz.func52, Tryz.ntmps52
        go_wp2
        refine bodyPost_ret (v := .tuple #[S r, .int .i64 16]) (by simp [results, Tryz.results52, go_sem]) rfl ?_
        exact ⟨rfl, rfl⟩
      · rw [if_neg he] at h
        obtain ⟨rfl, rfl⟩ := Prod.mk.inj h
        have h120 : ¬ x = 120 := fun q => he (hor.1 q)
        have h120' : (x == 120) = false := beq_eq_false_iff_ne.2 h120
        clear hor h ex he
        go_enter Tryz.func52, Tryz.ntmps52
        go_wp2
        refine bodyPost_ret (v := .tuple #[S (e :: r), .int .i64 8]) (by simp [results, Tryz.results52, go_sem]) rfl ?_
        exact ⟨rfl, rfl⟩
    · rw [if_neg hc] at h
      obtain ⟨rfl, rfl⟩ := Prod.mk.inj h
      have hcn : ¬ (c.toNat : Int) = 48 := fun q => hc (UInt8.toNat_inj.1 (by show c.toNat = 48; omega))
      have hcn' : ((c.toNat : Int) == 48) = false := beq_eq_false_iff_ne.2 hcn
      clear hor h ex hc hx
      go_enter Tryz.func52, Tryz.ntmps52
      go_wp2
      refine bodyPost_ret (v := .tuple #[S (c :: e :: r), .int .i64 10]) (by simp [results, Tryz.results52, go_sem]) rfl ?_
      exact ⟨rfl, rfl⟩
end Go.Proofs.YtahjndignkhmoaaGreatDoor
