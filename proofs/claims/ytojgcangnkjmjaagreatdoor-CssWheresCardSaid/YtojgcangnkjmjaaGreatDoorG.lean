/- Small letters; strconv.ParseUint at the base 16 with 32 bits. -/
import Derived.Test.YtojgcangnkjmjaaGreatDoorE
import Derived.Test.YtojgcangnkjmjaaGreatDoorShelf
import Derived.Lib.ConvBytes
import Derived.Lib.OthersKept
import Derived.Laws.IdiomStrings
import Derived.Laws.RangeAny
import Derived.LoopTactic
namespace Go.Proofs.YtojgcangnkjmjaaGreatDoor
open Go.RowKit

/-! ### great and small letters -/
theorem or8 : ∀ n : Fin 256, (65 ≤ n.val ∧ n.val ≤ 90) → bits BinOp.or .u8 (n.val : Int) 32 = ((n.val + 32 : Nat) : Int) := by decide +kernel
theorem lowB_hit (c : UInt8) (h : 65 ≤ c.toNat ∧ c.toNat ≤ 90) : Value.int .u8 (bits BinOp.or .u8 (c.toNat : Int) 32) = B8 (Cssp.lowB c) := by
  rw [or8 ⟨c.toNat, c.toNat_lt⟩ h]
  unfold Cssp.lowB
  rw [if_pos h]
  unfold B8
  rw [UInt8.toNat_ofNat_of_lt' (by show c.toNat + 32 < 256; omega)]
theorem lowB_miss (c : UInt8) (h : ¬ (65 ≤ c.toNat ∧ c.toNat ≤ 90)) : Cssp.lowB c = c := by
  unfold Cssp.lowB
  rw [if_neg h]

/-- a row of bytes at g: the first n of its cells are xs; no mark among them -/
def RowAt (w : World) (g : Nat) (xs : List UInt8) : Prop := ∃ C N, w.heap[g]? = some (Obj.cells C 5 (N, N + 1)) ∧ xs.length ≤ N ∧ ∀ j (h : j < xs.length), C[j]? = some (B8 xs[j])
theorem RowAt.cell {w : World} {g : Nat} {xs : List UInt8} (h : RowAt w g xs) (j : Nat) (hj : j < xs.length) : w.cell? ⟨g, j, none⟩ = some (B8 xs[j]) := by
  obtain ⟨C, N, hg, hN, hc⟩ := h
  rw [Lib.cell_of_heap hg]; exact hc j hj
theorem RowAt.free {w : World} {g : Nat} {xs : List UInt8} (h : RowAt w g xs) (j : Nat) (hj : j < xs.length) : w.frozen? ⟨g, j, none⟩ = false := by
  obtain ⟨C, N, hg, hN, hc⟩ := h
  simp [World.frozen?, hg]
  omega
theorem RowAt.set {w : World} {g : Nat} {xs : List UInt8} (h : RowAt w g xs) (j : Nat) (c : UInt8) : RowAt (w.setCell ⟨g, j, none⟩ (B8 c)) g (xs.set j c) := by
  obtain ⟨C, N, hg, hN, hc⟩ := h
  refine ⟨C.setIfInBounds j (B8 c), N, by simp [World.setCell, Array.getElem?_modify, hg], by simpa using hN, fun k hk => ?_⟩
  rw [List.length_set] at hk
  have := hc k hk
  rw [Array.getElem?_setIfInBounds, List.getElem_set]
  by_cases e : j = k
  · subst e
    have hlt : j < C.size := (Array.getElem?_eq_some_iff.1 this).1
    simp [hlt]
  · simp [e, this]
theorem rowAt_new (w : World) (s : List UInt8) : RowAt (Lib.bytesWorld w 5 ⟨s.toArray⟩) w.heap.size s := by
  have hN : s.length ≤ (Lib.bytesCells w 5 ⟨s.toArray⟩).size := by simp [Lib.bytesCells]
  refine ⟨_, _, Lib.bytesWorld_at_new w _ _, hN, fun j hj => ?_⟩
  simp [Lib.bytesCells, Array.getElem?_append, hj]
theorem below_bytes (w : World) (e : TypeId) (s : ByteArray) : Below w.heap.size w (Lib.bytesWorld w e s) := ⟨rfl, rfl, rfl, by rw [Lib.bytesWorld_size]; omega, fun k hk => Lib.bytesWorld_at_old w e s k hk⟩

set_option maxHeartbeats 2000000 in
set_option maxRecDepth 100000 in
theorem tLower (s : List UInt8) (u : List UInt8) (w : World) (hl : s.length ≤ 4194304) (hu : Hid (Cssp.lower s = u)) :
    Calls Tryz.prog 106 #[S s] w (Fresh (S u) w) := by
  have hr := rowAt_new w s
  have hb := below_bytes w 5 ⟨s.toArray⟩
  have hcv := Lib.run_convert_string_bytes (P := Tryz.prog) w 9 32 5 ⟨s.toArray⟩ Tryz.underlying9 Tryz.underlying32 Tryz.underlying5
  rw [bl_size] at hcv
  obtain ⟨B, hB⟩ : ∃ B, B = w.heap.size := ⟨_, rfl⟩
  obtain ⟨w1, hw1⟩ : ∃ x, x = Lib.bytesWorld w 5 ⟨s.toArray⟩ := ⟨_, rfl⟩
  obtain ⟨cap, hcap⟩ : ∃ x, x = grownCap w s.length 0 5 := ⟨_, rfl⟩
  rw [← hw1, ← hB] at hr hb
  rw [← hw1, ← hB, ← hcap] at hcv
  have hB' := hide hB
  clear hw1 hB hcap
  go_enter Tryz.func106, Tryz.ntmps106
  go_wp2_with fail
  clear hcv
  go_loopg [10] s.length (fun g s10 wx => ∃ (i : Nat), i + g = s.length ∧ s10 = .int .i64 i ∧ RowAt wx B ((s.take i).map Cssp.lowB ++ s.drop i) ∧ Below B w wx)
  case atStart => exact ⟨0, by omega, rfl, by simpa using hr, hb⟩
  case round =>
    obtain ⟨i, hi, rfl, hrx, hbx⟩ := hrel
    clear hr hb
    by_cases hlt : i < s.length
    · have hlen : ((s.take i).map Cssp.lowB ++ s.drop i).length = s.length := by simp; omega
      have hc0 := hrx.cell i (by rw [hlen]; exact hlt)
      have hf0 := hrx.free i (by rw [hlen]; exact hlt)
      obtain ⟨c, hc⟩ : ∃ c, s[i] = c := ⟨_, rfl⟩
      have hx : ((s.take i).map Cssp.lowB ++ s.drop i)[i]'(by rw [hlen]; exact hlt) = c := by
        rw [List.getElem_append_right (by simp; omega)]
        simp [Nat.min_eq_left (Nat.le_of_lt hlt), hc]
      rw [hx] at hc0
      have hstep : (s.take (i + 1)).map Cssp.lowB ++ s.drop (i + 1) = ((s.take i).map Cssp.lowB ++ s.drop i).set i (Cssp.lowB c) := by
        rw [List.set_append_right _ _ (by simp; omega), List.take_succ_eq_append_getElem hlt, List.drop_eq_getElem_cons hlt, hc]
        simp [Nat.min_eq_left (Nat.le_of_lt hlt)]
      have HS := hide hstep
      have hcb := u8_lt c
      clear hstep hx hc hlen
      by_cases h65 : 65 ≤ c.toNat ∧ c.toNat ≤ 90
      · obtain ⟨h1, h2⟩ := h65
        have HW := hide (lowB_hit c ⟨h1, h2⟩)
        go_wp2_with fail
        rw [HW.out]
        have hr2 := hrx.set i (Cssp.lowB c)
        rw [← HS.out] at hr2
        have hb2 : Below B w (wr.setCell ⟨B, i, none⟩ (B8 (Cssp.lowB c))) := hbx.setCell (Nat.le_refl _) _
        go_roundg (gk - 1)
        case measure => omega
        case rel => exact ⟨i + 1, by omega, by go_num, hr2, hb2⟩
      · have h3 : c.toNat < 65 ∨ (65 ≤ c.toNat ∧ 90 < c.toNat) := by omega
        have hm := lowB_miss c h65
        have hr2 : RowAt wr B ((s.take (i + 1)).map Cssp.lowB ++ s.drop (i + 1)) := by
          rw [HS.out, hm]
          obtain ⟨C, N, q1, q2, q3⟩ := hrx
          refine ⟨C, N, q1, by rw [List.length_set]; exact q2, fun j hj => ?_⟩
          rw [List.length_set] at hj
          rw [q3 j hj, List.getElem_set]
          by_cases e : i = j
          · subst e
            have := q3 i hj
            rw [Lib.cell_of_heap q1, this] at hc0
            rw [if_pos rfl]; exact hc0
          · rw [if_neg e]
        clear h65 hm
        rcases h3 with h3 | ⟨h3, h4⟩
        all_goals
          go_wp2_with fail
          go_roundg (gk - 1)
          (case measure => omega)
          (case rel => exact ⟨i + 1, by omega, by go_num, hr2, hbx⟩)
    · have e : i = s.length := by omega
      subst e
      rw [List.take_length, List.drop_length, List.append_nil] at hrx
      have hcv := run_convert_bytes_back (P := Tryz.prog) wr 32 9 5 ⟨B, 0, none⟩ cap (Cssp.lower s) Tryz.underlying32 Tryz.underlying5 Tryz.underlying9 (fun j hj => by
        have := hrx.cell j hj
        rw [show (⟨B, 0, none⟩ : Addr).add j = ⟨B, j, none⟩ by unfold Addr.add; split <;> simp_all]
        exact this)
      rw [show (Cssp.lower s).length = s.length by simp [Cssp.lower]] at hcv
      go_wp2_with fail
      go_ret
      exact ⟨by rw [← hu.out]; rfl, by rw [← hB'.out]; exact hbx⟩

/-! ### a digit that is no byte -/
namespace Cssp
/-- digits read on; none: above M -/
def pu (M base : Int) : Int → List UInt8 → Option Int
  | acc, [] => some acc
  | acc, c :: l => if M < acc * base + hex c then none else pu M base (acc * base + hex c) l
def isDig (base : Int) (c : UInt8) : Bool := decide (0 ≤ hex c) && decide (hex c < base)
def allB (base : Int) (s : List UInt8) : Bool := s.all (isDig base)
end Cssp
/-- what ParseUint hands back -/
def puV (M : Int) : Option Int → Value
  | some v => .tuple #[.int .u64 v, .nilIface]
  | none => .tuple #[.int .u64 M, .iface 180 (.int .i64 1)]

theorem or8h : ∀ n : Fin 256, (((65 ≤ n.val ∧ n.val ≤ 70) → bits BinOp.or .u8 (n.val : Int) 32 = (n.val : Int) + 32) ∧ ((97 ≤ n.val ∧ n.val ≤ 102) → bits BinOp.or .u8 (n.val : Int) 32 = (n.val : Int))) := by decide +kernel
theorem hex_cases (c : UInt8) (h : 0 ≤ Cssp.hex c) : (48 ≤ c.toNat ∧ c.toNat ≤ 57 ∧ Cssp.hex c = (c.toNat : Int) - 48) ∨ (57 < c.toNat ∧ ¬ (c.toNat : Int) = 95 ∧ bits BinOp.or .u8 (c.toNat : Int) 32 = Cssp.hex c + 87 ∧ 10 ≤ Cssp.hex c ∧ Cssp.hex c ≤ 15) := by
  obtain ⟨h1, h2⟩ := or8h ⟨c.toNat, c.toNat_lt⟩
  simp only at h1 h2
  unfold Cssp.hex at h ⊢
  split
  · rename_i q; exact .inl ⟨q.1, q.2, rfl⟩
  · split
    · rename_i q
      refine .inr ⟨by omega, by omega, by rw [h1 q]; omega, by omega, by omega⟩
    · split
      · rename_i q
        refine .inr ⟨by omega, by omega, by rw [h2 q]; omega, by omega, by omega⟩
      · rename_i q1 q2 q3
        rw [if_neg q1, if_neg q2, if_neg q3] at h
        exact absurd h (by decide)

theorem sLow (c : UInt8) (X : Int) (w : World) (h : bits BinOp.or .u8 (c.toNat : Int) 32 = X + 87) : Calls Tryz.prog 144 #[B8 c] w (Ret (.int .u8 (X + 87)) w) :=
  (Tryz.internal_strconv_lower (c.toNat : Int) w).mono fun e w' q => ⟨by rw [q.1, h], q.2.symm⟩

set_option maxHeartbeats 8000000 in
set_option maxRecDepth 100000 in
theorem inPU (s : List UInt8) (base bt M : Int) (r : Option Int) (w : World)
    (hcase : base = 16 ∧ bt = 32 ∧ M = 4294967295)
    (hne : 0 < s.length) (hl : s.length ≤ 4194304) (hall : Cssp.allB base s = true) (hr : Hid (Cssp.pu M base 0 s = r)) :
    Calls Tryz.prog 128 #[S s, .int .i64 base, .int .i64 bt] w fun e w' => e = .returned (puV M r) ∧ Below w.heap.size w w' := by
  have hrow := rowAt_new w s
  have hb := below_bytes w 5 ⟨s.toArray⟩
  have hcv := Lib.run_convert_string_bytes (P := Tryz.prog) w 9 32 5 ⟨s.toArray⟩ Tryz.underlying9 Tryz.underlying32 Tryz.underlying5
  rw [bl_size] at hcv
  obtain ⟨B, hB⟩ : ∃ B, B = w.heap.size := ⟨_, rfl⟩
  obtain ⟨w1, hw1⟩ : ∃ x, x = Lib.bytesWorld w 5 ⟨s.toArray⟩ := ⟨_, rfl⟩
  obtain ⟨cap, hcap⟩ : ∃ x, x = grownCap w s.length 0 5 := ⟨_, rfl⟩
  rw [← hw1, ← hB] at hrow hb
  rw [← hw1, ← hB, ← hcap] at hcv
  have hB' := hide hB
  have HALL := hide hall
  have hs0 : s.isEmpty = false := by
    cases s with
    | nil => exact absurd hne (by decide)
    | cons _ _ => rfl
  clear hw1 hB hcap hall
  obtain ⟨rfl, rfl, rfl⟩ := hcase
  · go_enter Tryz.func128, Tryz.ntmps128
    go_wp2_with fail
    clear hcv
    go_loopg [12, 13, 101] s.length (fun g s12 s13 s101 wx => ∃ (i : Nat) (acc : Int), i + g = s.length ∧ s12 = .bool false ∧ s101 = .int .i64 i ∧ s13 = .int .u64 acc ∧ 0 ≤ acc ∧ acc ≤ 4294967295 ∧ Hid (Cssp.pu 4294967295 16 acc (s.drop i) = r) ∧ wx = w1)
    case atStart => exact ⟨0, 0, by omega, rfl, rfl, rfl, by decide, by decide, hr, rfl⟩
    case round =>
      obtain ⟨i, acc, hi, rfl, rfl, rfl, ha0, ha1, hd, rfl⟩ := hrel
      clear hr
      by_cases hlt : i < s.length
      · have hc0 := hrow.cell i hlt
        obtain ⟨c, hc⟩ : ∃ c, s[i] = c := ⟨_, rfl⟩
        have hcons : s.drop i = c :: s.drop (i + 1) := by rw [List.drop_eq_getElem_cons hlt, hc]
        have hdig : Cssp.isDig 16 c = true := List.all_eq_true.1 HALL.out c (by rw [← hc]; exact List.getElem_mem _)
        rw [hc] at hc0
        have hd2 := hd.out
        rw [hcons, Cssp.pu] at hd2
        have hge : 0 ≤ Cssp.hex c ∧ Cssp.hex c < 16 := by simpa [Cssp.isDig] using hdig
        have hcs := hex_cases c hge.1
        obtain ⟨X, hX⟩ : ∃ X, Cssp.hex c = X := ⟨_, rfl⟩
        rw [hX] at hge hcs hd2
        obtain ⟨hg0, hg1⟩ := hge
        clear hd hcons hdig hX hc
        by_cases hM : 4294967295 < acc * 16 + X
        · rw [if_pos hM] at hd2
          subst hd2
          rcases hcs with ⟨h1, h2, h3⟩ | ⟨h1, h2, h3, h4, h5⟩
          · have hM' : ¬ acc * 16 + ((c.toNat : Int) - 48) ≤ 4294967295 := by omega
            go_wp2_with fail
            refine bodyPost_ret (v := puV 4294967295 none) (by simp [results, Tryz.results128, go_sem, puV]) rfl ?_
            exact ⟨rfl, by rw [← hB'.out]; exact hb⟩
          · have HB3 := hide h3
            clear h3
            go_wp2_with fail
            refine (sLow c X _ HB3.out).mono ?_
            rintro e w2 ⟨rfl, rfl⟩
            go_wp2_with fail
            refine (sLow c X _ HB3.out).mono ?_
            rintro e w2 ⟨rfl, rfl⟩
            go_wp2_with fail
            refine (sLow c X _ HB3.out).mono ?_
            rintro e w2 ⟨rfl, rfl⟩
            have hM' : ¬ acc * 16 + X ≤ 4294967295 := by omega
            have hX' : X + 87 - 97 + 10 = X := by omega
            go_wp2_with fail
            refine bodyPost_ret (v := puV 4294967295 none) (by simp [results, Tryz.results128, go_sem, puV]) rfl ?_
            exact ⟨rfl, by rw [← hB'.out]; exact hb⟩
        · rw [if_neg hM] at hd2
          have HD2 := hide hd2
          clear hd2
          rcases hcs with ⟨h1, h2, h3⟩ | ⟨h1, h2, h3, h4, h5⟩
          · have hM' : acc * 16 + ((c.toNat : Int) - 48) ≤ 4294967295 := by omega
            go_wp2_with fail
            go_roundg (gk - 1)
            case measure => omega
            case rel => exact ⟨i + 1, acc * 16 + X, by omega, rfl, by go_num, by rw [h3], by omega, by omega, HD2, rfl⟩
          · have HB3 := hide h3
            clear h3
            go_wp2_with fail
            refine (sLow c X _ HB3.out).mono ?_
            rintro e w2 ⟨rfl, rfl⟩
            go_wp2_with fail
            refine (sLow c X _ HB3.out).mono ?_
            rintro e w2 ⟨rfl, rfl⟩
            go_wp2_with fail
            refine (sLow c X _ HB3.out).mono ?_
            rintro e w2 ⟨rfl, rfl⟩
            have hM' : acc * 16 + X ≤ 4294967295 := by omega
            have hX' : X + 87 - 97 + 10 = X := by omega
            go_wp2_with fail
            go_roundg (gk - 1)
            case measure => omega
            case rel => exact ⟨i + 1, acc * 16 + X, by omega, rfl, by go_num, by first | rfl | (go_num <;> omega), by omega, by omega, HD2, rfl⟩
      · have e : i = s.length := by omega
        subst e
        have hd2 := hd.out
        rw [List.drop_length, Cssp.pu] at hd2
        subst hd2
        clear hd
        go_wp2_with fail
        refine bodyPost_ret (v := puV 4294967295 (some acc)) (by simp [results, Tryz.results128, go_sem, puV]) rfl ?_
        exact ⟨rfl, by rw [← hB'.out]; exact hb⟩
end Go.Proofs.YtojgcangnkjmjaaGreatDoor
