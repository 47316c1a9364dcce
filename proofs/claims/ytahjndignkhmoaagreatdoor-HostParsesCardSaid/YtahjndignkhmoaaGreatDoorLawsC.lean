/- The law HostCase, walked. -/
import Derived.Test.YtahjndignkhmoaaGreatDoorLawsB
namespace Go.Proofs.YtahjndignkhmoaaGreatDoor
open Go.RowKit

theorem map_take_succ (f : UInt8 → UInt8) (s : List UInt8) (i : Nat) (h : i < s.length) : (s.take (i + 1)).map f = (s.take i).map f ++ [f s[i]] := by
  rw [List.take_succ_eq_append_getElem h, List.map_append]; rfl
theorem row_step (f : UInt8 → UInt8) (s : List UInt8) (i : Nat) (h : i < s.length) : (s.take (i + 1)).map f ++ s.drop (i + 1) = ((s.take i).map f ++ s.drop i).set i (f s[i]) := by
  have hl : ((s.take i).map f).length = i := by rw [List.length_map, List.length_take]; omega
  rw [List.set_append_right _ _ (by rw [hl]; exact Nat.le_refl _), hl, Nat.sub_self, map_take_succ f s i h, List.drop_eq_getElem_cons h, List.set_cons_zero, List.append_assoc]
  rfl
theorem row_same (f : UInt8 → UInt8) (s : List UInt8) (i : Nat) (h : i < s.length) (hf : f s[i] = s[i]) : (s.take (i + 1)).map f ++ s.drop (i + 1) = (s.take i).map f ++ s.drop i := by
  rw [map_take_succ f s i h, List.drop_eq_getElem_cons h, hf, List.append_assoc]
  rfl
theorem row_at (f : UInt8 → UInt8) (s : List UInt8) (i : Nat) (h : i < s.length) : ((s.take i).map f ++ s.drop i)[i]? = some s[i] := by
  have hl : ((s.take i).map f).length = i := by rw [List.length_map, List.length_take]; omega
  rw [List.getElem?_append_right (by rw [hl]; exact Nat.le_refl _), hl, Nat.sub_self, List.drop_eq_getElem_cons h]; rfl
theorem RowAt.cell2 {w : World} {g : Nat} {xs : List UInt8} {j : Nat} {c : UInt8} (h : RowAt w g xs) (hj : xs[j]? = some c) : w.cell? ⟨g, j, none⟩ = some (B8 c) ∧ w.frozen? ⟨g, j, none⟩ = false := by
  obtain ⟨hlt, e⟩ := List.getElem?_eq_some_iff.1 hj
  have h1 := h.cell j hlt
  rw [e] at h1
  exact ⟨h1, h.free j hlt⟩
theorem row_len (f : UInt8 → UInt8) (s : List UInt8) (i : Nat) (h : i ≤ s.length) : ((s.take i).map f ++ s.drop i).length = s.length := by simp; omega
theorem RowAt.other {w : World} {g : Nat} {xs : List UInt8} (h : RowAt w g xs) (p : Addr) (hp : g ≠ p.block) (u : Value) : RowAt (w.setCell p u) g xs := by
  obtain ⟨C, N, hg, hN, hc⟩ := h
  exact ⟨C, N, (Below.heap_setCell _ _ _ _ hp).trans hg, hN, hc⟩
theorem RowAt.below {w w' : World} {g : Nat} {xs : List UInt8} (h : RowAt w g xs) (hb : Below w.heap.size w w') : RowAt w' g xs := by
  obtain ⟨C, N, hg, hN, hc⟩ := h
  exact ⟨C, N, (hb.block g (heap_lt hg)).trans hg, hN, hc⟩
theorem hV_shape (s : List UInt8) (sp : Bool) (r : Option Hostp.Host) (hp : Hostp.parse s sp = r) : ∃ k u n n0 n1 n2 n3 n4 n5 n6 n7 e, hV r = .tuple #[H11 k u n n0 n1 n2 n3 n4 n5 n6 n7, .int .i64 e] := by
  cases r with
  | none => exact ⟨0, [], 0, 0, 0, 0, 0, 0, 0, 0, 0, 110, rfl⟩
  | some h =>
    rcases Hostp.parse_shape s sp h hp with ⟨u, rfl, _⟩ | ⟨n, rfl, _⟩ | ⟨l, rfl, hl, _⟩ | ⟨u, rfl, _⟩ | rfl
    · exact ⟨1, u, 0, 0, 0, 0, 0, 0, 0, 0, 0, 0, rfl⟩
    · exact ⟨3, [], n, 0, 0, 0, 0, 0, 0, 0, 0, 0, rfl⟩
    · obtain ⟨n0, n1, n2, n3, n4, n5, n6, n7, rfl⟩ := list8 hl
      exact ⟨4, [], 0, n0, n1, n2, n3, n4, n5, n6, n7, 0, rfl⟩
    · exact ⟨2, u, 0, 0, 0, 0, 0, 0, 0, 0, 0, 0, rfl⟩
    · exact ⟨5, [], 0, 0, 0, 0, 0, 0, 0, 0, 0, 0, rfl⟩
theorem upB_hit (c : UInt8) (h : 97 ≤ c.toNat ∧ c.toNat ≤ 122) : ((Hostp.upB c).toNat : Int) = (c.toNat : Int) - 32 := by
  unfold Hostp.upB
  rw [if_pos h, UInt8.toNat_ofNat_of_lt' (by show c.toNat - 32 < 256; omega)]
  omega
theorem upB_miss (c : UInt8) (h : ¬ (97 ≤ c.toNat ∧ c.toNat ≤ 122)) : Hostp.upB c = c := by
  unfold Hostp.upB
  rw [if_neg h]
theorem lowB_hit2 (c : UInt8) (h : 65 ≤ c.toNat ∧ c.toNat ≤ 90) : ((Hostp.lowB c).toNat : Int) = (c.toNat : Int) + 32 := by
  unfold Hostp.lowB
  rw [if_pos h, UInt8.toNat_ofNat_of_lt' (by show c.toNat + 32 < 256; omega)]
  omega

def Inner (b : Nat) (t : List UInt8) (k : Nat) (acc : List UInt8) : Prop := ((0 < k ∨ acc = []) ∧ Hostp.repr b k ++ acc = t) ∨ (k = 0 ∧ acc ≠ [] ∧ acc = t)
theorem inner_step {b : Nat} {t : List UInt8} {k : Nat} {acc : List UInt8} (hb : 2 ≤ b) (h : Inner b t k acc) (hc : 0 < k ∨ acc = []) : Inner b t (k / b) (Hostp.digL (k % b) :: acc) := by
  have h1 : Hostp.repr b k ++ acc = t := by
    rcases h with ⟨_, h⟩ | ⟨h0, hn, _⟩
    · exact h
    · rcases hc with hc | hc
      · omega
      · exact absurd hc hn
  by_cases hk : k < b
  · rw [Hostp.repr_lo b k hk] at h1
    refine .inr ⟨Nat.div_eq_of_lt hk, by simp, ?_⟩
    rw [Nat.mod_eq_of_lt hk]; exact h1
  · rw [Hostp.repr_hi b k (by omega) hb, List.append_assoc] at h1
    exact .inl ⟨.inl (Nat.div_pos (by omega) (by omega)), h1⟩
theorem inner_end {b : Nat} {t acc : List UInt8} (h : Inner b t 0 acc) (hc : acc ≠ []) : acc = t := by
  rcases h with ⟨h | h, _⟩ | ⟨_, _, h⟩
  · omega
  · exact absurd h hc
  · exact h
theorem inner_len {b : Nat} {t : List UInt8} {k : Nat} {acc : List UInt8} (h : Inner b t k acc) (ht : t.length ≤ 32) : acc.length ≤ 32 := by
  rcases h with ⟨_, h⟩ | ⟨_, _, h⟩
  · rw [← h, List.length_append] at ht; omega
  · rw [h]; exact ht
theorem dig_slice (d : Nat) (hd : d < 16) (wx : World) : (Instr.slice 9 (.string ⟨#[48, 49, 50, 51, 52, 53, 54, 55, 56, 57, 97, 98, 99, 100, 101, 102]⟩) (some (.int .u32 (d : Int))) (some (.int .u32 ((d : Int) + 1))) none).run Tryz.prog wx = .ok (S [Hostp.digL d]) wx := by
  rw [run_slice_string_if (h := Tryz.underlying9), if_pos ⟨by omega, by show ((d : Int) + 1) ≤ 16; omega⟩, if_pos ⟨by omega, by omega⟩]
  have : ∀ d : Fin 16, (⟨#[48, 49, 50, 51, 52, 53, 54, 55, 56, 57, 97, 98, 99, 100, 101, 102]⟩ : ByteArray).extract d.val (d.val + 1) = ⟨[Hostp.digL d.val].toArray⟩ := by decide +kernel
  have h2 := this ⟨d, hd⟩
  rw [show ((d : Int)).toNat = d by omega, show ((d : Int) + 1).toNat = d + 1 by omega, h2]
theorem base_at (n : Nat) (hn : n < 4294967296) (w : World) (D i : Nat) (hi : i < 3) (hx : w.heap[D]? = some (.cells #[.int .u32 10, .int .u32 8, .int .u32 16] 23 (0, 0))) (hy : w.heap[D + 1]? = some (.cells #[S [], S [48], S [48, 120]] 9 (0, 0))) :
    ∃ (b : Nat) (h : List UInt8), w.cell? ⟨D, i, none⟩ = some (.int .u32 b) ∧ w.frozen? ⟨D, i, none⟩ = false ∧ w.cell? ⟨D + 1, i, none⟩ = some (S h) ∧ w.frozen? ⟨D + 1, i, none⟩ = false ∧ 2 ≤ b ∧ b ≤ 16 ∧ h.length ≤ 2 ∧ Hostp.parse (h ++ Hostp.repr b n) true = some (.four n) := by
  have hf : ∀ j, w.frozen? ⟨D, j, none⟩ = false := fun j => by simp [World.frozen?, hx]
  have hf2 : ∀ j, w.frozen? ⟨D + 1, j, none⟩ = false := fun j => by simp [World.frozen?, hy]
  have h3 : i = 0 ∨ i = 1 ∨ i = 2 := by omega
  rcases h3 with rfl | rfl | rfl
  · exact ⟨10, [], by rw [Lib.cell_of_heap hx]; rfl, hf _, by rw [Lib.cell_of_heap hy]; rfl, hf2 _, by omega, by omega, by simp, Hostp.parse_10 n hn⟩
  · exact ⟨8, [48], by rw [Lib.cell_of_heap hx]; rfl, hf _, by rw [Lib.cell_of_heap hy]; rfl, hf2 _, by omega, by omega, by simp, Hostp.parse_8 n hn⟩
  · exact ⟨16, [48, 120], by rw [Lib.cell_of_heap hx]; rfl, hf _, by rw [Lib.cell_of_heap hy]; rfl, hf2 _, by omega, by omega, by simp, Hostp.parse_16 n hn⟩

set_option maxHeartbeats 8000000 in
set_option maxRecDepth 100000 in
theorem law_case (s : List UInt8) (n : Nat) (w : World) (hs : s.length ≤ 9223372036854775807) (hn : n < 4294967296) (ht : Tab2 w) :
    Calls Tryz.prog 6 #[S s, .int .u32 n] w (Fresh (.bool true) w) := by
  obtain ⟨B, hB⟩ : ∃ B, w.heap.size = B := ⟨_, rfl⟩
  have HB := hide hB
  clear hB
  by_cases h8 : 8192 < s.length
  · go_enter Tryz.func6, Tryz.ntmps6
    go_wp2_with fail
    refine (works _ ht).mono ?_
    rintro e w1 ⟨rfl, hb1⟩
    go_wp2_with fail
    go_ret
    exact ⟨rfl, hb1⟩
  · have hl : s.length ≤ 8192 := by omega
    clear h8 hs
    go_enter Tryz.func6, Tryz.ntmps6
    go_wp2_with fail
    refine (works _ ht).mono ?_
    rintro e w1 ⟨rfl, hb1⟩
    have hs1 := hb1.size
    rw [HB.out] at hs1
    have ht1 := ht.below hb1
    have hbw1 : Below B w w1 := by rw [← HB.out]; exact hb1
    clear hb1
    have hr1 := rowAt_new w1 s
    have hb2 := below_bytes w1 5 ⟨s.toArray⟩
    have hz2 : w1.heap.size < (Lib.bytesWorld w1 5 ⟨s.toArray⟩).heap.size := by rw [Lib.bytesWorld_size]; omega
    have hcv := Lib.run_convert_string_bytes (P := Tryz.prog) w1 9 40 5 ⟨s.toArray⟩ Tryz.underlying9 Tryz.underlying40 Tryz.underlying5
    rw [bl_size] at hcv
    obtain ⟨w2, hw2⟩ : ∃ x, x = Lib.bytesWorld w1 5 ⟨s.toArray⟩ := ⟨_, rfl⟩
    obtain ⟨U, hU⟩ : ∃ x, x = w1.heap.size := ⟨_, rfl⟩
    obtain ⟨cap1, hcap1⟩ : ∃ x, x = grownCap w1 s.length 0 5 := ⟨_, rfl⟩
    rw [← hw2, ← hU] at hr1 hb2 hz2
    rw [← hw2, ← hU, ← hcap1] at hcv
    rw [← hU] at hs1
    clear hw2 hcap1
    have hr2 := rowAt_new w2 s
    have hb3 := below_bytes w2 5 ⟨s.toArray⟩
    have hz3 : w2.heap.size < (Lib.bytesWorld w2 5 ⟨s.toArray⟩).heap.size := by rw [Lib.bytesWorld_size]; omega
    have hcv2 := Lib.run_convert_string_bytes (P := Tryz.prog) w2 9 40 5 ⟨s.toArray⟩ Tryz.underlying9 Tryz.underlying40 Tryz.underlying5
    rw [bl_size] at hcv2
    obtain ⟨w3, hw3⟩ : ∃ x, x = Lib.bytesWorld w2 5 ⟨s.toArray⟩ := ⟨_, rfl⟩
    obtain ⟨L, hL⟩ : ∃ x, x = w2.heap.size := ⟨_, rfl⟩
    obtain ⟨cap2, hcap2⟩ : ∃ x, x = grownCap w2 s.length 0 5 := ⟨_, rfl⟩
    have hrU := hr1.below hb3
    rw [← hw3] at hrU
    have ht3 := ht1.below (by rw [← hU]; exact hb2.trans (hb3.mono (by omega)))
    have hbw3 : Below B w (Lib.bytesWorld w2 5 ⟨s.toArray⟩) := hbw1.trans ((hb2.mono hs1).trans (hb3.mono (by omega)))
    rw [← hw3] at ht3 hbw3
    rw [← hw3, ← hL] at hr2 hb3 hz3
    rw [← hw3, ← hL, ← hcap2] at hcv2
    rw [← hL] at hz2
    have hUL : U < L := hz2
    clear hw3 hcap2 hb2 hb3 hr1 ht1 hbw1 hU hL hz2
    go_wp2_with fail
    clear hcv hcv2
    go_loopg [8] s.length (fun g s8 wx => ∃ (i : Nat), i + g = s.length ∧ s8 = .int .i64 i ∧ RowAt wx U ((s.take i).map Hostp.upB ++ s.drop i) ∧ RowAt wx L ((s.take i).map Hostp.lowB ++ s.drop i) ∧ Below U w3 wx ∧ Below B w wx)
    case atStart => exact ⟨0, by omega, rfl, by simpa using hrU, by simpa using hr2, Below.refl _ _, hbw3⟩
    case round =>
      obtain ⟨i, hi, rfl, hru, hrl, hbx, hbwx⟩ := hrel
      clear hrU hr2
      by_cases hlt : i < s.length
      · obtain ⟨cu, fu⟩ := hru.cell2 (row_at Hostp.upB s i hlt)
        obtain ⟨cl, fl⟩ := hrl.cell2 (row_at Hostp.lowB s i hlt)
        have hsu := row_step Hostp.upB s i hlt
        have hsl := row_step Hostp.lowB s i hlt
        have hmu := row_same Hostp.upB s i hlt
        have hml := row_same Hostp.lowB s i hlt
        obtain ⟨c, hc⟩ : ∃ c, s[i] = c := ⟨_, rfl⟩
        rw [hc] at hsu hsl hmu hml cu cl
        have hcb := u8_lt c
        have HSU := hide hsu
        have HSL := hide hsl
        have HMU := hide hmu
        have HML := hide hml
        clear hsu hsl hmu hml
        by_cases ha : 97 ≤ c.toNat ∧ c.toNat ≤ 122
        · have hup := upB_hit c ha
          have hlm := lowB_miss c (by omega)
          have hU1 := hru.set i (Hostp.upB c)
          rw [← HSU.out] at hU1
          have hL1 := hrl.other ⟨U, i, none⟩ (by show L ≠ U; omega) (B8 (Hostp.upB c))
          rw [← HML.out hlm] at hL1
          have HU1 := hide hU1
          have HL1 := hide hL1
          have HUP := hide hup
          obtain ⟨ha1, ha2⟩ := ha
          clear hU1 hL1 hup hlm
          go_wp2_with fail
          rw [← HUP.out]
          go_roundg (gk - 1)
          case measure => omega
          case rel => exact ⟨i + 1, by omega, by go_num, HU1.out, HL1.out, hbx.setCell (Nat.le_refl _) _, hbwx.setCell (by show B ≤ U; omega) _⟩
        · have hum := upB_miss c ha
          by_cases hb : 65 ≤ c.toNat ∧ c.toNat ≤ 90
          · have hlo := lowB_hit2 c hb
            have hL1 := hrl.set i (Hostp.lowB c)
            rw [← HSL.out] at hL1
            have hU1 := hru.other ⟨L, i, none⟩ (by show U ≠ L; omega) (B8 (Hostp.lowB c))
            rw [← HMU.out hum] at hU1
            have HU1 := hide hU1
            have HL1 := hide hL1
            have HLO := hide hlo
            obtain ⟨hb1, hb2⟩ := hb
            clear hU1 hL1 hlo hum ha
            go_wp2_with fail
            rw [← HLO.out]
            go_roundg (gk - 1)
            case measure => omega
            case rel => exact ⟨i + 1, by omega, by go_num, HU1.out, HL1.out, hbx.setCell (by show U ≤ L; omega) _, hbwx.setCell (by show B ≤ L; omega) _⟩
          · have hlm := lowB_miss c hb
            have hU1 := hru
            have hL1 := hrl
            rw [← HMU.out hum] at hU1
            rw [← HML.out hlm] at hL1
            have HU1 := hide hU1
            have HL1 := hide hL1
            have h3 : c.toNat < 65 ∨ (90 < c.toNat ∧ c.toNat < 97) ∨ 122 < c.toNat := by omega
            clear hU1 hL1 hlm hum ha hb
            rcases h3 with h3 | ⟨h3, h4⟩ | h3
            all_goals
              go_wp2_with fail
              go_roundg (gk - 1)
              (case measure => omega)
              (case rel => exact ⟨i + 1, by omega, by go_num, HU1.out, HL1.out, hbx, hbwx⟩)
      · have e : i = s.length := by omega
        subst e
        rw [List.take_length, List.drop_length, List.append_nil] at hru hrl
        have hr4 : ∀ g (f : UInt8 → UInt8) cap, RowAt wr g (s.map f) → (convert 40 9 (.slice (some ⟨g, 0, none⟩) s.length cap)).run Tryz.prog wr = .ok (S (s.map f)) wr := fun g f cap h => by
          have := run_convert_bytes_back (P := Tryz.prog) wr 40 9 5 ⟨g, 0, none⟩ cap (s.map f) Tryz.underlying40 Tryz.underlying5 Tryz.underlying9 (fun j hj => by
            have := h.cell j hj
            rw [show (⟨g, 0, none⟩ : Addr).add j = ⟨g, j, none⟩ by unfold Addr.add; split <;> simp_all]
            exact this)
          rw [List.length_map] at this
          exact this
        have hcu := hr4 U Hostp.upB cap1 hru
        obtain ⟨r, hr⟩ : ∃ r, Hostp.parse (s.map Hostp.upB) true = r := ⟨_, rfl⟩
        have hr' : Hostp.parse (Hostp.lower s) true = r := by rw [← hr, Hostp.parse_up]
        obtain ⟨k, u, n', n0, n1, n2, n3, n4, n5, n6, n7, e', hvr⟩ := hV_shape _ _ r hr
        obtain ⟨su, hsu⟩ : ∃ x, s.map Hostp.upB = x := ⟨_, rfl⟩
        obtain ⟨sl, hsl⟩ : ∃ x, Hostp.lower s = x := ⟨_, rfl⟩
        have hsul : su.length ≤ 8192 := by rw [← hsu, List.length_map]; exact hl
        have hsll : sl.length ≤ 8192 := by rw [← hsl, Hostp.lower_len]; exact hl
        rw [hsu] at hcu hr
        rw [hsl] at hr'
        have hrl2 : RowAt wr L sl := by rw [← hsl]; exact hrl
        have hsl8 : s.length = sl.length := by rw [← hsl, Hostp.lower_len]
        have HR := hide hr
        have HR' := hide hr'
        have HRL := hide hrl2
        have HSL8 := hide hsl8
        have HBX := hide hbx
        have htr : Tab2 wr := ht.below (by rw [HB.out]; exact hbwx)
        clear hr hr' hsu hsl hr4 hru hrl hrl2 hsl8
        go_wp2_with fail
        refine (hParse su true r _ htr (by omega) HR.out).mono ?_
        rintro e wp ⟨rfl, hbp⟩
        rw [hvr]
        have hsr := hbx.size
        have hsp := hbp.size
        have htp := htr.below hbp
        have hbwp : Below B w wp := hbwx.trans (hbp.mono (by omega))
        have hzr : L < wr.heap.size := by omega
        have hrlp := HRL.out.below (hbp.mono (by omega))
        clear hbp hbx hbwx htr hcu
        have kn : (wp.alloc (.cells #[.int .u8 k, S u, .int .u32 n', U16 n0, U16 n1, U16 n2, U16 n3, U16 n4, U16 n5, U16 n6, U16 n7] 27)).heap[wp.heap.size]? = some (.cells #[.int .u8 k, S u, .int .u32 n', U16 n0, U16 n1, U16 n2, U16 n3, U16 n4, U16 n5, U16 n6, U16 n7] 27 (0, 0)) := heap_alloc_last _ _
        have kb' : Below wp.heap.size wp (wp.alloc (.cells #[.int .u8 k, S u, .int .u32 n', U16 n0, U16 n1, U16 n2, U16 n3, U16 n4, U16 n5, U16 n6, U16 n7] 27)) := (Below.refl _ _).alloc (Nat.le_refl _) _
        have kzn : (wp.alloc (.cells #[.int .u8 k, S u, .int .u32 n', U16 n0, U16 n1, U16 n2, U16 n3, U16 n4, U16 n5, U16 n6, U16 n7] 27)).heap.size = wp.heap.size + 1 := by simp
        go_upto_region 16 with (fail)
        obtain ⟨w4, hwn⟩ : ∃ x, x = wp.alloc (.cells #[.int .u8 k, S u, .int .u32 n', U16 n0, U16 n1, U16 n2, U16 n3, U16 n4, U16 n5, U16 n6, U16 n7] 27) := ⟨_, rfl⟩
        obtain ⟨D1, hDn⟩ : ∃ x, wp.heap.size = x := ⟨_, rfl⟩
        rw [← hwn] at kn kb' kzn ⊢
        have ht4 := htp.below kb'
        have hbw4 : Below B w w4 := hbwp.trans (kb'.mono (by omega))
        have hrl4 := hrlp.below (kb'.mono (by omega))
        rw [hDn] at kn kzn hsp ⊢
        clear hwn hDn kb' hbwp htp hrlp
        have hcl : (convert 40 9 (.slice (some ⟨L, 0, none⟩) s.length cap2)).run Tryz.prog w4 = .ok (S sl) w4 := by
          have := run_convert_bytes_back (P := Tryz.prog) w4 40 9 5 ⟨L, 0, none⟩ cap2 sl Tryz.underlying40 Tryz.underlying5 Tryz.underlying9 (fun j hj => by
            have := hrl4.cell j hj
            rw [show (⟨L, 0, none⟩ : Addr).add j = ⟨L, j, none⟩ by unfold Addr.add; split <;> simp_all]
            exact this)
          rw [HSL8.out]
          exact this
        clear hrl4
        go_wp2_with fail
        refine (hParse sl true r _ ht4 (by omega) HR'.out).mono ?_
        rintro e wq ⟨rfl, hbq⟩
        rw [hvr]
        have hsq := hbq.size
        have htq := ht4.below hbq
        have hbwq : Below B w wq := hbw4.trans (hbq.mono (by omega))
        have knq := (hbq.block D1 (by omega)).trans kn
        have hDq : D1 < wq.heap.size := by omega
        clear hbq hbw4 ht4 kn hcl
        have kn : (wq.alloc (.cells #[.int .u8 k, S u, .int .u32 n', U16 n0, U16 n1, U16 n2, U16 n3, U16 n4, U16 n5, U16 n6, U16 n7] 27)).heap[wq.heap.size]? = some (.cells #[.int .u8 k, S u, .int .u32 n', U16 n0, U16 n1, U16 n2, U16 n3, U16 n4, U16 n5, U16 n6, U16 n7] 27 (0, 0)) := heap_alloc_last _ _
        have kb' : Below wq.heap.size wq (wq.alloc (.cells #[.int .u8 k, S u, .int .u32 n', U16 n0, U16 n1, U16 n2, U16 n3, U16 n4, U16 n5, U16 n6, U16 n7] 27)) := (Below.refl _ _).alloc (Nat.le_refl _) _
        have kz2 : (wq.alloc (.cells #[.int .u8 k, S u, .int .u32 n', U16 n0, U16 n1, U16 n2, U16 n3, U16 n4, U16 n5, U16 n6, U16 n7] 27)).heap.size = wq.heap.size + 1 := by simp
        go_upto_region 17 with (fail)
        obtain ⟨w5, hwn⟩ : ∃ x, x = wq.alloc (.cells #[.int .u8 k, S u, .int .u32 n', U16 n0, U16 n1, U16 n2, U16 n3, U16 n4, U16 n5, U16 n6, U16 n7] 27) := ⟨_, rfl⟩
        obtain ⟨D2, hDn⟩ : ∃ x, wq.heap.size = x := ⟨_, rfl⟩
        rw [← hwn] at kn kb' kz2 ⊢
        have ht5 := htq.below kb'
        have hbw5 : Below B w w5 := hbwq.trans (kb'.mono (by omega))
        have kn1 := (kb'.block D1 (by omega)).trans knq
        rw [hDn] at kn kz2 hDq ⊢
        have hBD : B ≤ D2 := by omega
        clear hwn hDn kb' hbwq htq knq
        obtain ⟨⟨u1_0, u1_1, u1_2, u1_3, u1_4, u1_5, u1_6, u1_7, u1_8, u1_9, u1_10⟩, fu1⟩ := cells11 kn1
        obtain ⟨⟨u2_0, u2_1, u2_2, u2_3, u2_4, u2_5, u2_6, u2_7, u2_8, u2_9, u2_10⟩, fu2⟩ := cells11 kn
        have gh := gHost
        have qx := neqHost k u n' n0 n1 n2 n3 n4 n5 n6 n7
        go_upto_region 19 with (fail)
        clear u1_0 u1_1 u1_2 u1_3 u1_4 u1_5 u1_6 u1_7 u1_8 u1_9 u1_10 fu1 u2_0 u2_1 u2_2 u2_3 u2_4 u2_5 u2_6 u2_7 u2_8 u2_9 u2_10 fu2 kn1 kn qx
        go_upto_region 21 with (fail)
        have ky : ((w5.alloc (.cells #[.int .u32 10, .int .u32 8, .int .u32 16] 23)).alloc (.cells #[S [], S [48], S [48, 120]] 9)).heap[D2 + 1 + 1]? = some (.cells #[S [], S [48], S [48, 120]] 9 (0, 0)) := by
          rw [← kz2, show w5.heap.size + 1 = (w5.alloc (.cells #[.int .u32 10, .int .u32 8, .int .u32 16] 23)).heap.size by simp]
          exact heap_alloc_last _ _
        have kx : ((w5.alloc (.cells #[.int .u32 10, .int .u32 8, .int .u32 16] 23)).alloc (.cells #[S [], S [48], S [48, 120]] 9)).heap[D2 + 1]? = some (.cells #[.int .u32 10, .int .u32 8, .int .u32 16] 23 (0, 0)) := by
          rw [← kz2, Below.heap_alloc _ _ _ (by simp)]; exact heap_alloc_last _ _
        have kb' : Below w5.heap.size w5 ((w5.alloc (.cells #[.int .u32 10, .int .u32 8, .int .u32 16] 23)).alloc (.cells #[S [], S [48], S [48, 120]] 9)) := ((Below.refl _ _).alloc (Nat.le_refl _) _).alloc (by simp) _
        have kz3 : ((w5.alloc (.cells #[.int .u32 10, .int .u32 8, .int .u32 16] 23)).alloc (.cells #[S [], S [48], S [48, 120]] 9)).heap.size = D2 + 3 := by simp [kz2]
        obtain ⟨w6, hw6⟩ : ∃ x, x = (w5.alloc (.cells #[.int .u32 10, .int .u32 8, .int .u32 16] 23)).alloc (.cells #[S [], S [48], S [48, 120]] 9) := ⟨_, rfl⟩
        rw [← hw6] at kx ky kb' kz3 ⊢
        have ht6 := ht5.below kb'
        have hbw6 : Below B w w6 := hbw5.trans (kb'.mono (by omega))
        clear hw6 kb' ht5 hbw5 ht3 hbw3
        have kz4 : D2 + 3 ≤ w6.heap.size := by omega
        have KX := hide kx
        have KY := hide ky
        clear kx ky kz3 kz2 kzn
        go_wp2_with fail
        go_loopg [15] 3 (fun g s15 wx => ∃ (i : Nat), i + g = 3 ∧ s15 = .int .i64 i ∧ Tab2 wx ∧ Below B w wx ∧ Hid (wx.heap[D2 + 1]? = some (.cells #[.int .u32 10, .int .u32 8, .int .u32 16] 23 (0, 0))) ∧ Hid (wx.heap[D2 + 1 + 1]? = some (.cells #[S [], S [48], S [48, 120]] 9 (0, 0))) ∧ D2 + 3 ≤ wx.heap.size)
        case atStart => exact ⟨0, by omega, rfl, ht6, hbw6, KX, KY, kz4⟩
        case round =>
          obtain ⟨i, hi3, rfl, htx, hbx, hkx, hky, hzx⟩ := hrel
          clear KX KY ht6 hbw6
          by_cases hlt3 : i < 3
          · obtain ⟨b, hd, hcb, hfb, hch, hfh, hb2, hb16, hdl, hpp⟩ := base_at n hn _ _ i hlt3 hkx.out hky.out
            obtain ⟨t, htt⟩ : ∃ t, Hostp.repr b n = t := ⟨_, rfl⟩
            have htl : t.length ≤ 32 := by
              rw [← htt]
              exact Hostp.repr_len b hb2 31 n (Nat.lt_of_lt_of_le (by omega : n < 2 ^ 32) (Nat.pow_le_pow_left hb2 32))
            rw [htt] at hpp
            have HTT := hide htt
            have HPP := hide hpp
            clear htt hpp
            go_wp2_with fail
            rw [show decide ((i : Int) < 3) = true from decide_eq_true (by omega)]
            go_loopg [16, 17] (2 * n + 1) (fun g s16 s17 wy => ∃ (k : Nat) (acc : List UInt8), s16 = S acc ∧ s17 = .int .u32 k ∧ wy = wr ∧ k ≤ n ∧ g = 2 * k + (if acc = [] then 1 else 0) ∧ Hid (Inner b t k acc))
            case atStart => exact ⟨n, [], rfl, rfl, rfl, Nat.le_refl _, rfl, hide (.inl ⟨.inr rfl, by rw [List.append_nil]; exact HTT.out⟩)⟩
            case round =>
              obtain ⟨k, acc, rfl, rfl, rfl, hkn, hg, hin⟩ := hrel
              have hal := inner_len hin.out htl
              have HG := hide hg
              clear hg
              have hcases : (0 < k ∨ (k = 0 ∧ acc = [])) ∨ (k = 0 ∧ ∃ c l, acc = c :: l) := by
                rcases Nat.eq_zero_or_pos k with h | h
                · cases acc with
                  | nil => exact .inl (.inr ⟨h, rfl⟩)
                  | cons c l => exact .inr ⟨h, c, l, rfl⟩
                · exact .inl (.inl h)
              rcases hcases with hA | ⟨rfl, c, l, rfl⟩
              · have hst := inner_step hb2 hin.out (by rcases hA with h | ⟨_, h⟩; exact .inl h; exact .inr h)
                obtain ⟨d, hd'⟩ : ∃ d, k % b = d := ⟨_, rfl⟩
                obtain ⟨q, hq'⟩ : ∃ q, k / b = q := ⟨_, rfl⟩
                have hd16 : d < 16 := by rw [← hd']; have := Nat.mod_lt k (show 0 < b by omega); omega
                have hqk : q ≤ k := by rw [← hq']; exact Nat.div_le_self _ _
                have hme : 2 * q < gk := by
                  rw [HG.out, ← hq']
                  rcases hA with h | ⟨h, h2⟩
                  · have := Nat.div_lt_self h (show 1 < b by omega)
                    omega
                  · subst h; subst h2; simp
                have HME := hide hme
                rw [hd', hq'] at hst
                have HST := hide hst
                have e1 : (k : Int) % (b : Int) = (d : Int) := by rw [← hd']; rfl
                have e2 : (k : Int) / (b : Int) = (q : Int) := by rw [← hq']; rfl
                have e3 : (k : Int).tmod (b : Int) = (d : Int) := by rw [Int.tmod_eq_emod_of_nonneg (by omega)]; exact e1
                have e4 : (k : Int).tdiv (b : Int) = (q : Int) := by rw [Int.tdiv_eq_ediv_of_nonneg (by omega)]; exact e2
                have hds := dig_slice d hd16
                have hsum : ¬ 9223372036854775807 < 1 + acc.length := by omega
                clear hst hme
                rcases hA with hk0 | ⟨rfl, rfl⟩
                · clear hd' hq'
                  go_wp2_with fail
                  go_roundg (2 * q)
                  case measure => exact HME.out
                  case rel => exact ⟨q, Hostp.digL d :: acc, rfl, rfl, rfl, by omega, by simp, HST⟩
                · have hd0 : d = 0 := by rw [← hd', Nat.zero_mod]
                  have hq0 : q = 0 := by rw [← hq', Nat.zero_div]
                  clear hd' hq' e1 e2 e3 e4
                  subst hd0
                  subst hq0
                  go_wp2_with fail
                  go_roundg (2 * 0)
                  case measure => exact HME.out
                  case rel => exact ⟨0, [Hostp.digL 0], rfl, rfl, rfl, by omega, by simp, HST⟩
              · have hat := inner_end hin.out (by simp)
                obtain ⟨a, ha⟩ : ∃ a, c :: l = a := ⟨_, rfl⟩
                have hane : a ≠ [] := by rw [← ha]; simp
                rw [ha] at hat
                have hsum : ¬ 9223372036854775807 < hd.length + (l.length + 1) := by simp only [List.length_cons] at hal; omega
                have HAT := hide (ha.trans hat)
                clear ha hat
                go_upto_region 30 with (fail)
                rw [HAT.out]
                have hsum : ¬ 9223372036854775807 < hd.length + t.length := by omega
                go_wp2_with fail
                refine (hParse (hd ++ t) true (some (.four n)) _ htx (by simp only [List.length_append]; omega) HPP.out).mono ?_
                rintro e wc ⟨rfl, hbc⟩
                unfold hV
                dsimp only
                have hsc := hbc.size
                have htc := htx.below hbc
                have hbwc : Below B w wc := hbx.trans (hbc.mono (by omega))
                have hzc : D2 + 3 ≤ wc.heap.size := by omega
                have hkxc := hide ((hbc.block (D2 + 1) (by omega)).trans hkx.out)
                have hkyc := hide ((hbc.block (D2 + 1 + 1) (by omega)).trans hky.out)
                clear hbc htx hbx hkx hky hcb hfb hch hfh
                have kn : (wc.alloc (.cells #[.int .u8 3, S [], .int .u32 n, U16 0, U16 0, U16 0, U16 0, U16 0, U16 0, U16 0, U16 0] 27)).heap[wc.heap.size]? = some (.cells #[.int .u8 3, S [], .int .u32 n, U16 0, U16 0, U16 0, U16 0, U16 0, U16 0, U16 0, U16 0] 27 (0, 0)) := heap_alloc_last _ _
                have kb' : Below wc.heap.size wc (wc.alloc (.cells #[.int .u8 3, S [], .int .u32 n, U16 0, U16 0, U16 0, U16 0, U16 0, U16 0, U16 0, U16 0] 27)) := (Below.refl _ _).alloc (Nat.le_refl _) _
                have kz7 : (wc.alloc (.cells #[.int .u8 3, S [], .int .u32 n, U16 0, U16 0, U16 0, U16 0, U16 0, U16 0, U16 0, U16 0] 27)).heap.size = wc.heap.size + 1 := by simp
                go_upto_region 31 with (fail)
                obtain ⟨w7, hwn⟩ : ∃ x, x = wc.alloc (.cells #[.int .u8 3, S [], .int .u32 n, U16 0, U16 0, U16 0, U16 0, U16 0, U16 0, U16 0, U16 0] 27) := ⟨_, rfl⟩
                obtain ⟨D3, hDn⟩ : ∃ x, wc.heap.size = x := ⟨_, rfl⟩
                rw [← hwn] at kn kb' kz7 ⊢
                have ht7 := htc.below kb'
                have hbw7 : Below B w w7 := hbwc.trans (kb'.mono (by omega))
                have hkx7 := hide ((kb'.block (D2 + 1) (by omega)).trans hkxc.out)
                have hky7 := hide ((kb'.block (D2 + 1 + 1) (by omega)).trans hkyc.out)
                rw [hDn] at kn kz7 hzc ⊢
                have hz7 : D2 + 3 ≤ w7.heap.size := by omega
                clear hwn hDn kb' hbwc htc hkxc hkyc
                obtain ⟨⟨u1_0, u1_1, u1_2, u1_3, u1_4, u1_5, u1_6, u1_7, u1_8, u1_9, u1_10⟩, fu1⟩ := cells11 kn
                have qx := neqHost 3 [] n 0 0 0 0 0 0 0 0
                go_wp2_with fail
                go_roundg (2 - i)
                case measure => omega
                case rel => exact ⟨i + 1, by omega, by go_num, ht7, hbw7, hkx7, hky7, hz7⟩
          · go_wp2_with fail
            go_ret
            refine ⟨rfl, ?_⟩
            rw [HB.out]
            exact hbx
end Go.Proofs.YtahjndignkhmoaaGreatDoor
