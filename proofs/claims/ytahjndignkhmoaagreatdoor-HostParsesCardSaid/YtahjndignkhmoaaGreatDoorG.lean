/- strconv.ParseUint at the bases 8, 10 and 16, over digits of the base; a part's number. -/
import Derived.Test.YtahjndignkhmoaaGreatDoorF
namespace Go.Proofs.YtahjndignkhmoaaGreatDoor
open Go.RowKit

namespace Hostp
/-- digits read on; none: above M -/
def pu (M base : Int) : Int → List UInt8 → Option Int
  | acc, [] => some acc
  | acc, c :: l => if M < acc * base + hex c then none else pu M base (acc * base + hex c) l
end Hostp
/-- what ParseUint hands back -/
def puV (M : Int) : Option Int → Value
  | some v => .tuple #[.int .u64 v, .nilIface]
  | none => .tuple #[.int .u64 M, .iface 130 (.int .i64 1)]

theorem or8h : ∀ n : Fin 256, (((65 ≤ n.val ∧ n.val ≤ 70) → bits BinOp.or .u8 (n.val : Int) 32 = (n.val : Int) + 32) ∧ ((97 ≤ n.val ∧ n.val ≤ 102) → bits BinOp.or .u8 (n.val : Int) 32 = (n.val : Int))) := by decide +kernel
theorem hex_cases (c : UInt8) (h : 0 ≤ Hostp.hex c) : (48 ≤ c.toNat ∧ c.toNat ≤ 57 ∧ Hostp.hex c = (c.toNat : Int) - 48) ∨ (57 < c.toNat ∧ ¬ (c.toNat : Int) = 95 ∧ bits BinOp.or .u8 (c.toNat : Int) 32 = Hostp.hex c + 87 ∧ 10 ≤ Hostp.hex c ∧ Hostp.hex c ≤ 15) := by
  obtain ⟨h1, h2⟩ := or8h ⟨c.toNat, c.toNat_lt⟩
  simp only at h1 h2
  unfold Hostp.hex at h ⊢
  split
  · rename_i q; exact .inl ⟨q.1, q.2, rfl⟩
  · split
    · rename_i q
      refine .inr ⟨by omega, by omega, by rw [h1 q]; omega, by omega, by omega⟩
    · split
      · rename_i q
        refine .inr ⟨by omega, by omega, by rw [h2 q]; omega, by omega, by omega⟩
      · rename_i q1 q2 q3
        rw [if_neg q1, if_neg q2, if_neg q3] at h
        exact absurd h (by decide)

theorem sLow (c : UInt8) (X : Int) (w : World) (h : bits BinOp.or .u8 (c.toNat : Int) 32 = X + 87) : Calls Tryz.prog 100 #[B8 c] w (Ret (.int .u8 (X + 87)) w) :=
  (Tryz.internal_strconv_lower (c.toNat : Int) w).mono fun e w' q => ⟨by rw [q.1, h], q.2.symm⟩

set_option maxHeartbeats 8000000 in
set_option maxRecDepth 100000 in
theorem inPU (s : List UInt8) (base bt M : Int) (r : Option Int) (w : World)
    (hcase : (base = 16 ∧ bt = 40 ∧ M = 1099511627775) ∨ (base = 16 ∧ bt = 16 ∧ M = 65535) ∨ (base = 10 ∧ bt = 40 ∧ M = 1099511627775) ∨ (base = 8 ∧ bt = 40 ∧ M = 1099511627775))
    (hne : 0 < s.length) (hl : s.length ≤ 4194304) (hall : Hostp.allB base s = true) (hr : Hid (Hostp.pu M base 0 s = r)) :
    Calls Tryz.prog 85 #[S s, .int .i64 base, .int .i64 bt] w fun e w' => e = .returned (puV M r) ∧ Below w.heap.size w w' := by
  have hrow := rowAt_new w s
  have hb := below_bytes w 5 ⟨s.toArray⟩
  have hcv := Lib.run_convert_string_bytes (P := Tryz.prog) w 9 40 5 ⟨s.toArray⟩ Tryz.underlying9 Tryz.underlying40 Tryz.underlying5
  rw [bl_size] at hcv
  obtain ⟨B, hB⟩ : ∃ B, B = w.heap.size := ⟨_, rfl⟩
  obtain ⟨w1, hw1⟩ : ∃ x, x = Lib.bytesWorld w 5 ⟨s.toArray⟩ := ⟨_, rfl⟩
  obtain ⟨cap, hcap⟩ : ∃ x, x = grownCap w s.length 0 5 := ⟨_, rfl⟩
  rw [← hw1, ← hB] at hrow hb
  rw [← hw1, ← hB, ← hcap] at hcv
  have hB' := hide hB
  have HALL := hide hall
  have hs0 : s.isEmpty = false := by
    cases s with
    | nil => exact absurd hne (by decide)
    | cons _ _ => rfl
  clear hw1 hB hcap hall
  rcases hcase with ⟨rfl, rfl, rfl⟩ | ⟨rfl, rfl, rfl⟩ | ⟨rfl, rfl, rfl⟩ | ⟨rfl, rfl, rfl⟩
  · go_enter Tryz.func85, Tryz.ntmps85
    go_wp2_with fail
    clear hcv
    go_loopg [12, 13, 101] s.length (fun g s12 s13 s101 wx => ∃ (i : Nat) (acc : Int), i + g = s.length ∧ s12 = .bool false ∧ s101 = .int .i64 i ∧ s13 = .int .u64 acc ∧ 0 ≤ acc ∧ acc ≤ 1099511627775 ∧ Hid (Hostp.pu 1099511627775 16 acc (s.drop i) = r) ∧ wx = w1)
    case atStart => exact ⟨0, 0, by omega, rfl, rfl, rfl, by decide, by decide, hr, rfl⟩
    case round =>
      obtain ⟨i, acc, hi, rfl, rfl, rfl, ha0, ha1, hd, rfl⟩ := hrel
      clear hr
      by_cases hlt : i < s.length
      · have hc0 := hrow.cell i hlt
        obtain ⟨c, hc⟩ : ∃ c, s[i] = c := ⟨_, rfl⟩
        have hcons : s.drop i = c :: s.drop (i + 1) := by rw [List.drop_eq_getElem_cons hlt, hc]
        have hdig : Hostp.isDig 16 c = true := List.all_eq_true.1 HALL.out c (by rw [← hc]; exact List.getElem_mem _)
        rw [hc] at hc0
        have hd2 := hd.out
        rw [hcons, Hostp.pu] at hd2
        have hge : 0 ≤ Hostp.hex c ∧ Hostp.hex c < 16 := by simpa [Hostp.isDig] using hdig
        have hcs := hex_cases c hge.1
        obtain ⟨X, hX⟩ : ∃ X, Hostp.hex c = X := ⟨_, rfl⟩
        rw [hX] at hge hcs hd2
        obtain ⟨hg0, hg1⟩ := hge
        clear hd hcons hdig hX hc
        by_cases hM : 1099511627775 < acc * 16 + X
        · rw [if_pos hM] at hd2
          subst hd2
          rcases hcs with ⟨h1, h2, h3⟩ | ⟨h1, h2, h3, h4, h5⟩
          · have hM' : ¬ acc * 16 + ((c.toNat : Int) - 48) ≤ 1099511627775 := by omega
            go_wp2_with fail
            refine bodyPost_ret (v := puV 1099511627775 none) (by simp [results, Tryz.results85, go_sem, puV]) rfl ?_
            exact ⟨rfl, by rw [← hB'.out]; exact hb⟩
          · have HB3 := hide h3
            clear h3
            go_wp2_with fail
            refine (sLow c X _ HB3.out).mono ?_
            rintro e w2 ⟨rfl, rfl⟩
            go_wp2_with fail
            refine (sLow c X _ HB3.out).mono ?_
            rintro e w2 ⟨rfl, rfl⟩
            go_wp2_with fail
            refine (sLow c X _ HB3.out).mono ?_
            rintro e w2 ⟨rfl, rfl⟩
            have hM' : ¬ acc * 16 + X ≤ 1099511627775 := by omega
            have hX' : X + 87 - 97 + 10 = X := by omega
            go_wp2_with fail
            refine bodyPost_ret (v := puV 1099511627775 none) (by simp [results, Tryz.results85, go_sem, puV]) rfl ?_
            exact ⟨rfl, by rw [← hB'.out]; exact hb⟩
        · rw [if_neg hM] at hd2
          have HD2 := hide hd2
          clear hd2
          rcases hcs with ⟨h1, h2, h3⟩ | ⟨h1, h2, h3, h4, h5⟩
          · have hM' : acc * 16 + ((c.toNat : Int) - 48) ≤ 1099511627775 := by omega
            go_wp2_with fail
            go_roundg (gk - 1)
            case measure => omega
            case rel => exact ⟨i + 1, acc * 16 + X, by omega, rfl, by go_num, by rw [h3], by omega, by omega, HD2, rfl⟩
          · have HB3 := hide h3
            clear h3
            go_wp2_with fail
            refine (sLow c X _ HB3.out).mono ?_
            rintro e w2 ⟨rfl, rfl⟩
            go_wp2_with fail
            refine (sLow c X _ HB3.out).mono ?_
            rintro e w2 ⟨rfl, rfl⟩
            go_wp2_with fail
            refine (sLow c X _ HB3.out).mono ?_
            rintro e w2 ⟨rfl, rfl⟩
            have hM' : acc * 16 + X ≤ 1099511627775 := by omega
            have hX' : X + 87 - 97 + 10 = X := by omega
            go_wp2_with fail
            go_roundg (gk - 1)
            case measure => omega
            case rel => exact ⟨i + 1, acc * 16 + X, by omega, rfl, by go_num, by first | rfl | (go_num <;> omega), by omega, by omega, HD2, rfl⟩
      · have e : i = s.length := by omega
        subst e
        have hd2 := hd.out
        rw [List.drop_length, Hostp.pu] at hd2
        subst hd2
        clear hd
        go_wp2_with fail
        refine bodyPost_ret (v := puV 1099511627775 (some acc)) (by simp [results, Tryz.results85, go_sem, puV]) rfl ?_
        exact ⟨rfl, by rw [← hB'.out]; exact hb⟩
  · go_enter Tryz.func85, Tryz.ntmps85
    go_wp2_with fail
    clear hcv
    go_loopg [12, 13, 101] s.length (fun g s12 s13 s101 wx => ∃ (i : Nat) (acc : Int), i + g = s.length ∧ s12 = .bool false ∧ s101 = .int .i64 i ∧ s13 = .int .u64 acc ∧ 0 ≤ acc ∧ acc ≤ 65535 ∧ Hid (Hostp.pu 65535 16 acc (s.drop i) = r) ∧ wx = w1)
    case atStart => exact ⟨0, 0, by omega, rfl, rfl, rfl, by decide, by decide, hr, rfl⟩
    case round =>
      obtain ⟨i, acc, hi, rfl, rfl, rfl, ha0, ha1, hd, rfl⟩ := hrel
      clear hr
      by_cases hlt : i < s.length
      · have hc0 := hrow.cell i hlt
        obtain ⟨c, hc⟩ : ∃ c, s[i] = c := ⟨_, rfl⟩
        have hcons : s.drop i = c :: s.drop (i + 1) := by rw [List.drop_eq_getElem_cons hlt, hc]
        have hdig : Hostp.isDig 16 c = true := List.all_eq_true.1 HALL.out c (by rw [← hc]; exact List.getElem_mem _)
        rw [hc] at hc0
        have hd2 := hd.out
        rw [hcons, Hostp.pu] at hd2
        have hge : 0 ≤ Hostp.hex c ∧ Hostp.hex c < 16 := by simpa [Hostp.isDig] using hdig
        have hcs := hex_cases c hge.1
        obtain ⟨X, hX⟩ : ∃ X, Hostp.hex c = X := ⟨_, rfl⟩
        rw [hX] at hge hcs hd2
        obtain ⟨hg0, hg1⟩ := hge
        clear hd hcons hdig hX hc
        by_cases hM : 65535 < acc * 16 + X
        · rw [if_pos hM] at hd2
          subst hd2
          rcases hcs with ⟨h1, h2, h3⟩ | ⟨h1, h2, h3, h4, h5⟩
          · have hM' : ¬ acc * 16 + ((c.toNat : Int) - 48) ≤ 65535 := by omega
            go_wp2_with fail
            refine bodyPost_ret (v := puV 65535 none) (by simp [results, Tryz.results85, go_sem, puV]) rfl ?_
            exact ⟨rfl, by rw [← hB'.out]; exact hb⟩
          · have HB3 := hide h3
            clear h3
            go_wp2_with fail
            refine (sLow c X _ HB3.out).mono ?_
            rintro e w2 ⟨rfl, rfl⟩
            go_wp2_with fail
            refine (sLow c X _ HB3.out).mono ?_
            rintro e w2 ⟨rfl, rfl⟩
            go_wp2_with fail
            refine (sLow c X _ HB3.out).mono ?_
            rintro e w2 ⟨rfl, rfl⟩
            have hM' : ¬ acc * 16 + X ≤ 65535 := by omega
            have hX' : X + 87 - 97 + 10 = X := by omega
            go_wp2_with fail
            refine bodyPost_ret (v := puV 65535 none) (by simp [results, Tryz.results85, go_sem, puV]) rfl ?_
            exact ⟨rfl, by rw [← hB'.out]; exact hb⟩
        · rw [if_neg hM] at hd2
          have HD2 := hide hd2
          clear hd2
          rcases hcs with ⟨h1, h2, h3⟩ | ⟨h1, h2, h3, h4, h5⟩
          · have hM' : acc * 16 + ((c.toNat : Int) - 48) ≤ 65535 := by omega
            go_wp2_with fail
            go_roundg (gk - 1)
            case measure => omega
            case rel => exact ⟨i + 1, acc * 16 + X, by omega, rfl, by go_num, by rw [h3], by omega, by omega, HD2, rfl⟩
          · have HB3 := hide h3
            clear h3
            go_wp2_with fail
            refine (sLow c X _ HB3.out).mono ?_
            rintro e w2 ⟨rfl, rfl⟩
            go_wp2_with fail
            refine (sLow c X _ HB3.out).mono ?_
            rintro e w2 ⟨rfl, rfl⟩
            go_wp2_with fail
            refine (sLow c X _ HB3.out).mono ?_
            rintro e w2 ⟨rfl, rfl⟩
            have hM' : acc * 16 + X ≤ 65535 := by omega
            have hX' : X + 87 - 97 + 10 = X := by omega
            go_wp2_with fail
            go_roundg (gk - 1)
            case measure => omega
            case rel => exact ⟨i + 1, acc * 16 + X, by omega, rfl, by go_num, by first | rfl | (go_num <;> omega), by omega, by omega, HD2, rfl⟩
      · have e : i = s.length := by omega
        subst e
        have hd2 := hd.out
        rw [List.drop_length, Hostp.pu] at hd2
        subst hd2
        clear hd
        go_wp2_with fail
        refine bodyPost_ret (v := puV 65535 (some acc)) (by simp [results, Tryz.results85, go_sem, puV]) rfl ?_
        exact ⟨rfl, by rw [← hB'.out]; exact hb⟩
  · go_enter Tryz.func85, Tryz.ntmps85
    go_wp2_with fail
    clear hcv
    go_loopg [12, 13, 101] s.length (fun g s12 s13 s101 wx => ∃ (i : Nat) (acc : Int), i + g = s.length ∧ s12 = .bool false ∧ s101 = .int .i64 i ∧ s13 = .int .u64 acc ∧ 0 ≤ acc ∧ acc ≤ 1099511627775 ∧ Hid (Hostp.pu 1099511627775 10 acc (s.drop i) = r) ∧ wx = w1)
    case atStart => exact ⟨0, 0, by omega, rfl, rfl, rfl, by decide, by decide, hr, rfl⟩
    case round =>
      obtain ⟨i, acc, hi, rfl, rfl, rfl, ha0, ha1, hd, rfl⟩ := hrel
      clear hr
      by_cases hlt : i < s.length
      · have hc0 := hrow.cell i hlt
        obtain ⟨c, hc⟩ : ∃ c, s[i] = c := ⟨_, rfl⟩
        have hcons : s.drop i = c :: s.drop (i + 1) := by rw [List.drop_eq_getElem_cons hlt, hc]
        have hdig : Hostp.isDig 10 c = true := List.all_eq_true.1 HALL.out c (by rw [← hc]; exact List.getElem_mem _)
        rw [hc] at hc0
        have hd2 := hd.out
        rw [hcons, Hostp.pu] at hd2
        have hge : 0 ≤ Hostp.hex c ∧ Hostp.hex c < 10 := by simpa [Hostp.isDig] using hdig
        have hcs := hex_cases c hge.1
        obtain ⟨X, hX⟩ : ∃ X, Hostp.hex c = X := ⟨_, rfl⟩
        rw [hX] at hge hcs hd2
        obtain ⟨hg0, hg1⟩ := hge
        clear hd hcons hdig hX hc
        by_cases hM : 1099511627775 < acc * 10 + X
        · rw [if_pos hM] at hd2
          subst hd2
          rcases hcs with ⟨h1, h2, h3⟩ | ⟨h1, h2, h3, h4, h5⟩
          · have hM' : ¬ acc * 10 + ((c.toNat : Int) - 48) ≤ 1099511627775 := by omega
            go_wp2_with fail
            refine bodyPost_ret (v := puV 1099511627775 none) (by simp [results, Tryz.results85, go_sem, puV]) rfl ?_
            exact ⟨rfl, by rw [← hB'.out]; exact hb⟩
          · exact absurd h4 (by omega)
        · rw [if_neg hM] at hd2
          have HD2 := hide hd2
          clear hd2
          rcases hcs with ⟨h1, h2, h3⟩ | ⟨h1, h2, h3, h4, h5⟩
          · have hM' : acc * 10 + ((c.toNat : Int) - 48) ≤ 1099511627775 := by omega
            go_wp2_with fail
            go_roundg (gk - 1)
            case measure => omega
            case rel => exact ⟨i + 1, acc * 10 + X, by omega, rfl, by go_num, by rw [h3], by omega, by omega, HD2, rfl⟩
          · exact absurd h4 (by omega)
      · have e : i = s.length := by omega
        subst e
        have hd2 := hd.out
        rw [List.drop_length, Hostp.pu] at hd2
        subst hd2
        clear hd
        go_wp2_with fail
        refine bodyPost_ret (v := puV 1099511627775 (some acc)) (by simp [results, Tryz.results85, go_sem, puV]) rfl ?_
        exact ⟨rfl, by rw [← hB'.out]; exact hb⟩
  · go_enter Tryz.func85, Tryz.ntmps85
    go_wp2_with fail
    clear hcv
    go_loopg [12, 13, 101] s.length (fun g s12 s13 s101 wx => ∃ (i : Nat) (acc : Int), i + g = s.length ∧ s12 = .bool false ∧ s101 = .int .i64 i ∧ s13 = .int .u64 acc ∧ 0 ≤ acc ∧ acc ≤ 1099511627775 ∧ Hid (Hostp.pu 1099511627775 8 acc (s.drop i) = r) ∧ wx = w1)
    case atStart => exact ⟨0, 0, by omega, rfl, rfl, rfl, by decide, by decide, hr, rfl⟩
    case round =>
      obtain ⟨i, acc, hi, rfl, rfl, rfl, ha0, ha1, hd, rfl⟩ := hrel
      clear hr
      by_cases hlt : i < s.length
      · have hc0 := hrow.cell i hlt
        obtain ⟨c, hc⟩ : ∃ c, s[i] = c := ⟨_, rfl⟩
        have hcons : s.drop i = c :: s.drop (i + 1) := by rw [List.drop_eq_getElem_cons hlt, hc]
        have hdig : Hostp.isDig 8 c = true := List.all_eq_true.1 HALL.out c (by rw [← hc]; exact List.getElem_mem _)
        rw [hc] at hc0
        have hd2 := hd.out
        rw [hcons, Hostp.pu] at hd2
        have hge : 0 ≤ Hostp.hex c ∧ Hostp.hex c < 8 := by simpa [Hostp.isDig] using hdig
        have hcs := hex_cases c hge.1
        obtain ⟨X, hX⟩ : ∃ X, Hostp.hex c = X := ⟨_, rfl⟩
        rw [hX] at hge hcs hd2
        obtain ⟨hg0, hg1⟩ := hge
        clear hd hcons hdig hX hc
        by_cases hM : 1099511627775 < acc * 8 + X
        · rw [if_pos hM] at hd2
          subst hd2
          rcases hcs with ⟨h1, h2, h3⟩ | ⟨h1, h2, h3, h4, h5⟩
          · have hM' : ¬ acc * 8 + ((c.toNat : Int) - 48) ≤ 1099511627775 := by omega
            go_wp2_with fail
            refine bodyPost_ret (v := puV 1099511627775 none) (by simp [results, Tryz.results85, go_sem, puV]) rfl ?_
            exact ⟨rfl, by rw [← hB'.out]; exact hb⟩
          · exact absurd h4 (by omega)
        · rw [if_neg hM] at hd2
          have HD2 := hide hd2
          clear hd2
          rcases hcs with ⟨h1, h2, h3⟩ | ⟨h1, h2, h3, h4, h5⟩
          · have hM' : acc * 8 + ((c.toNat : Int) - 48) ≤ 1099511627775 := by omega
            go_wp2_with fail
            go_roundg (gk - 1)
            case measure => omega
            case rel => exact ⟨i + 1, acc * 8 + X, by omega, rfl, by go_num, by rw [h3], by omega, by omega, HD2, rfl⟩
          · exact absurd h4 (by omega)
      · have e : i = s.length := by omega
        subst e
        have hd2 := hd.out
        rw [List.drop_length, Hostp.pu] at hd2
        subst hd2
        clear hd
        go_wp2_with fail
        refine bodyPost_ret (v := puV 1099511627775 (some acc)) (by simp [results, Tryz.results85, go_sem, puV]) rfl ?_
        exact ⟨rfl, by rw [← hB'.out]; exact hb⟩
end Go.Proofs.YtahjndignkhmoaaGreatDoor
