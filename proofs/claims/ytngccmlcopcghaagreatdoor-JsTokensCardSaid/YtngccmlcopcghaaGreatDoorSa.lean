/- strconv.ParseUint at the base 16 with 32 bits, of whatever text; hex. -/
import Derived.Test.YtngccmlcopcghaaGreatDoorRd
import Derived.Lib.ConvBytes
import Derived.LoopTactic
import Derived.Deep.LoopGhost
import Derived.Lib.Hide
set_option maxRecDepth 100000
set_option maxHeartbeats 8000000
namespace Go.Proofs.YtngccmlcopcghaaGreatDoor
open Go.RowKit
theorem below_bytes (w : World) (e : TypeId) (s : ByteArray) : Below w.heap.size w (Lib.bytesWorld w e s) := ⟨rfl, rfl, rfl, by rw [Lib.bytesWorld_size]; omega, fun k hk => Lib.bytesWorld_at_old w e s k hk⟩
def RowAt (w : World) (g : Nat) (xs : List UInt8) : Prop := ∃ C N, w.heap[g]? = some (Obj.cells C 5 (N, N + 1)) /\ xs.length <= N /\ ∀ j (h : j < xs.length), C[j]? = some (B8 xs[j])
theorem RowAt.cell {w : World} {g : Nat} {xs : List UInt8} (h : RowAt w g xs) (j : Nat) (hj : j < xs.length) : w.cell? ⟨g, j, none⟩ = some (B8 xs[j]) := by
 obtain ⟨C, N, hg, hN, hc⟩ := h
 rw [Lib.cell_of_heap hg]; exact hc j hj
theorem rowAt_new (w : World) (s : List UInt8) : RowAt (Lib.bytesWorld w 5 ⟨s.toArray⟩) w.heap.size s := by
 have hN : s.length <= (Lib.bytesCells w 5 ⟨s.toArray⟩).size := by simp [Lib.bytesCells]
 refine ⟨_, _, Lib.bytesWorld_at_new w _ _, hN, fun j hj => ?_⟩
 simp [Lib.bytesCells, Array.getElem?_append, hj]
namespace Jsp
inductive PuR where
 | ok (v : Int)
 | syn
 | rng
def pur : Int -> List UInt8 -> PuR
 | acc, [] => .ok acc
 | acc, c :: l => if hexV c < 0 then .syn else if 4294967295 < acc * 16 + hexV c then .rng else pur (acc * 16 + hexV c) l
theorem hexV_hi (c : UInt8) : hexV c < 16 := by unfold hexV; repeat' split <;> omega
theorem pur_fold : ∀ (l : List UInt8) (n : Nat), (n + 1) * 16 ^ l.length <= 4294967296 -> pur (n : Int) l = match l.foldl hexStep (some n) with
  | none => .syn
  | some v => .ok (v : Int)
 | [], n, _ => rfl
 | c :: l, n, hb => by
  rw [pur, List.foldl_cons]
  by_cases hd : hexV c < 0
  ·have : hexStep (some n) c = none := by unfold hexStep; simp only; rw [if_pos hd]
   rw [if_pos hd, this, hexStep_none]
  ·have h16 := hexV_hi c
   have : hexStep (some n) c = some (n * 16 + (hexV c).toNat) := by unfold hexStep; simp only; rw [if_neg hd]
   have e : (n : Int) * 16 + hexV c = ((n * 16 + (hexV c).toNat : Nat) : Int) := by omega
   rw [List.length_cons, Nat.pow_succ, Nat.mul_comm (16 ^ l.length) 16, <- Nat.mul_assoc] at hb
   have hp : 1 <= 16 ^ l.length := Nat.one_le_pow _ _ (by decide)
   have hle : (n + 1) * 16 <= 4294967296 := Nat.le_trans (Nat.le_mul_of_pos_right _ hp) hb
   rw [if_neg hd, this, e, if_neg (by omega)]
   exact pur_fold l _ (Nat.le_trans (Nat.mul_le_mul_right _ (by omega)) hb)
theorem pur_hexN (l : List UInt8) (h0 : l ≠ []) (h : l.length <= 6) : pur 0 l = match hexN l with
  | none => .syn
  | some v => .ok (v : Int) := by
 have hb : (0 + 1) * 16 ^ l.length <= 4294967296 := by
  have : 16 ^ l.length <= 16 ^ 6 := Nat.pow_le_pow_right (by decide) h
  omega
 rw [hexN_eq, if_neg h0]
 exact pur_fold l 0 hb
end Jsp
def purV : Jsp.PuR -> Value
 | .ok v => .tuple #[.int .u64 v, .nilIface]
 | .syn => .tuple #[.int .u64 0, .iface 183 (.int .i64 2)]
 | .rng => .tuple #[.int .u64 4294967295, .iface 183 (.int .i64 1)]
theorem low_all : ∀ n : Fin 256, ∃ m : Fin 256, bits BinOp.or .u8 (n.val : Int) 32 = (m.val : Int) /\
  ((48 <= n.val /\ n.val <= 57 /\ Jsp.hexV (UInt8.ofNat n.val) = (n.val : Int) - 48) \/
   (¬ (48 <= n.val /\ n.val <= 57) /\ Jsp.hexV (UInt8.ofNat n.val) + 87 = (m.val : Int) /\ 97 <= m.val /\ m.val <= 102 /\ n.val ≠ 95) \/
   (¬ (48 <= n.val /\ n.val <= 57) /\ Jsp.hexV (UInt8.ofNat n.val) < 0 /\ 103 <= m.val /\ m.val <= 122 /\ n.val ≠ 95) \/
   (¬ (48 <= n.val /\ n.val <= 57) /\ Jsp.hexV (UInt8.ofNat n.val) < 0 /\ m.val < 97) \/
   (¬ (48 <= n.val /\ n.val <= 57) /\ Jsp.hexV (UInt8.ofNat n.val) < 0 /\ 97 <= m.val /\ 122 < m.val)) := by decide +kernel
theorem low_cases (c : UInt8) : ∃ m : Nat, bits BinOp.or .u8 (c.toNat : Int) 32 = (m : Int) /\ m < 256 /\
  ((48 <= c.toNat /\ c.toNat <= 57 /\ Jsp.hexV c = (c.toNat : Int) - 48) \/
   (¬ (48 <= c.toNat /\ c.toNat <= 57) /\ Jsp.hexV c + 87 = (m : Int) /\ 97 <= m /\ m <= 102 /\ c.toNat ≠ 95) \/
   (¬ (48 <= c.toNat /\ c.toNat <= 57) /\ Jsp.hexV c < 0 /\ 103 <= m /\ m <= 122 /\ c.toNat ≠ 95) \/
   (¬ (48 <= c.toNat /\ c.toNat <= 57) /\ Jsp.hexV c < 0 /\ m < 97) \/
   (¬ (48 <= c.toNat /\ c.toNat <= 57) /\ Jsp.hexV c < 0 /\ 97 <= m /\ 122 < m)) := by
 obtain ⟨m, h1, h2⟩ := low_all ⟨c.toNat, c.toNat_lt⟩
 simp only [UInt8.ofNat_toNat] at h2
 exact ⟨m.val, h1, m.isLt, h2⟩
theorem sLow (c : UInt8) (m : Nat) (w : World) (h : bits BinOp.or .u8 (c.toNat : Int) 32 = (m : Int)) : Calls Tryz.prog 173 #[B8 c] w (Ret (.int .u8 (m : Int)) w) :=
 (Tryz.internal_strconv_lower (c.toNat : Int) w).mono fun e w' q => ⟨by rw [q.1, h], q.2.symm⟩
theorem inPU (s : List UInt8) (r : Jsp.PuR) (w : World) (hne : 0 < s.length) (hl : s.length <= 4194304) (hr : Hid (Jsp.pur 0 s = r)) :
  Calls Tryz.prog 168 #[S s, .int .i64 16, .int .i64 32] w fun e w' => e = .returned (purV r) /\ Below w.heap.size w w' := by
 have hrow := rowAt_new w s
 have hb := below_bytes w 5 ⟨s.toArray⟩
 have hcv := Lib.run_convert_string_bytes (P := Tryz.prog) w 9 39 5 ⟨s.toArray⟩ Tryz.underlying9 Tryz.underlying39 Tryz.underlying5
 rw [bl_size] at hcv
 obtain ⟨B, hB⟩ : ∃ B, B = w.heap.size := ⟨_, rfl⟩
 obtain ⟨w1, hw1⟩ : ∃ x, x = Lib.bytesWorld w 5 ⟨s.toArray⟩ := ⟨_, rfl⟩
 obtain ⟨cap, hcap⟩ : ∃ x, x = grownCap w s.length 0 5 := ⟨_, rfl⟩
 rw [<- hw1, <- hB] at hrow hb
 rw [<- hw1, <- hB, <- hcap] at hcv
 have hB' := hide hB
 have hs0 : s.isEmpty = false := by
  cases s with
  | nil => exact absurd hne (by decide)
  | cons _ _ => rfl
 clear hw1 hB hcap
 go_enter Tryz.func168, Tryz.ntmps168
 go_wp2_with fail
 clear hcv
 go_loopg [12, 13, 101] s.length (fun g s12 s13 s101 wx => ∃ (i : Nat) (acc : Int), i + g = s.length /\ s12 = .bool false /\ s101 = .int .i64 i /\ s13 = .int .u64 acc /\ 0 <= acc /\ acc <= 4294967295 /\ Hid (Jsp.pur acc (s.drop i) = r) /\ wx = w1)
 case atStart => exact ⟨0, 0, by omega, rfl, rfl, rfl, by decide, by decide, hr, rfl⟩
 case round =>
  obtain ⟨i, acc, hi, rfl, rfl, rfl, ha0, ha1, hd, rfl⟩ := hrel
  clear hr
  by_cases hlt : i < s.length
  ·have hc0 := hrow.cell i hlt
   obtain ⟨c, hc⟩ : ∃ c, s[i] = c := ⟨_, rfl⟩
   have hcons : s.drop i = c :: s.drop (i + 1) := by rw [List.drop_eq_getElem_cons hlt, hc]
   rw [hc] at hc0
   have hd2 := hd.out
   rw [hcons, Jsp.pur] at hd2
   obtain ⟨m, hm, hm256, hcs⟩ := low_cases c
   have hlow := fun W => hide (sLow c m W hm)
   obtain ⟨X, hX⟩ : ∃ X, Jsp.hexV c = X := ⟨_, rfl⟩
   rw [hX] at hcs hd2
   have hcb := u8_lt c
   clear hd hcons hX hc hm
   rcases hcs with ⟨h1, h2, h3⟩ | ⟨h1, h3, h4, h5, h95⟩ | ⟨h1, h3, h4, h5, h95⟩ | ⟨h1, h3, h4⟩ | ⟨h1, h3, h4, h5⟩
   ·rw [if_neg (by omega)] at hd2
    by_cases hM : 4294967295 < acc * 16 + X
    ·rw [if_pos hM] at hd2
     subst hd2
     have hM' : ¬ acc * 16 + ((c.toNat : Int) - 48) <= 4294967295 := by omega
     clear hlow
     go_wp2_with fail
     refine bodyPost_ret (v := purV .rng) (by simp [results, Tryz.results168, go_sem, purV]) rfl ?_
     exact ⟨rfl, by rw [<- hB'.out]; exact hb⟩
    ·rw [if_neg hM] at hd2
     have HD2 := hide hd2
     have hM' : acc * 16 + ((c.toNat : Int) - 48) <= 4294967295 := by omega
     clear hd2 hlow
     go_wp2_with fail
     go_roundg (gk - 1)
     case measure => omega
     case rel => exact ⟨i + 1, acc * 16 + X, by omega, rfl, by go_num, by rw [h3], by omega, by omega, HD2, rfl⟩
   ·rw [if_neg (by omega)] at hd2
    have h10 : 10 <= X := by omega
    have h15 : X <= 15 := by omega
    have hor : 48 <= (c.toNat : Int) -> ¬ (c.toNat : Int) <= 57 := by omega
    have h95' : ((c.toNat : Int) == 95) = false := ji_f h95
    have hmX : (m : Int) = X + 87 := by omega
    have hd1 : (c.toNat : Int) < 48 \/ 57 < (c.toNat : Int) := by omega
    rw [hmX] at hlow
    clear h3 h4 h5 h1 h95 hor hmX
    by_cases hM : 4294967295 < acc * 16 + X
    ·rw [if_pos hM] at hd2
     subst hd2
     have hM' : ¬ acc * 16 + X <= 4294967295 := by omega
     have hX' : X + 87 - 97 + 10 = X := by omega
     rcases hd1 with hd1 | hd1
     all_goals
      go_wp2_with fail
      refine (hlow _).out.mono ?_
      rintro e w2 ⟨rfl, rfl⟩
      go_wp2_with fail
      refine (hlow _).out.mono ?_
      rintro e w2 ⟨rfl, rfl⟩
      go_wp2_with fail
      refine (hlow _).out.mono ?_
      rintro e w2 ⟨rfl, rfl⟩
      go_wp2_with fail
      refine bodyPost_ret (v := purV .rng) (by simp [results, Tryz.results168, go_sem, purV]) rfl ?_
      exact ⟨rfl, by rw [<- hB'.out]; exact hb⟩
    ·rw [if_neg hM] at hd2
     have HD2 := hide hd2
     have hM' : acc * 16 + X <= 4294967295 := by omega
     have hX' : X + 87 - 97 + 10 = X := by omega
     clear hd2
     rcases hd1 with hd1 | hd1
     all_goals
      go_wp2_with fail
      refine (hlow _).out.mono ?_
      rintro e w2 ⟨rfl, rfl⟩
      go_wp2_with fail
      refine (hlow _).out.mono ?_
      rintro e w2 ⟨rfl, rfl⟩
      go_wp2_with fail
      refine (hlow _).out.mono ?_
      rintro e w2 ⟨rfl, rfl⟩
      go_wp2_with fail
      go_roundg (gk - 1)
      (case measure => omega)
      (case rel => exact ⟨i + 1, acc * 16 + X, by omega, rfl, by go_num, by first | rfl | (go_num <;> omega), by omega, by omega, HD2, rfl⟩)
   ·rw [if_pos h3] at hd2
    subst hd2
    have h95' : ((c.toNat : Int) == 95) = false := ji_f h95
    have hd1 : (c.toNat : Int) < 48 \/ 57 < (c.toNat : Int) := by omega
    have hm1 : (97 : Int) <= (m : Int) := by omega
    have hm2 : (m : Int) <= 122 := by omega
    have hm3 : (103 : Int) <= (m : Int) := by omega
    clear h1 h4 h5 h95 h3
    rcases hd1 with hd1 | hd1
    all_goals
     go_wp2_with fail
     refine (hlow _).out.mono ?_
     rintro e w2 ⟨rfl, rfl⟩
     go_wp2_with fail
     refine (hlow _).out.mono ?_
     rintro e w2 ⟨rfl, rfl⟩
     go_wp2_with fail
     refine (hlow _).out.mono ?_
     rintro e w2 ⟨rfl, rfl⟩
     go_wp2_with fail
     refine bodyPost_ret (v := purV .syn) (by simp [results, Tryz.results168, go_sem, purV]) rfl ?_
     exact ⟨rfl, by rw [<- hB'.out]; exact hb⟩
   ·rw [if_pos h3] at hd2
    subst hd2
    have hd1 : (c.toNat : Int) < 48 \/ 57 < (c.toNat : Int) := by omega
    have hm1 : (m : Int) < 97 := by omega
    have h95 : ((c.toNat : Int) == 95) = true \/ ((c.toNat : Int) == 95) = false := by cases ((c.toNat : Int) == 95) <;> simp
    clear h1 h4 h3
    rcases h95 with h95 | h95 <;> rcases hd1 with hd1 | hd1
    all_goals
     go_wp2_with fail
     refine (hlow _).out.mono ?_
     rintro e w2 ⟨rfl, rfl⟩
     go_wp2_with fail
     refine bodyPost_ret (v := purV .syn) (by simp [results, Tryz.results168, go_sem, purV]) rfl ?_
     exact ⟨rfl, by rw [<- hB'.out]; exact hb⟩
   ·rw [if_pos h3] at hd2
    subst hd2
    have hd1 : (c.toNat : Int) < 48 \/ 57 < (c.toNat : Int) := by omega
    have hm1 : (97 : Int) <= (m : Int) := by omega
    have hm2 : (122 : Int) < (m : Int) := by omega
    have h95 : ((c.toNat : Int) == 95) = true \/ ((c.toNat : Int) == 95) = false := by cases ((c.toNat : Int) == 95) <;> simp
    clear h1 h4 h5 h3
    rcases h95 with h95 | h95 <;> rcases hd1 with hd1 | hd1
    all_goals
     go_wp2_with fail
     refine (hlow _).out.mono ?_
     rintro e w2 ⟨rfl, rfl⟩
     go_wp2_with fail
     refine (hlow _).out.mono ?_
     rintro e w2 ⟨rfl, rfl⟩
     go_wp2_with fail
     refine bodyPost_ret (v := purV .syn) (by simp [results, Tryz.results168, go_sem, purV]) rfl ?_
     exact ⟨rfl, by rw [<- hB'.out]; exact hb⟩
  ·have e : i = s.length := by omega
   subst e
   have hd2 := hd.out
   rw [List.drop_length, Jsp.pur] at hd2
   subst hd2
   clear hd
   go_wp2_with fail
   refine bodyPost_ret (v := purV (.ok acc)) (by simp [results, Tryz.results168, go_sem, purV]) rfl ?_
   exact ⟨rfl, by rw [<- hB'.out]; exact hb⟩
end Go.Proofs.YtngccmlcopcghaaGreatDoor
