/- strconv.FormatUint at base 16. -/
import Derived.Test.YtahjndignkhmoaaGreatDoorN
import Derived.Shelf.Spec.TrailingZeros
namespace Go.Proofs.YtahjndignkhmoaaGreatDoor
open Go.RowKit

/-- what lies in the variables, the table of trailing noughts too -/
structure Tab2 (w : World) : Prop where
  tab : Tab w
  tz : w.cell? ⟨7, 15, none⟩ = some (.int .u8 4)
theorem Tab2.below {w w' : World} (h : Tab2 w) (hb : Below w.heap.size w w') : Tab2 w' := ⟨h.tab.below hb, cell_below h.tz hb⟩

theorem and_16_15 : bits BinOp.and .i64 16 15 = 0 := by decide +kernel
theorem and_tz : bits BinOp.and .u64 16 18446744073709551600 = 16 := by decide +kernel
set_option maxHeartbeats 2000000 in
set_option maxRecDepth 100000 in
theorem isPow16 (w : World) : Calls Tryz.prog 123 #[.int .i64 16] w (Ret (.bool true) w) := by
  have h := and_16_15
  go_enter Tryz.func123, Tryz.ntmps123
  go_wp2
  go_ret
  exact Ret.of (v_b (by simp))
set_option maxHeartbeats 2000000 in
set_option maxRecDepth 100000 in
theorem tz16 (w : World) (h : w.cell? ⟨7, 15, none⟩ = some (.int .u8 4)) : Calls Tryz.prog 124 #[.int .u64 16] w (Ret (.int .i64 4) w) := by
  have hand := and_tz
  have hng : IntKind.u64.wrap (-16) = 18446744073709551600 := by decide
  have hml : IntKind.u64.wrap 4573923408821661840 = 4573923408821661840 := by decide
  go_enter Tryz.func124, Tryz.ntmps124
  go_wp2
  go_ret
  exact ⟨rfl, rfl⟩

/-! ### the digits -/
/-- a buffer of 65 bytes: from place k on stands u; what is before is whatever -/
def Buf (w : World) (B k : Nat) (u : List UInt8) : Prop := ∃ C : Array Value, w.heap[B]? = some (.cells C 151 (0, 0)) ∧ C.size = 65 ∧ k + u.length = 65 ∧ ∀ j (h : j < u.length), C[k + j]? = some (B8 u[j])
theorem Buf.any {w : World} {B k : Nat} {u : List UInt8} (h : Buf w B k u) (j : Nat) (hj : j < 65) : ∃ v, w.cell? ⟨B, j, none⟩ = some v := by
  obtain ⟨C, h1, h2, _⟩ := h
  rw [Lib.cell_of_heap h1]; exact ⟨_, Array.getElem?_eq_getElem (by omega)⟩
theorem Buf.free {w : World} {B k : Nat} {u : List UInt8} (h : Buf w B k u) (j : Nat) : w.frozen? ⟨B, j, none⟩ = false := by
  obtain ⟨C, h1, h2, _⟩ := h
  simp [World.frozen?, h1]
theorem Buf.cons {w : World} {B k : Nat} {u : List UInt8} (h : Buf w B (k + 1) u) (c : UInt8) : Buf (w.setCell ⟨B, k, none⟩ (B8 c)) B k (c :: u) := by
  obtain ⟨C, h1, h2, h3, h4⟩ := h
  refine ⟨_, row_set h1 _ _, by simpa using h2, by simp; omega, fun j hj => ?_⟩
  rw [Array.getElem?_setIfInBounds]
  cases j with
  | zero => rw [Nat.add_zero, if_pos rfl, if_pos (by omega)]; rfl
  | succ j =>
    rw [if_neg (by omega), show k + (j + 1) = k + 1 + j by omega, h4 j (by simp at hj; omega)]; rfl
theorem Buf.cell {w : World} {B k : Nat} {u : List UInt8} (h : Buf w B k u) (j : Nat) (hj : j < u.length) : w.cell? ((⟨B, k, none⟩ : Addr).add j) = some (B8 u[j]) := by
  obtain ⟨C, h1, h2, h3, h4⟩ := h
  rw [show (⟨B, k, none⟩ : Addr).add j = ⟨B, k + j, none⟩ by unfold Addr.add; split <;> simp_all]
  rw [Lib.cell_of_heap h1]; exact h4 j hj
def hexDigits : List UInt8 := [48, 49, 50, 51, 52, 53, 54, 55, 56, 57, 97, 98, 99, 100, 101, 102, 103, 104, 105, 106, 107, 108, 109, 110, 111, 112, 113, 114, 115, 116, 117, 118, 119, 120, 121, 122]
theorem digL_at : ∀ n : Fin 16, ([48, 49, 50, 51, 52, 53, 54, 55, 56, 57, 97, 98, 99, 100, 101, 102, 103, 104, 105, 106, 107, 108, 109, 110, 111, 112, 113, 114, 115, 116, 117, 118, 119, 120, 121, 122] : List UInt8)[n.val]? = some (Hostp.digL n.val) := by decide
theorem digL_get (m n : Nat) (e : m = n) (hn : n < 16) (h) : ([48, 49, 50, 51, 52, 53, 54, 55, 56, 57, 97, 98, 99, 100, 101, 102, 103, 104, 105, 106, 107, 108, 109, 110, 111, 112, 113, 114, 115, 116, 117, 118, 119, 120, 121, 122] : List UInt8)[m]'h = Hostp.digL n := by
  subst e
  have := digL_at ⟨m, hn⟩
  rw [List.getElem?_eq_getElem h] at this
  injection this
theorem and15w (n : Nat) (h : n < 65536) : bits BinOp.and .u64 (n : Int) 15 = ((n % 16 : Nat) : Int) := by
  have h := u64_and_nat n 15 (by omega) (by decide)
  rw [show ((15 : Nat) : Int) = 15 from rfl] at h
  rw [h, show (15 : Nat) = 2 ^ 4 - 1 from rfl, Nat.and_two_pow_sub_one_eq_mod]
theorem len65 : Tryz.prog.arrayLen 151 = 65 := by simp [Program.arrayLen, Tryz.underlying151]
theorem elem65 : Tryz.prog.elem 151 = 5 := by simp [Program.elem, Tryz.underlying151]
theorem sizeB (w : World) : (sizeOf 5).run Tryz.prog w = .ok 1 w := by
  simp [sizeOf, go_sem]
  rfl
theorem slice65 (B k n : Nat) (h8 : k < 65) (hn : k + n = 65) (w : World) : (Instr.sliceAt 151 (.pointer (some ⟨B, 0, none⟩)) (some (.int .i64 (k : Int))) none none).run Tryz.prog w = .ok (.slice (some ⟨B, k, none⟩) n n) w := by
  rw [run_sliceAt_array_l w 151 ⟨B, 0, none⟩ (by simp [Program.arrayLen, Program.elem, Tryz.underlying151]) .i64 (k : Int) (by omega) (by rw [len65]; omega), elem65, sizeB, len65]
  simp only [Result.andThen, slicedAt, Int.toNat_natCast]
  rw [if_neg (by omega), show 65 - k = n by omega]
  simp [Addr.add]
  omega
theorem zero65 : Tryz.zeroCells151.size = 65 := by kernel_rfl

set_option maxHeartbeats 4000000 in
set_option maxRecDepth 100000 in
theorem fmtBits (n : Nat) (hn : n < 65536) (u : List UInt8) (w : World) (ht : Tab2 w) (hu : Hid (Hostp.repr 16 n = u)) :
    Calls Tryz.prog 111 #[.slice none 0 0, .int .u64 n, .int .i64 16, .bool false, .bool false] w fun e w' => e = .returned (.tuple #[.slice none 0 0, S u]) ∧ Below w.heap.size w w' := by
  have hul : u.length ≤ 4 := by rw [← hu.out]; exact Hostp.repr_len 16 (by decide) 3 n hn
  have hbuf : Buf (w.alloc (.cells Tryz.zeroCells151 151)) w.heap.size 65 [] := ⟨_, heap_alloc_last _ _, zero65, rfl, fun j h => by simp at h⟩
  have hbl : Below w.heap.size w (w.alloc (.cells Tryz.zeroCells151 151)) := (Below.refl _ _).alloc (Nat.le_refl _) _
  have htz := (ht.below hbl).tz
  go_enter Tryz.func111, Tryz.ntmps111
  go_wp2_with fail
  obtain ⟨w1, hw1⟩ : ∃ x, x = w.alloc (.cells Tryz.zeroCells151 151) := ⟨_, rfl⟩
  obtain ⟨B, hB⟩ : ∃ B, w.heap.size = B := ⟨_, rfl⟩
  rw [← hw1] at hbuf hbl htz ⊢
  rw [hB] at hbuf hbl ⊢
  have HBB := hide hB
  clear hw1 hB ht
  refine (isPow16 _).mono ?_
  rintro e w2 ⟨rfl, rfl⟩
  go_wp2_with fail
  refine (tz16 _ htz).mono ?_
  rintro e w2 ⟨rfl, rfl⟩
  clear htz
  go_wp2_with fail
  go_loopg [1, 13] n (fun g s1 s13 wx => ∃ (k : Nat) (acc : List UInt8), s1 = .int .u64 (g : Nat) ∧ s13 = .int .i64 (k : Nat) ∧ Buf wx B k acc ∧ Hid (Hostp.repr 16 g ++ acc = u) ∧ g < 65536 ∧ Below B w wx)
  case atStart => exact ⟨65, [], rfl, rfl, hbuf, by unfold Hid; rw [List.append_nil]; exact hu.out, hn, hbl⟩
  case round =>
    obtain ⟨k, acc, rfl, rfl, hbx, hd, hg, hb⟩ := hrel
    clear hbuf hbl hu
    have hkl : k + acc.length = 65 := hbx.choose_spec.2.2.1
    have hd2 := hd.out
    have hne := List.length_pos_iff.2 (Hostp.repr_ne 16 gk)
    have hal : acc.length < 4 := by
      have := congrArg List.length hd2
      rw [List.length_append] at this
      omega
    have hf := hbx.free (k - 1)
    obtain ⟨v0, hv0⟩ := hbx.any (k - 1) (by omega)
    obtain ⟨k', hk'⟩ : ∃ k', k = k' + 1 := ⟨k - 1, by omega⟩
    subst hk'
    rw [show k' + 1 - 1 = k' by omega] at hf hv0
    have hk1 : ((k' + 1 : Nat) : Int) - 1 = (k' : Int) := by omega
    clear hne hd
    by_cases h16 : 16 ≤ gk
    · rw [Hostp.repr_hi 16 gk h16 (by decide), List.append_assoc] at hd2
      have HD := hide hd2
      have hand := and15w gk hg
      have hm0 : ((gk % 16 : Nat) : Int).toNat = gk % 16 := Int.toNat_natCast _
      have hm1 : gk % 16 < 16 := Nat.mod_lt _ (by decide)
      have hget : ∀ h, ([48, 49, 50, 51, 52, 53, 54, 55, 56, 57, 97, 98, 99, 100, 101, 102, 103, 104, 105, 106, 107, 108, 109, 110, 111, 112, 113, 114, 115, 116, 117, 118, 119, 120, 121, 122] : List UInt8)[gk % 16]'h = Hostp.digL (gk % 16) := fun h => digL_get _ _ rfl hm1 h
      clear hd2
      go_wp2_with fail
      have hb2 := hbx.cons (Hostp.digL (gk % 16))
      go_roundg (gk / 16)
      case measure => omega
      case rel => exact ⟨k', Hostp.digL (gk % 16) :: acc, by go_num, rfl, hb2, HD, by omega, hb.setCell (Nat.le_refl _) _⟩
    · rw [Hostp.repr_lo 16 gk (by omega)] at hd2
      have HD := hide hd2
      have hget : ∀ h, ([48, 49, 50, 51, 52, 53, 54, 55, 56, 57, 97, 98, 99, 100, 101, 102, 103, 104, 105, 106, 107, 108, 109, 110, 111, 112, 113, 114, 115, 116, 117, 118, 119, 120, 121, 122] : List UInt8)[gk]'h = Hostp.digL gk := fun h => digL_get _ _ rfl (by omega) h
      have hb2 := hbx.cons (Hostp.digL gk)
      have hul2 : (Hostp.digL gk :: acc).length = u.length := by rw [← hd2]; rfl
      have hsl := fun W => slice65 B k' (Hostp.digL gk :: acc).length (by omega) (by simp; omega) W
      have hcv := run_convert_bytes_back (P := Tryz.prog) (wr.setCell ⟨B, k', none⟩ (B8 (Hostp.digL gk))) 40 9 5 ⟨B, k', none⟩ (Hostp.digL gk :: acc).length (Hostp.digL gk :: acc) Tryz.underlying40 Tryz.underlying5 Tryz.underlying9 (fun j hj => hb2.cell j hj)
      rw [List.length_cons] at hcv
      simp only [List.length_cons] at hsl
      clear hd2 hul2
      go_wp2_with fail
      refine bodyPost_ret (v := .tuple #[.slice none 0 0, S (Hostp.digL gk :: acc)]) (by simp [results, Tryz.results111, go_sem]) rfl ?_
      refine ⟨?_, by rw [HBB.out]; exact hb.setCell (Nat.le_refl _) _⟩
      rw [← HD.out]; rfl

set_option maxHeartbeats 4000000 in
set_option maxRecDepth 100000 in
theorem sFmt16 (n : Nat) (hn : n < 65536) (u : List UInt8) (w : World) (ht : Tab2 w) (hu : Hid (Hostp.repr 16 n = u)) :
    Calls Tryz.prog 68 #[.int .u64 n, .int .i64 16] w (Fresh (S u) w) := by
  have h1 : Calls Tryz.prog 92 #[.int .u64 n, .int .i64 16] w (Fresh (S u) w) := by
    go_enter Tryz.func92, Tryz.ntmps92
    go_wp2_with fail
    refine (fmtBits n hn u _ ht hu).mono ?_
    rintro e w2 ⟨rfl, hb⟩
    go_wp2_with fail
    go_ret
    exact ⟨rfl, hb⟩
  go_enter Tryz.func68, Tryz.ntmps68
  go_wp2_with fail
  refine h1.mono ?_
  rintro e w2 ⟨rfl, hb⟩
  go_wp2_with fail
  go_ret
  exact ⟨rfl, hb⟩
end Go.Proofs.YtahjndignkhmoaaGreatDoor
