/- IndexRune, IndexAny among two marks. -/
import Derived.Test.YtngccmlcopcghaaGreatDoorSc
import Derived.Test.YtngccmlcopcghaaGreatDoorRd
import Derived.Test.YtngccmlcopcghaaGreatDoorTb
import Derived.LoopTactic
import Derived.Deep.LoopGhost
import Derived.WalkMore
import Derived.Deep.QuietTactic
import Derived.BigQuiet
import Derived.Test.YtngccmlcopcghaaGreatDoorQb
import Derived.Shelf.Strings.SlTrimAscii
namespace Go.Proofs.YtngccmlcopcghaaGreatDoor
open Go.RowKit

set_option maxRecDepth 100000 in
theorem jValidRune (z : Int) (h0 : 0 ≤ z) (h : z < 55296 ∨ (57343 < z ∧ z ≤ 1114111)) (w : World) : Calls Tryz.prog 170 #[.int .i32 z] w (Ret (.bool true) w) := by
  have q0 : decide (0 ≤ z) = true := decide_eq_true h0
  rcases h with h | ⟨h1, h2⟩
  · have q1 : decide (z < 55296) = true := decide_eq_true h
    go_enter Tryz.func170, Tryz.ntmps170
    go_wp2_with fail
    go_ret
    exact ⟨rfl, rfl⟩
  · have q1 : decide (z < 55296) = false := decide_eq_false (by omega)
    have q2 : decide (57343 < z) = true := decide_eq_true h1
    have q3 : decide (z ≤ 1114111) = true := decide_eq_true h2
    go_enter Tryz.func170, Tryz.ntmps170
    go_wp2_with fail
    go_ret
    exact ⟨rfl, rfl⟩
/-- what is handed back: a number -/
def AnyI (w : World) (e : Ending) (w' : World) : Prop := ∃ z : Int, e = .returned (.int .i64 z) ∧ Below w.heap.size w w'
set_option maxRecDepth 100000 in
set_option maxHeartbeats 4000000 in
theorem jIdxFFFD (w : World) : Calls Tryz.prog 160 #[S [62, 125], .int .i32 65533] w (AnyI w) := by
  have hit0 : (w.iter ⟨#[62, 125]⟩ 0).heap[w.heap.size]? = some (.stringIter ⟨#[62, 125]⟩ 0) := World.iter_heap _ _ _
  have hbl0 : Below w.heap.size w (w.iter ⟨#[62, 125]⟩ 0) := (Below.refl _ w).alloc (Nat.le_refl _) _
  have HIT := hide hit0
  have HBL := hide hbl0
  clear hit0 hbl0
  obtain ⟨w1, hw1⟩ : ∃ x, x = w.iter ⟨#[62, 125]⟩ 0 := ⟨_, rfl⟩
  rw [← hw1] at HIT HBL
  have HW1 := hide hw1
  obtain ⟨B, hB⟩ : ∃ B, B = w.heap.size := ⟨_, rfl⟩
  rw [← hB] at HIT
  have HB := hide hB
  clear hw1 hB
  go_enter Tryz.func160, Tryz.ntmps160
  go_wp2_with fail
  rw [← HW1.out, ← HB.out]
  go_loopg [] 2 (fun g wx => ∃ (i : Nat), i + g = 2 ∧ Hid (wx.heap[B]? = some (.stringIter ⟨#[62, 125]⟩ i)) ∧ Hid (Below B w wx))
  case atStart => exact ⟨0, by omega, HIT.out, by unfold Hid; rw [HB.out]; exact HBL.out⟩
  case round =>
    obtain ⟨i, hi, hit, hbx⟩ := hrel
    clear HIT HBL
    have h3 : i = 0 ∨ i = 1 ∨ i = 2 := by omega
    rcases h3 with rfl | rfl | rfl
    · have hnx : ∀ ty, (Instr.next (.pointer (some ⟨B, 0, none⟩)) true ty).run Tryz.prog wr = _ := fun ty => Lib.run_next_ascii_at wr B ⟨#[62, 125]⟩ 0 ty hit.out (by decide) (by decide)
      have hit2 := hide (Lib.iterAt_heap wr B ⟨#[62, 125]⟩ 0 1 hit.out)
      have hbw2 := hide (Lib.below_iterAt hbx.out (k := B) (Nat.le_refl _) ⟨#[62, 125]⟩ 1)
      clear hit hbx
      go_wp2_with fail
      go_roundg 1
      case measure => omega
      case rel => exact ⟨1, by omega, hit2.out, hbw2.out⟩
    · have hnx : ∀ ty, (Instr.next (.pointer (some ⟨B, 0, none⟩)) true ty).run Tryz.prog wr = _ := fun ty => Lib.run_next_ascii_at wr B ⟨#[62, 125]⟩ 1 ty hit.out (by decide) (by decide)
      have hit2 := hide (Lib.iterAt_heap wr B ⟨#[62, 125]⟩ 1 2 hit.out)
      have hbw2 := hide (Lib.below_iterAt hbx.out (k := B) (Nat.le_refl _) ⟨#[62, 125]⟩ 2)
      clear hit hbx
      go_wp2_with fail
      go_roundg 0
      case measure => omega
      case rel => exact ⟨2, by omega, hit2.out, hbw2.out⟩
    · have hnx : ∀ ty, (Instr.next (.pointer (some ⟨B, 0, none⟩)) true ty).run Tryz.prog wr = _ := fun ty => Lib.run_next_end_at wr B ⟨#[62, 125]⟩ 2 ty hit.out (by decide)
      clear hit
      go_wp2_with fail
      go_ret
      exact ⟨_, rfl, by rw [← HB.out]; exact hbx.out⟩
set_option maxRecDepth 100000 in
set_option maxHeartbeats 4000000 in
theorem jIdxHigh (r : Nat) (h128 : 128 ≤ r) (hc : Jsp.Cp r) (hr : r ≠ 65533) (w : World) : Calls Tryz.prog 160 #[S [62, 125], .int .i32 (r : Int)] w (AnyI w) := by
  obtain ⟨z, hz⟩ : ∃ z : Int, (r : Int) = z := ⟨_, rfl⟩
  have hv := fun W => hide (jValidRune z (by omega) (by have := hc.1; rcases hc.2 with h | h <;> omega) W)
  have h3 := Jsp.enc_cases hc
  have henc := enc_eq r
  have q0 : decide (0 ≤ z) = true := decide_eq_true (by omega)
  have q1 : decide (z < 128) = false := decide_eq_false (by omega)
  have q2 : (z == 65533) = false := by rw [beq_eq_false_iff_ne]; omega
  have hhi : ∀ k, 128 ≤ k → k < 256 → (UInt8.ofNat k).toNat = k := fun k _ h => UInt8.toNat_ofNat_of_lt' h
  rcases h3 with ⟨h, _⟩ | ⟨_, _, h⟩ | ⟨_, _, h⟩ | ⟨_, _, h⟩
  · omega
  · rw [h] at henc
    obtain ⟨x0, hx0⟩ : ∃ x0, UInt8.ofNat (192 + r / 64) = x0 := ⟨_, rfl⟩
    obtain ⟨x1, hx1⟩ : ∃ x1, UInt8.ofNat (128 + r % 64) = x1 := ⟨_, rfl⟩
    have hb1 : 128 ≤ x1.toNat := by rw [← hx1, hhi _ (by omega) (by omega)]; omega
    rw [hx0, hx1] at henc
    have qn : ((125 : Int) != (x1.toNat : Int)) = true := by rw [bne_iff_ne]; omega
    rw [hz] at henc ⊢
    clear hc hr h hz hx0 hx1 hhi h128
    go_enter Tryz.func160, Tryz.ntmps160
    go_wp2_with fail
    refine (hv _).out.mono ?_
    rintro e w1 ⟨rfl, rfl⟩
    go_wp2_with fail
    go_step3
    go_wp2_with fail
    go_loopg [9] 0 (fun g s9 wx => g = 0 ∧ s9 = .int .i64 1 ∧ wx = w)
    case atStart => exact ⟨rfl, rfl, rfl⟩
    case round =>
      obtain ⟨rfl, rfl, rfl⟩ := hrel
      have hIB := fun W => hide (show Calls Tryz.prog 118 #[S [], .int .u8 x1.toNat] W (Ret (.int .i64 (-1)) W) from sIndexByte [] x1 W)
      go_wp2_with fail
      go_step3
      go_wp2_with fail
      go_quiet (fail)
      go_wp2_with fail
      go_quiet ((go_at_call 118; exact (hIB _).out.mono fun _ _ hz => ⟨hz.1, _, hz.2.symm⟩))
      go_wp2_with fail
      rw [Exit.noGoto_ret]
      go_wp2_with fail
      rw [Exit.noGoto_ret]
      go_wp2_with fail
      go_ret
      exact ⟨_, rfl, (Below.refl _ _).trans ⟨rfl, rfl, rfl, Nat.le_refl _, fun _ _ => rfl⟩⟩
  · rw [h] at henc
    obtain ⟨x0, hx0⟩ : ∃ x0, UInt8.ofNat (224 + r / 4096) = x0 := ⟨_, rfl⟩
    obtain ⟨x1, hx1⟩ : ∃ x1, UInt8.ofNat (128 + r / 64 % 64) = x1 := ⟨_, rfl⟩
    obtain ⟨x2, hx2⟩ : ∃ x2, UInt8.ofNat (128 + r % 64) = x2 := ⟨_, rfl⟩
    rw [hx0, hx1, hx2] at henc
    rw [hz] at henc ⊢
    clear hc hr h hz hx0 hx1 hx2 hhi h128
    go_enter Tryz.func160, Tryz.ntmps160
    go_wp2_with fail
    refine (hv _).out.mono ?_
    rintro e w1 ⟨rfl, rfl⟩
    go_wp2_with fail
    go_step3
    go_wp2_with fail
    go_loopg [9] 0 (fun g s9 wx => g = 0 ∧ s9 = .int .i64 2 ∧ wx = w)
    case atStart => exact ⟨rfl, rfl, rfl⟩
    case round =>
      obtain ⟨rfl, rfl, rfl⟩ := hrel
      go_wp2_with fail
      rw [Exit.noGoto_ret]
      go_wp2_with fail
      go_ret
      exact ⟨_, rfl, Below.refl _ _⟩
  · rw [h] at henc
    obtain ⟨x0, hx0⟩ : ∃ x0, UInt8.ofNat (240 + r / 262144) = x0 := ⟨_, rfl⟩
    obtain ⟨x1, hx1⟩ : ∃ x1, UInt8.ofNat (128 + r / 4096 % 64) = x1 := ⟨_, rfl⟩
    obtain ⟨x2, hx2⟩ : ∃ x2, UInt8.ofNat (128 + r / 64 % 64) = x2 := ⟨_, rfl⟩
    obtain ⟨x3, hx3⟩ : ∃ x3, UInt8.ofNat (128 + r % 64) = x3 := ⟨_, rfl⟩
    rw [hx0, hx1, hx2, hx3] at henc
    rw [hz] at henc ⊢
    clear hc hr h hz hx0 hx1 hx2 hx3 hhi h128
    go_enter Tryz.func160, Tryz.ntmps160
    go_wp2_with fail
    refine (hv _).out.mono ?_
    rintro e w1 ⟨rfl, rfl⟩
    go_wp2_with fail
    go_step3
    go_wp2_with fail
    go_loopg [9] 0 (fun g s9 wx => g = 0 ∧ s9 = .int .i64 3 ∧ wx = w)
    case atStart => exact ⟨rfl, rfl, rfl⟩
    case round =>
      obtain ⟨rfl, rfl, rfl⟩ := hrel
      go_wp2_with fail
      rw [Exit.noGoto_ret]
      go_wp2_with fail
      go_ret
      exact ⟨_, rfl, Below.refl _ _⟩
end Go.Proofs.YtngccmlcopcghaaGreatDoor
namespace Go.Proofs.YtngccmlcopcghaaGreatDoor
open Go.RowKit

theorem jIdxRuneAny (r : Nat) (hc : Jsp.Cp r) (w : World) : Calls Tryz.prog 160 #[S [62, 125], .int .i32 (r : Int)] w (AnyI w) := by
  by_cases h : r < 128
  · exact (Tryz.strings_IndexRune_ascii ⟨#[62, 125]⟩ (r : Int) w (by omega) (by omega)).mono fun e w' hh => ⟨_, hh.1, by rw [hh.2]; exact Below.refl _ _⟩
  by_cases h2 : r = 65533
  · subst h2; exact jIdxFFFD w
  exact jIdxHigh r (by omega) hc h2 w
set_option maxRecDepth 100000 in
set_option maxHeartbeats 4000000 in
theorem jIdxAny (s : List UInt8) (hv : Cssp.valid s = true) (hl : s.length ≤ 4194304) (w : World) : Calls Tryz.prog 144 #[S s, S [62, 125]] w (AnyI w) := by
  have hsz : (⟨s.toArray⟩ : ByteArray).size = s.length := bl_size s
  by_cases h8 : 8 < s.length
  · have hz := Go.zero_of_info (P := Tryz.prog) (t := 149) (v := .agg (Array.replicate 256 (.bool false))) (n := 256) (by kernel_rfl)
    refine (Any.strings_IndexAny_long Tryz.lays153 hz.1 hz.2 ⟨s.toArray⟩ ⟨#[62, 125]⟩ w (by decide) (by rw [hsz]; omega) (by rw [hsz]; omega) (by decide) ?_).mono fun e w' hh => ⟨_, hh.1, ?_⟩
    · intro j b hj
      match j, hj with
      | 0, hj => simp at hj; subst hj; decide
      | 1, hj => simp at hj; subst hj; decide
      | j + 2, hj => simp at hj
    · rw [hh.2]
      exact ((Below.refl _ _).alloc (Nat.le_refl _) _).alloc (by simp) _
  · have hSh := fun W => hide (Tryz.strings_shouldUseASCIISet (s.length : Int) W)
    rw [decide_eq_false (by omega)] at hSh
    have hit0 : (w.iter ⟨s.toArray⟩ 0).heap[w.heap.size]? = some (.stringIter ⟨s.toArray⟩ 0) := World.iter_heap _ _ _
    have hbl0 : Below w.heap.size w (w.iter ⟨s.toArray⟩ 0) := (Below.refl _ w).alloc (Nat.le_refl _) _
    have HIT := hide hit0
    have HBL := hide hbl0
    have HV := hide hv
    clear hit0 hbl0 h8 hv
    go_enter Tryz.func144, Tryz.ntmps144
    go_wp2_with fail
    refine (hSh _).out.mono ?_
    rintro e w' ⟨rfl, rfl⟩
    go_wp2_with fail
    obtain ⟨w1, hw1⟩ : ∃ x, x = w'.iter ⟨s.toArray⟩ 0 := ⟨_, rfl⟩
    obtain ⟨B, hB⟩ : ∃ B, B = w'.heap.size := ⟨_, rfl⟩
    rw [← hw1, ← hB] at HIT HBL
    rw [← hw1, ← hB]
    have HB := hide hB
    clear hw1 hB
    go_loopg [] s.length (fun g wx => ∃ (i : Nat), i + g = s.length ∧ Hid (wx.heap[B]? = some (.stringIter ⟨s.toArray⟩ i)) ∧ Hid (Below B w' wx) ∧ Hid (Cssp.valid (s.drop i) = true))
    case atStart => exact ⟨0, by omega, HIT.out, HBL.out, HV.out⟩
    case round =>
      obtain ⟨i, hi, hit, hbx, hvi⟩ := hrel
      clear HIT HBL HV
      by_cases hlt : i < s.length
      · have hp : i < (⟨s.toArray⟩ : ByteArray).size := by rw [hsz]; exact hlt
        have h0 : s.drop i ≠ [] := fun e => by
          have := congrArg List.length e
          rw [List.length_drop, List.length_nil] at this
          omega
        have hd := Jsp.decode_at s i hvi.out h0
        have hnx : ∀ ty, (Instr.next (.pointer (some ⟨B, 0, none⟩)) true ty).run Tryz.prog wr = _ := fun ty => Lib.run_next_any_at wr B ⟨s.toArray⟩ i ty hit.out hp
        rw [hd] at hnx
        have hpn := Jsp.pn_le h0
        rw [List.length_drop] at hpn
        have hvn := Jsp.valid_pn hvi.out
        rw [List.drop_drop] at hvn
        have hc := Jsp.pt_cp h0
        generalize Jsp.pt (s.drop i) = r at hnx hc
        generalize Jsp.pn (s.drop i) = k at hnx hpn hvn
        simp only at hnx
        have hit2 := hide (Lib.iterAt_heap wr B ⟨s.toArray⟩ i (i + k) hit.out)
        have hbw2 := hide (Lib.below_iterAt hbx.out (k := B) (Nat.le_refl _) ⟨s.toArray⟩ (i + k))
        have hIx := fun W => hide (jIdxRuneAny r hc W)
        have HVN := hide hvn
        have HLT := hide (heap_lt hit2.out)
        clear hit hbx hvi hd h0 hvn hc hp
        go_wp2_with fail
        refine (hIx _).out.mono ?_
        rintro e w3 ⟨z, rfl, hb3⟩
        have hit3 := hide ((hb3.block B HLT.out).trans hit2.out)
        have hbw3 := hide (hbw2.out.trans (hb3.mono (Nat.le_of_lt HLT.out)))
        clear hb3
        by_cases hz : 0 ≤ z
        · go_wp2_with fail
          go_ret
          exact ⟨_, rfl, by rw [← HB.out]; exact hbw3.out⟩
        · go_wp2_with fail
          go_roundg (gk - k)
          case measure => omega
          case rel => exact ⟨i + k, by omega, hit3.out, hbw3.out, HVN.out⟩
      · have e : i = s.length := by omega
        subst e
        have hnx : ∀ ty, (Instr.next (.pointer (some ⟨B, 0, none⟩)) true ty).run Tryz.prog wr = _ := fun ty => Lib.run_next_end_at wr B ⟨s.toArray⟩ s.length ty hit.out (by rw [hsz]; exact hlt)
        clear hit
        go_wp2_with fail
        go_ret
        exact ⟨_, rfl, by rw [← HB.out]; exact hbx.out⟩
/-- what is handed back: a truth value -/
def AnyB (w : World) (e : Ending) (w' : World) : Prop := ∃ v : Bool, e = .returned (.bool v) ∧ Below w.heap.size w w'
theorem jContAny (s : List UInt8) (hv : Cssp.valid s = true) (hl : s.length ≤ 4194304) (w : World) : Calls Tryz.prog 110 #[S s, S [62, 125]] w (AnyB w) := by
  have hI := hide (jIdxAny s hv hl w)
  clear hv hl
  go_enter Tryz.func110, Tryz.ntmps110
  go_wp2_with fail
  refine hI.out.mono ?_
  rintro e w1 ⟨z, rfl, hb⟩
  go_wp2_with fail
  go_ret
  exact ⟨_, rfl, hb⟩
end Go.Proofs.YtngccmlcopcghaaGreatDoor
namespace Go.Proofs.YtngccmlcopcghaaGreatDoor
open Go.RowKit

theorem jHexNo (r : Nat) (w : World) (hr : r ≤ 1114111) : Calls Tryz.prog 105 #[.int .i32 (r : Int)] w (Ret (.bool (decide (hexR r < 0))) w) := by
  have hH := fun W => hide (jHex r W hr)
  generalize hexR r = x at hH ⊢
  go_enter Tryz.func105, Tryz.ntmps105
  go_wp2_with fail
  refine (hH _).out.mono ?_
  rintro e w1 ⟨rfl, rfl⟩
  go_wp2_with fail
  go_ret
  exact ⟨rfl, rfl⟩
theorem hexNo_runes (w : World) : PredAtRunes Tryz.prog 105 #[] (fun r => decide (hexR r < 0)) w := fun W r hr _ => (jHexNo r W hr).mono fun _ _ h => ⟨h.1, 0, h.2.symm⟩
theorem jHexes (s : List UInt8) (w : World) : Calls Tryz.prog 103 #[S s] w (AnyB w) := by
  have hC := hide (Tryz.strings_ContainsFunc_runes 105 #[] (enters_of Tryz.func105 (by kernel_rfl) rfl) (fun r => decide (hexR r < 0)) ⟨s.toArray⟩ w (hexNo_runes w))
  generalize decide (0 ≤ Lib.idxFunc (fun r => decide (hexR r < 0)) true ⟨s.toArray⟩) = v at hC
  go_enter Tryz.func103, Tryz.ntmps103
  go_wp2_with fail
  refine hC.out.mono ?_
  rintro e w1 ⟨rfl, hb⟩
  go_wp2_with fail
  go_ret
  exact ⟨_, rfl, hb⟩
theorem jTrimD (s : List UInt8) (hl : s.length ≤ 4194304) (w : World) : Calls Tryz.prog 107 #[S s, S [48, 49, 50, 51, 52, 53, 54, 55, 56, 57]] w (Fresh (S (Lib.trimS s [48, 49, 50, 51, 52, 53, 54, 55, 56, 57])) w) :=
  Any.strings_Trim_laid Tryz.lays160 (by kernel_rfl) ⟨s.toArray⟩ ⟨#[48, 49, 50, 51, 52, 53, 54, 55, 56, 57]⟩ w (by rw [bl_size]; omega) (by decide) (Go.Proofs.ascii_of_all (by decide))
end Go.Proofs.YtngccmlcopcghaaGreatDoor
