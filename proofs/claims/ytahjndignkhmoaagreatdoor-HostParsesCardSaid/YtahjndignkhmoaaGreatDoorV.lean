/- An address of eight, written. -/
import Derived.Test.YtahjndignkhmoaaGreatDoorU
import Derived.Deep.RegionHeld3
import Derived.IntWalk
namespace Go.Proofs.YtahjndignkhmoaaGreatDoor
open Go.RowKit Go.Shelf
attribute [local go_sem] Oper.semAt_some

/-- a row of eight numbers -/
def Held (B : Nat) (v : List Int) (W : World) : Prop := ∀ (j : Nat) x, v[j]? = some x → W.cell? ⟨B, j, none⟩ = some (U16 x)
def wd (v : List Int) (off n : Nat) : List UInt8 := Hostp.joinW 58 (Hostp.words ((v.drop off).take n))
theorem wd_len (v : List Int) (off n : Nat) (hv : ∀ n ∈ v, 0 ≤ n ∧ n < 65536) (h8 : v.length ≤ 8) : (wd v off n).length ≤ 40 := by
  have := joinW_len 58 4 (Hostp.words ((v.drop off).take n)) (fun w hw => by
    obtain ⟨n, hn, rfl⟩ := List.mem_map.1 hw
    have := hv n (List.mem_of_mem_drop (List.mem_of_mem_take hn))
    exact Hostp.repr_len 16 (by decide) 3 n.toNat (by omega))
  have e : (Hostp.words ((v.drop off).take n)).length ≤ 8 := by simp [Hostp.words]; omega
  unfold wd
  omega
theorem hSub (B : Nat) (v : List Int) (off n cap : Nat) (w : World) (ht : Tab2 w) (hv : ∀ n ∈ v, 0 ≤ n ∧ n < 65536) (hl : off + n ≤ v.length) (h8 : v.length ≤ 8) (hc : Held B v w) :
    Calls Tryz.prog 67 #[.slice (some ⟨B, off, none⟩) n cap] w (Fresh (S (wd v off n)) w) := by
  have e : ((v.drop off).take n).length = n := by simp; omega
  have := hWords B off cap ((v.drop off).take n) _ w ht (fun x hx => hv x (List.mem_of_mem_drop (List.mem_of_mem_take hx))) (by omega) (fun j x hx => by
    rw [List.getElem?_take] at hx
    split at hx
    · rw [List.getElem?_drop] at hx
      exact hc (off + j) x hx
    · cases hx) rfl
  rw [e] at this
  exact this

abbrev U8 (n0 n1 n2 n3 n4 n5 n6 n7 : Int) : Array Value := #[U16 n0, U16 n1, U16 n2, U16 n3, U16 n4, U16 n5, U16 n6, U16 n7]
/-- between two rounds -/
def RowsI (B : Nat) (C : Array Value) (pre : List Pair) (W : World) : Prop := W.heap[B]? = some (.cells C 25 (0, 0)) ∧ W.heap[B + 1]? = some (.cells ((foldP pre).map (Value.int .i64)).toArray 101 (0, 0))
theorem rowsI_own {B K : Nat} {C : Array Value} (hK : B + 1 < K) : OwnFrom K (RowsI B C) := fun s W W' row hs hg hr => by
  have h0 := heap_lt hs.1
  have h1 := heap_lt hs.2
  exact ⟨(hg.block B h0 (fun e => by have := (hr B e.symm).1; omega)).trans hs.1, (hg.block (B + 1) h1 (fun e => by have := (hr (B + 1) e.symm).1; omega)).trans hs.2⟩
theorem held_of {B : Nat} {n0 n1 n2 n3 n4 n5 n6 n7 : Int} {T : TypeId} {W : World} (h0 : W.heap[B]? = some (.cells (U8 n0 n1 n2 n3 n4 n5 n6 n7) T (0, 0))) : Held B [n0, n1, n2, n3, n4, n5, n6, n7] W := fun j x hx => by
  rw [Lib.cell_of_heap h0]
  show (([n0, n1, n2, n3, n4, n5, n6, n7].map U16).toArray)[j]? = some (U16 x)
  rw [List.getElem?_toArray, List.getElem?_map, hx]; rfl
theorem slice8_8 (B : Nat) (l : Int) (hl : l = 8) (w : World) : (Instr.sliceAt 25 (.pointer (some ⟨B, 0, none⟩)) (some (.int .i64 l)) none none).run Tryz.prog w = .ok (.slice (some ⟨B, 0, none⟩) 0 0) w := by
  subst hl
  rw [run_sliceAt_array_l w 25 ⟨B, 0, none⟩ (by simp [Program.arrayLen, Program.elem, Tryz.underlying25]) .i64 8 (by decide) (by rw [len8]; decide), elem8, size16, len8]
  simp [Result.andThen, slicedAt]
/-- what holds within the region -/
structure SHw (B : Nat) (v : List Int) (W W' : World) : Prop where
  tab : Tab2 W'
  held : Held B v W'
  bel : Below W.heap.size W W'
theorem SHw.below {B : Nat} {v : List Int} {W A C : World} (h : SHw B v W A) (hb : Below A.heap.size A C) : SHw B v W C :=
  ⟨h.tab.below hb, fun j x hx => cell_below (h.held j x hx) hb, h.bel.trans (hb.mono h.bel.size)⟩
theorem SHw.drew {B : Nat} {v : List Int} {W A : World} (h : SHw B v W A) : SHw B v W A.drew := h.below (Below.refl _ _).drew
theorem longs_len (v : List Int) : (Hostp.longs v).length = 9 := by simp [Hostp.longs]
theorem long_cells {B : Nat} {l : List Int} {W : World} (h1 : W.heap[B + 1]? = some (.cells (l.map (Value.int .i64)).toArray 101 (0, 0))) (j : Nat) (hj : j < l.length) : W.cell? ⟨B + 1, 0 + j, none⟩ = some (.int .i64 (l.getD j 0)) := by
  rw [Lib.cell_of_heap h1]
  simp [hj]
theorem sMax (B : Nat) (v : List Int) (W : World) (h1 : W.heap[B + 1]? = some (.cells (((Hostp.longs v).map fun n : Nat => (n : Int)).map (Value.int .i64)).toArray 101 (0, 0))) :
    Calls Tryz.prog 69 #[.slice (some ⟨B + 1, 0, none⟩) 9 9] W (Ret (.int .i64 (Hostp.mostOf v)) W) := by
  refine (Tryz.slices_Max_int (B + 1) 0 9 9 ((Hostp.longs v).map fun n : Nat => (n : Int)) W (by decide) (by rw [List.length_map, longs_len]; exact Nat.le_refl _) (by decide) (long_cells h1)).mono ?_
  rintro e w' ⟨rfl, rfl⟩
  rw [List.take_of_length_le (by rw [List.length_map, longs_len]; exact Nat.le_refl _), maxOf_longs]
  exact ⟨rfl, rfl⟩
theorem sIdx (B : Nat) (v : List Int) (W : World) (h1 : W.heap[B + 1]? = some (.cells (((Hostp.longs v).map fun n : Nat => (n : Int)).map (Value.int .i64)).toArray 101 (0, 0))) (h : 0 < Hostp.mostOf v) :
    Calls Tryz.prog 70 #[.slice (some ⟨B + 1, 0, none⟩) 9 9, .int .i64 (Hostp.mostOf v)] W (Ret (.int .i64 (Hostp.atOf v)) W) := by
  refine (Tryz.slices_Index_int (B + 1) 0 9 9 ((Hostp.longs v).map fun n : Nat => (n : Int)) _ W (by rw [List.length_map, longs_len]; exact Nat.le_refl _) (by decide) (long_cells h1)).mono ?_
  rintro e w' ⟨rfl, rfl⟩
  rw [List.take_of_length_le (by rw [List.length_map, longs_len]; exact Nat.le_refl _), idxOf_longs v h]
  exact ⟨rfl, rfl⟩
abbrev Z9 : Array Value := #[.int .i64 0, .int .i64 0, .int .i64 0, .int .i64 0, .int .i64 0, .int .i64 0, .int .i64 0, .int .i64 0, .int .i64 0]
set_option maxHeartbeats 8000000 in
set_option maxRecDepth 100000 in
theorem hShow6 (n0 n1 n2 n3 n4 n5 n6 n7 : Int) (u : List UInt8) (w : World) (ht : Tab2 w) (hv : ∀ n ∈ [n0, n1, n2, n3, n4, n5, n6, n7], 0 ≤ n ∧ n < 65536) (hu : Hid (Hostp.show6 [n0, n1, n2, n3, n4, n5, n6, n7] = u)) :
    Calls Tryz.prog 40 #[.agg (U8 n0 n1 n2 n3 n4 n5 n6 n7)] w (Fresh (S u) w) := by
  have hmf : ∀ (fn : Fn) (first cap : Array Value) (w : World), (Instr.makeFunc fn first cap).run Tryz.prog w = .ok (.func fn first cap) w := fun _ _ _ _ => rfl
  refine (callsIn_wide (n := 5)).1 ?_
  refine callsIn_of_wp_marks Tryz.func40 rfl trivial ?_ rfl
  refine wpIn_wide.2 ?_
  simp only [Tryz.ntmps40, List.size_toArray, List.length_cons, List.length_nil, Nat.reduceAdd, Nat.reduceSub, Array.replicate_succ, Array.replicate_zero, List.push_toArray, List.append_toArray, List.nil_append, List.cons_append]
  have hb0 : (((w.alloc (.cells (U8 n0 n1 n2 n3 n4 n5 n6 n7) 25)).alloc (.cells Z9 101)).alloc (.cells #[.slice (some ⟨w.heap.size, 0, none⟩) 8 8] 66)).heap[w.heap.size]? = some (.cells (U8 n0 n1 n2 n3 n4 n5 n6 n7) 25 (0, 0)) := by
    rw [Below.heap_alloc _ _ _ (by simp; omega), Below.heap_alloc _ _ _ (by simp)]; exact heap_alloc_last _ _
  have hb1 : (((w.alloc (.cells (U8 n0 n1 n2 n3 n4 n5 n6 n7) 25)).alloc (.cells Z9 101)).alloc (.cells #[.slice (some ⟨w.heap.size, 0, none⟩) 8 8] 66)).heap[w.heap.size + 1]? = some (.cells Z9 101 (0, 0)) := by
    rw [Below.heap_alloc _ _ _ (by simp)]
    have := heap_alloc_last (w.alloc (.cells (U8 n0 n1 n2 n3 n4 n5 n6 n7) 25)) (.cells Z9 101)
    simpa using this
  have hb2 : (((w.alloc (.cells (U8 n0 n1 n2 n3 n4 n5 n6 n7) 25)).alloc (.cells Z9 101)).alloc (.cells #[.slice (some ⟨w.heap.size, 0, none⟩) 8 8] 66)).heap[w.heap.size + 2]? = some (.cells #[.slice (some ⟨w.heap.size, 0, none⟩) 8 8] 66 (0, 0)) := by
    have := heap_alloc_last ((w.alloc (.cells (U8 n0 n1 n2 n3 n4 n5 n6 n7) 25)).alloc (.cells Z9 101)) (.cells #[.slice (some ⟨w.heap.size, 0, none⟩) 8 8] 66)
    simpa using this
  have hbl : Below w.heap.size w (((w.alloc (.cells (U8 n0 n1 n2 n3 n4 n5 n6 n7) 25)).alloc (.cells Z9 101)).alloc (.cells #[.slice (some ⟨w.heap.size, 0, none⟩) 8 8] 66)) := (((Below.refl _ _).alloc (Nat.le_refl _) _).alloc (by simp) _).alloc (by simp; omega) _
  have hsz : (((w.alloc (.cells (U8 n0 n1 n2 n3 n4 n5 n6 n7) 25)).alloc (.cells Z9 101)).alloc (.cells #[.slice (some ⟨w.heap.size, 0, none⟩) 8 8] 66)).heap.size = w.heap.size + 3 := by simp
  go_wp2_with fail
  refine (sBackward (some ⟨w.heap.size, 0, none⟩) 8 8 _).mono ?_
  rintro e w3 ⟨rfl, hw3⟩
  change (((w.alloc (.cells (U8 n0 n1 n2 n3 n4 n5 n6 n7) 25)).alloc (.cells Z9 101)).alloc (.cells #[.slice (some ⟨w.heap.size, 0, none⟩) 8 8] 66)) = w3 at hw3
  rw [hw3] at hb0 hb1 hb2 hbl hsz
  have hsz2 : ((w.alloc (.cells (U8 n0 n1 n2 n3 n4 n5 n6 n7) 25)).alloc (.cells Z9 101)).heap.size = w.heap.size + 2 := by simp
  have HSZ2 := hide hsz2
  clear hsz2 hw3
  obtain ⟨B, hB⟩ : ∃ B, w.heap.size = B := ⟨_, rfl⟩
  rw [hB] at hb0 hb1 hb2 hbl hsz ⊢
  have hbs : w3.cell? ⟨B + 1 + 1, 0, none⟩ = some (.slice (some ⟨B, 0, none⟩) 8 8) := by rw [Lib.cell_of_heap hb2]; rfl
  have HROW : Hid (∀ j, j < 8 → w3.cell? ⟨B, j, none⟩ = some (U16 ([n0, n1, n2, n3, n4, n5, n6, n7][j]?.getD 0))) := fun j hj => by
    rw [Lib.cell_of_heap hb0]
    match j, hj with
    | 0, _ => rfl
    | 1, _ => rfl
    | 2, _ => rfl
    | 3, _ => rfl
    | 4, _ => rfl
    | 5, _ => rfl
    | 6, _ => rfl
    | 7, _ => rfl
  go_wp2_with fail
  refine (wpIn_wide (n := 5)).1 ?_
  refine wpIn_rangeFunc_ownG rfl (by omega) (gf := 91) (lb := #[.pointer (some ⟨B + 1 + 1, 0, none⟩)]) rfl trivial (enters_of Tryz.func91 (by kernel_rfl) rfl)
    (back_stops Fence.wide (5 - 1) trivial rfl (by omega) (B + 1 + 1) B [n0, n1, n2, n3, n4, n5, n6, n7] w3 (by omega) (by omega) hbs HROW.out) Two.trans (two_b (by omega) (by omega)) (Below.refl _ _) (fun _ => rfl)
    (fun pre W => RowsI B (U8 n0 n1 n2 n3 n4 n5 n6 n7) pre W ∧ Below B w W)
    (fun _ _ _ => False)
    (OwnFrom.and (rowsI_own (by omega)) (ownFrom_below (by omega) (by omega)))
    (fun _ _ _ _ _ hs _ _ => hs)
    ⟨⟨hb0, hb1⟩, hbl⟩
    (fun x : Pair => { tmps := #[.agg (U8 n0 n1 n2 n3 n4 n5 n6 n7), .pointer (some ⟨B, 0, none⟩), .string { data := #[] }, .pointer (some ⟨B + 1, 0, none⟩), .int .i64 (x.1.val : Int), .int .u16 x.2, undef, undef, undef, .slice (some ⟨B, 0, none⟩) 8 8, .func (.func 91) #[] #[.pointer (some ⟨B + 1 + 1, 0, none⟩)], .int .i64 (x.1.val : Int), .int .u16 x.2, undef, undef, undef, undef, undef, undef, undef, undef, undef, undef, undef, undef, undef, undef, undef, undef, undef, undef, undef, undef, undef, undef, undef, undef, undef, undef, undef, undef, undef, undef, undef], defers := [] }) ?assign ?body ?done ?stop
  case assign =>
    intro l x W K hK
    unfold encP
    gi_wp2
    exact hK
  case body =>
    rintro l pre ⟨⟨i, hi⟩, y⟩ W ⟨⟨h0, h1⟩, hbw⟩ hpl
    obtain ⟨hll, hlb⟩ := foldP_ok pre.length pre rfl
    obtain ⟨hm0, hm1⟩ := hlb (i + 1)
    have hsn := foldP_snoc pre (⟨i, hi⟩, y)
    have ci : ∀ k, k < 9 → W.cell? ⟨B + 1, k, none⟩ = some (.int .i64 ((foldP pre)[k]?.getD 0)) := fun k hk => by
      rw [Lib.cell_of_heap h1]
      have hk2 : k < (foldP pre).length := by omega
      simp [hk2]
    have c0 := ci i (by omega)
    have c1 := ci (i + 1) (by omega)
    have cf : W.frozen? ⟨B + 1, i, none⟩ = false := by simp [World.frozen?, h1]
    unfold stepP at hsn
    simp only at hsn
    obtain ⟨m, hm⟩ : ∃ m, (foldP pre)[i + 1]?.getD 0 = m := ⟨_, rfl⟩
    rw [hm] at hsn hm0 hm1 c1
    have HSN := hide hsn
    clear hsn ci hlb hm
    by_cases hz : y = 0
    · subst hz
      gi_wp2
      have hs2 := HSN.out
      rw [if_pos trivial] at hs2
      refine ⟨(KeepsOthers.setCell _ _ _).from _, ⟨Below.heap_setCell _ _ _ _ (by show B ≠ B + 1; omega), Below.heap_setCell _ _ _ _ (by show B + 1 + 1 ≠ B + 1; omega)⟩, ⟨(Below.heap_setCell _ _ _ _ (by show B ≠ B + 1; omega)).trans h0, ?_⟩, hbw.setCell (p := ⟨B + 1, i, none⟩) (by show B ≤ B + 1; omega) _⟩
      rw [row_set h1 i (.int .i64 (m + 1)), hs2, List.map_set]
      simp
    · have hz' : (y == 0) = false := beq_eq_false_iff_ne.2 hz
      gi_wp2
      have hs2 := HSN.out
      rw [if_neg hz] at hs2
      exact ⟨KeepsFrom.refl _ _, ⟨rfl, rfl⟩, ⟨h0, by rw [hs2]; exact h1⟩, hbw⟩
  case done =>
    rintro D ys W hD rfl ⟨⟨h0, h1⟩, hbw⟩ hK
    rw [foldP_longs _ rfl] at h1
    obtain ⟨v, hvv⟩ : ∃ v, [n0, n1, n2, n3, n4, n5, n6, n7] = v := ⟨_, rfl⟩
    have hvl : v.length = 8 := by rw [← hvv]; rfl
    have hheld : Held B v W := by rw [← hvv]; exact held_of h0
    rw [hvv] at h1 hu hv
    have htw : Tab2 W := ht.below (by rw [hB]; exact hbw)
    obtain ⟨most, hmost⟩ : ∃ m, Hostp.mostOf v = m := ⟨_, rfl⟩
    have hmx := sMax B v W h1
    rw [hmost] at hmx
    have hu2 := hu.out
    unfold Hostp.show6 at hu2
    rw [hmost] at hu2
    have hix : 0 < most → _ := fun h => sIdx B v W h1 (by rw [hmost]; exact h)
    have hat := fun h => Hostp.at_ok v h
    rw [hmost] at hix hat
    obtain ⟨at_, hat_⟩ : ∃ m, Hostp.atOf v = m := ⟨_, rfl⟩
    rw [hat_] at hix hat hu2
    have HV := hide hv
    have HVL := hide hvl
    have HELD := hide hheld
    have HMX := hide hmx
    have HIX := hide hix
    have HK := hide hK
    have HU := hide hu2
    clear hvv hv hvl hheld hmx hix hmost hat_ h0 h1 hb0 hb1 hb2 hbs HROW hu hu2 hK ht
    have hDW : D < W.heap.size := heap_lt HK.out
    have HAT := hide hat
    have HB := hide hB
    clear hat hB
    go_wp2_with fail
    refine HMX.out.mono ?_
    rintro e w4 ⟨rfl, rfl⟩
    by_cases hm2 : most < 2
    · have hu2 := HU.out
      rw [if_pos hm2] at hu2
      have HU2 := hide hu2
      clear hu2
      go_wp2_with fail
      refine (hSub B v 0 8 8 _ htw HV.out (by rw [HVL.out]; exact Nat.le_refl _) (by rw [HVL.out]; exact Nat.le_refl _) HELD.out).mono ?_
      rintro e w5 ⟨rfl, hb5⟩
      have hK5 := (hb5.block D hDW).trans HK.out
      have HK5 := hide hK5
      clear hK5
      go_wp2_with fail
      refine ⟨by simp, .inl ⟨_, _, rfl, run_takeDeferred HK5.out, ?_⟩⟩
      have hx := HU2.out
      have hall : List.take 8 v = v := List.take_of_length_le (by rw [HVL.out]; exact Nat.le_refl _)
      have hBB := HB.out
      have hwd : wd v 0 8 = u := by unfold wd; rw [List.drop_zero, hall, hx]
      rw [hwd]
      refine ⟨_, results_tmp rfl _ _ _, rfl, ?_⟩
      rw [hBB]
      exact (hbw.trans (hb5.mono (by have := hbw.size; omega))).trans (belowK_b (n₀ := B) (w := w) (by omega) _ D _ _ (by omega) HK5.out rfl rfl)
    · have hu2 := HU.out
      rw [if_neg hm2] at hu2
      have HU2 := hide hu2
      obtain ⟨hat1, hat2⟩ := HAT.out (by omega)
      have hat3 := (Hostp.noughts_take (v.drop at_)).2
      rw [hat2, List.length_drop, HVL.out] at hat3
      have hix := HIX.out (by omega)
      have HIX2 := hide hix
      clear hu2 hat2 hix
      go_wp2_with fail
      refine HIX2.out.mono ?_
      rintro e w5 ⟨rfl, rfl⟩
      go_wp2_with fail
      have hw : IntKind.i64.wrap ((at_ : Int) + (most : Int)) = (at_ : Int) + (most : Int) := IntWalk.i64_in _ (by omega)
      have hsum0 : (0 : Int) ≤ (at_ : Int) + (most : Int) := by omega
      have hsl1 := fun X => slice8_h B at_ (by omega) X
      have hs0 : SHw B v W W := ⟨htw, HELD.out, Below.refl _ _⟩
      have hq1 := wd_len v 0 at_ HV.out (by rw [HVL.out]; exact Nat.le_refl _)
      have hwa : wd v 0 at_ = Hostp.joinW 58 (Hostp.words (v.take at_)) := by unfold wd; rw [List.drop_zero]
      have HWA := hide hwa
      clear hwa
      by_cases h8 : at_ + most = 8
      · have hsl2 := fun X => slice8_8 B ((at_ : Int) + (most : Int)) (by omega) X
        have hwb : wd v 0 0 = Hostp.joinW 58 (Hostp.words (v.drop (at_ + most))) := by
          unfold wd
          rw [List.drop_eq_nil_of_le (show v.length ≤ at_ + most by rw [HVL.out]; omega)]; rfl
        have HWB := hide hwb
        clear hwb
        have hq2 := wd_len v 0 0 HV.out (by rw [HVL.out]; exact Nat.le_refl _)
        have hg1 : ¬ 9223372036854775807 < (wd v 0 at_).length + 2 := by omega
        have hg2 : ¬ 9223372036854775807 < (wd v 0 at_).length + 2 + (wd v 0 0).length := by omega
        have hg3 : ¬ 9223372036854775807 < (wd v 0 at_).length + ((wd v 0 0).length + 1 + 1) := by omega
        have hg4 : ¬ 9223372036854775807 < (wd v 0 at_).length + ((wd v 0 0).length + 2) := by omega
        have hg5 : ¬ 9223372036854775807 < (wd v 0 at_).length + (1 + 1) := by omega
        go_region_held3 (SHw B v W) (first | exact hs0 | exact SHw.below (by assumption) (by assumption) | exact SHw.drew (by assumption)) ((go_at_call 67; refine (hSub B v _ _ _ _ (SHw.tab (by assumption)) HV.out (by rw [HVL.out]; omega) (by rw [HVL.out]; exact Nat.le_refl _) (SHw.held (by assumption))).mono ?_; rintro e w9 ⟨rfl, hb9⟩))
        all_goals (
          have hh : SHw B v W w9 := by assumption
          have hK9 := (hh.bel.block D hDW).trans HK.out
          have HK9 := hide hK9
          clear hK9 hsl1 hsl2 hw
          go_wp2_with fail
          refine ⟨by simp, .inl ⟨_, _, rfl, run_takeDeferred HK9.out, ?_⟩⟩
          have hx := HU2.out
          have hBB := HB.out
          rw [← HWA.out, ← HWB.out] at hx
          refine ⟨_, results_tmp rfl _ _ _, ?_, ?_⟩
          (· rw [← hx]; rfl)
          rw [hBB]
          exact (hbw.trans (hh.bel.mono (by have := hbw.size; omega))).trans (belowK_b (n₀ := B) (w := w) (by omega) _ D _ _ (by omega) HK9.out rfl rfl))
      · obtain ⟨n, hn⟩ : ∃ n, at_ + most + n = 8 := ⟨8 - (at_ + most), by omega⟩
        have hsl2 := fun X => slice8_l B ((at_ : Int) + (most : Int)) n (by omega) (by omega) (by omega) X
        have hq2 := wd_len v (8 - n) n HV.out (by rw [HVL.out]; exact Nat.le_refl _)
        have hwb : wd v (8 - n) n = Hostp.joinW 58 (Hostp.words (v.drop (at_ + most))) := by
          unfold wd
          rw [show 8 - n = at_ + most by omega, List.take_of_length_le (by rw [List.length_drop, HVL.out]; omega)]
        have hg2 : ¬ 9223372036854775807 < (wd v 0 at_).length + 2 + (wd v (8 - n) n).length := by omega
        have hg3 : ¬ 9223372036854775807 < (wd v 0 at_).length + ((wd v (8 - n) n).length + 1 + 1) := by omega
        have hg4 : ¬ 9223372036854775807 < (wd v 0 at_).length + ((wd v (8 - n) n).length + 2) := by omega
        have hg1 : ¬ 9223372036854775807 < (wd v 0 at_).length + 2 := by omega
        have hg5 : ¬ 9223372036854775807 < (wd v 0 at_).length + (1 + 1) := by omega
        have HWB := hide hwb
        clear hwb
        go_region_held3 (SHw B v W) (first | exact hs0 | exact SHw.below (by assumption) (by assumption) | exact SHw.drew (by assumption)) ((go_at_call 67; refine (hSub B v _ _ _ _ (SHw.tab (by assumption)) HV.out (by rw [HVL.out]; omega) (by rw [HVL.out]; exact Nat.le_refl _) (SHw.held (by assumption))).mono ?_; rintro e w9 ⟨rfl, hb9⟩))
        all_goals (
          have hh : SHw B v W w9 := by assumption
          have hK9 := (hh.bel.block D hDW).trans HK.out
          have HK9 := hide hK9
          clear hK9 hsl1 hsl2 hw
          go_wp2_with fail
          refine ⟨by simp, .inl ⟨_, _, rfl, run_takeDeferred HK9.out, ?_⟩⟩
          have hx := HU2.out
          have hBB := HB.out
          rw [← HWA.out, ← HWB.out] at hx
          refine ⟨_, results_tmp rfl _ _ _, ?_, ?_⟩
          (· rw [← hx]; rfl)
          rw [hBB]
          exact (hbw.trans (hh.bel.mono (by have := hbw.size; omega))).trans (belowK_b (n₀ := B) (w := w) (by omega) _ D _ _ (by omega) HK9.out rfl rfl))
  case stop =>
    rintro D c pre W _ _ h _
    exact h.elim
end Go.Proofs.YtahjndignkhmoaaGreatDoor
