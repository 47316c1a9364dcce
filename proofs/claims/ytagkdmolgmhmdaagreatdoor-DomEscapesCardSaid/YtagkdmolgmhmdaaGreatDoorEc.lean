/- The law DomEscapes, walked. -/
import Derived.Test.YtagkdmolgmhmdaaGreatDoorEb
import Derived.Test.YtagkdmolgmhmdaaGreatDoorEnG
import Derived.Test.YtagkdmolgmhmdaaGreatDoorWk
namespace Go.Proofs.YtagkdmolgmhmdaaGreatDoor
open Go.RowKit

/-- one cell row of a node, as built -/
abbrev rowEt (s : List UInt8) : Array Value := #[.int .u8 4, S [], S [], .slice none 0 0, S s, S [], S [], .slice none 0 0]
abbrev boxEt (K : Nat) : Array Value := #[.int .u8 3, S Dm.wHtml, S [112], .slice none 0 0, S [], S [], S [], .slice (some ⟨K, 0, none⟩) 1 1]
theorem rd_et {w : World} {K : Nat} {s : List UInt8} (h : w.heap[K]? = some (.cells (rowEt s) 26 (0, 0))) : RdT w (tEt s) (.slice none 0 0) (.slice (some ⟨K, 0, none⟩) 1 1) := by
  refine RdT.mk_iff.2 ⟨RdA.nil w, RdS.of (ks := [.mk ⟨4, [], [], [], s, [], []⟩ []]) (c := 1) fun i t hx => ?_⟩
  match i, hx with
  | 0, hx =>
    obtain rfl := Option.some.inj hx
    refine ⟨K, 0, .slice none 0 0, .slice none 0 0, rfl, ⟨?_, ?_, ?_, ?_, ?_, ?_, ?_, ?_⟩, rd_leaf _ rfl⟩ <;> rw [Lib.cell_of_heap h] <;> rfl
  | i + 1, hx => cases hx
abbrev W2e (s : List UInt8) (w : World) : World := (w.alloc (.cells (rowEt s) 26)).alloc (.cells (boxEt w.heap.size) 26)
theorem W2e_facts (s : List UInt8) (w : World) : (W2e s w).heap[w.heap.size]? = some (.cells (rowEt s) 26 (0, 0)) ∧ Box (W2e s w) (w.heap.size + 1) (tEt s).d (.slice none 0 0) (.slice (some ⟨w.heap.size, 0, none⟩) 1 1) ∧ Below w.heap.size w (W2e s w) := by
  refine ⟨?_, ?_, ?_⟩
  · rw [Below.heap_alloc _ _ _ (by simp)]; exact heap_alloc_last _ _
  · have h := heap_alloc_last (w.alloc (.cells (rowEt s) 26)) (.cells (boxEt w.heap.size) 26)
    rw [World.size_alloc] at h
    exact h
  · exact ((Below.refl _ w).alloc (Nat.le_refl _) _).alloc (by simp) _
/-- the value's tree -/
abbrev rowEa (s : List UInt8) : Array Value := #[S [], S wTitle, S s]
abbrev boxEb (K : Nat) : Array Value := #[.int .u8 3, S Dm.wHtml, S [98, 114], .slice (some ⟨K, 0, none⟩) 1 1, S [], S [], S [], .slice none 0 0]
theorem rd_ea {w : World} {K : Nat} {s : List UInt8} (hA : w.heap[K]? = some (.cells (rowEa s) 43 (0, 0))) : RdA w (.slice (some ⟨K, 0, none⟩) 1 1) [⟨[], wTitle, s⟩] := by
  refine ⟨_, 1, rfl, (fun h => by cases h), fun i a hx => ?_⟩
  match i, hx with
  | 0, hx =>
    obtain rfl := Option.some.inj hx
    refine ⟨K, 0, rfl, ?_, ?_, ?_⟩ <;> rw [Lib.cell_of_heap hA] <;> rfl
  | i + 1, hx => cases hx
theorem rd_ev {w : World} {K L : Nat} {s : List UInt8} (hA : w.heap[K]? = some (.cells (rowEa s) 43 (0, 0))) (hB : w.heap[L]? = some (.cells (boxEb K) 26 (0, 0))) : RdT w (tEv s) (.slice none 0 0) (.slice (some ⟨L, 0, none⟩) 1 1) := by
  refine RdT.mk_iff.2 ⟨RdA.nil w, RdS.of (ks := [.mk ⟨3, Dm.wHtml, [98, 114], [⟨[], wTitle, s⟩], [], [], []⟩ []]) (c := 1) fun i t hx => ?_⟩
  match i, hx with
  | 0, hx =>
    obtain rfl := Option.some.inj hx
    refine ⟨L, 0, .slice (some ⟨K, 0, none⟩) 1 1, .slice none 0 0, rfl, ⟨?_, ?_, ?_, ?_, ?_, ?_, ?_, ?_⟩, RdT.mk_iff.2 ⟨rd_ea hA, RdS.nil w none 0⟩⟩ <;> rw [Lib.cell_of_heap hB] <;> rfl
  | i + 1, hx => cases hx
abbrev W2f (s : List UInt8) (w : World) : World := (w.alloc (.cells (rowEa s) 43)).alloc (.cells (boxEb w.heap.size) 26)
theorem W2f_facts (s : List UInt8) (w : World) : (W2f s w).heap[w.heap.size]? = some (.cells (rowEa s) 43 (0, 0)) ∧ Box (W2f s w) (w.heap.size + 1) ⟨3, Dm.wHtml, [98, 114], [⟨[], wTitle, s⟩], [], [], []⟩ (.slice (some ⟨w.heap.size, 0, none⟩) 1 1) (.slice none 0 0) ∧ Below w.heap.size w (W2f s w) := by
  refine ⟨?_, ?_, ?_⟩
  · rw [Below.heap_alloc _ _ _ (by simp)]; exact heap_alloc_last _ _
  · have h := heap_alloc_last (w.alloc (.cells (rowEa s) 43)) (.cells (boxEb w.heap.size) 26)
    rw [World.size_alloc] at h
    exact h
  · exact ((Below.refl _ w).alloc (Nat.le_refl _) _).alloc (by simp) _
/-- what is written of the value's tree -/
structure Cut (V E : List UInt8) : Prop where
  len : V.length = E.length + 13
  head : V.take 11 = wAhead
  tail : V.drop (E.length + 11) = [34, 62]
  mid : (V.drop 11).take E.length = E
theorem cut_of (E : List UInt8) : Cut (wAhead ++ (E ++ [34, 62])) E := by
  refine ⟨?_, ?_, ?_, ?_⟩
  · simp [wAhead]
  · rfl
  · rw [← List.append_assoc, show E.length + 11 = (wAhead ++ E).length by simp [wAhead], List.drop_left]
  · rw [show (11 : Nat) = wAhead.length from rfl, List.drop_left, List.take_left]
theorem u8_ne {x y : UInt8} (h : x ≠ y) : ((x.toNat : Int) == (y.toNat : Int)) = false := by
  rw [beq_eq_false_iff_ne]
  intro e
  exact h (UInt8.toNat_inj.1 (by omega))
set_option maxRecDepth 100000 in
set_option maxHeartbeats 8000000 in
theorem law_escapes (s : List UInt8) (w : World) (htab : Tab w) (hent : En.Tab w) :
    Calls Tryz.prog 9 #[S s] w (Fresh (.bool true) w) := by
  have HTB := hide htab
  have HEN := hide hent
  have h1 := hide (works w htab)
  clear htab hent
  go_enter Tryz.func9, Tryz.ntmps9
  go_wp2_with fail
  refine Calls.mono h1.out ?_
  rintro e w1 ⟨rfl, hb1⟩
  have HB1 := hide hb1
  clear h1 hb1
  by_cases hlen : 8192 < s.length
  · have hd : decide ((8192 : Int) < (s.length : Int)) = true := by simp; omega
    go_wp2_with fail
    go_ret
    exact ⟨rfl, HB1.out⟩
  · have hd : decide ((8192 : Int) < (s.length : Int)) = false := by simp; omega
    have hl8 : s.length ≤ 8192 := by omega
    clear hlen
    go_upto_region 7 with (fail)
    change Code.wp _ _ _ _ (W2e s w1)
    obtain ⟨hK, hP, hb3⟩ := W2e_facts s w1
    generalize W2e s w1 = w3 at hK hP hb3 ⊢
    have HB3 := hide (HB1.out.trans (hb3.mono HB1.out.size))
    obtain ⟨d0, d1, d2, d3, d4, d5, d6, d7⟩ := hP.cells
    have hU6 := escV_len false s.length s (Nat.le_refl _)
    have c3 := html (tEt s) _ _ w3 (HTB.out.below HB3.out) (rd_et hK) (lim_et s _ (by omega) (by omega)) (wt_et s hl8) (by rw [html_et]; omega)
    rw [html_et] at c3
    have hdec := hide (dec_esc false false s)
    have hmk := hide (p := ∀ c ∈ escV false s, c ≠ 60 ∧ c ≠ 62) (fun c h => (esc_marks false s c h).1 rfl)
    generalize escV false s = U at c3 hdec hmk hU6
    have HC3 := hide c3
    clear c3 hK hP hb3 hd
    go_wp2_with fail
    refine Calls.mono HC3.out ?_
    rintro e w4 ⟨rfl, hb4⟩
    have HB4 := hide (HB3.out.trans (hb4.mono HB3.out.size))
    clear d0 d1 d2 d3 d4 d5 d6 d7 HC3 hb4
    go_wp2_with fail
    go_loopg [6] U.length (fun g s6 wx => ∃ i : Nat, i + g = U.length ∧ s6 = .int .i64 i ∧ w4 = wx)
    case atStart => exact ⟨0, by omega, rfl, rfl⟩
    case round =>
      obtain ⟨i, hi, rfl, rfl⟩ := hrel
      by_cases hlt : i < U.length
      · obtain ⟨x, hx⟩ : ∃ x, U[i] = x := ⟨_, rfl⟩
        have hxm := hmk.out x (by rw [← hx]; exact List.getElem_mem hlt)
        have x1 := u8_ne hxm.1
        have x2 := u8_ne hxm.2
        have e60 : (((60 : UInt8).toNat : Nat) : Int) = 60 := rfl
        have e62 : (((62 : UInt8).toNat : Nat) : Int) = 62 := rfl
        rw [e60] at x1
        rw [e62] at x2
        clear hxm e60 e62
        go_wp2_with fail
        go_roundg (gk - 1)
        case measure => omega
        case rel => exact ⟨i + 1, by omega, by go_num, rfl⟩
      · obtain rfl : i = U.length := by omega
        go_upto_region 14 with (fail)
        change Code.wp _ _ _ _ (W2f s w4)
        obtain ⟨hA, hB, hb5⟩ := W2f_facts s w4
        generalize W2f s w4 = w5 at hA hB hb5 ⊢
        have HB5 := hide (HB4.out.trans (hb5.mono HB4.out.size))
        obtain ⟨d0, d1, d2, d3, d4, d5, d6, d7⟩ := hB.cells
        have hb6 : Below w5.heap.size w5 (w5.alloc (.cells (boxEb w4.heap.size) 26)) := (Below.refl _ w5).alloc (Nat.le_refl _) _
        have hE6 := escV_len true s.length s (Nat.le_refl _)
        have c5 := html (tEv s) _ _ (w5.alloc (.cells (boxEb w4.heap.size) 26)) (HTB.out.below (HB5.out.trans (hb6.mono HB5.out.size)))
          (rd_ev (K := w4.heap.size) (L := w5.heap.size) ((hb6.block _ (heap_lt hA)).trans hA) (heap_alloc_last _ _)) (lim_ev s _ (by omega) (by omega)) (wt_ev s hl8) (by rw [html_ev]; simp [wAhead]; omega)
        rw [html_ev] at c5
        have hdec2 := hide (dec_esc true true s)
        have hmk2 := hide (p := ∀ c ∈ escV true s, c ≠ 34) (fun c h => (esc_marks true s c h).2 rfl)
        have hcut := cut_of (escV true s)
        generalize wAhead ++ (escV true s ++ [34, 62]) = V at c5 hcut
        generalize escV true s = E at hdec2 hmk2 hcut hE6
        have HC5 := hide c5
        have HB6 := hide (HB5.out.trans (hb6.mono HB5.out.size))
        clear c5 hA hB hb5 hb6
        go_wp2_with fail
        refine Calls.mono HC5.out ?_
        rintro e w6 ⟨rfl, hb7⟩
        have HB7 := hide (HB6.out.trans (hb7.mono HB6.out.size))
        clear d0 d1 d2 d3 d4 d5 d6 d7 HC5 hb7
        have hvl := hcut.len
        have HCUT := hide hcut
        clear hcut
        have hv1 : decide ((V.length : Int) < 13) = false := by simp; omega
        have hv2 : decide (V.length < 13) = false := by simp; omega
        have hv3 : ¬ V.length < 11 := by omega
        have hv4 : List.take 11 V = [60, 98, 114, 32, 116, 105, 116, 108, 101, 61, 34] := HCUT.out.head
        have hv5 : List.take 2 (List.drop (E.length + 11) V) = [34, 62] := by rw [HCUT.out.tail]; rfl
        have hv6 : List.take (E.length + 13 - 2 - 11) (List.drop 11 V) = E := by rw [show E.length + 13 - 2 - 11 = E.length by omega]; exact HCUT.out.mid
        have HV6 := hide hv6
        clear hv6
        go_wp2_with fail
        rw [HV6.out, show Value.string { data := E.toArray } = S E from rfl]
        clear hv1 hv2 hv3 hv4 hv5 HV6 HCUT hvl
        go_loopg [10] E.length (fun g s10 wx => ∃ i : Nat, i + g = E.length ∧ s10 = .int .i64 i ∧ w6 = wx)
        case atStart => exact ⟨0, by omega, rfl, rfl⟩
        case round =>
          obtain ⟨i, hi, rfl, rfl⟩ := hrel
          by_cases hlt : i < E.length
          · obtain ⟨x, hx⟩ : ∃ x, E[i] = x := ⟨_, rfl⟩
            have hxm := hmk2.out x (by rw [← hx]; exact List.getElem_mem hlt)
            have x1 := u8_ne hxm
            have e34 : (((34 : UInt8).toNat : Nat) : Int) = 34 := rfl
            rw [e34] at x1
            clear hxm e34
            go_wp2_with fail
            go_roundg (gk - 1)
            case measure => omega
            case rel => exact ⟨i + 1, by omega, by go_num, rfl⟩
          · obtain rfl : i = E.length := by omega
            have c7 : Calls Tryz.prog 33 #[S U, .bool false] w6 (Fresh (S s) w6) := En.decode U false s w6 (by omega) (HEN.out.below HB7.out) hdec
            have HC7 := hide c7
            clear c7
            go_wp2_with fail
            refine Calls.mono HC7.out ?_
            rintro e w7 ⟨rfl, hb8⟩
            have HB8 := hide (HB7.out.trans (hb8.mono HB7.out.size))
            have c8 : Calls Tryz.prog 33 #[S E, .bool true] w7 (Fresh (S s) w7) := En.decode E true s w7 (by omega) (HEN.out.below HB8.out) hdec2
            have HC8 := hide c8
            clear c8 HC7 hb8
            go_wp2_with fail
            refine Calls.mono HC8.out ?_
            rintro e w8 ⟨rfl, hb9⟩
            have HB9 := hide (HB8.out.trans (hb9.mono HB8.out.size))
            clear HC8 hb9
            go_wp2_with fail
            go_ret
            exact ⟨rfl, HB9.out⟩
end Go.Proofs.YtagkdmolgmhmdaaGreatDoor
