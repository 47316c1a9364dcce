/- number. -/
import Derived.Test.YtngccmlcopcghaaGreatDoorVc
import Derived.Test.YtngccmlcopcghaaGreatDoorTb
import Derived.Test.YtngccmlcopcghaaGreatDoorRd
import Derived.Great.BuildSlice
import Derived.Great.Walk
import Derived.Laws.Rows
import Derived.Test.YtngccmlcopcghaaGreatDoorWh
import Derived.Test.YtngccmlcopcghaaGreatDoorTc
set_option maxRecDepth 100000
set_option maxHeartbeats 8000000
namespace Go.Proofs.YtngccmlcopcghaaGreatDoor
open Go.RowKit
def marksC : Array Value := (Jsp.marks.map S).toArray
theorem marks_len : Jsp.marks.length = 57 := rfl
def markP (s : List UInt8) (m : List UInt8) : Bool := m.isPrefixOf s && !(m == [63, 46] && Jsp.isB (fun c => Jsp.digit c.toNat) (s.drop 2))
def jMkP (F : List UInt8) (B b a : Nat) (st : Jsp.St) (ln : Bool) (w : World) (R : Option (List UInt8)) (e : Ending) (w' : World) : Prop := match R with
 | none => Pk 170 a (fun x => x = w0x) B w e w'
 | some m => match Jsp.bracket st m with
  | none => Pk 177 a (fun x => x = w0x) B w e w'
  | some st2 => Lf (tokV 3 m []) w B b F (a + m.length) st2 ln e w'
theorem jMkP.none' {F : List UInt8} {B b a : Nat} {st : Jsp.St} {ln : Bool} {w : World} {m : List UInt8} (h : Jsp.bracket st m = none) {e : Ending} {w' : World} (hp : Pk 177 a (fun x => x = w0x) B w e w') : jMkP F B b a st ln w (some m) e w' := by
 unfold jMkP; simp only [h]; exact hp
theorem jMkP.some' {F : List UInt8} {B b a : Nat} {st : Jsp.St} {ln : Bool} {w : World} {m : List UInt8} {st2 : Jsp.St} (h : Jsp.bracket st m = some st2) {e : Ending} {w' : World} (hp : Lf (tokV 3 m []) w B b F (a + m.length) st2 ln e w') : jMkP F B b a st ln w (some m) e w' := by
 unfold jMkP; simp only [h]; exact hp
theorem digit_pt {s : List UInt8} (hv : Cssp.valid s = true) : Jsp.digit (Jsp.pt s) = Jsp.isB (fun c => Jsp.digit c.toNat) s := by
 cases s with
 | nil => rfl
 | cons c r =>
  by_cases h : Jsp.pt (c :: r) < 128
  ·obtain ⟨c', r', e, h1, _⟩ := Jsp.pt_small hv (by simp) h
   injection e with e1 e2
   subst e1
   rw [<- h1]; rfl
  ·by_cases hc : c.toNat < 128
   ·rw [Jsp.pt_ascii hc] at h; exact absurd hc h
   ·have h1 : Jsp.digit (Jsp.pt (c :: r)) = false := by unfold Jsp.digit; simp; omega
    have h2 : Jsp.isB (fun c => Jsp.digit c.toNat) (c :: r) = false := by show Jsp.digit c.toNat = false; unfold Jsp.digit; simp; omega
    rw [h1, h2]
theorem find_marks {P : List UInt8 -> Bool} {i : Nat} {m : List UInt8} {R : Option (List UInt8)} (hm : Jsp.marks[i]? = some m) (h : (Jsp.marks.drop i).find? P = R) : (match P m with | true => some m | false => (Jsp.marks.drop (i + 1)).find? P) = R := by
 obtain ⟨hlt, he⟩ := List.getElem?_eq_some_iff.1 hm
 rw [List.drop_eq_getElem_cons hlt, List.find?_cons, he] at h
 exact h
theorem pre_len {m F : List UInt8} {a : Nat} (h : m.isPrefixOf (F.drop a) = true) (ha : a <= F.length) : a + m.length <= F.length := by
 have := (List.isPrefixOf_iff_prefix.1 h).length_le
 rw [List.length_drop] at this
 omega
theorem pre_take {m F : List UInt8} {a : Nat} (h : m.isPrefixOf (F.drop a) = true) : (F.drop a).take (a + m.length - a) = m := by
 rw [Nat.add_sub_cancel_left]
 exact (List.prefix_iff_eq_take.1 (List.isPrefixOf_iff_prefix.1 h)).symm
theorem run_index_marks (i : Nat) (m : List UInt8) (w : World) (hm : Jsp.marks[i]? = some m) : (Instr.index 92 (.agg marksC) (.int .i64 (i : Int))).run Tryz.prog w = .ok (S m) w := by
 have hi : i < 57 := by
  rw [<- marks_len]
  exact (List.getElem?_eq_some_iff.1 hm).1
 have hx : marksC[i]? = some (S m) := by
  unfold marksC
  rw [List.getElem?_toArray, List.getElem?_map, hm]; rfl
 have hn : 0 <= (i : Int) /\ (i : Int) < 57 := by omega
 have hc : Tryz.prog.cellsOf 9 = 1 := by kernel_rfl
 simp [Instr.index, run_underlying Tryz.underlying92, asIntOf, hn, go_sem]
 rw [if_pos hi, hx]
 rfl
theorem jMark (F : List UInt8) (B b a : Nat) (st : Jsp.St) (ln : Bool) (w : World) (h : Lx w B b F a st ln) (hs : st.stk.length <= 200) (ha : a < F.length) (hv : Cssp.valid (F.drop a) = true) (hl : F.length <= 4194304) :
  Calls Tryz.prog 36 #[.pointer (some ⟨b, 0, none⟩)] w (jMkP F B b a st ln w (Jsp.markOf (F.drop a))) := by
 have HX := hide h
 have hB := h.leB
 have hal : Below w.heap.size w (w.alloc (.cells tokC 29)) := (Below.refl _ w).alloc (Nat.le_refl _) _
 have hnew : (w.alloc (.cells tokC 29)).heap[w.heap.size]? = some (.cells tokC 29 (0, 0)) := heap_alloc_last _ _
 clear h
 go_enter Tryz.func36, Tryz.ntmps36
 apply wp_seq_k; intro K0 hK0
 apply wp_region_lit
 refine Go.Great.wpList_allocTo rfl (some 2) rfl (.pointer (some ⟨w.heap.size, 0, none⟩)) (.cells tokC 29) (by kernel_rfl) ?_
 refine wpList_frame (a' := { tmps := #[.pointer (some ⟨b, 0, none⟩), undef, .pointer (some ⟨w.heap.size, 0, none⟩), undef, undef, undef, undef, undef, undef, undef, undef, undef, undef, undef, undef, undef, undef, undef, undef, undef, undef, undef, undef, undef, undef, undef, undef, undef, undef, undef, undef, undef, undef, undef, undef, undef, undef, undef, undef, undef, undef, undef, undef, undef, undef, undef], defers := [] }) (by kernel_rfl) ?_
 apply wpList_nil
 refine hK0 _ _ ?_
 clear hK0 K0
 obtain ⟨W1, hW1⟩ : ∃ W1, W1 = w.alloc (.cells tokC 29) := ⟨_, rfl⟩
 rw [<- hW1] at hal hnew ⊢
 clear hW1
 have hal2 : Below w.heap.size w (W1.alloc (.cells (Array.replicate 57 (S [])) 92)) := hal.alloc hal.size _
 have hnew2 : (W1.alloc (.cells (Array.replicate 57 (S [])) 92)).heap[W1.heap.size]? = some (.cells (Array.replicate 57 (S [])) 92 (0, 0)) := heap_alloc_last _ _
 apply wp_seq_k; intro K1 hK1
 apply wp_region_lit
 refine wpList_buildTo rfl 92 _ rfl (some 6) rfl marksC (by kernel_rfl) ?_
 refine wpList_frame (a' := { tmps := #[.pointer (some ⟨b, 0, none⟩), undef, .pointer (some ⟨w.heap.size, 0, none⟩), undef, undef, undef, .agg marksC, undef, undef, undef, undef, undef, undef, undef, undef, undef, undef, undef, undef, undef, undef, undef, undef, undef, undef, undef, undef, undef, undef, undef, undef, undef, undef, undef, undef, undef, undef, undef, undef, undef, undef, undef, undef, undef, undef, undef], defers := [] }) (by kernel_rfl) ?_
 refine Go.Great.wpList_allocTo rfl (some 3) rfl (.pointer (some ⟨W1.heap.size, 0, none⟩)) (.cells (Array.replicate 57 (S [])) 92) (by kernel_rfl) ?_
 refine wpList_frame (a' := { tmps := #[.pointer (some ⟨b, 0, none⟩), undef, .pointer (some ⟨w.heap.size, 0, none⟩), .pointer (some ⟨W1.heap.size, 0, none⟩), undef, undef, .agg marksC, undef, undef, undef, undef, undef, undef, undef, undef, undef, undef, undef, undef, undef, undef, undef, undef, undef, undef, undef, undef, undef, undef, undef, undef, undef, undef, undef, undef, undef, undef, undef, undef, undef, undef, undef, undef, undef, undef, undef], defers := [] }) (by kernel_rfl) ?_
 refine wpList_store_rowTo rfl 92 _ _ rfl rfl W1.heap.size marksC (by kernel_rfl) (by kernel_rfl) 92 (Array.replicate 57 (S [])) hnew2 (by kernel_rfl) (by kernel_rfl) (by kernel_rfl) ?_
 apply wpList_nil
 refine hK1 _ _ ?_
 clear hK1 K1
 have hrow3 := setRow_heap (W1.alloc (.cells (Array.replicate 57 (S [])) 92)) W1.heap.size _ marksC _ _ hnew2
 have hal3 : Below w.heap.size w ((W1.alloc (.cells (Array.replicate 57 (S [])) 92)).setRow W1.heap.size marksC) := ⟨hal2.os, hal2.tape, hal2.output, by rw [setRow_size]; exact hal2.size, fun k hk => by rw [setRow_other _ _ _ _ (by have := hal.size; omega)]; exact hal2.block k hk⟩
 have hr3 : ((W1.alloc (.cells (Array.replicate 57 (S [])) 92)).setRow W1.heap.size marksC).heap[w.heap.size]? = some (.cells tokC 29 (0, 0)) := by
  have hlt := heap_lt hnew
  rw [setRow_other _ _ _ _ (by omega), Below.heap_alloc _ _ _ hlt]; exact hnew
 generalize (W1.alloc (.cells (Array.replicate 57 (S [])) 92)).setRow W1.heap.size marksC = W3 at hrow3 hal3 hr3 ⊢
 apply wp_seq_k; intro K2 hK2
 apply wp_seq_k; intro K3 hK3
 apply wp_region_lit
 refine wpList_load_row rfl 92 _ rfl W1.heap.size (by kernel_rfl) _ _ _ _ hrow3 Tryz.underlying92 rfl (by kernel_rfl) ?_
 refine wpList_frame (a' := { tmps := #[.pointer (some ⟨b, 0, none⟩), undef, .pointer (some ⟨w.heap.size, 0, none⟩), .pointer (some ⟨W1.heap.size, 0, none⟩), undef, undef, .agg marksC, .agg marksC, undef, undef, undef, undef, undef, undef, undef, undef, undef, undef, undef, undef, undef, undef, undef, undef, undef, undef, undef, undef, undef, undef, undef, undef, undef, undef, undef, undef, undef, undef, undef, undef, undef, undef, undef, undef, undef, undef], defers := [] }) (by kernel_rfl) ?_
 refine Go.Great.wpList_readTo rfl (some 8) rfl (.int .i64 0) (by kernel_rfl) ?_
 refine wpList_frame (a' := { tmps := #[.pointer (some ⟨b, 0, none⟩), undef, .pointer (some ⟨w.heap.size, 0, none⟩), .pointer (some ⟨W1.heap.size, 0, none⟩), undef, undef, .agg marksC, .agg marksC, .int .i64 0, undef, undef, undef, undef, undef, undef, undef, undef, undef, undef, undef, undef, undef, undef, undef, undef, undef, undef, undef, undef, undef, undef, undef, undef, undef, undef, undef, undef, undef, undef, undef, undef, undef, undef, undef, undef, undef], defers := [] }) (by kernel_rfl) ?_
 apply wpList_nil
 refine hK3 _ _ ?_
 clear hK3 K3 hnew hal hal2 hnew2 hrow3
 have hidx := fun (i : Nat) (m : List UInt8) (hm : Jsp.marks[i]? = some m) W => hide (run_index_marks i m W hm)
 generalize W1.heap.size = ga
 clear W1
 generalize marksC = A at hidx ⊢
 obtain ⟨R, hR⟩ : ∃ R, Jsp.markOf (F.drop a) = R := ⟨_, rfl⟩
 rw [hR]
 have hfind : Jsp.marks.find? (markP (F.drop a)) = R := hR
 have HRR := hide hR
 generalize hr : w.heap.size = r at hr3 ⊢
 have HR3 := hide hr3
 have HAL3 := hide hal3
 have HFD := hide hfind
 clear hR hr3 hfind hal3
 go_wp2_with fail
 go_loopg [8] 57 (fun g s8 wx => ∃ (i : Nat), s8 = .int .i64 i /\ g + i = 57 /\ Hid (Below w.heap.size w wx) /\ Hid (wx.heap[r]? = some (.cells tokC 29 (0, 0))) /\ Hid ((Jsp.marks.drop i).find? (markP (F.drop a)) = R))
 case atStart => exact ⟨0, rfl, rfl, HAL3.out, HR3.out, HFD.out⟩
 case round =>
  obtain ⟨i, rfl, hgi, hbw, hrw, hfi⟩ := hrel
  clear HAL3 HR3 HFD
  by_cases hlt : i < 57
  ·obtain ⟨m, hm⟩ : ∃ m, Jsp.marks[i]? = some m := ⟨_, List.getElem?_eq_getElem (by rw [marks_len]; exact hlt)⟩
   have hix := fun W => (hidx i m hm W).out
   have hfi := find_marks hm hfi.out
   have hrest := fun W (hW : Below w.heap.size w W) => hide (jRest F B b a st ln W (HX.out.below hW) (by omega))
   have q : decide ((i : Int) < 57) = true := by simp; omega
   have b0 : (0 : Int) <= (i : Int) := by omega
   have b1 : (i : Int) < 57 := by omega
   clear hm hidx
   by_cases hpre : m.isPrefixOf (F.drop a) = true
   ·by_cases h2 : m = [63, 46]
    ·have e2 : (m == [63, 46]) = true := beq_iff_eq.2 h2
     obtain ⟨D, hD⟩ : ∃ D, Jsp.isB (fun c => Jsp.digit c.toNat) ((F.drop a).drop 2) = D := ⟨_, rfl⟩
     have hp : markP (F.drop a) m = !D := by unfold markP; rw [hpre, e2, hD]; rfl
     rw [hp] at hfi
     have hv2 : Cssp.valid (F.drop (a + 2)) = true := by
      have e := List.prefix_iff_eq_append.1 (List.isPrefixOf_iff_prefix.1 hpre)
      rw [h2] at e
      rw [<- e] at hv
      rw [<- List.drop_drop, show (2 : Nat) = ([63, 46] : List UInt8).length from rfl, <- Cssp.valid_app [63, 46] _ (by decide)]
      exact hv
     have hdg : Jsp.digit (Jsp.pt (F.drop (a + 2))) = D := by rw [digit_pt hv2, <- List.drop_drop]; exact hD
     have hPt := fun W (hW : Below w.heap.size w W) => hide (jPoint F B b a 2 st ln W (HX.out.below hW) (by omega) (by omega) hl)
     have hDg := fun W => hide (jDigit (Jsp.pt (F.drop (a + 2))) W)
     rw [hdg] at hDg
     have HV2 := hide hv2
     clear hdg hv2 hp hD h2
     cases D with
     | true =>
      have HFI := hide (show (Jsp.marks.drop (i + 1)).find? (markP (F.drop a)) = R from hfi)
      have HP := hide hpre
      clear hpre hfi
      go_wp2_with fail
      refine (hrest _ hbw.out).out.mono ?_
      rintro e w1 ⟨rfl, n1, rfl⟩
      have hb1 := hide (hbw.out.trans ((belowN wr n1).mono hbw.out.size))
      have HW1 := hide (show (wr.drewN n1).heap[r]? = _ from hrw.out)
      go_wp2_with fail
      refine (sHasPreV _ _ true HP.out _).mono ?_
      rintro e w2 ⟨rfl, rfl⟩
      go_wp2_with fail
      refine (hPt _ hb1.out).out.mono ?_
      rintro e w3 ⟨rp, -, hrp, rfl, hb3⟩
      have hrp := hrp HV2.out
      subst hrp
      have HB3 := hide (hb1.out.trans (hb3.mono hb1.out.size))
      have HW3 := hide (show w3.heap[r]? = _ from (hb3.block r (heap_lt HW1.out)).trans HW1.out)
      clear hb3
      go_wp2_with fail
      refine (hDg _).out.mono ?_
      rintro e w4 ⟨rfl, rfl⟩
      go_wp2_with fail
      go_roundg (gk - 1)
      case measure => omega
      case rel => exact ⟨i + 1, by go_num, by omega, HB3.out, HW3.out, HFI.out⟩
     | false =>
      have hfi : some m = R := hfi
      subst hfi
      obtain ⟨Q, hQ⟩ : ∃ Q, Jsp.bracket st m = Q := ⟨_, rfl⟩
      have hBr := fun W (hW : Below w.heap.size w W) => hide (jBracket F B b a st ln W (HX.out.below hW) hs m)
      rw [hQ] at hBr
      have HQ := hide hQ
      have HP := hide hpre
      clear hQ hpre hfi
      go_wp2_with fail
      refine (hrest _ hbw.out).out.mono ?_
      rintro e w1 ⟨rfl, n1, rfl⟩
      have hb1 := hide (hbw.out.trans ((belowN wr n1).mono hbw.out.size))
      have HW1 := hide (show (wr.drewN n1).heap[r]? = _ from hrw.out)
      go_wp2_with fail
      refine (sHasPreV _ _ true HP.out _).mono ?_
      rintro e w2 ⟨rfl, rfl⟩
      go_wp2_with fail
      refine (hPt _ hb1.out).out.mono ?_
      rintro e w3 ⟨rp, -, hrp, rfl, hb3⟩
      have hrp := hrp HV2.out
      subst hrp
      have HB3 := hide (hb1.out.trans (hb3.mono hb1.out.size))
      have HW3 := hide (show w3.heap[r]? = _ from (hb3.block r (heap_lt HW1.out)).trans HW1.out)
      clear hb3
      go_wp2_with fail
      refine (hDg _).out.mono ?_
      rintro e w4 ⟨rfl, rfl⟩
      cases Q with
      | none =>
       go_wp2_with fail
       refine (hBr _ HB3.out).out.mono ?_
       rintro e w3 ⟨_, rfl, rfl, hk3⟩
       go_wp2_with fail
       exact ⟨rfl, jMkP.none' HQ.out ⟨w0x, rfl, rfl, (Kp.of_below hB HB3.out).trans hk3⟩⟩
      | some st2 =>
       go_wp2_with fail
       refine (hBr _ HB3.out).out.mono ?_
       rintro e w3 ⟨rfl, hl3, hk3⟩
       have hcut := jCut F B b a (a + m.length) st2 ln w3 hl3 (by omega) (pre_len HP.out (by omega))
       rw [Int.natCast_add, pre_take HP.out] at hcut
       have hCut := hide hcut
       obtain ⟨_, _, _, hx⟩ := hl3
       obtain ⟨d0, d1, -⟩ := hx.cells
       have hml : a + m.length <= F.length := pre_len HP.out (by omega)
       have hsum : wrap64 ((a : Int) + (m.length : Int)) = (a : Int) + (m.length : Int) := by unfold wrap64; omega
       clear hx hcut
       go_wp2_with fail
       refine hCut.out.mono ?_
       rintro e w4 ⟨rfl, hl4, hk4⟩
       have hr4 := hk4.kept _ _ _ _ (hk3.kept _ _ _ _ HW3.out (by decide) (by decide)) (by decide) (by decide)
       obtain ⟨t0, t1, t2, tf0, tf1, tf2⟩ := tok_cells hr4
       go_wp2_with fail
       obtain ⟨E1, E2⟩ := tok_end hl4 (((Kp.of_below hB HB3.out).trans hk3).trans hk4) hB (Nat.le_of_eq hr) hr4 3 m []
       refine bodyPost_ret (v := tokV 3 m []) (tok_ret Tryz.results36 _ w4 r hr4 3 m [] rfl) rfl ?_
       exact jMkP.some' HQ.out ⟨rfl, E1, E2⟩
    ·have e2 : (m == [63, 46]) = false := beq_eq_false_iff_ne.2 h2
     have hp : markP (F.drop a) m = true := by unfold markP; rw [hpre, e2]; rfl
     rw [hp] at hfi
     have hfi : some m = R := hfi
     subst hfi
     clear hp
     obtain ⟨Q, hQ⟩ : ∃ Q, Jsp.bracket st m = Q := ⟨_, rfl⟩
     have hBr := fun W (hW : Below w.heap.size w W) => hide (jBracket F B b a st ln W (HX.out.below hW) hs m)
     rw [hQ] at hBr
     have HQ := hide hQ
     have HP := hide hpre
     clear hQ hpre hfi
     go_wp2_with fail
     refine (hrest _ hbw.out).out.mono ?_
     rintro e w1 ⟨rfl, n1, rfl⟩
     have hb1 := hide (hbw.out.trans ((belowN wr n1).mono hbw.out.size))
     have HW1 := hide (show (wr.drewN n1).heap[r]? = _ from hrw.out)
     go_wp2_with fail
     refine (sHasPreV _ _ true HP.out _).mono ?_
     rintro e w2 ⟨rfl, rfl⟩
     cases Q with
     | none =>
      go_wp2_with fail
      refine (hBr _ hb1.out).out.mono ?_
      rintro e w3 ⟨_, rfl, rfl, hk3⟩
      go_wp2_with fail
      exact ⟨rfl, jMkP.none' HQ.out ⟨w0x, rfl, rfl, (Kp.of_below hB hb1.out).trans hk3⟩⟩
     | some st2 =>
      go_wp2_with fail
      refine (hBr _ hb1.out).out.mono ?_
      rintro e w3 ⟨rfl, hl3, hk3⟩
      have hcut := jCut F B b a (a + m.length) st2 ln w3 hl3 (by omega) (pre_len HP.out (by omega))
      rw [Int.natCast_add, pre_take HP.out] at hcut
      have hCut := hide hcut
      obtain ⟨_, _, _, hx⟩ := hl3
      obtain ⟨d0, d1, -⟩ := hx.cells
      have hml : a + m.length <= F.length := pre_len HP.out (by omega)
      have hsum : wrap64 ((a : Int) + (m.length : Int)) = (a : Int) + (m.length : Int) := by unfold wrap64; omega
      clear hx hcut
      go_wp2_with fail
      refine hCut.out.mono ?_
      rintro e w4 ⟨rfl, hl4, hk4⟩
      have hr4 := hk4.kept _ _ _ _ (hk3.kept _ _ _ _ HW1.out (by decide) (by decide)) (by decide) (by decide)
      obtain ⟨t0, t1, t2, tf0, tf1, tf2⟩ := tok_cells hr4
      go_wp2_with fail
      obtain ⟨E1, E2⟩ := tok_end hl4 (((Kp.of_below hB hb1.out).trans hk3).trans hk4) hB (Nat.le_of_eq hr) hr4 3 m []
      refine bodyPost_ret (v := tokV 3 m []) (tok_ret Tryz.results36 _ w4 r hr4 3 m [] rfl) rfl ?_
      exact jMkP.some' HQ.out ⟨rfl, E1, E2⟩
   ·have hpre : m.isPrefixOf (F.drop a) = false := Bool.eq_false_iff.2 hpre
    have hp : markP (F.drop a) m = false := by unfold markP; rw [hpre]; rfl
    rw [hp] at hfi
    have hfi' : Hid ((Jsp.marks.drop (i + 1)).find? (markP (F.drop a)) = R) := hfi
    have HP := hide hpre
    clear hpre hfi hp
    go_wp2_with fail
    refine (hrest _ hbw.out).out.mono ?_
    rintro e w1 ⟨rfl, n1, rfl⟩
    have hb1 := hide (hbw.out.trans ((belowN wr n1).mono hbw.out.size))
    have HW1 := hide (show (wr.drewN n1).heap[r]? = _ from hrw.out)
    go_wp2_with fail
    refine (sHasPreV _ _ false HP.out _).mono ?_
    rintro e w2 ⟨rfl, rfl⟩
    go_wp2_with fail
    go_roundg (gk - 1)
    case measure => omega
    case rel => exact ⟨i + 1, by go_num, by omega, hb1.out, HW1.out, hfi'⟩
  ·have hi : i = 57 := by omega
   have hn : R = none := by
    have := hfi.out
    rw [hi, show Jsp.marks.drop 57 = [] from rfl] at this
    exact this.symm
   have q : decide ((i : Int) < 57) = false := by simp; omega
   obtain ⟨_, _, _, hx⟩ := HX.out.below hbw.out
   obtain ⟨-, c1, -⟩ := hx.cells
   have HK := hide (Kp.of_below hB hbw.out)
   clear hx hi hidx hfi
   subst hn
   go_wp2_with fail
   refine (jFail b 170 a _).mono ?_
   rintro e w3 ⟨rfl, rfl⟩
   go_wp2_with fail
   exact ⟨rfl, by unfold jMkP; rw [HRR.out]; exact ⟨w0x, rfl, rfl, HK.out⟩⟩
theorem jNumber (F : List UInt8) (B b a : Nat) (st : Jsp.St) (ln : Bool) (w : World) (h : Lx w B b F a st ln) (ha : a < F.length) (hv : Cssp.valid (F.drop a) = true) (hl : F.length <= 4194000) :
  Calls Tryz.prog 41 #[.pointer (some ⟨b, 0, none⟩)] w (fun e w' => if (Jsp.numeral (F.drop a)).2 = false \/ Jsp.name ((F.drop a).drop (Jsp.numeral (F.drop a)).1) ≠ 0 then PkN 173 a B w e w' else Lf (tokV 4 ((F.drop a).take (Jsp.numeral (F.drop a)).1) []) w B b F (a + (Jsp.numeral (F.drop a)).1) st ln e w') := by
 have hB := h.leB
 have h0 : F.drop a ≠ [] := fun e => by
  have := congrArg List.length e
  rw [List.length_drop, List.length_nil] at this
  omega
 obtain ⟨n1, n2, n3⟩ := tok_new h
 unfold tokC at n1 n2 n3
 obtain ⟨W1, hW1⟩ : ∃ W1, W1 = w.alloc (.cells #[.int .u8 0, S [], S []] 29) := ⟨_, rfl⟩
 rw [<- hW1] at n1 n2 n3
 have HW1 := hide hW1
 clear hW1
 have hasc := Jsp.numeral_asc (F.drop a) h0
 have hva := hasc.valid hv
 have hk1 : a + (Jsp.numeral (F.drop a)).1 <= F.length := by
  have := hasc.1
  rw [List.length_drop] at this
  omega
 have HNum := fun W => hide (jNumeral F a W ha hl)
 unfold NumP Jsp.numA at HNum
 obtain ⟨k, ok, hK⟩ : ∃ k ok, Jsp.numeral (F.drop a) = (k, ok) := ⟨_, _, rfl⟩
 rw [hK] at hva hk1 ⊢
 simp only [hK] at HNum
 simp only at hva hk1 ⊢
 rw [List.drop_drop] at hva ⊢
 have HNm := fun W hW => hide (jName F B b a (a + k) st ln W hW hk1 hva (by omega))
 have hCut := fun W hW => hide (jCut F B b a (a + k) st ln W hW (by omega) hk1)
 rw [Nat.add_sub_cancel_left] at hCut
 obtain ⟨M, hM⟩ : ∃ M, Jsp.name (F.drop (a + k)) = M := ⟨_, rfl⟩
 rw [hM] at HNm ⊢
 obtain ⟨P, hP⟩ : ∃ P, a + k = P := ⟨_, rfl⟩
 rw [hP] at HNum HNm hCut hk1 ⊢
 obtain ⟨Z, hZ⟩ : ∃ Z, P + M = Z := ⟨_, rfl⟩
 rw [hZ] at HNm
 have hWi := fun W hW => hide (jWithinW F B b a 173 a 2 st ln W hW (.inl rfl))
 obtain ⟨_, _, _, hx⟩ := id n1
 obtain ⟨c0, c1, -⟩ := hx.cells
 have hS : ∀ W, Below W1.heap.size W1 W -> W.cell? ⟨b, 0, none⟩ = some (S F) /\ W.cell? ⟨b, 1, none⟩ = some (.int .i64 (a : Int)) := fun W hW => ⟨cell_below c0 hW, cell_below c1 hW⟩
 have H1 := hide n1
 have H2 := hide n2
 have H3 := hide n3
 obtain ⟨gL, qL⟩ : ∃ gL, ((P : Int) == (F.length : Int)) = gL := ⟨_, rfl⟩
 have hgM : ∃ gM, ((Z : Int) != (P : Int)) = gM /\ (gM = true ↔ M ≠ 0) := ⟨_, rfl, by rw [bne_iff_ne]; omega⟩
 obtain ⟨gM, qM, hgM⟩ := hgM
 clear h n1 n2 n3 hx hv hva hK hM hP hZ hk1 h0 hasc ha
 cases ok with
 | false =>
  have hI : (false = false \/ M ≠ 0) := .inl rfl
  refine Calls.mono (R := PkN 173 a B w) ?_ (fun e w' hp => by rw [if_pos hI]; exact hp)
  clear hI hCut
  cases hg : gM with
  | true =>
   rw [hg] at qM
   clear hg hgM
   cases hgL : gL with
   | true =>
    rw [hgL] at qL
    go_enter Tryz.func41, Tryz.ntmps41
    go_wp2_with fail
    rw [<- HW1.out]
    go_region_held3 (fun W => W.cell? ⟨b, 0, none⟩ = some (S F) /\ W.cell? ⟨b, 1, none⟩ = some (.int .i64 (a : Int))) (first | exact ⟨c0, c1⟩ | exact hS _ (((Below.refl W1.heap.size W1).drew).trans hb)) ((go_at_call 70; refine (HNum _).out.mono ?_; rintro e w1 ⟨rfl, hb⟩))
    have H4 := hide (H2.out.fresh hB (((Below.refl W1.heap.size W1).drew).trans hb))
    have H6 := hide (H1.out.below (((Below.refl W1.heap.size W1).drew).trans hb))
    have H7 := hide (((((Below.refl W1.heap.size W1).drew).trans hb).block _ (heap_lt H3.out)).trans H3.out)
    obtain ⟨d0, d1⟩ := hS _ (((Below.refl W1.heap.size W1).drew).trans hb)
    clear hb hS c0 c1
    go_wp2_with fail
    refine (HNm _ H6.out).out.mono ?_
    rintro e w2 ⟨rfl, hb2⟩
    have H8 := hide (H4.out.fresh hB hb2)
    have H9 := hide ((hb2.block _ (heap_lt H7.out)).trans H7.out)
    have H10 := hide (H6.out.below hb2)
    have e0 := cell_below d0 hb2
    have e1 := cell_below d1 hb2
    clear hb2 d0 d1
    go_wp2_with fail
    refine (hWi _ H10.out).out.mono ?_
    rintro e w4 ⟨x, rfl, hx1, hk4⟩
    go_wp2_with fail
    exact ⟨rfl, x, rfl, by show x.s ≠ 1; rw [hx1]; decide, H8.out.trans hk4⟩
   | false =>
    rw [hgL] at qL
    go_enter Tryz.func41, Tryz.ntmps41
    go_wp2_with fail
    rw [<- HW1.out]
    go_region_held3 (fun W => W.cell? ⟨b, 0, none⟩ = some (S F) /\ W.cell? ⟨b, 1, none⟩ = some (.int .i64 (a : Int))) (first | exact ⟨c0, c1⟩ | exact hS _ (((Below.refl W1.heap.size W1).drew).trans hb)) ((go_at_call 70; refine (HNum _).out.mono ?_; rintro e w1 ⟨rfl, hb⟩))
    have H4 := hide (H2.out.fresh hB (((Below.refl W1.heap.size W1).drew).trans hb))
    have H6 := hide (H1.out.below (((Below.refl W1.heap.size W1).drew).trans hb))
    have H7 := hide (((((Below.refl W1.heap.size W1).drew).trans hb).block _ (heap_lt H3.out)).trans H3.out)
    obtain ⟨d0, d1⟩ := hS _ (((Below.refl W1.heap.size W1).drew).trans hb)
    clear hb hS c0 c1
    go_wp2_with fail
    refine (HNm _ H6.out).out.mono ?_
    rintro e w2 ⟨rfl, hb2⟩
    have H8 := hide (H4.out.fresh hB hb2)
    have H9 := hide ((hb2.block _ (heap_lt H7.out)).trans H7.out)
    have H10 := hide (H6.out.below hb2)
    have e0 := cell_below d0 hb2
    have e1 := cell_below d1 hb2
    clear hb2 d0 d1
    go_wp2_with fail
    refine (jFail b 173 a _).mono ?_
    rintro e w4 ⟨rfl, rfl⟩
    go_wp2_with fail
    exact ⟨rfl, w0x, rfl, by decide, H8.out⟩
  | false =>
   rw [hg] at qM
   clear hg hgM
   cases hgL : gL with
   | true =>
    rw [hgL] at qL
    go_enter Tryz.func41, Tryz.ntmps41
    go_wp2_with fail
    rw [<- HW1.out]
    go_region_held3 (fun W => W.cell? ⟨b, 0, none⟩ = some (S F) /\ W.cell? ⟨b, 1, none⟩ = some (.int .i64 (a : Int))) (first | exact ⟨c0, c1⟩ | exact hS _ (((Below.refl W1.heap.size W1).drew).trans hb)) ((go_at_call 70; refine (HNum _).out.mono ?_; rintro e w1 ⟨rfl, hb⟩))
    have H4 := hide (H2.out.fresh hB (((Below.refl W1.heap.size W1).drew).trans hb))
    have H6 := hide (H1.out.below (((Below.refl W1.heap.size W1).drew).trans hb))
    have H7 := hide (((((Below.refl W1.heap.size W1).drew).trans hb).block _ (heap_lt H3.out)).trans H3.out)
    obtain ⟨d0, d1⟩ := hS _ (((Below.refl W1.heap.size W1).drew).trans hb)
    clear hb hS c0 c1
    go_wp2_with fail
    refine (HNm _ H6.out).out.mono ?_
    rintro e w2 ⟨rfl, hb2⟩
    have H8 := hide (H4.out.fresh hB hb2)
    have H9 := hide ((hb2.block _ (heap_lt H7.out)).trans H7.out)
    have H10 := hide (H6.out.below hb2)
    have e0 := cell_below d0 hb2
    have e1 := cell_below d1 hb2
    clear hb2 d0 d1
    go_wp2_with fail
    refine (hWi _ H10.out).out.mono ?_
    rintro e w4 ⟨x, rfl, hx1, hk4⟩
    go_wp2_with fail
    exact ⟨rfl, x, rfl, by show x.s ≠ 1; rw [hx1]; decide, H8.out.trans hk4⟩
   | false =>
    rw [hgL] at qL
    go_enter Tryz.func41, Tryz.ntmps41
    go_wp2_with fail
    rw [<- HW1.out]
    go_region_held3 (fun W => W.cell? ⟨b, 0, none⟩ = some (S F) /\ W.cell? ⟨b, 1, none⟩ = some (.int .i64 (a : Int))) (first | exact ⟨c0, c1⟩ | exact hS _ (((Below.refl W1.heap.size W1).drew).trans hb)) ((go_at_call 70; refine (HNum _).out.mono ?_; rintro e w1 ⟨rfl, hb⟩))
    have H4 := hide (H2.out.fresh hB (((Below.refl W1.heap.size W1).drew).trans hb))
    have H6 := hide (H1.out.below (((Below.refl W1.heap.size W1).drew).trans hb))
    have H7 := hide (((((Below.refl W1.heap.size W1).drew).trans hb).block _ (heap_lt H3.out)).trans H3.out)
    obtain ⟨d0, d1⟩ := hS _ (((Below.refl W1.heap.size W1).drew).trans hb)
    clear hb hS c0 c1
    go_wp2_with fail
    refine (HNm _ H6.out).out.mono ?_
    rintro e w2 ⟨rfl, hb2⟩
    have H8 := hide (H4.out.fresh hB hb2)
    have H9 := hide ((hb2.block _ (heap_lt H7.out)).trans H7.out)
    have H10 := hide (H6.out.below hb2)
    have e0 := cell_below d0 hb2
    have e1 := cell_below d1 hb2
    clear hb2 d0 d1
    go_wp2_with fail
    refine (jFail b 173 a _).mono ?_
    rintro e w4 ⟨rfl, rfl⟩
    go_wp2_with fail
    exact ⟨rfl, w0x, rfl, by decide, H8.out⟩
 | true =>
  cases hg : gM with
  | true =>
   have hI : (true = false \/ M ≠ 0) := .inr (hgM.1 hg)
   refine Calls.mono (R := PkN 173 a B w) ?_ (fun e w' hp => by rw [if_pos hI]; exact hp)
   rw [hg] at qM
   clear hI hg hgM hCut
   cases hgL : gL with
   | true =>
    rw [hgL] at qL
    go_enter Tryz.func41, Tryz.ntmps41
    go_wp2_with fail
    rw [<- HW1.out]
    go_region_held3 (fun W => W.cell? ⟨b, 0, none⟩ = some (S F) /\ W.cell? ⟨b, 1, none⟩ = some (.int .i64 (a : Int))) (first | exact ⟨c0, c1⟩ | exact hS _ (((Below.refl W1.heap.size W1).drew).trans hb)) ((go_at_call 70; refine (HNum _).out.mono ?_; rintro e w1 ⟨rfl, hb⟩))
    have H4 := hide (H2.out.fresh hB (((Below.refl W1.heap.size W1).drew).trans hb))
    have H6 := hide (H1.out.below (((Below.refl W1.heap.size W1).drew).trans hb))
    have H7 := hide (((((Below.refl W1.heap.size W1).drew).trans hb).block _ (heap_lt H3.out)).trans H3.out)
    obtain ⟨d0, d1⟩ := hS _ (((Below.refl W1.heap.size W1).drew).trans hb)
    clear hb hS c0 c1
    go_wp2_with fail
    refine (HNm _ H6.out).out.mono ?_
    rintro e w2 ⟨rfl, hb2⟩
    have H8 := hide (H4.out.fresh hB hb2)
    have H9 := hide ((hb2.block _ (heap_lt H7.out)).trans H7.out)
    have H10 := hide (H6.out.below hb2)
    have e0 := cell_below d0 hb2
    have e1 := cell_below d1 hb2
    clear hb2 d0 d1
    go_wp2_with fail
    refine (hWi _ H10.out).out.mono ?_
    rintro e w4 ⟨x, rfl, hx1, hk4⟩
    go_wp2_with fail
    exact ⟨rfl, x, rfl, by show x.s ≠ 1; rw [hx1]; decide, H8.out.trans hk4⟩
   | false =>
    rw [hgL] at qL
    go_enter Tryz.func41, Tryz.ntmps41
    go_wp2_with fail
    rw [<- HW1.out]
    go_region_held3 (fun W => W.cell? ⟨b, 0, none⟩ = some (S F) /\ W.cell? ⟨b, 1, none⟩ = some (.int .i64 (a : Int))) (first | exact ⟨c0, c1⟩ | exact hS _ (((Below.refl W1.heap.size W1).drew).trans hb)) ((go_at_call 70; refine (HNum _).out.mono ?_; rintro e w1 ⟨rfl, hb⟩))
    have H4 := hide (H2.out.fresh hB (((Below.refl W1.heap.size W1).drew).trans hb))
    have H6 := hide (H1.out.below (((Below.refl W1.heap.size W1).drew).trans hb))
    have H7 := hide (((((Below.refl W1.heap.size W1).drew).trans hb).block _ (heap_lt H3.out)).trans H3.out)
    obtain ⟨d0, d1⟩ := hS _ (((Below.refl W1.heap.size W1).drew).trans hb)
    clear hb hS c0 c1
    go_wp2_with fail
    refine (HNm _ H6.out).out.mono ?_
    rintro e w2 ⟨rfl, hb2⟩
    have H8 := hide (H4.out.fresh hB hb2)
    have H9 := hide ((hb2.block _ (heap_lt H7.out)).trans H7.out)
    have H10 := hide (H6.out.below hb2)
    have e0 := cell_below d0 hb2
    have e1 := cell_below d1 hb2
    clear hb2 d0 d1
    go_wp2_with fail
    refine (jFail b 173 a _).mono ?_
    rintro e w4 ⟨rfl, rfl⟩
    go_wp2_with fail
    exact ⟨rfl, w0x, rfl, by decide, H8.out⟩
  | false =>
   have hI : ¬ (true = false \/ M ≠ 0) := by rintro (h | h); cases h; rw [hgM.2 h] at hg; cases hg
   refine Calls.mono (R := Lf (tokV 4 ((F.drop a).take k) []) w B b F P st ln) ?_ (fun e w' hp => by rw [if_neg hI]; exact hp)
   rw [hg] at qM
   clear hI hg hgM hWi qL
   go_enter Tryz.func41, Tryz.ntmps41
   go_wp2_with fail
   rw [<- HW1.out]
   go_region_held3 (fun W => W.cell? ⟨b, 0, none⟩ = some (S F) /\ W.cell? ⟨b, 1, none⟩ = some (.int .i64 (a : Int))) (first | exact ⟨c0, c1⟩ | exact hS _ (((Below.refl W1.heap.size W1).drew).trans hb)) ((go_at_call 70; refine (HNum _).out.mono ?_; rintro e w1 ⟨rfl, hb⟩))
   have H4 := hide (H2.out.fresh hB (((Below.refl W1.heap.size W1).drew).trans hb))
   have H6 := hide (H1.out.below (((Below.refl W1.heap.size W1).drew).trans hb))
   have H7 := hide (((((Below.refl W1.heap.size W1).drew).trans hb).block _ (heap_lt H3.out)).trans H3.out)
   obtain ⟨d0, d1⟩ := hS _ (((Below.refl W1.heap.size W1).drew).trans hb)
   clear hb hS c0 c1
   go_wp2_with fail
   refine (HNm _ H6.out).out.mono ?_
   rintro e w2 ⟨rfl, hb2⟩
   have H8 := hide (H4.out.fresh hB hb2)
   have H9 := hide ((hb2.block _ (heap_lt H7.out)).trans H7.out)
   have H10 := hide (H6.out.below hb2)
   have e0 := cell_below d0 hb2
   have e1 := cell_below d1 hb2
   clear hb2 d0 d1
   go_wp2_with fail
   refine ((hCut _ H10.out).out).mono ?_
   rintro e w4 ⟨rfl, hl4, hk4⟩
   have hr4 := hk4.kept _ _ _ _ H9.out (by decide) (by decide)
   obtain ⟨t0, t1, t2, tf0, tf1, tf2⟩ := tok_cells hr4
   go_wp2_with fail
   obtain ⟨E1, E2⟩ := tok_end hl4 (H8.out.trans hk4) hB (Nat.le_refl _) hr4 4 ((F.drop a).take k) []
   refine bodyPost_ret (v := tokV 4 _ []) (tok_ret Tryz.results41 _ w4 _ hr4 4 _ [] rfl) rfl ?_
   exact ⟨rfl, E1, E2⟩
end Go.Proofs.YtngccmlcopcghaaGreatDoor
