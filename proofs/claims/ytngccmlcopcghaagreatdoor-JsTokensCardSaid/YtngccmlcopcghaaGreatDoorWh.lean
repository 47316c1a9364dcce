/- pending, in full. -/
import Derived.Test.YtngccmlcopcghaaGreatDoorRd
import Derived.Lib.Hide
import Derived.Lib.BufferRead
import Derived.Test.YtngccmlcopcghaaGreatDoorSe
import Derived.Test.YtngccmlcopcghaaGreatDoorTb
import Derived.LoopTactic
import Derived.Deep.LoopGhost
import Derived.WalkMore
import Derived.Deep.QuietTactic
import Derived.BigQuiet
import Derived.Test.YtngccmlcopcghaaGreatDoorQb
import Derived.Shelf.Strings.SlTrimAscii
set_option maxRecDepth 100000
set_option maxHeartbeats 8000000
namespace Go.Proofs.YtngccmlcopcghaaGreatDoor
open Go.RowKit
theorem own_text {w : World} {B : Nat} {v : Value} {l : List UInt8} (h : w.ownsRow B 5 1 v l.length (l.map B8)) : (convert 39 9 v).run Tryz.prog w = .ok (S l) w := by
 obtain ⟨_, ⟨rfl, h0⟩ | ⟨g, cap, cur, rfl, _, hh, _, _, hs, ht⟩⟩ := h
 ·have : l = [] := List.eq_nil_of_length_eq_zero h0
  subst this
  exact Lib.run_convert_nil_bytes w _ _ 5 0 Tryz.underlying39 Tryz.underlying5 Tryz.underlying9
 ·have hc : ∀ j u, (l.map B8)[j]? = some u -> w.cell? ((⟨g, 0, none⟩ : Addr).add j) = some u := (show w.ownsRow B 5 1 _ l.length (l.map B8) from ⟨by assumption, .inr ⟨g, cap, cur, rfl, by assumption, hh, by assumption, by assumption, hs, ht⟩⟩).cells (g := g) rfl
  exact run_convert_bytes_back w 39 9 5 ⟨g, 0, none⟩ cap l Tryz.underlying39 Tryz.underlying5 Tryz.underlying9 (fun j hj => hc j _ (by rw [List.getElem?_map, List.getElem?_eq_getElem hj]; rfl))
theorem jWithinW (F : List UInt8) (B b a e at' s : Nat) (st : Jsp.St) (ln : Bool) (w : World) (h : Lx w B b F a st ln) (hs : s = 2 \/ s = 7) :
  Calls Tryz.prog 34 #[.pointer (some ⟨b, 0, none⟩), .int .i64 (e : Int), .int .i64 (at' : Int), .agg #[.int .u8 (s : Int), .int .u8 0, .bool false, .bool false, S []], .int .i64 (-1)] w (Pk e at' (fun x => x.s = s) B w) := by
 have hB := h.leB
 have hal := fun o => (Below.refl w.heap.size w).alloc (Nat.le_refl _) o
 have hs' : ∃ q : Bool, ((s : Int) == 2) = q /\ (q = false -> ((s : Int) == 7) = true) := by
  rcases hs with rfl | rfl
  ·exact ⟨true, rfl, fun h => by cases h⟩
  ·exact ⟨false, rfl, fun _ => rfl⟩
 obtain ⟨v, cap, lo, hx1⟩ := h.below (hal (.cells #[.int .u8 (s : Int), .int .u8 0, .bool false, .bool false, S []] 36))
 obtain ⟨-, -, c2, -⟩ := hx1.cells
 have hcv := own_text hx1.own
 have hK := (Kp.refl B w).alloc hB (.cells #[.int .u8 (s : Int), .int .u8 0, .bool false, .bool false, S st.stk] 36)
 have HK := hide hK
 clear h hx1 hK hal
 obtain ⟨q, hq, hq2⟩ := hs'
 clear hs
 cases q with
 | true =>
  clear hq2
  go_enter Tryz.func34, Tryz.ntmps34
  go_wp2_with fail
  exact ⟨rfl, ⟨s, 0, false, false, st.stk⟩, rfl, rfl, HK.out⟩
 | false =>
  have hq2 := hq2 rfl
  go_enter Tryz.func34, Tryz.ntmps34
  go_wp2_with fail
  exact ⟨rfl, ⟨s, 0, false, false, st.stk⟩, rfl, rfl, HK.out⟩
theorem jWord (F : List UInt8) (B b a : Nat) (st : Jsp.St) (ln : Bool) (w : World) (h : Lx w B b F a st ln) (ha : a <= F.length) (hv : Cssp.valid (F.drop a) = true) (hl : F.length <= 4194304) :
  Calls Tryz.prog 38 #[.pointer (some ⟨b, 0, none⟩)] w (Lf (tokV 1 ((F.drop a).take (Jsp.name (F.drop a))) []) w B b F (a + Jsp.name (F.drop a)) st ln) := by
 have hB := h.leB
 obtain ⟨n1, n2, n3⟩ := tok_new h
 have hal := (Below.refl w.heap.size w).alloc (Nat.le_refl _) (.cells tokC 29)
 unfold tokC at n1 n2 n3 hal
 have HN := hide (jName F B b a a st ln _ n1 ha hv hl)
 have hle : a + Jsp.name (F.drop a) <= F.length := by
  have := Jsp.run_le Jsp.goesOn _ (F.drop a) (Nat.le_refl _)
  rw [List.length_drop] at this
  unfold Jsp.name
  omega
 obtain ⟨R, hR⟩ : ∃ R, Jsp.name (F.drop a) = R := ⟨_, rfl⟩
 rw [hR] at HN hle ⊢
 obtain ⟨_, _, _, hx⟩ := id n1
 obtain ⟨-, c1, -⟩ := hx.cells
 have H1 := hide n1
 have H2 := hide n2
 have H3 := hide n3
 clear h n1 n2 n3 hx hR hv hal
 go_enter Tryz.func38, Tryz.ntmps38
 go_wp2_with fail
 refine HN.out.mono ?_
 rintro e w1 ⟨rfl, hb1⟩
 have HC := hide (jCut F B b a (a + R) st ln w1 (H1.out.below hb1) (by omega) hle)
 rw [Nat.add_sub_cancel_left] at HC
 have H4 := hide (H2.out.fresh hB hb1)
 have H5 := hide ((hb1.block _ (heap_lt H3.out)).trans H3.out)
 clear hb1 c1
 go_wp2_with fail
 refine HC.out.mono ?_
 rintro e w2 ⟨rfl, hl2, hk2⟩
 have hr2 := hk2.kept _ _ _ _ H5.out (by decide) (by decide)
 obtain ⟨t0, t1, t2, tf0, tf1, tf2⟩ := tok_cells hr2
 go_wp2_with fail
 obtain ⟨E1, E2⟩ := tok_end hl2 (H4.out.trans hk2) hB (Nat.le_refl _) hr2 1 ((F.drop a).take R) []
 refine bodyPost_ret (v := tokV 1 _ []) (tok_ret Tryz.results38 _ w2 _ hr2 1 _ [] rfl) rfl ?_
 exact ⟨rfl, E1, E2⟩
abbrev PkN (e at' : Nat) (B : Nat) (w : World) (en : Ending) (w' : World) : Prop := Pk e at' (fun x => x.s ≠ 1) B w en w'
theorem Pk.to {e at' : Nat} {P Q : Wx -> Prop} {B : Nat} {w w1 : World} {en : Ending} {w' : World} (h : Pk e at' P B w1 en w') (hk : Kp B w w1) (hq : ∀ x, P x -> Q x) : Pk e at' Q B w en w' := by
 obtain ⟨x, h1, h2, h3⟩ := h
 exact ⟨x, h1, hq x h2, hk.trans h3⟩
theorem jPrivate (F : List UInt8) (B b a : Nat) (st : Jsp.St) (ln : Bool) (w : World) (h : Lx w B b F a st ln) (T : List UInt8) (hT : F.drop a = 35 :: T) (hv : Cssp.valid T = true) (hl : F.length <= 4194304) :
  Calls Tryz.prog 39 #[.pointer (some ⟨b, 0, none⟩)] w (fun e w' => if T = [] \/ Jsp.begins (Jsp.pt T) = false then PkN 170 a B w e w' else Lf (tokV 2 ((F.drop a).take (1 + Jsp.name T)) []) w B b F (a + (1 + Jsp.name T)) st ln e w') := by
 have hB := h.leB
 have hlen : F.length = a + (T.length + 1) := by
  have := congrArg List.length hT
  rw [List.length_drop, List.length_cons] at this
  omega
 have hd1 : F.drop (a + 1) = T := by rw [<- List.drop_drop, hT]; rfl
 obtain ⟨n1, n2, n3⟩ := tok_new h
 unfold tokC at n1 n2 n3
 have HP := hide (jPoint F B b a 1 st ln _ n1 (by omega) (by omega) hl)
 have hBg := fun W => hide (jBegins (Jsp.pt T) W (Jsp.pt_le T))
 have hle : a + (1 + Jsp.name T) <= F.length := by
  have := Jsp.run_le Jsp.goesOn _ T (Nat.le_refl _)
  unfold Jsp.name
  omega
 have hway : (T = [] /\ (T = [] \/ Jsp.begins (Jsp.pt T) = false)) \/ (T ≠ [] /\ ∃ g, Jsp.begins (Jsp.pt T) = g /\ ((T = [] \/ Jsp.begins (Jsp.pt T) = false) ↔ g = false)) := by
  by_cases h0 : T = []
  ·exact .inl ⟨h0, .inl h0⟩
  ·exact .inr ⟨h0, _, rfl, by simp [h0]⟩
 have hva : Cssp.valid (F.drop (a + 1)) = true := by rw [hd1]; exact hv
 have HNm := fun W hW => hide (jName F B b a (a + 1) st ln W hW (by omega) hva hl)
 rw [hd1] at HP HNm
 obtain ⟨_, _, _, hx⟩ := id n1
 obtain ⟨c0, c1, -⟩ := hx.cells
 have H1 := hide n1
 have H2 := hide n2
 have H3 := hide n3
 have HV := hide hv
 have HLE := hide hle
 have hq : ((a : Int) + 1 == (F.length : Int)) = decide (T = []) := by
  by_cases h0 : T = []
  ·rw [decide_eq_true h0, beq_iff_eq]; rw [hlen, h0]; simp
  ·rw [decide_eq_false h0, beq_eq_false_iff_ne]
   have := List.length_pos_iff.2 h0
   omega
 have HW := hide hway
 obtain ⟨NN, hNN⟩ : ∃ NN, Jsp.name T = NN := ⟨_, rfl⟩
 rw [hNN] at HNm HLE ⊢
 clear h n1 n2 n3 hx hT hv hle hva hway hNN hd1
 have hw1 : wrap64 ((a : Int) + 1) = (a : Int) + 1 := by unfold wrap64; omega
 by_cases h0 : T = []
 ·have hI : (T = [] \/ Jsp.begins (Jsp.pt T) = false) = True := eq_true (.inl h0)
  simp only [hI, if_true]
  rw [decide_eq_true h0] at hq
  have hWi := fun W hW => hide (jWithinW F B b a 170 a 2 st ln W hW (.inl rfl))
  clear h0 hI hBg
  go_enter Tryz.func39, Tryz.ntmps39
  go_wp2_with fail
  refine HP.out.mono ?_
  rintro e w1 ⟨rp, hrl, -, rfl, hb1⟩
  have H4 := hide (H2.out.fresh hB hb1)
  have H6 := hide (H1.out.below hb1)
  have d0 := cell_below c0 hb1
  have d1 := cell_below c1 hb1
  clear hb1 c0 c1
  go_wp2_with fail
  go_quiet (fail)
  go_wp2_with fail
  refine (hWi _ (H6.out.drewN _)).out.mono ?_
  rintro e w2 ⟨x, rfl, hx1, hk2⟩
  go_wp2_with fail
  exact ⟨rfl, x, rfl, by show x.s ≠ 1; rw [hx1]; decide, (H4.out.drewN _).trans hk2⟩
 ·rw [decide_eq_false h0] at hq
  obtain ⟨g, hg, hiff⟩ : ∃ g, Jsp.begins (Jsp.pt T) = g /\ ((T = [] \/ Jsp.begins (Jsp.pt T) = false) ↔ g = false) := by
   rcases HW.out with ⟨h, _⟩ | ⟨_, h⟩
   ·exact absurd h h0
   ·exact h
  rw [hg] at hBg
  clear h0
  cases g with
  | false =>
   have hI : (T = [] \/ Jsp.begins (Jsp.pt T) = false) = True := eq_true (hiff.2 rfl)
   simp only [hI, if_true]
   clear hI hiff hg
   go_enter Tryz.func39, Tryz.ntmps39
   go_wp2_with fail
   refine HP.out.mono ?_
   rintro e w1 ⟨rp, hrl, hrp, rfl, hb1⟩
   have hrp := hrp HV.out
   subst hrp
   have H4 := hide (H2.out.fresh hB hb1)
   have H6 := hide (H1.out.below hb1)
   have d0 := cell_below c0 hb1
   have d1 := cell_below c1 hb1
   clear hb1 c0 c1
   go_wp2_with fail
   go_quiet (fail)
   go_wp2_with fail
   refine (hBg _).out.mono ?_
   rintro e w2 ⟨rfl, rfl⟩
   go_wp2_with fail
   refine (jFail b 170 a _).mono ?_
   rintro e w3 ⟨rfl, rfl⟩
   go_wp2_with fail
   exact ⟨rfl, w0x, rfl, by decide, H4.out.drewN _⟩
  | true =>
   have hI : (T = [] \/ Jsp.begins (Jsp.pt T) = false) = False := eq_false (fun h => absurd (hiff.1 h) (by decide))
   simp only [hI, if_false]
   clear hI hiff hg
   go_enter Tryz.func39, Tryz.ntmps39
   go_wp2_with fail
   refine HP.out.mono ?_
   rintro e w1 ⟨rp, hrl, hrp, rfl, hb1⟩
   have hrp := hrp HV.out
   subst hrp
   have H4 := hide (H2.out.fresh hB hb1)
   have H6 := hide (H1.out.below hb1)
   have H7 := hide ((hb1.block _ (heap_lt H3.out)).trans H3.out)
   have d0 := cell_below c0 hb1
   have d1 := cell_below c1 hb1
   clear hb1 c0 c1
   go_wp2_with fail
   go_quiet (fail)
   go_wp2_with fail
   refine (hBg _).out.mono ?_
   rintro e w2 ⟨rfl, rfl⟩
   go_wp2_with fail
   refine (HNm _ (H6.out.drewN _)).out.mono ?_
   rintro e w3 ⟨rfl, hb3⟩
   have H8 := hide ((H4.out.drewN nq).fresh hB hb3)
   have H9 := hide ((hb3.block _ (heap_lt (show (w1.drewN nq).heap[w.heap.size]? = _ from H7.out))).trans H7.out)
   have HC := hide (jCut F B b a (a + (1 + NN)) st ln w3 ((H6.out.drewN nq).below hb3) (by omega) HLE.out)
   rw [Nat.add_sub_cancel_left, show ((a + (1 + NN) : Nat) : Int) = ((a + 1 + NN : Nat) : Int) by omega] at HC
   clear hb3
   go_wp2_with fail
   refine HC.out.mono ?_
   rintro e w4 ⟨rfl, hl4, hk4⟩
   have hr4 := hk4.kept _ _ _ _ H9.out (by decide) (by decide)
   obtain ⟨t0, t1, t2, tf0, tf1, tf2⟩ := tok_cells hr4
   go_wp2_with fail
   obtain ⟨E1, E2⟩ := tok_end hl4 (H8.out.trans hk4) hB (Nat.le_refl _) hr4 2 ((F.drop a).take (1 + NN)) []
   refine bodyPost_ret (v := tokV 2 _ []) (tok_ret Tryz.results39 _ w4 _ hr4 2 _ [] rfl) rfl ?_
   exact ⟨rfl, E1, E2⟩
theorem jValidRune (z : Int) (h0 : 0 <= z) (h : z < 55296 \/ (57343 < z /\ z <= 1114111)) (w : World) : Calls Tryz.prog 170 #[.int .i32 z] w (Ret (.bool true) w) := by
 have q0 : decide (0 <= z) = true := decide_eq_true h0
 rcases h with h | ⟨h1, h2⟩
 ·have q1 : decide (z < 55296) = true := decide_eq_true h
  go_enter Tryz.func170, Tryz.ntmps170
  go_wp2_with fail
  go_ret
  exact ⟨rfl, rfl⟩
 ·have q1 : decide (z < 55296) = false := decide_eq_false (by omega)
  have q2 : decide (57343 < z) = true := decide_eq_true h1
  have q3 : decide (z <= 1114111) = true := decide_eq_true h2
  go_enter Tryz.func170, Tryz.ntmps170
  go_wp2_with fail
  go_ret
  exact ⟨rfl, rfl⟩
def AnyI (w : World) (e : Ending) (w' : World) : Prop := ∃ z : Int, e = .returned (.int .i64 z) /\ Below w.heap.size w w'
theorem jIdxFFFD (w : World) : Calls Tryz.prog 160 #[S [62, 125], .int .i32 65533] w (AnyI w) := by
 have hit0 : (w.iter ⟨#[62, 125]⟩ 0).heap[w.heap.size]? = some (.stringIter ⟨#[62, 125]⟩ 0) := World.iter_heap _ _ _
 have hbl0 : Below w.heap.size w (w.iter ⟨#[62, 125]⟩ 0) := (Below.refl _ w).alloc (Nat.le_refl _) _
 have HIT := hide hit0
 have HBL := hide hbl0
 clear hit0 hbl0
 obtain ⟨w1, hw1⟩ : ∃ x, x = w.iter ⟨#[62, 125]⟩ 0 := ⟨_, rfl⟩
 rw [<- hw1] at HIT HBL
 have HW1 := hide hw1
 obtain ⟨B, hB⟩ : ∃ B, B = w.heap.size := ⟨_, rfl⟩
 rw [<- hB] at HIT
 have HB := hide hB
 clear hw1 hB
 go_enter Tryz.func160, Tryz.ntmps160
 go_wp2_with fail
 rw [<- HW1.out, <- HB.out]
 go_loopg [] 2 (fun g wx => ∃ (i : Nat), i + g = 2 /\ Hid (wx.heap[B]? = some (.stringIter ⟨#[62, 125]⟩ i)) /\ Hid (Below B w wx))
 case atStart => exact ⟨0, by omega, HIT.out, by unfold Hid; rw [HB.out]; exact HBL.out⟩
 case round =>
  obtain ⟨i, hi, hit, hbx⟩ := hrel
  clear HIT HBL
  have h3 : i = 0 \/ i = 1 \/ i = 2 := by omega
  rcases h3 with rfl | rfl | rfl
  ·have hnx : ∀ ty, (Instr.next (.pointer (some ⟨B, 0, none⟩)) true ty).run Tryz.prog wr = _ := fun ty => Lib.run_next_ascii_at wr B ⟨#[62, 125]⟩ 0 ty hit.out (by decide) (by decide)
   have hit2 := hide (Lib.iterAt_heap wr B ⟨#[62, 125]⟩ 0 1 hit.out)
   have hbw2 := hide (Lib.below_iterAt hbx.out (k := B) (Nat.le_refl _) ⟨#[62, 125]⟩ 1)
   clear hit hbx
   go_wp2_with fail
   go_roundg 1
   case measure => omega
   case rel => exact ⟨1, by omega, hit2.out, hbw2.out⟩
  ·have hnx : ∀ ty, (Instr.next (.pointer (some ⟨B, 0, none⟩)) true ty).run Tryz.prog wr = _ := fun ty => Lib.run_next_ascii_at wr B ⟨#[62, 125]⟩ 1 ty hit.out (by decide) (by decide)
   have hit2 := hide (Lib.iterAt_heap wr B ⟨#[62, 125]⟩ 1 2 hit.out)
   have hbw2 := hide (Lib.below_iterAt hbx.out (k := B) (Nat.le_refl _) ⟨#[62, 125]⟩ 2)
   clear hit hbx
   go_wp2_with fail
   go_roundg 0
   case measure => omega
   case rel => exact ⟨2, by omega, hit2.out, hbw2.out⟩
  ·have hnx : ∀ ty, (Instr.next (.pointer (some ⟨B, 0, none⟩)) true ty).run Tryz.prog wr = _ := fun ty => Lib.run_next_end_at wr B ⟨#[62, 125]⟩ 2 ty hit.out (by decide)
   clear hit
   go_wp2_with fail
   go_ret
   exact ⟨_, rfl, by rw [<- HB.out]; exact hbx.out⟩
theorem jIdxHigh (r : Nat) (h128 : 128 <= r) (hc : Jsp.Cp r) (hr : r ≠ 65533) (w : World) : Calls Tryz.prog 160 #[S [62, 125], .int .i32 (r : Int)] w (AnyI w) := by
 obtain ⟨z, hz⟩ : ∃ z : Int, (r : Int) = z := ⟨_, rfl⟩
 have hv := fun W => hide (jValidRune z (by omega) (by have := hc.1; rcases hc.2 with h | h <;> omega) W)
 have h3 := Jsp.enc_cases hc
 have henc := enc_eq r
 have q0 : decide (0 <= z) = true := decide_eq_true (by omega)
 have q1 : decide (z < 128) = false := decide_eq_false (by omega)
 have q2 : (z == 65533) = false := by rw [beq_eq_false_iff_ne]; omega
 have hhi : ∀ k, 128 <= k -> k < 256 -> (UInt8.ofNat k).toNat = k := fun k _ h => UInt8.toNat_ofNat_of_lt' h
 rcases h3 with ⟨h, _⟩ | ⟨_, _, h⟩ | ⟨_, _, h⟩ | ⟨_, _, h⟩
 ·omega
 ·rw [h] at henc
  obtain ⟨x0, hx0⟩ : ∃ x0, UInt8.ofNat (192 + r / 64) = x0 := ⟨_, rfl⟩
  obtain ⟨x1, hx1⟩ : ∃ x1, UInt8.ofNat (128 + r % 64) = x1 := ⟨_, rfl⟩
  have hb1 : 128 <= x1.toNat := by rw [<- hx1, hhi _ (by omega) (by omega)]; omega
  rw [hx0, hx1] at henc
  have qn : ((125 : Int) != (x1.toNat : Int)) = true := by rw [bne_iff_ne]; omega
  rw [hz] at henc ⊢
  clear hc hr h hz hx0 hx1 hhi h128
  go_enter Tryz.func160, Tryz.ntmps160
  go_wp2_with fail
  refine (hv _).out.mono ?_
  rintro e w1 ⟨rfl, rfl⟩
  go_wp2_with fail
  go_step3
  go_wp2_with fail
  go_loopg [9] 0 (fun g s9 wx => g = 0 /\ s9 = .int .i64 1 /\ wx = w)
  case atStart => exact ⟨rfl, rfl, rfl⟩
  case round =>
   obtain ⟨rfl, rfl, rfl⟩ := hrel
   have hIB := fun W => hide (show Calls Tryz.prog 118 #[S [], .int .u8 x1.toNat] W (Ret (.int .i64 (-1)) W) from sIndexByte [] x1 W)
   go_wp2_with fail
   go_step3
   go_wp2_with fail
   go_quiet (fail)
   go_wp2_with fail
   go_quiet ((go_at_call 118; exact (hIB _).out.mono fun _ _ hz => ⟨hz.1, _, hz.2.symm⟩))
   go_wp2_with fail
   rw [Exit.noGoto_ret]
   go_wp2_with fail
   rw [Exit.noGoto_ret]
   go_wp2_with fail
   go_ret
   exact ⟨_, rfl, (Below.refl _ _).trans ⟨rfl, rfl, rfl, Nat.le_refl _, fun _ _ => rfl⟩⟩
 ·rw [h] at henc
  obtain ⟨x0, hx0⟩ : ∃ x0, UInt8.ofNat (224 + r / 4096) = x0 := ⟨_, rfl⟩
  obtain ⟨x1, hx1⟩ : ∃ x1, UInt8.ofNat (128 + r / 64 % 64) = x1 := ⟨_, rfl⟩
  obtain ⟨x2, hx2⟩ : ∃ x2, UInt8.ofNat (128 + r % 64) = x2 := ⟨_, rfl⟩
  rw [hx0, hx1, hx2] at henc
  rw [hz] at henc ⊢
  clear hc hr h hz hx0 hx1 hx2 hhi h128
  go_enter Tryz.func160, Tryz.ntmps160
  go_wp2_with fail
  refine (hv _).out.mono ?_
  rintro e w1 ⟨rfl, rfl⟩
  go_wp2_with fail
  go_step3
  go_wp2_with fail
  go_loopg [9] 0 (fun g s9 wx => g = 0 /\ s9 = .int .i64 2 /\ wx = w)
  case atStart => exact ⟨rfl, rfl, rfl⟩
  case round =>
   obtain ⟨rfl, rfl, rfl⟩ := hrel
   go_wp2_with fail
   rw [Exit.noGoto_ret]
   go_wp2_with fail
   go_ret
   exact ⟨_, rfl, Below.refl _ _⟩
 ·rw [h] at henc
  obtain ⟨x0, hx0⟩ : ∃ x0, UInt8.ofNat (240 + r / 262144) = x0 := ⟨_, rfl⟩
  obtain ⟨x1, hx1⟩ : ∃ x1, UInt8.ofNat (128 + r / 4096 % 64) = x1 := ⟨_, rfl⟩
  obtain ⟨x2, hx2⟩ : ∃ x2, UInt8.ofNat (128 + r / 64 % 64) = x2 := ⟨_, rfl⟩
  obtain ⟨x3, hx3⟩ : ∃ x3, UInt8.ofNat (128 + r % 64) = x3 := ⟨_, rfl⟩
  rw [hx0, hx1, hx2, hx3] at henc
  rw [hz] at henc ⊢
  clear hc hr h hz hx0 hx1 hx2 hx3 hhi h128
  go_enter Tryz.func160, Tryz.ntmps160
  go_wp2_with fail
  refine (hv _).out.mono ?_
  rintro e w1 ⟨rfl, rfl⟩
  go_wp2_with fail
  go_step3
  go_wp2_with fail
  go_loopg [9] 0 (fun g s9 wx => g = 0 /\ s9 = .int .i64 3 /\ wx = w)
  case atStart => exact ⟨rfl, rfl, rfl⟩
  case round =>
   obtain ⟨rfl, rfl, rfl⟩ := hrel
   go_wp2_with fail
   rw [Exit.noGoto_ret]
   go_wp2_with fail
   go_ret
   exact ⟨_, rfl, Below.refl _ _⟩
theorem jIdxRuneAny (r : Nat) (hc : Jsp.Cp r) (w : World) : Calls Tryz.prog 160 #[S [62, 125], .int .i32 (r : Int)] w (AnyI w) := by
 by_cases h : r < 128
 ·exact (Tryz.strings_IndexRune_ascii ⟨#[62, 125]⟩ (r : Int) w (by omega) (by omega)).mono fun e w' hh => ⟨_, hh.1, by rw [hh.2]; exact Below.refl _ _⟩
 by_cases h2 : r = 65533
 ·subst h2; exact jIdxFFFD w
 exact jIdxHigh r (by omega) hc h2 w
theorem jIdxAny (s : List UInt8) (hv : Cssp.valid s = true) (hl : s.length <= 4194304) (w : World) : Calls Tryz.prog 144 #[S s, S [62, 125]] w (AnyI w) := by
 have hsz : (⟨s.toArray⟩ : ByteArray).size = s.length := bl_size s
 by_cases h8 : 8 < s.length
 ·have hz := Go.zero_of_info (P := Tryz.prog) (t := 149) (v := .agg (Array.replicate 256 (.bool false))) (n := 256) (by kernel_rfl)
  refine (Any.strings_IndexAny_long Tryz.lays153 hz.1 hz.2 ⟨s.toArray⟩ ⟨#[62, 125]⟩ w (by decide) (by rw [hsz]; omega) (by rw [hsz]; omega) (by decide) ?_).mono fun e w' hh => ⟨_, hh.1, ?_⟩
  ·intro j b hj
   match j, hj with
   | 0, hj => simp at hj; subst hj; decide
   | 1, hj => simp at hj; subst hj; decide
   | j + 2, hj => simp at hj
  ·rw [hh.2]
   exact ((Below.refl _ _).alloc (Nat.le_refl _) _).alloc (by simp) _
 ·have hSh := fun W => hide (Tryz.strings_shouldUseASCIISet (s.length : Int) W)
  rw [decide_eq_false (by omega)] at hSh
  have hit0 : (w.iter ⟨s.toArray⟩ 0).heap[w.heap.size]? = some (.stringIter ⟨s.toArray⟩ 0) := World.iter_heap _ _ _
  have hbl0 : Below w.heap.size w (w.iter ⟨s.toArray⟩ 0) := (Below.refl _ w).alloc (Nat.le_refl _) _
  have HIT := hide hit0
  have HBL := hide hbl0
  have HV := hide hv
  clear hit0 hbl0 h8 hv
  go_enter Tryz.func144, Tryz.ntmps144
  go_wp2_with fail
  refine (hSh _).out.mono ?_
  rintro e w' ⟨rfl, rfl⟩
  go_wp2_with fail
  obtain ⟨w1, hw1⟩ : ∃ x, x = w'.iter ⟨s.toArray⟩ 0 := ⟨_, rfl⟩
  obtain ⟨B, hB⟩ : ∃ B, B = w'.heap.size := ⟨_, rfl⟩
  rw [<- hw1, <- hB] at HIT HBL
  rw [<- hw1, <- hB]
  have HB := hide hB
  clear hw1 hB
  go_loopg [] s.length (fun g wx => ∃ (i : Nat), i + g = s.length /\ Hid (wx.heap[B]? = some (.stringIter ⟨s.toArray⟩ i)) /\ Hid (Below B w' wx) /\ Hid (Cssp.valid (s.drop i) = true))
  case atStart => exact ⟨0, by omega, HIT.out, HBL.out, HV.out⟩
  case round =>
   obtain ⟨i, hi, hit, hbx, hvi⟩ := hrel
   clear HIT HBL HV
   by_cases hlt : i < s.length
   ·have hp : i < (⟨s.toArray⟩ : ByteArray).size := by rw [hsz]; exact hlt
    have h0 : s.drop i ≠ [] := fun e => by
     have := congrArg List.length e
     rw [List.length_drop, List.length_nil] at this
     omega
    have hd := Jsp.decode_at s i hvi.out h0
    have hnx : ∀ ty, (Instr.next (.pointer (some ⟨B, 0, none⟩)) true ty).run Tryz.prog wr = _ := fun ty => Lib.run_next_any_at wr B ⟨s.toArray⟩ i ty hit.out hp
    rw [hd] at hnx
    have hpn := Jsp.pn_le h0
    rw [List.length_drop] at hpn
    have hvn := Jsp.valid_pn hvi.out
    rw [List.drop_drop] at hvn
    have hc := Jsp.pt_cp h0
    generalize Jsp.pt (s.drop i) = r at hnx hc
    generalize Jsp.pn (s.drop i) = k at hnx hpn hvn
    simp only at hnx
    have hit2 := hide (Lib.iterAt_heap wr B ⟨s.toArray⟩ i (i + k) hit.out)
    have hbw2 := hide (Lib.below_iterAt hbx.out (k := B) (Nat.le_refl _) ⟨s.toArray⟩ (i + k))
    have hIx := fun W => hide (jIdxRuneAny r hc W)
    have HVN := hide hvn
    have HLT := hide (heap_lt hit2.out)
    clear hit hbx hvi hd h0 hvn hc hp
    go_wp2_with fail
    refine (hIx _).out.mono ?_
    rintro e w3 ⟨z, rfl, hb3⟩
    have hit3 := hide ((hb3.block B HLT.out).trans hit2.out)
    have hbw3 := hide (hbw2.out.trans (hb3.mono (Nat.le_of_lt HLT.out)))
    clear hb3
    by_cases hz : 0 <= z
    ·go_wp2_with fail
     go_ret
     exact ⟨_, rfl, by rw [<- HB.out]; exact hbw3.out⟩
    ·go_wp2_with fail
     go_roundg (gk - k)
     case measure => omega
     case rel => exact ⟨i + k, by omega, hit3.out, hbw3.out, HVN.out⟩
   ·have e : i = s.length := by omega
    subst e
    have hnx : ∀ ty, (Instr.next (.pointer (some ⟨B, 0, none⟩)) true ty).run Tryz.prog wr = _ := fun ty => Lib.run_next_end_at wr B ⟨s.toArray⟩ s.length ty hit.out (by rw [hsz]; exact hlt)
    clear hit
    go_wp2_with fail
    go_ret
    exact ⟨_, rfl, by rw [<- HB.out]; exact hbx.out⟩
def AnyB (w : World) (e : Ending) (w' : World) : Prop := ∃ v : Bool, e = .returned (.bool v) /\ Below w.heap.size w w'
theorem jContAny (s : List UInt8) (hv : Cssp.valid s = true) (hl : s.length <= 4194304) (w : World) : Calls Tryz.prog 110 #[S s, S [62, 125]] w (AnyB w) := by
 have hI := hide (jIdxAny s hv hl w)
 clear hv hl
 go_enter Tryz.func110, Tryz.ntmps110
 go_wp2_with fail
 refine hI.out.mono ?_
 rintro e w1 ⟨z, rfl, hb⟩
 go_wp2_with fail
 go_ret
 exact ⟨_, rfl, hb⟩
theorem jHexNo (r : Nat) (w : World) (hr : r <= 1114111) : Calls Tryz.prog 105 #[.int .i32 (r : Int)] w (Ret (.bool (decide (hexR r < 0))) w) := by
 have hH := fun W => hide (jHex r W hr)
 generalize hexR r = x at hH ⊢
 go_enter Tryz.func105, Tryz.ntmps105
 go_wp2_with fail
 refine (hH _).out.mono ?_
 rintro e w1 ⟨rfl, rfl⟩
 go_wp2_with fail
 go_ret
 exact ⟨rfl, rfl⟩
theorem hexNo_runes (w : World) : PredAtRunes Tryz.prog 105 #[] (fun r => decide (hexR r < 0)) w := fun W r hr _ => (jHexNo r W hr).mono fun _ _ h => ⟨h.1, 0, h.2.symm⟩
theorem jHexes (s : List UInt8) (w : World) : Calls Tryz.prog 103 #[S s] w (AnyB w) := by
 have hC := hide (Tryz.strings_ContainsFunc_runes 105 #[] (enters_of Tryz.func105 (by kernel_rfl) rfl) (fun r => decide (hexR r < 0)) ⟨s.toArray⟩ w (hexNo_runes w))
 generalize decide (0 <= Lib.idxFunc (fun r => decide (hexR r < 0)) true ⟨s.toArray⟩) = v at hC
 go_enter Tryz.func103, Tryz.ntmps103
 go_wp2_with fail
 refine hC.out.mono ?_
 rintro e w1 ⟨rfl, hb⟩
 go_wp2_with fail
 go_ret
 exact ⟨_, rfl, hb⟩
theorem jTrimD (s : List UInt8) (hl : s.length <= 4194304) (w : World) : Calls Tryz.prog 107 #[S s, S [48, 49, 50, 51, 52, 53, 54, 55, 56, 57]] w (Fresh (S (Lib.trimS s [48, 49, 50, 51, 52, 53, 54, 55, 56, 57])) w) :=
 Any.strings_Trim_laid Tryz.lays160 (by kernel_rfl) ⟨s.toArray⟩ ⟨#[48, 49, 50, 51, 52, 53, 54, 55, 56, 57]⟩ w (by rw [bl_size]; omega) (by decide) (Go.Proofs.ascii_of_all (by decide))
theorem jPending (U : List UInt8) (hv : Cssp.valid U = true) (hl : U.length <= 4194000) (w : World) (ht : Tab w) : Calls Tryz.prog 62 #[S U] w (AnyB w) := by
 have hTr := hide (jTrimD U (by omega) w)
 obtain ⟨T, hT⟩ : ∃ T, Lib.trimS U [48, 49, 50, 51, 52, 53, 54, 55, 56, 57] = T := ⟨_, rfl⟩
 rw [hT] at hTr
 have h7 := ht.lt
 have hTab := fun W (hW : Below w.heap.size w W) => hide (ht.below h7 hW)
 by_cases hT0 : T = []
 ·have qT : (T == []) = true := beq_iff_eq.2 hT0
  clear hT0 hT
  go_enter Tryz.func62, Tryz.ntmps62
  go_wp2_with fail
  refine hTr.out.mono ?_
  rintro e w1 ⟨rfl, hb1⟩
  have HB1 := hide hb1
  clear hb1
  go_wp2_with fail
  go_ret
  exact ⟨_, rfl, HB1.out⟩
 have hU0 : U ≠ [] := fun e => hT0 (by rw [<- hT, e]; rfl)
 have qT : (T == []) = false := beq_eq_false_iff_ne.2 hT0
 clear hT hT0
 by_cases h13 : U = [13]
 ·have q13 : (U == [13]) = true := beq_iff_eq.2 h13
  clear h13 hU0 hv hl
  go_enter Tryz.func62, Tryz.ntmps62
  go_wp2_with fail
  refine hTr.out.mono ?_
  rintro e w1 ⟨rfl, hb1⟩
  have HB1 := hide hb1
  clear hb1
  go_wp2_with fail
  go_ret
  exact ⟨_, rfl, HB1.out⟩
 have q13 : (U == [13]) = false := beq_eq_false_iff_ne.2 h13
 clear h13
 by_cases h99 : U = [99]
 ·have q99 : (U == [99]) = true := beq_iff_eq.2 h99
  clear h99 hU0 hv hl
  go_enter Tryz.func62, Tryz.ntmps62
  go_wp2_with fail
  refine hTr.out.mono ?_
  rintro e w1 ⟨rfl, hb1⟩
  have HB1 := hide hb1
  clear hb1
  go_wp2_with fail
  go_ret
  exact ⟨_, rfl, HB1.out⟩
 have q99 : (U == [99]) = false := beq_eq_false_iff_ne.2 h99
 clear h99
 obtain ⟨c, t, hct⟩ := List.exists_cons_of_ne_nil hU0
 have hlen : 0 < U.length := List.length_pos_iff.2 hU0
 have hlI : (1 : Int) <= (U.length : Int) := by omega
 have hlp : (0 : Int) < (U.length : Int) := by omega
 have hc : U[0] = c := by subst hct; rfl
 have ht1 : U.tail = t := by subst hct; rfl
 have ht2 : List.take (U.length - 1) t = t := List.take_of_length_le (by subst hct; simp)
 have hd1 : List.drop 1 U = t := by subst hct; rfl
 have hcb := u8_lt c
 have hHx := fun W => hide (jHexes t W)
 have htl : t.length <= 4194000 := by
  have : U.length = t.length + 1 := by subst hct; simp
  omega
 by_cases hx : c = 120
 ·have q1 : ((c.toNat : Int) == 120) = true := u8t hx
  clear hx hct hv
  by_cases h2 : t.length < 2
  ·have g2 : decide ((t.length : Int) < 2) = true := by simp; omega
   go_enter Tryz.func62, Tryz.ntmps62
   go_wp2_with fail
   refine hTr.out.mono ?_
   rintro e w1 ⟨rfl, hb1⟩
   have HB1 := hide hb1
   clear hb1
   go_wp2_with fail
   refine (hHx _).out.mono ?_
   rintro e w2 ⟨v2, rfl, hb2⟩
   have HB2 := hide (HB1.out.trans (hb2.mono HB1.out.size))
   clear hb2
   go_wp2_with fail
   go_ret
   exact ⟨_, rfl, HB2.out⟩
  ·have g2 : decide ((t.length : Int) < 2) = false := by simp; omega
   go_enter Tryz.func62, Tryz.ntmps62
   go_wp2_with fail
   refine hTr.out.mono ?_
   rintro e w1 ⟨rfl, hb1⟩
   have HB1 := hide hb1
   clear hb1
   go_wp2_with fail
   go_ret
   exact ⟨_, rfl, HB1.out⟩
 have q1 : ((c.toNat : Int) == 120) = false := u8f hx
 by_cases hu : c = 117
 ·have q2 : ((c.toNat : Int) == 117) = true := u8t hu
  have hUn := fun W hT1 h71 => hide (jUnit t W hT1 h71 htl)
  rw [<- hu, <- hct] at hUn
  clear hu hct hv hx
  obtain ⟨z1, z2, hUn'⟩ : ∃ z1 z2 : Int, ∀ W, Tab W -> 7 <= W.heap.size -> Calls Tryz.prog 108 #[S U] W (Fresh (.tuple #[.int .i32 z1, .int .i64 z2]) W) := ⟨_, _, fun W h1 h2 => (hUn W h1 h2).out⟩
  have hUn := fun W h1 h2 => hide (hUn' W h1 h2)
  have hCp := fun W => hide (sCutPre t [123] W)
  have hHw := fun W => hide (jHexes (Lib.trimPrefix t [123]) W)
  clear hUn'
  generalize Lib.trimPrefix t [123] = wide at hCp hHw
  cases g1 : (z2 == (U.length : Int)) with
  | false =>
   cases hp : [123].isPrefixOf t with
   | true =>
    rw [hp] at hCp
    go_enter Tryz.func62, Tryz.ntmps62
    go_wp2_with fail
    refine hTr.out.mono ?_
    rintro e w1 ⟨rfl, hb1⟩
    have HB1 := hide hb1
    clear hb1
    go_wp2_with fail
    refine (hUn _ (hTab _ HB1.out).out (Nat.le_trans h7 HB1.out.size)).out.mono ?_
    rintro e w2 ⟨rfl, hb2⟩
    have HB2 := hide (HB1.out.trans (hb2.mono HB1.out.size))
    clear hb2
    go_wp2_with fail
    refine (hCp _).out.mono ?_
    rintro e w3 ⟨rfl, rfl⟩
    go_wp2_with fail
    refine (hHw _).out.mono ?_
    rintro e w4 ⟨v2, rfl, hb4⟩
    have HB4 := hide (HB2.out.trans (hb4.mono HB2.out.size))
    clear hb4
    go_wp2_with fail
    go_ret
    exact ⟨_, rfl, HB4.out⟩
   | false =>
    rw [hp] at hCp
    by_cases h4 : t.length < 4
    ·have g4 : decide ((t.length : Int) < 4) = true := by simp; omega
     go_enter Tryz.func62, Tryz.ntmps62
     go_wp2_with fail
     refine hTr.out.mono ?_
     rintro e w1 ⟨rfl, hb1⟩
     have HB1 := hide hb1
     clear hb1
     go_wp2_with fail
     refine (hUn _ (hTab _ HB1.out).out (Nat.le_trans h7 HB1.out.size)).out.mono ?_
     rintro e w2 ⟨rfl, hb2⟩
     have HB2 := hide (HB1.out.trans (hb2.mono HB1.out.size))
     clear hb2
     go_wp2_with fail
     refine (hCp _).out.mono ?_
     rintro e w3 ⟨rfl, rfl⟩
     go_wp2_with fail
     refine (hHx _).out.mono ?_
     rintro e w4 ⟨v2, rfl, hb4⟩
     have HB4 := hide (HB2.out.trans (hb4.mono HB2.out.size))
     clear hb4
     go_wp2_with fail
     go_ret
     exact ⟨_, rfl, HB4.out⟩
    ·have g4 : decide ((t.length : Int) < 4) = false := by simp; omega
     go_enter Tryz.func62, Tryz.ntmps62
     go_wp2_with fail
     refine hTr.out.mono ?_
     rintro e w1 ⟨rfl, hb1⟩
     have HB1 := hide hb1
     clear hb1
     go_wp2_with fail
     refine (hUn _ (hTab _ HB1.out).out (Nat.le_trans h7 HB1.out.size)).out.mono ?_
     rintro e w2 ⟨rfl, hb2⟩
     have HB2 := hide (HB1.out.trans (hb2.mono HB1.out.size))
     clear hb2
     go_wp2_with fail
     refine (hCp _).out.mono ?_
     rintro e w3 ⟨rfl, rfl⟩
     go_wp2_with fail
     go_ret
     exact ⟨_, rfl, HB2.out⟩
  | true =>
   by_cases g2 : 55296 <= z1
   ·by_cases g3 : z1 < 56320
    ·have g2' : decide (55296 <= z1) = true := decide_eq_true g2
     have g3' : decide (z1 < 56320) = true := decide_eq_true g3
     go_enter Tryz.func62, Tryz.ntmps62
     go_wp2_with fail
     refine hTr.out.mono ?_
     rintro e w1 ⟨rfl, hb1⟩
     have HB1 := hide hb1
     clear hb1
     go_wp2_with fail
     refine (hUn _ (hTab _ HB1.out).out (Nat.le_trans h7 HB1.out.size)).out.mono ?_
     rintro e w2 ⟨rfl, hb2⟩
     have HB2 := hide (HB1.out.trans (hb2.mono HB1.out.size))
     clear hb2
     go_wp2_with fail
     go_ret
     exact ⟨_, rfl, HB2.out⟩
    ·have g2' : decide (55296 <= z1) = true := decide_eq_true g2
     have g3' : decide (z1 < 56320) = false := decide_eq_false g3
     cases hp : [123].isPrefixOf t with
     | true =>
      rw [hp] at hCp
      go_enter Tryz.func62, Tryz.ntmps62
      go_wp2_with fail
      refine hTr.out.mono ?_
      rintro e w1 ⟨rfl, hb1⟩
      have HB1 := hide hb1
      clear hb1
      go_wp2_with fail
      refine (hUn _ (hTab _ HB1.out).out (Nat.le_trans h7 HB1.out.size)).out.mono ?_
      rintro e w2 ⟨rfl, hb2⟩
      have HB2 := hide (HB1.out.trans (hb2.mono HB1.out.size))
      clear hb2
      go_wp2_with fail
      refine (hCp _).out.mono ?_
      rintro e w3 ⟨rfl, rfl⟩
      go_wp2_with fail
      refine (hHw _).out.mono ?_
      rintro e w4 ⟨v2, rfl, hb4⟩
      have HB4 := hide (HB2.out.trans (hb4.mono HB2.out.size))
      clear hb4
      go_wp2_with fail
      go_ret
      exact ⟨_, rfl, HB4.out⟩
     | false =>
      rw [hp] at hCp
      by_cases h4 : t.length < 4
      ·have g4 : decide ((t.length : Int) < 4) = true := by simp; omega
       go_enter Tryz.func62, Tryz.ntmps62
       go_wp2_with fail
       refine hTr.out.mono ?_
       rintro e w1 ⟨rfl, hb1⟩
       have HB1 := hide hb1
       clear hb1
       go_wp2_with fail
       refine (hUn _ (hTab _ HB1.out).out (Nat.le_trans h7 HB1.out.size)).out.mono ?_
       rintro e w2 ⟨rfl, hb2⟩
       have HB2 := hide (HB1.out.trans (hb2.mono HB1.out.size))
       clear hb2
       go_wp2_with fail
       refine (hCp _).out.mono ?_
       rintro e w3 ⟨rfl, rfl⟩
       go_wp2_with fail
       refine (hHx _).out.mono ?_
       rintro e w4 ⟨v2, rfl, hb4⟩
       have HB4 := hide (HB2.out.trans (hb4.mono HB2.out.size))
       clear hb4
       go_wp2_with fail
       go_ret
       exact ⟨_, rfl, HB4.out⟩
      ·have g4 : decide ((t.length : Int) < 4) = false := by simp; omega
       go_enter Tryz.func62, Tryz.ntmps62
       go_wp2_with fail
       refine hTr.out.mono ?_
       rintro e w1 ⟨rfl, hb1⟩
       have HB1 := hide hb1
       clear hb1
       go_wp2_with fail
       refine (hUn _ (hTab _ HB1.out).out (Nat.le_trans h7 HB1.out.size)).out.mono ?_
       rintro e w2 ⟨rfl, hb2⟩
       have HB2 := hide (HB1.out.trans (hb2.mono HB1.out.size))
       clear hb2
       go_wp2_with fail
       refine (hCp _).out.mono ?_
       rintro e w3 ⟨rfl, rfl⟩
       go_wp2_with fail
       go_ret
       exact ⟨_, rfl, HB2.out⟩
   ·have g2' : decide (55296 <= z1) = false := decide_eq_false g2
    cases hp : [123].isPrefixOf t with
    | true =>
     rw [hp] at hCp
     go_enter Tryz.func62, Tryz.ntmps62
     go_wp2_with fail
     refine hTr.out.mono ?_
     rintro e w1 ⟨rfl, hb1⟩
     have HB1 := hide hb1
     clear hb1
     go_wp2_with fail
     refine (hUn _ (hTab _ HB1.out).out (Nat.le_trans h7 HB1.out.size)).out.mono ?_
     rintro e w2 ⟨rfl, hb2⟩
     have HB2 := hide (HB1.out.trans (hb2.mono HB1.out.size))
     clear hb2
     go_wp2_with fail
     refine (hCp _).out.mono ?_
     rintro e w3 ⟨rfl, rfl⟩
     go_wp2_with fail
     refine (hHw _).out.mono ?_
     rintro e w4 ⟨v2, rfl, hb4⟩
     have HB4 := hide (HB2.out.trans (hb4.mono HB2.out.size))
     clear hb4
     go_wp2_with fail
     go_ret
     exact ⟨_, rfl, HB4.out⟩
    | false =>
     rw [hp] at hCp
     by_cases h4 : t.length < 4
     ·have g4 : decide ((t.length : Int) < 4) = true := by simp; omega
      go_enter Tryz.func62, Tryz.ntmps62
      go_wp2_with fail
      refine hTr.out.mono ?_
      rintro e w1 ⟨rfl, hb1⟩
      have HB1 := hide hb1
      clear hb1
      go_wp2_with fail
      refine (hUn _ (hTab _ HB1.out).out (Nat.le_trans h7 HB1.out.size)).out.mono ?_
      rintro e w2 ⟨rfl, hb2⟩
      have HB2 := hide (HB1.out.trans (hb2.mono HB1.out.size))
      clear hb2
      go_wp2_with fail
      refine (hCp _).out.mono ?_
      rintro e w3 ⟨rfl, rfl⟩
      go_wp2_with fail
      refine (hHx _).out.mono ?_
      rintro e w4 ⟨v2, rfl, hb4⟩
      have HB4 := hide (HB2.out.trans (hb4.mono HB2.out.size))
      clear hb4
      go_wp2_with fail
      go_ret
      exact ⟨_, rfl, HB4.out⟩
     ·have g4 : decide ((t.length : Int) < 4) = false := by simp; omega
      go_enter Tryz.func62, Tryz.ntmps62
      go_wp2_with fail
      refine hTr.out.mono ?_
      rintro e w1 ⟨rfl, hb1⟩
      have HB1 := hide hb1
      clear hb1
      go_wp2_with fail
      refine (hUn _ (hTab _ HB1.out).out (Nat.le_trans h7 HB1.out.size)).out.mono ?_
      rintro e w2 ⟨rfl, hb2⟩
      have HB2 := hide (HB1.out.trans (hb2.mono HB1.out.size))
      clear hb2
      go_wp2_with fail
      refine (hCp _).out.mono ?_
      rintro e w3 ⟨rfl, rfl⟩
      go_wp2_with fail
      go_ret
      exact ⟨_, rfl, HB2.out⟩
 have q2 : ((c.toNat : Int) == 117) = false := u8f hu
 by_cases hk : c = 107 \/ c = 112 \/ c = 80
 ·have hvt : Cssp.valid t = true := (Jsp.Suf.of (hct ▸ hv : Cssp.valid (c :: t) = true)).valid (by rcases hk with rfl | rfl | rfl <;> decide)
  have hCa := fun W => hide (jContAny t hvt (by omega) W)
  clear hct hv hvt hx hu
  rcases hk with hk | hk | hk
  ·have q3 : ((c.toNat : Int) == 107) = true := u8t hk
   clear hk
   go_enter Tryz.func62, Tryz.ntmps62
   go_wp2_with fail
   refine hTr.out.mono ?_
   rintro e w1 ⟨rfl, hb1⟩
   have HB1 := hide hb1
   clear hb1
   go_wp2_with fail
   refine (hCa _).out.mono ?_
   rintro e w2 ⟨v2, rfl, hb2⟩
   have HB2 := hide (HB1.out.trans (hb2.mono HB1.out.size))
   clear hb2
   go_wp2_with fail
   go_ret
   exact ⟨_, rfl, HB2.out⟩
  ·have q3 : ((c.toNat : Int) == 107) = false := by rw [hk]; rfl
   have q4 : ((c.toNat : Int) == 112) = true := u8t hk
   clear hk
   go_enter Tryz.func62, Tryz.ntmps62
   go_wp2_with fail
   refine hTr.out.mono ?_
   rintro e w1 ⟨rfl, hb1⟩
   have HB1 := hide hb1
   clear hb1
   go_wp2_with fail
   refine (hCa _).out.mono ?_
   rintro e w2 ⟨v2, rfl, hb2⟩
   have HB2 := hide (HB1.out.trans (hb2.mono HB1.out.size))
   clear hb2
   go_wp2_with fail
   go_ret
   exact ⟨_, rfl, HB2.out⟩
  ·have q3 : ((c.toNat : Int) == 107) = false := by rw [hk]; rfl
   have q4 : ((c.toNat : Int) == 112) = false := by rw [hk]; rfl
   have q5 : ((c.toNat : Int) == 80) = true := u8t hk
   clear hk
   go_enter Tryz.func62, Tryz.ntmps62
   go_wp2_with fail
   refine hTr.out.mono ?_
   rintro e w1 ⟨rfl, hb1⟩
   have HB1 := hide hb1
   clear hb1
   go_wp2_with fail
   refine (hCa _).out.mono ?_
   rintro e w2 ⟨v2, rfl, hb2⟩
   have HB2 := hide (HB1.out.trans (hb2.mono HB1.out.size))
   clear hb2
   go_wp2_with fail
   go_ret
   exact ⟨_, rfl, HB2.out⟩
 have q3 : ((c.toNat : Int) == 107) = false := u8f (fun e => hk (.inl e))
 have q4 : ((c.toNat : Int) == 112) = false := u8f (fun e => hk (.inr (.inl e)))
 have q5 : ((c.toNat : Int) == 80) = false := u8f (fun e => hk (.inr (.inr e)))
 clear hk hct hv hx hu
 go_enter Tryz.func62, Tryz.ntmps62
 go_wp2_with fail
 refine hTr.out.mono ?_
 rintro e w1 ⟨rfl, hb1⟩
 have HB1 := hide hb1
 clear hb1
 go_wp2_with fail
 go_ret
 exact ⟨_, rfl, HB1.out⟩
theorem jPendingNil (w : World) : Calls Tryz.prog 62 #[S []] w (Fresh (.bool true) w) := by
 have hTr := hide (jTrimD [] (by decide) w)
 rw [show Lib.trimS [] [48, 49, 50, 51, 52, 53, 54, 55, 56, 57] = [] from rfl] at hTr
 go_enter Tryz.func62, Tryz.ntmps62
 go_wp2_with fail
 refine hTr.out.mono ?_
 rintro e w1 ⟨rfl, hb1⟩
 have HB1 := hide hb1
 clear hb1
 go_wp2_with fail
 go_ret
 exact ⟨rfl, HB1.out⟩
theorem jPendingE (U : List UInt8) (hv : Cssp.valid U = true) (hl : U.length <= 4194000) (w : World) (ht : Tab w) : Calls Tryz.prog 62 #[S U] w (fun e w' => ∃ v : Bool, e = .returned (.bool v) /\ Below w.heap.size w w' /\ (v = false -> U ≠ [])) := by
 by_cases h0 : U = []
 ·subst h0
  exact (jPendingNil w).mono fun e w' h => ⟨true, h.1, h.2, fun h => by cases h⟩
 ·exact (jPending U hv hl w ht).mono fun e w' ⟨v, h1, h2⟩ => ⟨v, h1, h2, fun _ => h0⟩
end Go.Proofs.YtngccmlcopcghaaGreatDoor
