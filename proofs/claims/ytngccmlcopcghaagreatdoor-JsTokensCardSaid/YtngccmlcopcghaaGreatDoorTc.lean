/- numeral: where a number ends. (Printed by genTc.py.) -/
import Derived.Test.YtngccmlcopcghaaGreatDoorTb
import Derived.Test.YtngccmlcopcghaaGreatDoorQl
import Derived.Deep.Cut
import Derived.Deep.CutBlock
set_option maxRecDepth 100000
set_option maxHeartbeats 8000000
namespace Go.Proofs.YtngccmlcopcghaaGreatDoor
open Go.RowKit
structure Nb (W : World) (Q : Nat) (s : List UInt8) (i : Int) : Prop where
 tx : W.heap[Q]? = some (.cells #[S s] 9 (0, 0))
 ix : W.heap[Q + 1]? = some (.cells #[.int .i64 i] 3 (0, 0))
theorem Nb.get {W : World} {Q : Nat} {s : List UInt8} {i : Int} (h : Nb W Q s i) : W.cell? ⟨Q, 0, none⟩ = some (S s) /\ W.cell? ⟨Q + 1, 0, none⟩ = some (.int .i64 i) /\ W.frozen? ⟨Q + 1, 0, none⟩ = false := by
 refine ⟨by rw [Lib.cell_of_heap h.tx]; rfl, by rw [Lib.cell_of_heap h.ix]; rfl, by simp [World.frozen?, h.ix]⟩
theorem Nb.set {W : World} {Q : Nat} {s : List UInt8} {i : Int} (h : Nb W Q s i) (j : Int) : Nb (W.setCell ⟨Q + 1, 0, none⟩ (.int .i64 j)) Q s j := by
 have h1 := h.ix
 exact ⟨(Below.heap_setCell _ _ _ _ (by show Q ≠ Q + 1; omega)).trans h.tx, by simp [World.setCell, Array.getElem?_modify, h1]⟩
theorem Nb.drewN {W : World} {Q : Nat} {s : List UInt8} {i : Int} (h : Nb W Q s i) (n : Nat) : Nb (W.drewN n) Q s i := ⟨h.tx, h.ix⟩
theorem Nb.below {W W' : World} {Q : Nat} {s : List UInt8} {i : Int} (h : Nb W Q s i) (hb : Below W.heap.size W W') : Nb W' Q s i := ⟨(hb.block _ (heap_lt h.tx)).trans h.tx, (hb.block _ (heap_lt h.ix)).trans h.ix⟩
theorem ib_contains (c : UInt8) : ∀ l : List UInt8, decide (0 <= Lib.indexByte l c) = l.contains c
 | [] => rfl
 | b :: l => by
  have ih := ib_contains c l
  have hge := Lib.indexByte_ge l c
  rw [Lib.indexByte, List.contains_cons]
  by_cases hb : (b == c) = true
  ·have : b = c := by simpa using hb
   subst this
   simp
  ·have hb' : (b == c) = false := by simpa using hb
   have hc' : (c == b) = false := by rw [beq_eq_false_iff_ne] at hb' ⊢; exact fun e => hb' e.symm
   rw [if_neg hb, hc', Bool.false_or, <- ih]
   by_cases hm : Lib.indexByte l c = -1
   ·rw [hm]; rfl
   ·have : (Lib.indexByte l c == -1) = false := by rw [beq_eq_false_iff_ne]; exact hm
    rw [this, if_neg (by decide), decide_eq_decide]
    omega
theorem jIs (set s : List UInt8) (i : Nat) (W : World) (Q : Nat) (x : Int) (h : Nb W Q s x) (hx : x = (i : Int)) (_hl : s.length <= 4194304) :
  Calls Tryz.prog 117 #[S set, .pointer (some ⟨Q + 1, 0, none⟩), .pointer (some ⟨Q, 0, none⟩)] W (Ret (.bool (Jsp.isIn set s i)) W) := by
 obtain ⟨cs, ci, -⟩ := h.get
 subst hx
 have hg := Jsp.isIn_get (set := set) (s := s) (n := i)
 obtain ⟨R, hR⟩ : ∃ R, Jsp.isIn set s i = R := ⟨_, rfl⟩
 rw [hR] at hg ⊢
 have HG := hide hg
 clear h hR hg
 go_enter Tryz.func117, Tryz.ntmps117
 by_cases hlt : i < s.length
 ·have b0 : (0 : Int) <= (i : Int) := by omega
  have b1 : (i : Int) < (s.length : Int) := by omega
  obtain ⟨c, hc⟩ : ∃ c, s[i] = c := ⟨_, rfl⟩
  have hc' : s[i]? = some c := by rw [List.getElem?_eq_getElem hlt, hc]
  have hv := HG.out
  rw [hc'] at hv
  simp only at hv
  have hib := ib_contains c set
  rw [<- hv] at hib
  have HIB := hide hib
  have hI := fun V => hide (sIndexByte set c V)
  obtain ⟨z, hz⟩ : ∃ z, Lib.indexByte set c = z := ⟨_, rfl⟩
  rw [hz] at hI HIB
  clear hc' hv hib hz HG
  go_wp2_with fail
  refine (hI _).out.mono ?_
  rintro e w1 ⟨rfl, rfl⟩
  go_wp2_with fail
  go_ret
  exact Ret.of (v_b HIB.out)
 ·have b1 : ¬ (i : Int) < (s.length : Int) := by omega
  have hd : decide ((i : Int) < (s.length : Int)) = false := by simp; omega
  have hv := HG.out
  rw [List.getElem?_eq_none (by omega)] at hv
  subst hv
  clear HG
  go_wp2_with fail
  go_ret
  exact Ret.of rfl
def NumP (s : List UInt8) (k : Nat) (w : World) (e : Ending) (w' : World) : Prop := Fresh (.tuple #[.int .i64 ((Jsp.numA s k).1 : Nat), .bool (Jsp.numA s k).2]) w e w'
theorem NumP.of {s : List UInt8} {k : Nat} {w : World} {e : Ending} {w' : World} {n : Nat} {ok : Bool} (h : Jsp.numA s k = (n, ok)) (hf : Fresh (.tuple #[.int .i64 (n : Int), .bool ok]) w e w') : NumP s k w e w' := by unfold NumP; rw [h]; exact hf
theorem low_base : ∀ n : Fin 256, Jsp.baseOf (UInt8.ofNat n.val) ≠ 0 -> ∃ e : Fin 256, bits BinOp.or .u8 (n.val : Int) 32 = (e.val : Int) /\ ((e.val = 120 /\ Jsp.baseOf (UInt8.ofNat n.val) = 16) \/ (e.val = 111 /\ Jsp.baseOf (UInt8.ofNat n.val) = 8) \/ (e.val = 98 /\ Jsp.baseOf (UInt8.ofNat n.val) = 2)) := by decide +kernel
theorem base_look (c : UInt8) (h : Jsp.baseOf c ≠ 0) : ∃ e : UInt8, bits BinOp.or .u8 (c.toNat : Int) 32 = (e.toNat : Int) /\ lkM bases e = some (.int .i64 (Jsp.baseOf c)) := by
 obtain ⟨e, h1, h2⟩ := low_base ⟨c.toNat, c.toNat_lt⟩ (by simpa only [UInt8.ofNat_toNat] using h)
 simp only [UInt8.ofNat_toNat] at h2
 rcases h2 with ⟨q1, q2⟩ | ⟨q1, q2⟩ | ⟨q1, q2⟩
 ·exact ⟨120, by rw [h1, q1]; rfl, by rw [q2]; rfl⟩
 ·exact ⟨111, by rw [h1, q1]; rfl, by rw [q2]; rfl⟩
 ·exact ⟨98, by rw [h1, q1]; rfl, by rw [q2]; rfl⟩
theorem jDig (s : List UInt8) (k : Nat) (base x : Int) (hx : x = (k : Int)) {d1 n1 : Nat} {d2 : Bool} (hd : Jsp.digits base (s.drop k) = (d1, d2)) (hn : k + d1 = n1) (w : World) (hk : k <= s.length) (hl : s.length <= 4194304) :
  Calls Tryz.prog 119 #[S s, .int .i64 x, .int .i64 base] w (Quiet (.tuple #[.int .i64 (n1 : Int), .bool d2]) w) := by
 have h := jDigits s k base w hk hl
 rw [hd] at h
 simp only [hn] at h
 rw [hx]
 exact h
theorem jNumeral (s : List UInt8) (k : Nat) (w : World) (hk : k < s.length) (hl : s.length <= 4194000) : Calls Tryz.prog 70 #[S s, .int .i64 (k : Int)] w (NumP s k w) := by
 have hmf : ∀ (fn : Fn) (first cap : Array Value) (w : World), (Instr.makeFunc fn first cap).run Tryz.prog w = .ok (.func fn first cap) w := fun _ _ _ _ => rfl
 have hmm := @run_makeMap Tryz.prog
 obtain ⟨Q, hQ⟩ : ∃ Q, w.heap.size = Q := ⟨_, rfl⟩
 obtain ⟨c, hc⟩ : ∃ c, s[k] = c := ⟨_, rfl⟩
 have hcb := u8_lt c
 have b0 : (0 : Int) <= (k : Int) := by omega
 have b1 : (k : Int) < (s.length : Int) := by omega
 have hdk : s.drop k = c :: s.drop (k + 1) := by rw [List.drop_eq_getElem_cons hk, hc]
 have h48 : Jsp.isB (· == 48) (s.drop k) = (c == 48) := by rw [hdk]; rfl
 have h46 : Jsp.isB (· == 46) (s.drop k) = (c == 46) := by rw [hdk]; rfl
 have H48 := hide h48
 have H46 := hide h46
 have hn0 : Nb ((w.alloc (.cells #[S s] 9)).alloc (.cells #[.int .i64 0] 3)) Q s 0 := by
  subst hQ
  refine ⟨?_, ?_⟩
  ·rw [Below.heap_alloc _ _ _ (by simp)]; exact heap_alloc_last _ _
  ·have := heap_alloc_last (w.alloc (.cells #[S s] 9)) (.cells #[.int .i64 0] 3)
   simpa using this
 have hb0 : Below Q w ((w.alloc (.cells #[S s] 9)).alloc (.cells #[.int .i64 0] 3)) := by
  subst hQ
  exact ((Below.refl _ w).alloc (Nat.le_refl _) _).alloc (by simp) _
 have hFin : ∀ {e : Ending} {w' : World} {n : Nat} {ok : Bool}, Jsp.numA s k = (n, ok) -> Below Q w w' -> e = .returned (.tuple #[.int .i64 (n : Int), .bool ok]) -> NumP s k w e w' := fun h hb he => NumP.of h ⟨he, by rw [hQ]; exact hb⟩
 have HFIN := fun {e : Ending} {w' : World} {n : Nat} {ok : Bool} h1 h2 h3 => hide (@hFin e w' n ok h1 h2 h3)
 clear hFin hdk h48 h46
 go_enter Tryz.func70, Tryz.ntmps70
 go_upto_region 1 with (fail)
 change Code.wp _ _ _ _ ((w.alloc (.cells #[S s] 9)).alloc (.cells #[.int .i64 0] 3))
 generalize hgen : (w.alloc (.cells #[S s] 9)).alloc (.cells #[.int .i64 0] 3) = W0 at hn0 hb0 ⊢
 have HN0 := hide hn0
 have HB0 := hide hb0
 have HQ := hide hQ
 clear hgen hn0 hb0 hQ
 obtain ⟨cs0, ci0, fi0⟩ := HN0.out.get
 have HN1 := hide (HN0.out.set ((k : Int) + 1))
 have HB1 := hide (HB0.out.setCell (p := ⟨Q + 1, 0, none⟩) (show Q <= Q + 1 by omega) (.int .i64 ((k : Int) + 1)))
 obtain ⟨hx, hhx⟩ : ∃ v, (c == 48 && Jsp.isIn [120, 88, 111, 79, 98, 66] s (k + 1)) = v := ⟨_, rfl⟩
 have HHX := hide hhx
 clear hhx
 go_upto_region 3 with (fail)
 change Code.wp _ _ _ _ (W0.setCell ⟨Q + 1, 0, none⟩ (.int .i64 ((k : Int) + 1)))
 generalize W0.setCell ⟨Q + 1, 0, none⟩ (.int .i64 ((k : Int) + 1)) = W1 at HN1 HB1 ⊢
 clear cs0 ci0 fi0
 obtain ⟨cs1, ci1, fi1⟩ := HN1.out.get
 go_cut [18] from 11 (fun s18 wx => s18 = .bool hx /\ wx = W1)
 case first =>
  by_cases h0 : c = 48
  ·have q48 : ((c.toNat : Int) == 48) = true := u8t h0
   obtain ⟨xx, hX⟩ : ∃ v, Jsp.isIn [120, 88, 111, 79, 98, 66] s (k + 1) = v := ⟨_, rfl⟩
   have HE := hide (show xx = hx by rw [<- HHX.out, hX, h0]; rfl)
   go_wp2_with fail
   refine (jIs [120, 88, 111, 79, 98, 66] s (k + 1) _ Q _ HN1.out (by omega) (by omega)).mono ?_
   rintro e w1 ⟨rfl, rfl⟩
   rw [hX]
   clear hX
   go_wp2_with fail
   go_meet
   case rel => exact ⟨by rw [HE.out], rfl⟩
  ·have q48 : ((c.toNat : Int) == 48) = false := u8f h0
   have HE := hide (show false = hx by rw [<- HHX.out, beq_eq_false_iff_ne.2 h0]; rfl)
   clear h0
   go_wp2_with fail
   go_meet
   case rel => exact ⟨by rw [<- HE.out], rfl⟩
 case rest =>
  obtain ⟨rfl, hW⟩ := hcut
  subst hW
  go_upto_if 18 with (fail)
  cases hx
  rotate_left
  ·have hh := HHX.out
   rw [Bool.and_eq_true, beq_iff_eq] at hh
   obtain ⟨h0, hX⟩ := hh
   have hxl := Jsp.isIn_lt hX
   obtain ⟨x, hx⟩ : ∃ x, s[k + 1] = x := ⟨_, rfl⟩
   have hx' : s[k + 1]? = some x := by rw [List.getElem?_eq_getElem hxl, hx]
   have hhex : Jsp.hexed s k := ⟨by rw [H48.out, h0]; rfl, hX⟩
   have hbn : Jsp.baseOf x ≠ 0 := by have := hX; rw [Jsp.isIn_base s _ x hx'] at this; simpa using this
   obtain ⟨z, hz1, hz2⟩ := base_look x hbn
   have HXX := hide hx'
   have HHEX := hide hhex
   have hxb := u8_lt x
   obtain ⟨bs, hbs⟩ : ∃ bs, Jsp.baseOf x = bs := ⟨_, rfl⟩
   rw [hbs] at hz2
   have HBS := hide hbs
   obtain ⟨d1h, d2h, hdh⟩ : ∃ a b, Jsp.digits bs (s.drop (k + 2)) = (a, b) := ⟨_, _, rfl⟩
   have hbdh := Jsp.digits_bound bs s (k + 2) (by omega)
   rw [hdh] at hbdh
   simp only at hbdh
   obtain ⟨nh, hnh⟩ : ∃ a, k + 2 + d1h = a := ⟨_, rfl⟩
   have hgeh : k + 2 <= nh := by omega
   have DGh := fun W => hide (jDig s (k + 2) bs ((k : Int) + 1 + 1) (by omega) hdh hnh W (by omega) (by omega))
   rw [hnh] at hbdh
   have HDh := hide hdh
   have HNNh := hide hnh
   clear hdh hnh
   clear hhex hbn hx' hbs h0 hX
   obtain ⟨m1, m2, m3, r1, r2, r3, hkm, hbm⟩ := mBases wc
   have hlook := hkm.look Tryz.underlying129 Tryz.underlying5 z hz2
   have HNm := hide (HN1.out.below hbm)
   have HBm := hide (HB1.out.trans (hbm.mono (by have := HB1.out.size; have := HQ.out; omega)))
   obtain ⟨csm, cim, fim⟩ := HNm.out.get
   clear hkm hbm hz2
   have bk0 : (0 : Int) <= (k : Int) + 1 := by omega
   have bk1 : (k : Int) + 1 < (s.length : Int) := by omega
   have bk2 : ((k : Int) + 1).toNat = k + 1 := by omega
   go_wp2_with fail
   refine (DGh _).out.mono ?_
   rintro e w1 ⟨rfl, nq21, rfl⟩
   have HN21 := hide (HNm.out.drewN nq21)
   have HB21 := hide (HBm.out.trans ((belowN _ nq21).mono (by have := HBm.out.size; have := HQ.out; omega)))
   obtain ⟨cs21, ci21, fi21⟩ := HN21.out.get
   generalize m3.drewN nq21 = W21 at HN21 HB21 cs21 ci21 fi21 ⊢
   have HN22 := hide (HN21.out.set ((nh : Int)))
   have HB22 := hide (HB21.out.setCell (p := ⟨Q + 1, 0, none⟩) (show Q <= Q + 1 by omega) (.int .i64 ((nh : Int))))
   obtain ⟨cs22, ci22, fi22⟩ := HN22.out.get
   cases d2h with
   | false =>
    have HN23 := hide (HN22.out.set ((nh : Int)))
    have HB23 := hide (HB22.out.setCell (p := ⟨Q + 1, 0, none⟩) (show Q <= Q + 1 by omega) (.int .i64 ((nh : Int))))
    obtain ⟨cs23, ci23, fi23⟩ := HN23.out.get
    go_wp2_with fail
    refine bodyPost_ret (v := .tuple #[.int .i64 ((nh : Nat) : Int), .bool false]) (by simp [results, Tryz.results70, go_sem, ci23] <;> omega) rfl ?_
    exact (HFIN ((Jsp.numA_hex (d1 := d1h) (d2 := false) HHEX.out HXX.out (by rw [HBS.out]; exact HDh.out)).trans (by rw [if_neg (by simp), HNNh.out])) HB23.out rfl).out
   | true =>
    cases hN : Jsp.isIn [110] s nh with
    | true =>
     have HNt := hide hN
     have hNl := Jsp.isIn_lt hN
     go_wp2_with fail
     refine (jIs [110] s (nh) _ Q _ HN22.out (by omega) (by omega)).mono ?_
     rintro e w1 ⟨rfl, rfl⟩
     rw [hN]
     clear hN
     have HN24 := hide (HN22.out.set ((nh : Int) + 1))
     have HB24 := hide (HB22.out.setCell (p := ⟨Q + 1, 0, none⟩) (show Q <= Q + 1 by omega) (.int .i64 ((nh : Int) + 1)))
     obtain ⟨cs24, ci24, fi24⟩ := HN24.out.get
     have HN25 := hide (HN24.out.set ((nh : Int) + 1))
     have HB25 := hide (HB24.out.setCell (p := ⟨Q + 1, 0, none⟩) (show Q <= Q + 1 by omega) (.int .i64 ((nh : Int) + 1)))
     obtain ⟨cs25, ci25, fi25⟩ := HN25.out.get
     go_wp2_with fail
     refine bodyPost_ret (v := .tuple #[.int .i64 ((nh + 1 : Nat) : Int), .bool true]) (by simp [results, Tryz.results70, go_sem, ci25] <;> omega) rfl ?_
     exact (HFIN ((Jsp.numA_hex (d1 := d1h) (d2 := true) HHEX.out HXX.out (by rw [HBS.out]; exact HDh.out)).trans (by rw [HNNh.out, if_pos ⟨rfl, HNt.out⟩])) HB25.out rfl).out
    | false =>
     have HNf := hide hN
     go_wp2_with fail
     refine (jIs [110] s (nh) _ Q _ HN22.out (by omega) (by omega)).mono ?_
     rintro e w1 ⟨rfl, rfl⟩
     rw [hN]
     clear hN
     have HN26 := hide (HN22.out.set ((nh : Int)))
     have HB26 := hide (HB22.out.setCell (p := ⟨Q + 1, 0, none⟩) (show Q <= Q + 1 by omega) (.int .i64 ((nh : Int))))
     obtain ⟨cs26, ci26, fi26⟩ := HN26.out.get
     go_wp2_with fail
     refine bodyPost_ret (v := .tuple #[.int .i64 ((nh : Nat) : Int), .bool true]) (by simp [results, Tryz.results70, go_sem, ci26] <;> omega) rfl ?_
     exact (HFIN ((Jsp.numA_hex (d1 := d1h) (d2 := true) HHEX.out HXX.out (by rw [HBS.out]; exact HDh.out)).trans (by rw [HNNh.out, if_neg (fun h => by rw [HNf.out] at h; exact absurd h.2 (by decide))])) HB26.out rfl).out
  have hnx : ¬ Jsp.hexed s k := fun h => by
   have h1 := HHX.out
   rw [<- H48.out, h.1, h.2] at h1
   cases h1
  have HX := hide hnx
  have HN2 := hide (HN1.out.set ((k : Int)))
  have HB2 := hide (HB1.out.setCell (p := ⟨Q + 1, 0, none⟩) (show Q <= Q + 1 by omega) (.int .i64 ((k : Int))))
  obtain ⟨d46, hd46⟩ : ∃ v, ((c.toNat : Int) != 46) = v := ⟨_, rfl⟩
  clear hnx
  go_upto_if 47 with (fail)
  change Code.wp _ _ _ _ (wc.setCell ⟨Q + 1, 0, none⟩ (.int .i64 ((k : Int))))
  generalize wc.setCell ⟨Q + 1, 0, none⟩ (.int .i64 ((k : Int))) = W2 at HN2 HB2 ⊢
  clear cs1 ci1 fi1 HN1 HB1
  obtain ⟨cs2, ci2, fi2⟩ := HN2.out.get
  go_cut [5] from 48 (fun _ wx => ∃ N : Nat, Hid (Nb wx Q s (N : Int)) /\ Hid (Below Q w wx) /\ Hid (Jsp.numA s k = Jsp.numC s N) /\ Hid (N <= s.length))
  case first =>
   by_cases h4 : c = 46
   ·obtain rfl : d46 = false := by rw [<- hd46]; exact u8y h4
    have hh46 : Jsp.isB (· == 46) (s.drop k) = true := by rw [H46.out, h4]; rfl
    have HQ4 := hide (Jsp.numA_dot hh46)
    have HKL := hide (Nat.le_of_lt hk)
    clear h4 hh46 hd46
    go_wp2_with fail
    go_meet
    case rel => exact ⟨k, HN2.out, HB2.out, HQ4.out, HKL.out⟩
   obtain rfl : d46 = true := by rw [<- hd46]; exact u8n h4
   have hh46 : Jsp.isB (· == 46) (s.drop k) = false := by rw [H46.out]; exact beq_eq_false_iff_ne.2 h4
   have H46f := hide hh46
   clear h4 hh46 hd46
   obtain ⟨d1w, d2w, hdw⟩ : ∃ a b, Jsp.digits 10 (s.drop (k)) = (a, b) := ⟨_, _, rfl⟩
   have hbdw := Jsp.digits_bound 10 s (k) (by omega)
   rw [hdw] at hbdw
   simp only at hbdw
   obtain ⟨nw, hnw⟩ : ∃ a, k + d1w = a := ⟨_, rfl⟩
   have hgew : k <= nw := by omega
   have DGw := fun W => hide (jDig s (k) 10 ((k : Int)) (by omega) hdw hnw W (by omega) (by omega))
   rw [hnw] at hbdw
   have HDw := hide hdw
   have HNNw := hide hnw
   clear hdw hnw
   cases d2w with
   | false =>
    go_wp2_with fail
    refine (DGw _).out.mono ?_
    rintro e w1 ⟨rfl, nq27, rfl⟩
    have HN27 := hide (HN2.out.drewN nq27)
    have HB27 := hide (HB2.out.trans ((belowN _ nq27).mono (by have := HB2.out.size; have := HQ.out; omega)))
    obtain ⟨cs27, ci27, fi27⟩ := HN27.out.get
    generalize W2.drewN nq27 = W27 at HN27 HB27 cs27 ci27 fi27 ⊢
    have HN28 := hide (HN27.out.set ((nw : Int)))
    have HB28 := hide (HB27.out.setCell (p := ⟨Q + 1, 0, none⟩) (show Q <= Q + 1 by omega) (.int .i64 ((nw : Int))))
    obtain ⟨cs28, ci28, fi28⟩ := HN28.out.get
    have HN29 := hide (HN28.out.set ((nw : Int)))
    have HB29 := hide (HB28.out.setCell (p := ⟨Q + 1, 0, none⟩) (show Q <= Q + 1 by omega) (.int .i64 ((nw : Int))))
    obtain ⟨cs29, ci29, fi29⟩ := HN29.out.get
    go_wp2_with fail
    refine bodyPost_ret (v := .tuple #[.int .i64 ((nw : Nat) : Int), .bool false]) (by simp [results, Tryz.results70, go_sem, ci29] <;> omega) rfl ?_
    exact (HFIN ((Jsp.numA_bad HX.out H46f.out HDw.out (.inl rfl)).trans (by rw [HNNw.out])) HB29.out rfl).out
   | true =>
    by_cases h0 : c = 48
    ·have q48 : ((c.toNat : Int) == 48) = true := u8t h0
     by_cases h1 : k + 1 < nw
     ·have q1 : decide ((k : Int) + 1 < (nw : Int)) = true := by simp; omega
      have H1 := hide h1
      have H0 := hide h0
      clear h1 h0
      go_wp2_with fail
      refine (DGw _).out.mono ?_
      rintro e w1 ⟨rfl, nq30, rfl⟩
      have HN30 := hide (HN2.out.drewN nq30)
      have HB30 := hide (HB2.out.trans ((belowN _ nq30).mono (by have := HB2.out.size; have := HQ.out; omega)))
      obtain ⟨cs30, ci30, fi30⟩ := HN30.out.get
      generalize W2.drewN nq30 = W30 at HN30 HB30 cs30 ci30 fi30 ⊢
      have HN31 := hide (HN30.out.set ((nw : Int)))
      have HB31 := hide (HB30.out.setCell (p := ⟨Q + 1, 0, none⟩) (show Q <= Q + 1 by omega) (.int .i64 ((nw : Int))))
      obtain ⟨cs31, ci31, fi31⟩ := HN31.out.get
      have HN32 := hide (HN31.out.set ((nw : Int)))
      have HB32 := hide (HB31.out.setCell (p := ⟨Q + 1, 0, none⟩) (show Q <= Q + 1 by omega) (.int .i64 ((nw : Int))))
      obtain ⟨cs32, ci32, fi32⟩ := HN32.out.get
      go_wp2_with fail
      refine bodyPost_ret (v := .tuple #[.int .i64 ((nw : Nat) : Int), .bool false]) (by simp [results, Tryz.results70, go_sem, ci32] <;> omega) rfl ?_
      exact (HFIN ((Jsp.numA_bad HX.out H46f.out HDw.out (.inr ⟨by rw [H48.out, H0.out]; rfl, by have := H1.out; have := HNNw.out; omega⟩)).trans (by rw [HNNw.out])) HB32.out rfl).out
     ·have q1 : decide ((k : Int) + 1 < (nw : Int)) = false := by simp; omega
      have hng : ¬ (true = false \/ (Jsp.isB (· == 48) (s.drop k) = true /\ 1 < d1w)) := by rintro (h | ⟨_, h⟩); cases h; have := HNNw.out; omega
      have HNG := hide hng
      clear h1 hng h0
      go_wp2_with fail
      refine (DGw _).out.mono ?_
      rintro e w1 ⟨rfl, nq33, rfl⟩
      have HN33 := hide (HN2.out.drewN nq33)
      have HB33 := hide (HB2.out.trans ((belowN _ nq33).mono (by have := HB2.out.size; have := HQ.out; omega)))
      obtain ⟨cs33, ci33, fi33⟩ := HN33.out.get
      generalize W2.drewN nq33 = W33 at HN33 HB33 cs33 ci33 fi33 ⊢
      have HN34 := hide (HN33.out.set ((nw : Int)))
      have HB34 := hide (HB33.out.setCell (p := ⟨Q + 1, 0, none⟩) (show Q <= Q + 1 by omega) (.int .i64 ((nw : Int))))
      obtain ⟨cs34, ci34, fi34⟩ := HN34.out.get
      cases hN : Jsp.isIn [110] s nw with
      | true =>
       have HNt := hide hN
       have hNl := Jsp.isIn_lt hN
       go_wp2_with fail
       refine (jIs [110] s (nw) _ Q _ HN34.out (by omega) (by omega)).mono ?_
       rintro e w1 ⟨rfl, rfl⟩
       rw [hN]
       clear hN
       have HN35 := hide (HN34.out.set ((nw : Int) + 1))
       have HB35 := hide (HB34.out.setCell (p := ⟨Q + 1, 0, none⟩) (show Q <= Q + 1 by omega) (.int .i64 ((nw : Int) + 1)))
       obtain ⟨cs35, ci35, fi35⟩ := HN35.out.get
       go_wp2_with fail
       refine bodyPost_ret (v := .tuple #[.int .i64 ((nw + 1 : Nat) : Int), .bool true]) (by simp [results, Tryz.results70, go_sem, ci35] <;> omega) rfl ?_
       exact (HFIN ((Jsp.numA_n HX.out H46f.out HDw.out HNG.out (by rw [HNNw.out]; exact HNt.out)).trans (by rw [HNNw.out])) HB35.out rfl).out
      | false =>
       have HNf := hide hN
       have HWL := hide (show nw <= s.length by omega)
       go_wp2_with fail
       refine (jIs [110] s (nw) _ Q _ HN34.out (by omega) (by omega)).mono ?_
       rintro e w1 ⟨rfl, rfl⟩
       rw [hN]
       clear hN
       go_wp2_with fail
       go_meet
       case rel => exact ⟨nw, HN34.out, HB34.out, (Jsp.numA_C HX.out H46f.out HDw.out HNG.out (by rw [HNNw.out]; exact HNf.out)).trans (by rw [HNNw.out]), HWL.out⟩
    ·have q48 : ((c.toNat : Int) == 48) = false := u8f h0
     have hng : ¬ (true = false \/ (Jsp.isB (· == 48) (s.drop k) = true /\ 1 < d1w)) := by
      rintro (h | ⟨h, _⟩)
      ·cases h
      ·rw [H48.out] at h
       exact h0 (by simpa using h)
     have HNG := hide hng
     clear hng h0
     go_wp2_with fail
     refine (DGw _).out.mono ?_
     rintro e w1 ⟨rfl, nq36, rfl⟩
     have HN36 := hide (HN2.out.drewN nq36)
     have HB36 := hide (HB2.out.trans ((belowN _ nq36).mono (by have := HB2.out.size; have := HQ.out; omega)))
     obtain ⟨cs36, ci36, fi36⟩ := HN36.out.get
     generalize W2.drewN nq36 = W36 at HN36 HB36 cs36 ci36 fi36 ⊢
     have HN37 := hide (HN36.out.set ((nw : Int)))
     have HB37 := hide (HB36.out.setCell (p := ⟨Q + 1, 0, none⟩) (show Q <= Q + 1 by omega) (.int .i64 ((nw : Int))))
     obtain ⟨cs37, ci37, fi37⟩ := HN37.out.get
     cases hN : Jsp.isIn [110] s nw with
     | true =>
      have HNt := hide hN
      have hNl := Jsp.isIn_lt hN
      go_wp2_with fail
      refine (jIs [110] s (nw) _ Q _ HN37.out (by omega) (by omega)).mono ?_
      rintro e w1 ⟨rfl, rfl⟩
      rw [hN]
      clear hN
      have HN38 := hide (HN37.out.set ((nw : Int) + 1))
      have HB38 := hide (HB37.out.setCell (p := ⟨Q + 1, 0, none⟩) (show Q <= Q + 1 by omega) (.int .i64 ((nw : Int) + 1)))
      obtain ⟨cs38, ci38, fi38⟩ := HN38.out.get
      go_wp2_with fail
      refine bodyPost_ret (v := .tuple #[.int .i64 ((nw + 1 : Nat) : Int), .bool true]) (by simp [results, Tryz.results70, go_sem, ci38] <;> omega) rfl ?_
      exact (HFIN ((Jsp.numA_n HX.out H46f.out HDw.out HNG.out (by rw [HNNw.out]; exact HNt.out)).trans (by rw [HNNw.out])) HB38.out rfl).out
     | false =>
      have HNf := hide hN
      have HWL := hide (show nw <= s.length by omega)
      go_wp2_with fail
      refine (jIs [110] s (nw) _ Q _ HN37.out (by omega) (by omega)).mono ?_
      rintro e w1 ⟨rfl, rfl⟩
      rw [hN]
      clear hN
      go_wp2_with fail
      go_meet
      case rel => exact ⟨nw, HN37.out, HB37.out, (Jsp.numA_C HX.out H46f.out HDw.out HNG.out (by rw [HNNw.out]; exact HNf.out)).trans (by rw [HNNw.out]), HWL.out⟩
  case rest =>
   obtain ⟨N, HN3, HB3, HQ3, hNl⟩ := hcut
   have hNle := hNl.out
   clear HN2 HB2 cs2 ci2 fi2
   obtain ⟨cs3, ci3, fi3⟩ := HN3.out.get
   obtain ⟨pv, hP⟩ : ∃ v, Jsp.isIn [46] s N = v := ⟨_, rfl⟩
   have HP := hide hP
   go_wp2_with fail
   refine (jIs [46] s N _ Q _ HN3.out (by omega) (by omega)).mono ?_
   rintro e w1 ⟨rfl, rfl⟩
   rw [hP]
   clear hP
   go_upto_if 74 with (fail)
   go_cut [5] from 75 (fun _ wx => ∃ N : Nat, Hid (Nb wx Q s (N : Int)) /\ Hid (Below Q w wx) /\ Hid (Jsp.numA s k = Jsp.numD s N) /\ Hid (N <= s.length))
   case first =>
    cases pv
    ·go_wp2_with fail
     go_meet
     case rel => exact ⟨N, HN3.out, HB3.out, HQ3.out.trans (Jsp.numC_no HP.out), hNl.out⟩
    have hPl := Jsp.isIn_lt HP.out
    have HN39 := hide (HN3.out.set ((N : Int) + 1))
    have HB39 := hide (HB3.out.setCell (p := ⟨Q + 1, 0, none⟩) (show Q <= Q + 1 by omega) (.int .i64 ((N : Int) + 1)))
    obtain ⟨cs39, ci39, fi39⟩ := HN39.out.get
    cases hG : Jsp.isIn [48, 49, 50, 51, 52, 53, 54, 55, 56, 57, 95] s (N + 1) with
    | false =>
     have HG := hide hG
     have HNL := hide (show N + 1 <= s.length by omega)
     go_wp2_with fail
     refine (jIs [48, 49, 50, 51, 52, 53, 54, 55, 56, 57, 95] s (N + 1) _ Q _ HN39.out (by omega) (by omega)).mono ?_
     rintro e w1 ⟨rfl, rfl⟩
     rw [hG]
     clear hG
     go_wp2_with fail
     go_meet
     case rel => exact ⟨N + 1, HN39.out, HB39.out, HQ3.out.trans (Jsp.numC_plain HP.out HG.out), HNL.out⟩
    | true =>
     have HG := hide hG
     have hGl := Jsp.isIn_lt hG
     go_wp2_with fail
     refine (jIs [48, 49, 50, 51, 52, 53, 54, 55, 56, 57, 95] s (N + 1) _ Q _ HN39.out (by omega) (by omega)).mono ?_
     rintro e w1 ⟨rfl, rfl⟩
     rw [hG]
     clear hG
     obtain ⟨d1f, d2f, hdf⟩ : ∃ a b, Jsp.digits 10 (s.drop (N + 1)) = (a, b) := ⟨_, _, rfl⟩
     have hbdf := Jsp.digits_bound 10 s (N + 1) (by omega)
     rw [hdf] at hbdf
     simp only at hbdf
     obtain ⟨nf, hnf⟩ : ∃ a, N + 1 + d1f = a := ⟨_, rfl⟩
     have hgef : N + 1 <= nf := by omega
     have DGf := fun W => hide (jDig s (N + 1) 10 ((N : Int) + 1) (by omega) hdf hnf W (by omega) (by omega))
     rw [hnf] at hbdf
     have HDf := hide hdf
     have HNNf := hide hnf
     clear hdf hnf
     cases d2f with
     | false =>
      go_wp2_with fail
      refine (DGf _).out.mono ?_
      rintro e w1 ⟨rfl, nq40, rfl⟩
      have HN40 := hide (HN39.out.drewN nq40)
      have HB40 := hide (HB39.out.trans ((belowN _ nq40).mono (by have := HB39.out.size; have := HQ.out; omega)))
      obtain ⟨cs40, ci40, fi40⟩ := HN40.out.get
      generalize (wc.setCell ⟨Q + 1, 0, none⟩ (.int .i64 ((N : Int) + 1))).drewN nq40 = W40 at HN40 HB40 cs40 ci40 fi40 ⊢
      have HN41 := hide (HN40.out.set ((nf : Int)))
      have HB41 := hide (HB40.out.setCell (p := ⟨Q + 1, 0, none⟩) (show Q <= Q + 1 by omega) (.int .i64 ((nf : Int))))
      obtain ⟨cs41, ci41, fi41⟩ := HN41.out.get
      have HN42 := hide (HN41.out.set ((nf : Int)))
      have HB42 := hide (HB41.out.setCell (p := ⟨Q + 1, 0, none⟩) (show Q <= Q + 1 by omega) (.int .i64 ((nf : Int))))
      obtain ⟨cs42, ci42, fi42⟩ := HN42.out.get
      go_wp2_with fail
      refine bodyPost_ret (v := .tuple #[.int .i64 ((nf : Nat) : Int), .bool false]) (by simp [results, Tryz.results70, go_sem, ci42] <;> omega) rfl ?_
      exact (HFIN (HQ3.out.trans ((Jsp.numC_bad HP.out HG.out HDf.out).trans (by rw [HNNf.out]))) HB42.out rfl).out
     | true =>
      have HNL := hide (show nf <= s.length by omega)
      go_wp2_with fail
      refine (DGf _).out.mono ?_
      rintro e w1 ⟨rfl, nq43, rfl⟩
      have HN43 := hide (HN39.out.drewN nq43)
      have HB43 := hide (HB39.out.trans ((belowN _ nq43).mono (by have := HB39.out.size; have := HQ.out; omega)))
      obtain ⟨cs43, ci43, fi43⟩ := HN43.out.get
      generalize (wc.setCell ⟨Q + 1, 0, none⟩ (.int .i64 ((N : Int) + 1))).drewN nq43 = W43 at HN43 HB43 cs43 ci43 fi43 ⊢
      have HN44 := hide (HN43.out.set ((nf : Int)))
      have HB44 := hide (HB43.out.setCell (p := ⟨Q + 1, 0, none⟩) (show Q <= Q + 1 by omega) (.int .i64 ((nf : Int))))
      obtain ⟨cs44, ci44, fi44⟩ := HN44.out.get
      go_wp2_with fail
      go_meet
      case rel => exact ⟨nf, HN44.out, HB44.out, (HQ3.out.trans (Jsp.numC_dig HP.out HG.out HDf.out)).trans (by rw [HNNf.out]), HNL.out⟩
   case rest =>
    obtain ⟨M, HN4, HB4, HEQ, hMl⟩ := hcut
    have hMle := hMl.out
    clear HN3 HB3 cs3 ci3 fi3
    obtain ⟨cs4, ci4, fi4⟩ := HN4.out.get
    cases hE : Jsp.isIn [101, 69] s (M) with
    | false =>
     have HE := hide hE
     go_wp2_with fail
     refine (jIs [101, 69] s (M) _ Q _ HN4.out (by omega) (by omega)).mono ?_
     rintro e w1 ⟨rfl, rfl⟩
     rw [hE]
     clear hE
     have HN45 := hide (HN4.out.set ((M : Int)))
     have HB45 := hide (HB4.out.setCell (p := ⟨Q + 1, 0, none⟩) (show Q <= Q + 1 by omega) (.int .i64 ((M : Int))))
     obtain ⟨cs45, ci45, fi45⟩ := HN45.out.get
     go_wp2_with fail
     refine bodyPost_ret (v := .tuple #[.int .i64 ((M : Nat) : Int), .bool true]) (by simp [results, Tryz.results70, go_sem, ci45] <;> omega) rfl ?_
     exact (HFIN (HEQ.out.trans (Jsp.numD_no HE.out)) HB45.out rfl).out
    | true =>
     have HE := hide hE
     have hEl := Jsp.isIn_lt hE
     go_wp2_with fail
     refine (jIs [101, 69] s (M) _ Q _ HN4.out (by omega) (by omega)).mono ?_
     rintro e w1 ⟨rfl, rfl⟩
     rw [hE]
     clear hE
     have HN46 := hide (HN4.out.set ((M : Int) + 1))
     have HB46 := hide (HB4.out.setCell (p := ⟨Q + 1, 0, none⟩) (show Q <= Q + 1 by omega) (.int .i64 ((M : Int) + 1)))
     obtain ⟨cs46, ci46, fi46⟩ := HN46.out.get
     cases hS : Jsp.isIn [43, 45] s (M + 1) with
     | false =>
      have HS := hide hS
      go_wp2_with fail
      refine (jIs [43, 45] s (M + 1) _ Q _ HN46.out (by omega) (by omega)).mono ?_
      rintro e w1 ⟨rfl, rfl⟩
      rw [hS]
      clear hS
      obtain ⟨d1e, d2e, hde⟩ : ∃ a b, Jsp.digits 10 (s.drop (M + 1)) = (a, b) := ⟨_, _, rfl⟩
      have hbde := Jsp.digits_bound 10 s (M + 1) (by omega)
      rw [hde] at hbde
      simp only at hbde
      obtain ⟨ne, hne⟩ : ∃ a, M + 1 + d1e = a := ⟨_, rfl⟩
      have hgee : M + 1 <= ne := by omega
      have DGe := fun W => hide (jDig s (M + 1) 10 ((M : Int) + 1) (by omega) hde hne W (by omega) (by omega))
      rw [hne] at hbde
      have HDe := hide hde
      have HNNe := hide hne
      clear hde hne
      go_wp2_with fail
      refine (DGe _).out.mono ?_
      rintro e w1 ⟨rfl, nq47, rfl⟩
      have HN47 := hide (HN46.out.drewN nq47)
      have HB47 := hide (HB46.out.trans ((belowN _ nq47).mono (by have := HB46.out.size; have := HQ.out; omega)))
      obtain ⟨cs47, ci47, fi47⟩ := HN47.out.get
      generalize (wc.setCell ⟨Q + 1, 0, none⟩ (.int .i64 ((M : Int) + 1))).drewN nq47 = W47 at HN47 HB47 cs47 ci47 fi47 ⊢
      have HN48 := hide (HN47.out.set ((ne : Int)))
      have HB48 := hide (HB47.out.setCell (p := ⟨Q + 1, 0, none⟩) (show Q <= Q + 1 by omega) (.int .i64 ((ne : Int))))
      obtain ⟨cs48, ci48, fi48⟩ := HN48.out.get
      go_wp2_with fail
      refine bodyPost_ret (v := .tuple #[.int .i64 ((ne : Nat) : Int), .bool d2e]) (by simp [results, Tryz.results70, go_sem, ci48] <;> omega) rfl ?_
      exact (HFIN (HEQ.out.trans ((Jsp.numD_plain HE.out HS.out HDe.out).trans (by rw [HNNe.out]))) HB48.out rfl).out
     | true =>
      have HS := hide hS
      have hSl := Jsp.isIn_lt hS
      go_wp2_with fail
      refine (jIs [43, 45] s (M + 1) _ Q _ HN46.out (by omega) (by omega)).mono ?_
      rintro e w1 ⟨rfl, rfl⟩
      rw [hS]
      clear hS
      have HN49 := hide (HN46.out.set ((M : Int) + 1 + 1))
      have HB49 := hide (HB46.out.setCell (p := ⟨Q + 1, 0, none⟩) (show Q <= Q + 1 by omega) (.int .i64 ((M : Int) + 1 + 1)))
      obtain ⟨cs49, ci49, fi49⟩ := HN49.out.get
      obtain ⟨d1e, d2e, hde⟩ : ∃ a b, Jsp.digits 10 (s.drop (M + 2)) = (a, b) := ⟨_, _, rfl⟩
      have hbde := Jsp.digits_bound 10 s (M + 2) (by omega)
      rw [hde] at hbde
      simp only at hbde
      obtain ⟨ne, hne⟩ : ∃ a, M + 2 + d1e = a := ⟨_, rfl⟩
      have hgee : M + 2 <= ne := by omega
      have DGe := fun W => hide (jDig s (M + 2) 10 ((M : Int) + 1 + 1) (by omega) hde hne W (by omega) (by omega))
      rw [hne] at hbde
      have HDe := hide hde
      have HNNe := hide hne
      clear hde hne
      go_wp2_with fail
      refine (DGe _).out.mono ?_
      rintro e w1 ⟨rfl, nq50, rfl⟩
      have HN50 := hide (HN49.out.drewN nq50)
      have HB50 := hide (HB49.out.trans ((belowN _ nq50).mono (by have := HB49.out.size; have := HQ.out; omega)))
      obtain ⟨cs50, ci50, fi50⟩ := HN50.out.get
      generalize ((wc.setCell ⟨Q + 1, 0, none⟩ (.int .i64 ((M : Int) + 1))).setCell ⟨Q + 1, 0, none⟩ (.int .i64 ((M : Int) + 1 + 1))).drewN nq50 = W50 at HN50 HB50 cs50 ci50 fi50 ⊢
      have HN51 := hide (HN50.out.set ((ne : Int)))
      have HB51 := hide (HB50.out.setCell (p := ⟨Q + 1, 0, none⟩) (show Q <= Q + 1 by omega) (.int .i64 ((ne : Int))))
      obtain ⟨cs51, ci51, fi51⟩ := HN51.out.get
      go_wp2_with fail
      refine bodyPost_ret (v := .tuple #[.int .i64 ((ne : Nat) : Int), .bool d2e]) (by simp [results, Tryz.results70, go_sem, ci51] <;> omega) rfl ?_
      exact (HFIN (HEQ.out.trans ((Jsp.numD_sign HE.out HS.out HDe.out).trans (by rw [HNNe.out]))) HB51.out rfl).out
end Go.Proofs.YtngccmlcopcghaaGreatDoor
