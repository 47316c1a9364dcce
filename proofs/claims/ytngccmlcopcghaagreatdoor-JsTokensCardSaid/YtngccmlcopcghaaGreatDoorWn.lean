/- regex. -/
import Derived.Test.YtngccmlcopcghaaGreatDoorWl
import Derived.Test.YtngccmlcopcghaaGreatDoorQl
import Derived.Test.YtngccmlcopcghaaGreatDoorVc
import Derived.Test.YtngccmlcopcghaaGreatDoorWh
set_option maxRecDepth 100000
set_option maxHeartbeats 8000000
namespace Go.Proofs.YtngccmlcopcghaaGreatDoor
open Go.RowKit
def TmP (F : List UInt8) (B b a : Nat) (T : List UInt8) (st1 : Jsp.St) (kw kp : Nat) (ln : Bool) (w : World) (e : Ending) (w' : World) : Prop := match Jsp.raw 96 T with
 | .ends k => (match Jsp.cook true (T.take k) with
  | .inr o => PkN 172 (a + (o + 1)) B w e w'
  | .inl v => if Cssp.at_ T k = 96 then Lf (tokV (kw : Int) ((F.drop a).take (k + 2)) v) w B b F (a + (k + 2)) st1 ln e w'
   else if st1.stk.length = 200 then PkN 177 (a + (k + 1)) B w e w'
   else Lf (tokV (kp : Int) ((F.drop a).take (k + 3)) v) w B b F (a + (k + 3)) { st1 with stk := st1.stk ++ [36] } ln e w')
 | _ => PkN 176 a B w e w'
section
variable {F : List UInt8} {B b a : Nat} {T : List UInt8} {st1 : Jsp.St} {kw kp : Nat} {ln : Bool} {w : World} {e : Ending} {w' : World}
theorem TmP.open_ (hr : Jsp.raw 96 T = .script) (h : PkN 176 a B w e w') : TmP F B b a T st1 kw kp ln w e w' := by unfold TmP; rw [hr]; exact h
theorem TmP.bad {k o : Nat} (hr : Jsp.raw 96 T = .ends k) (hc : Jsp.cook true (T.take k) = .inr o) (h : PkN 172 (a + (o + 1)) B w e w') : TmP F B b a T st1 kw kp ln w e w' := by unfold TmP; rw [hr]; dsimp only; rw [hc]; exact h
theorem TmP.whole {k : Nat} {v : List UInt8} (hr : Jsp.raw 96 T = .ends k) (hc : Jsp.cook true (T.take k) = .inl v) (h96 : T[k]? = some 96) (h : Lf (tokV (kw : Int) ((F.drop a).take (k + 2)) v) w B b F (a + (k + 2)) st1 ln e w') : TmP F B b a T st1 kw kp ln w e w' := by
 unfold TmP; rw [hr]; dsimp only; rw [hc]; dsimp only
 rw [if_pos (by unfold Cssp.at_; rw [List.getD_eq_getElem?_getD, h96]; rfl)]; exact h
theorem TmP.full {k : Nat} {v : List UInt8} (hr : Jsp.raw 96 T = .ends k) (hc : Jsp.cook true (T.take k) = .inl v) (h96 : T[k]? = some 36) (hs : st1.stk.length = 200) (h : PkN 177 (a + (k + 1)) B w e w') : TmP F B b a T st1 kw kp ln w e w' := by
 unfold TmP; rw [hr]; dsimp only; rw [hc]; dsimp only
 rw [if_neg (by unfold Cssp.at_; rw [List.getD_eq_getElem?_getD, h96]; decide), if_pos hs]; exact h
theorem TmP.part {k : Nat} {v : List UInt8} (hr : Jsp.raw 96 T = .ends k) (hc : Jsp.cook true (T.take k) = .inl v) (h96 : T[k]? = some 36) (hs : ¬ st1.stk.length = 200) (h : Lf (tokV (kp : Int) ((F.drop a).take (k + 3)) v) w B b F (a + (k + 3)) { st1 with stk := st1.stk ++ [36] } ln e w') : TmP F B b a T st1 kw kp ln w e w' := by
 unfold TmP; rw [hr]; dsimp only; rw [hc]; dsimp only
 rw [if_neg (by unfold Cssp.at_; rw [List.getD_eq_getElem?_getD, h96]; decide), if_neg hs]; exact h
end
theorem get_from {F T : List UInt8} {k j : Nat} {c : UInt8} (hd : F.drop k = T) (h : T[j]? = some c) (hl : k + j < F.length) : F[k + j] = c := by
 subst hd
 rw [List.getElem?_drop, List.getElem?_eq_getElem hl] at h
 injection h
theorem jTemplA (F : List UInt8) (B b a : Nat) (T : List UInt8) (st : Jsp.St) (ln : Bool) (w : World) (h : Lx w B b F a st ln) (hstk : st.stk.length <= 200) (hT : F.drop a = 96 :: T) (hs : Jsp.Suf T) (hl : F.length <= 4190000) :
  Calls Tryz.prog 44 #[.pointer (some ⟨b, 0, none⟩)] w (TmP F B b a T st 6 7 ln w) := by
 have hB := h.leB
 have hlen : F.length = a + (T.length + 1) := by
  have := congrArg List.length hT
  rw [List.length_drop, List.length_cons] at this
  omega
 have hd1 : F.drop (a + 1) = T := by rw [<- List.drop_drop, hT]; rfl
 have hlt : a < F.length := by omega
 have hq : F[a] = 96 := by
  have := List.drop_eq_getElem_cons hlt
  rw [hT] at this
  injection this with e _
  exact e.symm
 obtain ⟨st1, hst1⟩ : ∃ s, s = st := ⟨_, rfl⟩
 have hs1 : st1.stk.length <= 200 := by rw [hst1]; exact hstk
 rw [<- hst1]
 obtain ⟨n1, n2, n3⟩ := tok_new h
 unfold tokC at n1 n2 n3
 have hRaw := fun W hW => hide (jRaw F B b a (a + 1) 96 st1 ln W hW (by omega) (by rw [hd1]; exact hs) (by omega))
 rw [hd1, Int.natCast_add, Int.natCast_one, show (((96 : UInt8).toNat : Int)) = 96 from rfl] at hRaw
 have hCk : ∀ j, j < T.length -> Jsp.walk (T.take j) = true -> Jsp.Suf (T.take j) -> ∀ W, Lx W B b F a st1 ln -> Hid (Calls Tryz.prog 72 #[.pointer (some ⟨b, 0, none⟩), .int .i64 ((a : Int) + 1), .int .i64 ((a + 1 + j : Nat) : Int), .bool true] W (CkP true (T.take j) (a + 1) W)) := fun j hj hw hsj W hW => by
  have hsub : (F.drop (a + 1)).take (a + 1 + j - (a + 1)) = T.take j := by rw [hd1, Nat.add_sub_cancel_left]
  have := jCookedT F B b a (a + 1) (a + 1 + j) st1 ln W hW (by omega) (by omega) (by rw [hsub]; exact hw) (by rw [hsub]; exact hsj) hl
  rw [hsub, Int.natCast_add a 1, Int.natCast_one] at this
  exact this
 have hCut : ∀ (st' : Jsp.St) j (Z : Int), a + j <= F.length -> ((a + j : Nat) : Int) = Z -> ∀ W, Lx W B b F a st' ln -> Hid (Calls Tryz.prog 67 #[.pointer (some ⟨b, 0, none⟩), .int .i64 Z] W (Lf (S ((F.drop a).take j)) W B b F (a + j) st' ln)) := fun st' j Z hj hZ W hW => by
  have := jCut F B b a (a + j) st' ln W hW (by omega) hj
  rw [Nat.add_sub_cancel_left, hZ] at this
  exact this
 have hS0 := fun (hw : Jsp.walk T = true) W hW => (jSoundAll F B b a (a + 1) (-1) st1 ln W hW (by omega) (by rw [hd1]; exact hw) (by rw [hd1]; exact hs) hl).mono (R' := SndP False W) fun e w' ⟨x, h1, h2, _⟩ => ⟨x, h1, h2, False.elim⟩
 have hW0 := fun (hw : Jsp.walk T = true) W hW => hide (jWithinT F B b a 176 a st1 ln W hW (by omega) (by omega) hl (hS0 hw))
 have hSl := fun (l : Nat) (hlt : l < T.length) (hw : Jsp.walk (T.take l) = true) (hsl : Jsp.Suf (T.take l)) (hww : l + 1 < T.length -> Jsp.walk T = true) (o : Bool) W (ho : o = false -> a + 1 + l + 1 < F.length) (hW : Lx W B b F a st1 ln) => show Calls Tryz.prog 63 #[.pointer (some ⟨b, 0, none⟩), .int .i64 ((a + 1 : Nat) : Int), .int .i64 ((a + 1 + l : Nat) : Int), .bool o] W (SndP False W) by
  cases o with
  | false => exact (jSoundAll F B b a (a + 1) ((a + 1 + l : Nat) : Int) st1 ln W hW (by omega) (by rw [hd1]; exact hww (by have := ho rfl; omega)) (by rw [hd1]; exact hs) hl).mono fun e w' ⟨x, h1, h2, _⟩ => ⟨x, h1, h2, False.elim⟩
  | true =>
   have hsub : (F.drop (a + 1)).take (a + 1 + l - (a + 1)) = T.take l := by rw [hd1, Nat.add_sub_cancel_left]
   exact (jSoundOpen F B b a (a + 1) (a + 1 + l) (by omega) (by omega) st1 ln W hW (by omega) (by rw [hsub]; exact hw) (by rw [hsub]; exact hsl) hl).mono fun e w' ⟨x, h1, h2, _⟩ => ⟨x, h1, h2, False.elim⟩
 have hWl := fun (l : Nat) (hlt : l < T.length) (hw : Jsp.walk (T.take l) = true) (hsl : Jsp.Suf (T.take l)) (hww : l + 1 < T.length -> Jsp.walk T = true) (hvl : Cssp.valid (T.drop (l + 1)) = true) W hW => hide (jWithinTL F B b a 176 a st1 ln W hW (by omega) (by omega) hl (a + 1 + l) (by omega) (by rw [show a + 1 + l + 1 = a + 1 + (l + 1) by omega, <- List.drop_drop, hd1]; exact hvl) (hSl l hlt hw hsl hww))
 have HRaw := hide hRaw
 have HCk := hide hCk
 have HCut := hide hCut
 have HW0 := hide hW0
 have HWl := hide hWl
 have HD1 := hide hd1
 have HSS := hide hs
 have HS1 := hide hs1
 have hTL : a + (T.length + 1) = F.length := hlen.symm
 clear hRaw hCk hCut hS0 hW0 hSl hWl hd1 hs hs1 hT hlen
 subst hst1
 obtain ⟨_, _, _, hx⟩ := id n1
 obtain ⟨c0, c1, -⟩ := hx.cells
 have b0 : (0 : Int) <= (a : Int) := by omega
 have b1 : (a : Int) < (F.length : Int) := by omega
 have HX := hide n1
 have HK := hide n2
 have HT3 := hide n3
 clear h n1 n2 n3 hx
 have HTL := hide hTL
 clear hTL
 go_enter Tryz.func44, Tryz.ntmps44
 go_wp2_with fail
 generalize (w.alloc (.cells #[.int .u8 0, S [], S []] 29)) = W1 at HX HK HT3 c0 c1 ⊢
 clear c0 c1 b0 b1
 go_wp2_with fail
 refine (HRaw.out _ HX.out).out.mono ?_
 rintro e w1 ⟨tp, last, rfl, hb1, hp⟩
 have H4 := hide (HK.out.fresh hB hb1)
 have H5 := hide (HX.out.below hb1)
 have H6 := hide ((hb1.block _ (heap_lt HT3.out)).trans HT3.out)
 clear hb1
 rcases hp with ⟨j, hr, htp, hpth⟩ | ⟨hr, _⟩ | ⟨hr, rfl, hlp⟩
 ·have hg := Jsp.raw_get hr
  have hj : j < T.length := by
   rcases hg with hg | ⟨_, hg, _⟩
   ·exact (List.getElem?_eq_some_iff.1 hg).1
   ·exact (List.getElem?_eq_some_iff.1 hg).1
  have hsj : Jsp.Suf (T.take j) := by
   rcases hg with hg | ⟨_, hg, _⟩
   ·exact Jsp.suf_take HSS.out hg (by decide)
   ·exact Jsp.suf_take HSS.out hg (by decide)
  have HC := HCk.out j hj (hpth.walk HSS.out) hsj _ H5.out
  obtain ⟨p, hp⟩ : ∃ p, a + 1 + j = p := ⟨_, rfl⟩
  rw [hp] at HC htp
  subst htp
  have HP0 := hide hp
  have hpl : p < F.length := by have := HTL.out; omega
  have HRR := hide hr
  have HG := hide hg
  have z0 : decide ((p : Int) < 0) = false := by rw [decide_eq_false_iff_not]; omega
  clear hpth hsj hp hr hg hj
  go_wp2_with fail
  refine HC.out.mono ?_
  rintro e w2 ⟨hb2, ⟨v, hv, rfl⟩ | ⟨o, ho, rfl⟩⟩
  ·have H7 := hide (H4.out.fresh hB hb2)
   have H8 := hide (H5.out.below hb2)
   have H9 := hide ((hb2.block _ (heap_lt H6.out)).trans H6.out)
   have HV := hide hv
   obtain ⟨_, _, _, hx⟩ := H8.out
   obtain ⟨d0, -⟩ := hx.cells
   have p0 : (0 : Int) <= (p : Int) := by omega
   have p1 : (p : Int) < (F.length : Int) := by omega
   clear hb2 hv hx z0 HC
   rcases HG.out with hg | ⟨_, hg, hg2⟩
   ·have hfp : F[p] = 96 := by
     have h1 := HP0.out
     subst h1
     exact get_from HD1.out hg hpl
    have HC2 := HCut.out st1 (j + 2) ((p : Int) + 1) (by have := HP0.out; omega) (by have := HP0.out; omega) _ H8.out
    have HG1 := hide hg
    clear hg
    go_wp2_with fail
    refine HC2.out.mono ?_
    rintro e w4 ⟨rfl, hl4, hk4⟩
    have hr4 := hk4.kept _ _ _ _ H9.out (by decide) (by decide)
    obtain ⟨t0, t1, t2, tf0, tf1, tf2⟩ := tok_cells hr4
    go_wp2_with fail
    obtain ⟨E1, E2⟩ := tok_end hl4 (H7.out.trans hk4) hB (Nat.le_refl _) hr4 6 ((F.drop a).take (j + 2)) v
    refine bodyPost_ret (v := tokV 6 _ v) (tok_ret Tryz.results44 _ w4 _ hr4 6 _ v rfl) rfl ?_
    exact TmP.whole HRR.out HV.out HG1.out ⟨rfl, E1, E2⟩
   ·have hfp : F[p] = 36 := by
     have h1 := HP0.out
     subst h1
     exact get_from HD1.out hg hpl
    have hj2 : j + 1 < T.length := (List.getElem?_eq_some_iff.1 hg2).1
    have HG1 := hide hg
    have HJ2 := hide hj2
    clear hg hg2 hj2
    by_cases hfull : st1.stk.length = 200
    ·have HPU := hide (show Calls Tryz.prog 73 #[.pointer (some ⟨b, 0, none⟩), .int .u8 36, .int .i64 (p : Int)] w2 (fun en w' => en = broke 177 p w0x /\ w2 = w') from jPushNo F B b a p 36 st1 ln w2 H8.out hfull)
     have HFL := hide hfull
     clear hfull
     go_wp2_with fail
     refine HPU.out.mono ?_
     rintro e w3 ⟨rfl, rfl⟩
     go_wp2_with fail
     exact ⟨rfl, TmP.full HRR.out HV.out HG1.out HFL.out (by rw [show a + (j + 1) = p by have := HP0.out; omega]; exact ⟨w0x, rfl, by decide, H7.out⟩)⟩
    ·have HPU := hide (show Calls Tryz.prog 73 #[.pointer (some ⟨b, 0, none⟩), .int .u8 36, .int .i64 (p : Int)] w2 (Lf (.tuple #[]) w2 B b F a { st1 with stk := st1.stk ++ [36] } ln) from jPushOk F B b a p 36 st1 ln w2 H8.out HS1.out hfull)
     have HFL := hide hfull
     have HCW := hide (fun W hW => HCut.out { st1 with stk := st1.stk ++ [36] } (j + 3) ((p : Int) + 2) (by have := HP0.out; have := HJ2.out; have := HTL.out; omega) (by have := HP0.out; omega) W hW)
     clear hfull
     go_wp2_with fail
     refine HPU.out.mono ?_
     rintro e w3 ⟨rfl, hl3, hk3⟩
     have HL3 := hide hl3
     have HK3 := hide hk3
     have HR3 := hide (hk3.kept _ _ _ _ H9.out (by decide) (by decide))
     clear hl3 hk3 d0
     go_wp2_with fail
     refine (HCW.out _ HL3.out).out.mono ?_
     rintro e w4 ⟨rfl, hl4, hk4⟩
     have hr4 := hk4.kept _ _ _ _ HR3.out (by decide) (by decide)
     obtain ⟨t0, t1, t2, tf0, tf1, tf2⟩ := tok_cells hr4
     go_wp2_with fail
     obtain ⟨E1, E2⟩ := tok_end hl4 ((H7.out.trans HK3.out).trans hk4) hB (Nat.le_refl _) hr4 7 ((F.drop a).take (j + 3)) v
     refine bodyPost_ret (v := tokV 7 _ v) (tok_ret Tryz.results44 _ w4 _ hr4 7 _ v rfl) rfl ?_
     exact TmP.part HRR.out HV.out HG1.out HFL.out ⟨rfl, E1, E2⟩
  ·have H7 := hide (H4.out.fresh hB hb2)
   have HO := hide ho
   clear hb2 ho HC z0
   go_wp2_with fail
   exact ⟨rfl, TmP.bad HRR.out HO.out (by rw [show a + (o + 1) = a + 1 + o by omega]; exact ⟨w0x, rfl, by decide, H7.out⟩)⟩
 ·exact absurd hr (Jsp.raw96_line T)
 ·have HRR := hide hr
  clear hr
  rcases hlp.ways HSS.out with ⟨rfl, h1, h2⟩ | ⟨l, rfl, h1, h2, h3, h4, h5⟩
  ·have HW := HW0.out h2 _ H5.out
   clear hlp h1 h2
   go_wp2_with fail
   refine HW.out.mono ?_
   rintro e w2 ⟨x, rfl, hx, hk⟩
   go_wp2_with fail
   exact ⟨rfl, TmP.open_ HRR.out ⟨x, rfl, hx, H4.out.trans hk⟩⟩
  ·have HW := HWl.out l h1 h2 h3 h4 h5 _ H5.out
   clear hlp h1 h2 h3 h4 h5
   generalize ((a + 1 + l : Nat) : Int) = Z at HW ⊢
   go_wp2_with fail
   refine HW.out.mono ?_
   rintro e w2 ⟨x, rfl, hx, hk⟩
   go_wp2_with fail
   exact ⟨rfl, TmP.open_ HRR.out ⟨x, rfl, hx, H4.out.trans hk⟩⟩
theorem jTemplB (F : List UInt8) (B b a : Nat) (T : List UInt8) (st : Jsp.St) (ln : Bool) (w : World) (h : Lx w B b F a st ln) (hstk : st.stk.length <= 200) (h0 : st.stk ≠ []) (hT : F.drop a = 125 :: T) (hs : Jsp.Suf T) (hl : F.length <= 4190000) :
  Calls Tryz.prog 44 #[.pointer (some ⟨b, 0, none⟩)] w (TmP F B b a T (Jsp.pop st) 9 8 ln w) := by
 have hB := h.leB
 have hlen : F.length = a + (T.length + 1) := by
  have := congrArg List.length hT
  rw [List.length_drop, List.length_cons] at this
  omega
 have hd1 : F.drop (a + 1) = T := by rw [<- List.drop_drop, hT]; rfl
 have hlt : a < F.length := by omega
 have hq : F[a] = 125 := by
  have := List.drop_eq_getElem_cons hlt
  rw [hT] at this
  injection this with e _
  exact e.symm
 obtain ⟨st1, hst1⟩ : ∃ s, s = (Jsp.pop st) := ⟨_, rfl⟩
 have hs1 : st1.stk.length <= 200 := by rw [hst1]; exact Nat.le_trans (by show st.stk.dropLast.length <= _; rw [List.length_dropLast]; exact Nat.sub_le _ _) hstk
 rw [<- hst1]
 obtain ⟨n1, n2, n3⟩ := tok_new h
 unfold tokC at n1 n2 n3
 have hRaw := fun W hW => hide (jRaw F B b a (a + 1) 96 st1 ln W hW (by omega) (by rw [hd1]; exact hs) (by omega))
 rw [hd1, Int.natCast_add, Int.natCast_one, show (((96 : UInt8).toNat : Int)) = 96 from rfl] at hRaw
 have hCk : ∀ j, j < T.length -> Jsp.walk (T.take j) = true -> Jsp.Suf (T.take j) -> ∀ W, Lx W B b F a st1 ln -> Hid (Calls Tryz.prog 72 #[.pointer (some ⟨b, 0, none⟩), .int .i64 ((a : Int) + 1), .int .i64 ((a + 1 + j : Nat) : Int), .bool true] W (CkP true (T.take j) (a + 1) W)) := fun j hj hw hsj W hW => by
  have hsub : (F.drop (a + 1)).take (a + 1 + j - (a + 1)) = T.take j := by rw [hd1, Nat.add_sub_cancel_left]
  have := jCookedT F B b a (a + 1) (a + 1 + j) st1 ln W hW (by omega) (by omega) (by rw [hsub]; exact hw) (by rw [hsub]; exact hsj) hl
  rw [hsub, Int.natCast_add a 1, Int.natCast_one] at this
  exact this
 have hCut : ∀ (st' : Jsp.St) j (Z : Int), a + j <= F.length -> ((a + j : Nat) : Int) = Z -> ∀ W, Lx W B b F a st' ln -> Hid (Calls Tryz.prog 67 #[.pointer (some ⟨b, 0, none⟩), .int .i64 Z] W (Lf (S ((F.drop a).take j)) W B b F (a + j) st' ln)) := fun st' j Z hj hZ W hW => by
  have := jCut F B b a (a + j) st' ln W hW (by omega) hj
  rw [Nat.add_sub_cancel_left, hZ] at this
  exact this
 have hS0 := fun (hw : Jsp.walk T = true) W hW => (jSoundAll F B b a (a + 1) (-1) st1 ln W hW (by omega) (by rw [hd1]; exact hw) (by rw [hd1]; exact hs) hl).mono (R' := SndP False W) fun e w' ⟨x, h1, h2, _⟩ => ⟨x, h1, h2, False.elim⟩
 have hW0 := fun (hw : Jsp.walk T = true) W hW => hide (jWithinT F B b a 176 a st1 ln W hW (by omega) (by omega) hl (hS0 hw))
 have hSl := fun (l : Nat) (hlt : l < T.length) (hw : Jsp.walk (T.take l) = true) (hsl : Jsp.Suf (T.take l)) (hww : l + 1 < T.length -> Jsp.walk T = true) (o : Bool) W (ho : o = false -> a + 1 + l + 1 < F.length) (hW : Lx W B b F a st1 ln) => show Calls Tryz.prog 63 #[.pointer (some ⟨b, 0, none⟩), .int .i64 ((a + 1 : Nat) : Int), .int .i64 ((a + 1 + l : Nat) : Int), .bool o] W (SndP False W) by
  cases o with
  | false => exact (jSoundAll F B b a (a + 1) ((a + 1 + l : Nat) : Int) st1 ln W hW (by omega) (by rw [hd1]; exact hww (by have := ho rfl; omega)) (by rw [hd1]; exact hs) hl).mono fun e w' ⟨x, h1, h2, _⟩ => ⟨x, h1, h2, False.elim⟩
  | true =>
   have hsub : (F.drop (a + 1)).take (a + 1 + l - (a + 1)) = T.take l := by rw [hd1, Nat.add_sub_cancel_left]
   exact (jSoundOpen F B b a (a + 1) (a + 1 + l) (by omega) (by omega) st1 ln W hW (by omega) (by rw [hsub]; exact hw) (by rw [hsub]; exact hsl) hl).mono fun e w' ⟨x, h1, h2, _⟩ => ⟨x, h1, h2, False.elim⟩
 have hWl := fun (l : Nat) (hlt : l < T.length) (hw : Jsp.walk (T.take l) = true) (hsl : Jsp.Suf (T.take l)) (hww : l + 1 < T.length -> Jsp.walk T = true) (hvl : Cssp.valid (T.drop (l + 1)) = true) W hW => hide (jWithinTL F B b a 176 a st1 ln W hW (by omega) (by omega) hl (a + 1 + l) (by omega) (by rw [show a + 1 + l + 1 = a + 1 + (l + 1) by omega, <- List.drop_drop, hd1]; exact hvl) (hSl l hlt hw hsl hww))
 have HRaw := hide hRaw
 have HCk := hide hCk
 have HCut := hide hCut
 have HW0 := hide hW0
 have HWl := hide hWl
 have HD1 := hide hd1
 have HSS := hide hs
 have HS1 := hide hs1
 have hTL : a + (T.length + 1) = F.length := hlen.symm
 clear hRaw hCk hCut hS0 hW0 hSl hWl hd1 hs hs1 hT hlen
 obtain ⟨ao, cap, lo, hx⟩ := id n1
 obtain ⟨c0, c1, c2, -⟩ := hx.cells
 have f2 := hx.frozen 2
 have b0 : (0 : Int) <= (a : Int) := by omega
 have b1 : (a : Int) < (F.length : Int) := by omega
 have hpos := List.length_pos_iff.2 h0
 obtain ⟨g, rfl, hcap, hcm⟩ := own_form hx.own rfl (fun e => h0 (List.eq_nil_of_length_eq_zero e))
 have HX5 := hide hx
 have HKB := hide n2
 have HTB := hide n3
 obtain ⟨N, hN⟩ : ∃ N, N = st.stk.length := ⟨_, rfl⟩
 obtain ⟨n, hn⟩ : ∃ n, N = n + 1 := ⟨N - 1, by omega⟩
 have hc2 := c2
 rw [<- hN] at hc2
 have hcap2 : N <= cap := by have := hcap; rw [hN]; exact this
 have hn0 : (0 : Int) <= (N : Int) - 1 := by omega
 have hncap : (N : Int) - 1 <= (cap : Int) := by omega
 have hn1 : N <= 200 := by omega
 have hsub : IntKind.i64.wrap ((N : Int) - 1) = (N : Int) - 1 := by rw [IntKind.wrap_i64]; omega
 have hto : ((N : Int) - 1).toNat = n := by omega
 have HP := hide (fun W (hx : LxV W B b F a (.slice (some ⟨g, 0, none⟩) st.stk.length cap) st ln lo) (e : st.stk.length = n + 1) => pop_own (k := st.stk) e (by have := hx.own; simpa only [e] using this))
 have HN := hide (hN.symm.trans hn)
 have HST := hide hst1
 have HTL := hide hTL
 clear h n1 n2 n3 hx c2 hn hcap hcap2 hN hpos h0 hstk hst1 hTL
 have hne : w.heap.size ≠ b := fun e => by
  have := HX5.out.at'
  rw [<- e, HTB.out] at this
  injection this with this
  injection this with _ this _
  exact absurd this (by decide)
 go_enter Tryz.func44, Tryz.ntmps44
 go_wp2_with fail
 generalize (w.alloc (.cells #[.int .u8 0, S [], S []] 29)) = W0 at HX5 HKB HTB HP c0 c1 hc2 f2 ⊢
 go_region
 have hx6 : LxV (W0.setCell ⟨b, 2, none⟩ (.slice (some ⟨g, 0, none⟩) n cap)).drew B b F a (.slice (some ⟨g, 0, none⟩) n cap) (Jsp.pop st) ln lo := (HX5.out.set2 (HP.out _ HX5.out HN.out)).drewN 1
 have hk6 : Kp B w (W0.setCell ⟨b, 2, none⟩ (.slice (some ⟨g, 0, none⟩) n cap)).drew := (HX5.out.kp HKB.out 2 (.slice (some ⟨g, 0, none⟩) n cap)).drewN 1
 have ht6 : (W0.setCell ⟨b, 2, none⟩ (.slice (some ⟨g, 0, none⟩) n cap)).drew.heap[w.heap.size]? = _ := (Below.heap_setCell W0 ⟨b, 2, none⟩ (.slice (some ⟨g, 0, none⟩) n cap) w.heap.size hne).trans HTB.out
 generalize (W0.setCell ⟨b, 2, none⟩ (.slice (some ⟨g, 0, none⟩) n cap)).drew = W1 at hx6 hk6 ht6 ⊢
 have HX := hide (show Lx W1 B b F a st1 ln by rw [HST.out]; exact hx6.lx)
 have HK := hide hk6
 have HT3 := hide ht6
 clear hx6 hk6 ht6 c0 c1 hc2 f2 b0 b1 hne hn0 hncap hn1 hsub hto hcm
 go_wp2_with fail
 refine (HRaw.out _ HX.out).out.mono ?_
 rintro e w1 ⟨tp, last, rfl, hb1, hp⟩
 have H4 := hide (HK.out.fresh hB hb1)
 have H5 := hide (HX.out.below hb1)
 have H6 := hide ((hb1.block _ (heap_lt HT3.out)).trans HT3.out)
 clear hb1
 rcases hp with ⟨j, hr, htp, hpth⟩ | ⟨hr, _⟩ | ⟨hr, rfl, hlp⟩
 ·have hg := Jsp.raw_get hr
  have hj : j < T.length := by
   rcases hg with hg | ⟨_, hg, _⟩
   ·exact (List.getElem?_eq_some_iff.1 hg).1
   ·exact (List.getElem?_eq_some_iff.1 hg).1
  have hsj : Jsp.Suf (T.take j) := by
   rcases hg with hg | ⟨_, hg, _⟩
   ·exact Jsp.suf_take HSS.out hg (by decide)
   ·exact Jsp.suf_take HSS.out hg (by decide)
  have HC := HCk.out j hj (hpth.walk HSS.out) hsj _ H5.out
  obtain ⟨p, hp⟩ : ∃ p, a + 1 + j = p := ⟨_, rfl⟩
  rw [hp] at HC htp
  subst htp
  have HP0 := hide hp
  have hpl : p < F.length := by have := HTL.out; omega
  have HRR := hide hr
  have HG := hide hg
  have z0 : decide ((p : Int) < 0) = false := by rw [decide_eq_false_iff_not]; omega
  clear hpth hsj hp hr hg hj
  go_wp2_with fail
  refine HC.out.mono ?_
  rintro e w2 ⟨hb2, ⟨v, hv, rfl⟩ | ⟨o, ho, rfl⟩⟩
  ·have H7 := hide (H4.out.fresh hB hb2)
   have H8 := hide (H5.out.below hb2)
   have H9 := hide ((hb2.block _ (heap_lt H6.out)).trans H6.out)
   have HV := hide hv
   obtain ⟨_, _, _, hx⟩ := H8.out
   obtain ⟨d0, -⟩ := hx.cells
   have p0 : (0 : Int) <= (p : Int) := by omega
   have p1 : (p : Int) < (F.length : Int) := by omega
   clear hb2 hv hx z0 HC
   rcases HG.out with hg | ⟨_, hg, hg2⟩
   ·have hfp : F[p] = 96 := by
     have h1 := HP0.out
     subst h1
     exact get_from HD1.out hg hpl
    have HC2 := HCut.out st1 (j + 2) ((p : Int) + 1) (by have := HP0.out; omega) (by have := HP0.out; omega) _ H8.out
    have HG1 := hide hg
    clear hg
    go_wp2_with fail
    refine HC2.out.mono ?_
    rintro e w4 ⟨rfl, hl4, hk4⟩
    have hr4 := hk4.kept _ _ _ _ H9.out (by decide) (by decide)
    obtain ⟨t0, t1, t2, tf0, tf1, tf2⟩ := tok_cells hr4
    go_wp2_with fail
    obtain ⟨E1, E2⟩ := tok_end hl4 (H7.out.trans hk4) hB (Nat.le_refl _) hr4 9 ((F.drop a).take (j + 2)) v
    refine bodyPost_ret (v := tokV 9 _ v) (tok_ret Tryz.results44 _ w4 _ hr4 9 _ v rfl) rfl ?_
    exact TmP.whole HRR.out HV.out HG1.out ⟨rfl, E1, E2⟩
   ·have hfp : F[p] = 36 := by
     have h1 := HP0.out
     subst h1
     exact get_from HD1.out hg hpl
    have hj2 : j + 1 < T.length := (List.getElem?_eq_some_iff.1 hg2).1
    have HG1 := hide hg
    have HJ2 := hide hj2
    clear hg hg2 hj2
    by_cases hfull : st1.stk.length = 200
    ·have HPU := hide (show Calls Tryz.prog 73 #[.pointer (some ⟨b, 0, none⟩), .int .u8 36, .int .i64 (p : Int)] w2 (fun en w' => en = broke 177 p w0x /\ w2 = w') from jPushNo F B b a p 36 st1 ln w2 H8.out hfull)
     have HFL := hide hfull
     clear hfull
     go_wp2_with fail
     refine HPU.out.mono ?_
     rintro e w3 ⟨rfl, rfl⟩
     go_wp2_with fail
     exact ⟨rfl, TmP.full HRR.out HV.out HG1.out HFL.out (by rw [show a + (j + 1) = p by have := HP0.out; omega]; exact ⟨w0x, rfl, by decide, H7.out⟩)⟩
    ·have HPU := hide (show Calls Tryz.prog 73 #[.pointer (some ⟨b, 0, none⟩), .int .u8 36, .int .i64 (p : Int)] w2 (Lf (.tuple #[]) w2 B b F a { st1 with stk := st1.stk ++ [36] } ln) from jPushOk F B b a p 36 st1 ln w2 H8.out HS1.out hfull)
     have HFL := hide hfull
     have HCW := hide (fun W hW => HCut.out { st1 with stk := st1.stk ++ [36] } (j + 3) ((p : Int) + 2) (by have := HP0.out; have := HJ2.out; have := HTL.out; omega) (by have := HP0.out; omega) W hW)
     clear hfull
     go_wp2_with fail
     refine HPU.out.mono ?_
     rintro e w3 ⟨rfl, hl3, hk3⟩
     have HL3 := hide hl3
     have HK3 := hide hk3
     have HR3 := hide (hk3.kept _ _ _ _ H9.out (by decide) (by decide))
     clear hl3 hk3 d0
     go_wp2_with fail
     refine (HCW.out _ HL3.out).out.mono ?_
     rintro e w4 ⟨rfl, hl4, hk4⟩
     have hr4 := hk4.kept _ _ _ _ HR3.out (by decide) (by decide)
     obtain ⟨t0, t1, t2, tf0, tf1, tf2⟩ := tok_cells hr4
     go_wp2_with fail
     obtain ⟨E1, E2⟩ := tok_end hl4 ((H7.out.trans HK3.out).trans hk4) hB (Nat.le_refl _) hr4 8 ((F.drop a).take (j + 3)) v
     refine bodyPost_ret (v := tokV 8 _ v) (tok_ret Tryz.results44 _ w4 _ hr4 8 _ v rfl) rfl ?_
     exact TmP.part HRR.out HV.out HG1.out HFL.out ⟨rfl, E1, E2⟩
  ·have H7 := hide (H4.out.fresh hB hb2)
   have HO := hide ho
   clear hb2 ho HC z0
   go_wp2_with fail
   exact ⟨rfl, TmP.bad HRR.out HO.out (by rw [show a + (o + 1) = a + 1 + o by omega]; exact ⟨w0x, rfl, by decide, H7.out⟩)⟩
 ·exact absurd hr (Jsp.raw96_line T)
 ·have HRR := hide hr
  clear hr
  rcases hlp.ways HSS.out with ⟨rfl, h1, h2⟩ | ⟨l, rfl, h1, h2, h3, h4, h5⟩
  ·have HW := HW0.out h2 _ H5.out
   clear hlp h1 h2
   go_wp2_with fail
   refine HW.out.mono ?_
   rintro e w2 ⟨x, rfl, hx, hk⟩
   go_wp2_with fail
   exact ⟨rfl, TmP.open_ HRR.out ⟨x, rfl, hx, H4.out.trans hk⟩⟩
  ·have HW := HWl.out l h1 h2 h3 h4 h5 _ H5.out
   clear hlp h1 h2 h3 h4 h5
   generalize ((a + 1 + l : Nat) : Int) = Z at HW ⊢
   go_wp2_with fail
   refine HW.out.mono ?_
   rintro e w2 ⟨x, rfl, hx, hk⟩
   go_wp2_with fail
   exact ⟨rfl, TmP.open_ HRR.out ⟨x, rfl, hx, H4.out.trans hk⟩⟩
def RgP (F : List UInt8) (B b a : Nat) (T : List UInt8) (st : Jsp.St) (ln : Bool) (w : World) (e : Ending) (w' : World) : Prop := match Jsp.reg T with
 | none => PkN 174 a B w e w'
 | some k => Lf (tokV 10 ((F.drop a).take (k + 2 + Jsp.name (F.drop (a + (k + 2))))) []) w B b F (a + (k + 2 + Jsp.name (F.drop (a + (k + 2))))) st ln e w'
theorem RgP.none' {F : List UInt8} {B b a : Nat} {T : List UInt8} {st : Jsp.St} {ln : Bool} {w : World} {e : Ending} {w' : World} (hr : Jsp.reg T = none) (h : PkN 174 a B w e w') : RgP F B b a T st ln w e w' := by unfold RgP; rw [hr]; exact h
theorem RgP.some' {F : List UInt8} {B b a : Nat} {T : List UInt8} {st : Jsp.St} {ln : Bool} {w : World} {e : Ending} {w' : World} {k : Nat} (hr : Jsp.reg T = some k) (h : Lf (tokV 10 ((F.drop a).take (k + 2 + Jsp.name (F.drop (a + (k + 2))))) []) w B b F (a + (k + 2 + Jsp.name (F.drop (a + (k + 2))))) st ln e w') : RgP F B b a T st ln w e w' := by unfold RgP; rw [hr]; exact h
theorem jRegex (F : List UInt8) (B b a : Nat) (T : List UInt8) (st : Jsp.St) (ln : Bool) (w : World) (h : Lx w B b F a st ln) (hT : F.drop a = 47 :: T) (hv : Cssp.valid T = true) (hl : F.length <= 4190000) :
  Calls Tryz.prog 45 #[.pointer (some ⟨b, 0, none⟩)] w (RgP F B b a T st ln w) := by
 have hB := h.leB
 have hlen : F.length = a + (T.length + 1) := by
  have := congrArg List.length hT
  rw [List.length_drop, List.length_cons] at this
  omega
 have hd1 : F.drop (a + 1) = T := by rw [<- List.drop_drop, hT]; rfl
 have hsz : (⟨T.toArray⟩ : ByteArray).size = T.length := bl_size T
 obtain ⟨n1, n2, n3⟩ := tok_new h
 unfold tokC at n1 n2 n3
 have hWR := fun cl W hW => hide (jWithinR F B b a 174 a cl st ln W hW (by omega) (by omega) hl)
 have hWL := fun cl l (hg : T[l]? = some 92) W hW => hide (jWithinRL F B b a 174 a cl st ln W hW (by omega) (by omega) hl (a + 1 + l) (by have := (List.getElem?_eq_some_iff.1 hg).1; omega) (by rw [show a + 1 + l + 1 = a + 1 + (l + 1) by omega, <- List.drop_drop, hd1]; exact (Jsp.Suf.of hv).valid_at hg (by decide)))
 have hNm : ∀ j, T[j]? = some 47 -> ∀ Z : Int, ((a + (j + 2) : Nat) : Int) = Z -> ∀ W, Lx W B b F a st ln -> Hid (Calls Tryz.prog 69 #[.pointer (some ⟨b, 0, none⟩), .int .i64 Z] W (Fresh (.int .i64 ((a + (j + 2) + Jsp.name (F.drop (a + (j + 2))) : Nat) : Int)) W)) := fun j hg Z hZ W hW => by
  have := jName F B b a (a + (j + 2)) st ln W hW (by have := (List.getElem?_eq_some_iff.1 hg).1; omega) (by rw [show a + (j + 2) = a + 1 + (j + 1) by omega, <- List.drop_drop, hd1]; exact (Jsp.Suf.of hv).valid_at hg (by decide)) (by omega)
  rw [hZ] at this
  exact this
 have hCut : ∀ j (Z : Int), a + j <= F.length -> ((a + j : Nat) : Int) = Z -> ∀ W, Lx W B b F a st ln -> Hid (Calls Tryz.prog 67 #[.pointer (some ⟨b, 0, none⟩), .int .i64 Z] W (Lf (S ((F.drop a).take j)) W B b F (a + j) st ln)) := fun j Z hj hZ W hW => by
  have := jCut F B b a (a + j) st ln W hW (by omega) hj
  rw [Nat.add_sub_cancel_left, hZ] at this
  exact this
 have HWR := hide hWR
 have HWL := hide hWL
 have HNm := hide hNm
 have HCut := hide hCut
 have HRG := hide (Jsp.RgI.start hv)
 obtain ⟨_, _, _, hx⟩ := id n1
 obtain ⟨c0, c1, -⟩ := hx.cells
 have b0 : (0 : Int) <= (a : Int) + 1 := by omega
 have b1 : (a : Int) + 1 <= (F.length : Int) := by omega
 have b2 : ((a : Int) + 1).toNat = a + 1 := by omega
 have hwr : wrap64 ((a : Int) + 1) = (a : Int) + 1 := by unfold wrap64; omega
 have hsub : F.drop (a + 1) = T := hd1
 have HX := hide n1
 have HK := hide n2
 have HT3 := hide n3
 have HLE := hide hlen
 have htk : List.take (F.length - (a + 1)) T = T := List.take_of_length_le (by omega)
 clear h n1 n2 n3 hx hT hd1 hv hlen hWR hWL hNm hCut
 go_enter Tryz.func45, Tryz.ntmps45
 go_wp2_with fail
 generalize hW1 : (w.alloc (.cells #[.int .u8 0, S [], S []] 29)) = W1 at HX HK HT3 c0 c1 ⊢
 go_region
 clear b0 b1 b2 hwr hsub htk
 have hit0 : (W1.drew.iter ⟨T.toArray⟩ 0).heap[W1.heap.size]? = some (.stringIter ⟨T.toArray⟩ 0) := World.iter_heap _ _ _
 have hbl0 : Below W1.heap.size W1 (W1.drew.iter ⟨T.toArray⟩ 0) := (Below.refl _ W1).drew.alloc (Nat.le_refl _) _
 have HIT := hide hit0
 have HBL := hide hbl0
 clear hit0 hbl0 c0 c1
 obtain ⟨W2, hw2⟩ : ∃ x, x = W1.drew.iter ⟨T.toArray⟩ 0 := ⟨_, rfl⟩
 obtain ⟨I, hI⟩ : ∃ I, I = W1.heap.size := ⟨_, rfl⟩
 rw [<- hw2, <- hI] at HIT HBL
 rw [<- hw2, <- hI]
 have HI := hide hI
 clear hw2 hI
 go_wp2_with fail
 go_loopg [3, 4, 5] T.length (fun g s3 s4 s5 wx => ∃ (j : Nat) (cl sk : Bool) (last : Int), j + g = T.length /\ s3 = .bool cl /\ s4 = .int .i64 last /\ s5 = .bool sk /\ Hid (wx.heap[I]? = some (.stringIter ⟨T.toArray⟩ j)) /\ Hid (Below I W1 wx) /\ Hid (Jsp.RgI T j cl sk) /\ Hid (last = -1 \/ ∃ l : Nat, last = ((a + 1 + l : Nat) : Int) /\ T[l]? = some 92))
 case atStart => exact ⟨0, false, false, -1, by omega, rfl, rfl, rfl, HIT.out, HBL.out, HRG.out, .inl rfl⟩
 case round =>
  obtain ⟨j, cl, sk, last, hj, rfl, rfl, rfl, hit, hbx, hrg, hla⟩ := hrel
  clear HIT HBL HRG
  have HXR := hide (HX.out.below (by rw [<- HI.out]; exact hbx.out))
  have HKR := hide (HK.out.fresh hB (by rw [<- HI.out]; exact hbx.out))
  have hTR : wr.heap[w.heap.size]? = _ := (hbx.out.block w.heap.size (by rw [HI.out]; exact heap_lt HT3.out)).trans HT3.out
  have HTR := hide hTR
  clear hTR
  by_cases hlt : j < T.length
  ·have h0 : T.drop j ≠ [] := fun e => by
    have := congrArg List.length e
    rw [List.length_drop, List.length_nil] at this
    omega
   have hd := Jsp.decode_at T j hrg.out.2.1 h0
   have hp : j < (⟨T.toArray⟩ : ByteArray).size := by rw [hsz]; exact hlt
   have hnx : ∀ ty, (Instr.next (.pointer (some ⟨I, 0, none⟩)) true ty).run Tryz.prog wr = _ := fun ty => Lib.run_next_any_at wr I ⟨T.toArray⟩ j ty hit.out hp
   rw [hd] at hnx
   have hpn := Jsp.pn_le h0
   rw [List.length_drop] at hpn
   obtain ⟨k, hk⟩ : ∃ k, Jsp.pn (T.drop j) = k := ⟨_, rfl⟩
   obtain ⟨r, hr⟩ : ∃ r, Jsp.pt (T.drop j) = r := ⟨_, rfl⟩
   rw [hr, hk] at hnx
   rw [hk] at hpn
   simp only at hnx
   have hit2 := Lib.iterAt_heap wr I ⟨T.toArray⟩ j (j + k) hit.out
   have hbx2 := Lib.below_iterAt hbx.out (k := I) (Nat.le_refl _) ⟨T.toArray⟩ (j + k)
   have haj : a + 1 + j < F.length := by have := HLE.out; omega
   have HLINE := hide (fun hl => hrg.out.line h0 (by rw [hr]; exact hl))
   have HSKIP := hide (fun (e : sk = true) hl => by have := (e ▸ hrg.out : Jsp.RgI T j cl true).skip h0 (by rw [hr]; exact hl); rw [hk] at this; exact this)
   have HBACK := hide (fun (e : sk = false) hl h92 => by have := (e ▸ hrg.out : Jsp.RgI T j cl false).back h0 (by rw [hr]; exact hl) (by rw [hr]; exact h92); rw [hk] at this; exact this)
   have HSTOP := hide (fun (e : sk = false) (e2 : cl = false) hl h47 => (show Jsp.RgI T j false false by have := hrg.out; rwa [e, e2] at this).stop h0 (by rw [hr]; exact hl) (by rw [hr]; exact h47))
   have HON := hide (fun (e : sk = false) hl h92 h47 => by have := (e ▸ hrg.out : Jsp.RgI T j cl false).on h0 (by rw [hr]; exact hl) (by rw [hr]; exact h92) (by rw [hr]; exact h47); rw [hk, hr] at this; exact this)
   have hLE := fun W => hide (jLineEnd r W)
   have HLA := hla
   clear hit hbx hd h0 hp HXR HKR HTR hk hr hla hrg
   go_wp2_with fail
   generalize wr.iterAt I ⟨T.toArray⟩ (j + k) = W3 at hit2 hbx2 ⊢
   have HXR := hide (HX.out.below (by rw [<- HI.out]; exact hbx2))
   have HKR := hide (HK.out.fresh hB (by rw [<- HI.out]; exact hbx2))
   have hTR : W3.heap[w.heap.size]? = _ := (hbx2.block w.heap.size (by rw [HI.out]; exact heap_lt HT3.out)).trans HT3.out
   have HTR := hide hTR
   have HIT := hide hit2
   have HBX := hide hbx2
   obtain ⟨_, _, _, hx⟩ := HXR.out
   obtain ⟨c0, c1, -⟩ := hx.cells
   clear hTR hit2 hbx2 hx
   refine (hLE _).out.mono ?_
   rintro e W4 ⟨rfl, rfl⟩
   cases hle : Jsp.lineEnd r with
   | true =>
    have hno := HLINE.out hle
    clear hle hLE
    go_wp2_with fail
    refine (jFail b 174 a _).mono ?_
    rintro e w2 ⟨rfl, rfl⟩
    go_wp2_with fail
    exact ⟨rfl, RgP.none' hno ⟨w0x, rfl, by decide, HKR.out⟩⟩
   | false =>
    have HLF := hide hle
    clear hle hLE
    cases sk with
    | true =>
     go_wp2_with fail
     go_roundg (T.length - (j + k))
     case measure => omega
     case rel => exact ⟨j + k, cl, false, last, by omega, rfl, rfl, rfl, HIT.out, HBX.out, HSKIP.out (by trivial) HLF.out, HLA.out⟩
    | false =>
     by_cases h92 : r = 92
     ·obtain ⟨hn, hg⟩ := HBACK.out (by trivial) HLF.out h92
      have HN := hide hn
      have HG := hide hg
      have q1 : ((r : Int) == 92) = true := by rw [h92]; rfl
      clear hn hg h92
      go_wp2_with fail
      go_quiet (fail)
      go_wp2_with fail
      go_roundg (T.length - (j + k))
      case measure => omega
      case rel => exact ⟨j + k, cl, true, _, by omega, rfl, rfl, rfl, HIT.out, HBX.out.trans ⟨rfl, rfl, rfl, Nat.le_refl _, fun _ _ => rfl⟩, HN.out, .inr ⟨j, by omega, HG.out⟩⟩
     ·have q1 : ((r : Int) == 92) = false := by rw [beq_eq_false_iff_ne]; omega
      have HN92 := hide h92
      clear h92
      by_cases h91 : r = 91
      ·have q2 : ((r : Int) == 91) = true := by rw [h91]; rfl
       have hn := HON.out (by trivial) HLF.out HN92.out (by omega)
       rw [if_pos h91] at hn
       have HN := hide hn
       clear hn h91
       go_wp2_with fail
       go_roundg (T.length - (j + k))
       case measure => omega
       case rel => exact ⟨j + k, true, false, last, by omega, rfl, rfl, rfl, HIT.out, HBX.out, HN.out, HLA.out⟩
      ·have q2 : ((r : Int) == 91) = false := by rw [beq_eq_false_iff_ne]; omega
       by_cases h93 : r = 93
       ·have q3 : ((r : Int) == 93) = true := by rw [h93]; rfl
        have hn := HON.out (by trivial) HLF.out HN92.out (by omega)
        rw [if_neg h91, if_pos h93] at hn
        have HN := hide hn
        clear hn h91 h93
        go_wp2_with fail
        go_roundg (T.length - (j + k))
        case measure => omega
        case rel => exact ⟨j + k, false, false, last, by omega, rfl, rfl, rfl, HIT.out, HBX.out, HN.out, HLA.out⟩
       ·have q3 : ((r : Int) == 93) = false := by rw [beq_eq_false_iff_ne]; omega
        have HON2 := hide (fun h47 => by have := HON.out (by trivial) HLF.out HN92.out h47; rw [if_neg h91, if_neg h93] at this; exact this)
        clear h91 h93
        by_cases h47 : r = 47
        ·have q4 : ((r : Int) == 47) = true := by rw [h47]; rfl
         cases cl with
         | true =>
          have HN := hide (HON2.out (by simp))
          clear h47
          go_wp2_with fail
          go_roundg (T.length - (j + k))
          case measure => omega
          case rel => exact ⟨j + k, true, false, last, by omega, rfl, rfl, rfl, HIT.out, HBX.out, HN.out, HLA.out⟩
         | false =>
          obtain ⟨hreg, hg⟩ := HSTOP.out (by trivial) (by trivial) HLF.out h47
          have HREG := hide hreg
          have HNM := hide (fun W hW => HNm.out j hg ((a : Int) + 1 + (j : Int) + 1) (by omega) W hW)
          have hjl := (List.getElem?_eq_some_iff.1 hg).1
          obtain ⟨_, _, _, hx⟩ := HXR.out
          have f7 := hx.frozen 7
          obtain ⟨-, -, -, -, -, -, -, c7⟩ := hx.cells
          have hx7 := fun z => (hx.set7 z).lx
          have hk7 := fun z => hx.kp HKR.out 7 (.int .i64 z)
          have HX7 := hide hx7
          have HK7 := hide hk7
          have hne : w.heap.size ≠ b := fun e => by
           have := hx.at'
           rw [<- e, HTR.out] at this
           injection this with this
           injection this with _ this _
           exact absurd this (by decide)
          have HT7 := hide (fun z => (Below.heap_setCell W3 ⟨b, 7, none⟩ (.int .i64 z) w.heap.size hne).trans HTR.out)
          clear hreg hg h47 hx hx7 hk7 hne hjl
          go_upto_region 18 with (fail)
          have HX5 := hide (HX7.out ((a : Int) + 1 + (j : Int)))
          have HK5 := hide (HK7.out ((a : Int) + 1 + (j : Int)))
          have HT5 := hide (HT7.out ((a : Int) + 1 + (j : Int)))
          generalize W3.setCell ⟨b, 7, none⟩ (.int .i64 ((a : Int) + 1 + (j : Int))) = W5 at HX5 HK5 HT5 ⊢
          have HN := hide (HNM.out _ HX5.out)
          obtain ⟨R, hR⟩ : ∃ R, Jsp.name (F.drop (a + (j + 2))) = R := ⟨_, rfl⟩
          have hRl := Jsp.run_le Jsp.goesOn _ (F.drop (a + (j + 2))) (Nat.le_refl _)
          rw [List.length_drop, show Jsp.run Jsp.goesOn (F.drop (a + (j + 2))) = R from hR] at hRl
          rw [hR] at HN
          have HRN := hide hR
          have HC := hide (fun W hW => HCut.out (j + 2 + R) ((a + (j + 2) + R : Nat) : Int) (by omega) (by omega) W hW)
          obtain ⟨_, _, _, hx⟩ := HX5.out
          obtain ⟨c0, c1, -⟩ := hx.cells
          clear hR hRl hx f7 c7 HX7 HK7 HT7 HNM
          go_wp2_with fail
          refine HN.out.out.mono ?_
          rintro e w6 ⟨rfl, hb6⟩
          have HX6 := HX5.out.below hb6
          have HK6 := hide (HK5.out.fresh hB hb6)
          have HT6 := hide ((hb6.block _ (heap_lt HT5.out)).trans HT5.out)
          have HC6 := HC.out _ HX6
          clear hb6 c0 c1 HX6
          go_wp2_with fail
          refine HC6.out.mono ?_
          rintro e w7 ⟨rfl, hl7, hk7⟩
          have hr7 := hk7.kept _ _ _ _ HT6.out (by decide) (by decide)
          obtain ⟨t0, t1, t2, tf0, tf1, tf2⟩ := tok_cells hr7
          go_wp2_with fail
          obtain ⟨E1, E2⟩ := tok_end hl7 (HK6.out.trans hk7) hB (Nat.le_refl _) hr7 10 ((F.drop a).take (j + 2 + R)) []
          refine bodyPost_ret (v := tokV 10 _ []) (tok_ret Tryz.results45 _ w7 _ hr7 10 _ [] rfl) rfl ?_
          exact RgP.some' HREG.out (by rw [HRN.out]; exact ⟨rfl, E1, E2⟩)
        ·have q4 : ((r : Int) == 47) = false := by rw [beq_eq_false_iff_ne]; omega
         have HN := hide (HON2.out (fun h => h47 h.1))
         clear h47
         go_wp2_with fail
         go_roundg (T.length - (j + k))
         case measure => omega
         case rel => exact ⟨j + k, cl, false, last, by omega, rfl, rfl, rfl, HIT.out, HBX.out, HN.out, HLA.out⟩
  ·obtain rfl : j = T.length := by omega
   have hnx : ∀ ty, (Instr.next (.pointer (some ⟨I, 0, none⟩)) true ty).run Tryz.prog wr = _ := fun ty => Lib.run_next_end_at wr I ⟨T.toArray⟩ T.length ty hit.out (by rw [hsz]; exact hlt)
   have HNO := hide hrg.out.end
   obtain ⟨_, _, _, hx⟩ := HXR.out
   obtain ⟨c0, c1, -⟩ := hx.cells
   clear hit hbx hrg hx
   rcases hla.out with rfl | ⟨l, rfl, hg⟩
   ·have HW := HWR.out cl _ HXR.out
    clear hla
    go_wp2_with fail
    refine HW.out.mono ?_
    rintro e w2 ⟨x, rfl, hx, hk⟩
    go_wp2_with fail
    exact ⟨rfl, RgP.none' HNO.out ⟨x, rfl, hx, HKR.out.trans hk⟩⟩
   ·have HW := HWL.out cl l hg _ HXR.out
    clear hla hg
    generalize ((a + 1 + l : Nat) : Int) = Z at HW ⊢
    go_wp2_with fail
    refine HW.out.mono ?_
    rintro e w2 ⟨x, rfl, hx, hk⟩
    go_wp2_with fail
    exact ⟨rfl, RgP.none' HNO.out ⟨x, rfl, hx, HKR.out.trans hk⟩⟩
end Go.Proofs.YtngccmlcopcghaaGreatDoor
