/- text: a string. -/
import Derived.Test.YtngccmlcopcghaaGreatDoorWj
import Derived.Test.YtngccmlcopcghaaGreatDoorQl
import Derived.Test.YtngccmlcopcghaaGreatDoorUa
import Derived.Test.YtngccmlcopcghaaGreatDoorUf
set_option maxRecDepth 100000
set_option maxHeartbeats 8000000
namespace Go.Proofs.YtngccmlcopcghaaGreatDoor
open Go.RowKit
theorem jTextEnds (F : List UInt8) (B b a j : Nat) (q : UInt8) (T v : List UInt8) (st : Jsp.St) (ln : Bool) (w : World) (h : Lx w B b F a st ln) (hT : F.drop a = q :: T) (hs : Jsp.Suf T) (hl : F.length <= 4190000) (hr : Jsp.raw q T = .ends j) (hj : j < T.length) (hsj : Jsp.Suf (T.take j)) (hc : Jsp.cook false (T.take j) = .inl v) :
  Calls Tryz.prog 42 #[.pointer (some ⟨b, 0, none⟩)] w (Lf (tokV 5 ((F.drop a).take (j + 2)) v) w B b F (a + (j + 2)) st ln) := by
 have hB := h.leB
 have hlen : F.length = a + (T.length + 1) := by
  have := congrArg List.length hT
  rw [List.length_drop, List.length_cons] at this
  omega
 have hd1 : F.drop (a + 1) = T := by rw [<- List.drop_drop, hT]; rfl
 have hlt : a < F.length := by omega
 have hq : F[a] = q := by
  have := List.drop_eq_getElem_cons hlt
  rw [hT] at this
  injection this with e _
  exact e.symm
 obtain ⟨n1, n2, n3⟩ := tok_new h
 unfold tokC at n1 n2 n3
 have hRaw := jRaw F B b a (a + 1) q st ln _ n1 (by omega) (by rw [hd1]; exact hs) (by omega)
 rw [hd1, Int.natCast_add, Int.natCast_one] at hRaw
 have HR := hide hRaw
 have hw : Jsp.walk (T.take j) = true \/ True := .inr trivial
 have hsub : (F.drop (a + 1)).take (a + 1 + j - (a + 1)) = T.take j := by rw [hd1, Nat.add_sub_cancel_left]
 have hCk := fun W hW (hwk : Jsp.walk (T.take j) = true) => hide (jCookedF F B b a (a + 1) (a + 1 + j) st ln W hW (by omega) (by omega) (by rw [hsub]; exact hwk) (by rw [hsub]; exact hsj) hl)
 rw [hsub, Int.natCast_add a 1, Int.natCast_one] at hCk
 have hCut := fun W hW => hide (jCut F B b a (a + (j + 2)) st ln W hW (by omega) (by omega))
 rw [Nat.add_sub_cancel_left] at hCut
 obtain ⟨Z, hZ⟩ : ∃ Z : Int, ((a + 1 + j : Nat) : Int) = Z := ⟨_, rfl⟩
 obtain ⟨Y, hY⟩ : ∃ Y : Int, ((a + (j + 2) : Nat) : Int) = Y := ⟨_, rfl⟩
 rw [hZ] at hCk
 rw [hY] at hCut
 have z1 : (Z == -1) = false := by rw [beq_eq_false_iff_ne]; omega
 have z2 : (Z == -2) = false := by rw [beq_eq_false_iff_ne]; omega
 have hsum : wrap64 (Z + 1) = Y := by unfold wrap64; omega
 have hsum2 : Z + 1 = Y := by omega
 have HS2 := hide hsum
 clear hsum2
 have HRR := hide hr
 have HCC := hide hc
 have HSS := hide hs
 have hqb := u8_lt q
 obtain ⟨_, _, _, hx⟩ := id n1
 obtain ⟨c0, c1, -⟩ := hx.cells
 have b0 : (0 : Int) <= (a : Int) := by omega
 have b1 : (a : Int) < (F.length : Int) := by omega
 have H1 := hide n1
 have H2 := hide n2
 have H3 := hide n3
 have HZ := hide hZ
 clear h n1 n2 n3 hx hRaw hT hd1 hw hsub hr hc hs hsj hj hZ hY hsum
 go_enter Tryz.func42, Tryz.ntmps42
 go_wp2_with fail
 refine HR.out.mono ?_
 rintro e w1 ⟨tp, last, rfl, hb1, hp⟩
 obtain ⟨rfl, hwk⟩ : tp = Z /\ Jsp.walk (T.take j) = true := by
  rcases hp with ⟨j', h1, h2, h3⟩ | ⟨h1, _⟩ | ⟨h1, _⟩
  ·rw [HRR.out] at h1
   injection h1 with h1
   subst h1
   exact ⟨h2.trans HZ.out, h3.walk HSS.out⟩
  ·rw [HRR.out] at h1; cases h1
  ·rw [HRR.out] at h1; cases h1
 have H4 := hide (H2.out.fresh hB hb1)
 have H5 := hide (H1.out.below hb1)
 have H6 := hide ((hb1.block _ (heap_lt H3.out)).trans H3.out)
 have HWK := hide hwk
 clear hb1 hp c0 c1 hwk
 go_wp2_with fail
 refine (hCk _ H5.out HWK.out).out.mono ?_
 rintro e w2 ⟨hb2, ⟨v', hv', rfl⟩ | ⟨o, ho, _⟩⟩
 ·rw [HCC.out] at hv'
  injection hv' with hv'
  subst hv'
  have H7 := hide (H4.out.fresh hB hb2)
  have H8 := hide (H5.out.below hb2)
  have H9 := hide ((hb2.block _ (heap_lt H6.out)).trans H6.out)
  clear hb2
  go_wp2_with fail
  rw [HS2.out]
  refine (hCut _ H8.out).out.mono ?_
  rintro e w4 ⟨rfl, hl4, hk4⟩
  have hr4 := hk4.kept _ _ _ _ H9.out (by decide) (by decide)
  obtain ⟨t0, t1, t2, tf0, tf1, tf2⟩ := tok_cells hr4
  go_wp2_with fail
  obtain ⟨E1, E2⟩ := tok_end hl4 (H7.out.trans hk4) hB (Nat.le_refl _) hr4 5 ((F.drop a).take (j + 2)) v
  refine bodyPost_ret (v := tokV 5 _ v) (tok_ret Tryz.results42 _ w4 _ hr4 5 _ v rfl) rfl ?_
  exact ⟨rfl, E1, E2⟩
 ·rw [HCC.out] at ho; cases ho
theorem jTextBad (F : List UInt8) (B b a j : Nat) (q : UInt8) (T : List UInt8) (o : Nat) (st : Jsp.St) (ln : Bool) (w : World) (h : Lx w B b F a st ln) (hT : F.drop a = q :: T) (hs : Jsp.Suf T) (hl : F.length <= 4190000) (hr : Jsp.raw q T = .ends j) (hj : j < T.length) (hsj : Jsp.Suf (T.take j)) (hc : Jsp.cook false (T.take j) = .inr o) :
  Calls Tryz.prog 42 #[.pointer (some ⟨b, 0, none⟩)] w (PkN 172 (a + (o + 1)) B w) := by
 have hB := h.leB
 have hlen : F.length = a + (T.length + 1) := by
  have := congrArg List.length hT
  rw [List.length_drop, List.length_cons] at this
  omega
 have hd1 : F.drop (a + 1) = T := by rw [<- List.drop_drop, hT]; rfl
 have hlt : a < F.length := by omega
 have hq : F[a] = q := by
  have := List.drop_eq_getElem_cons hlt
  rw [hT] at this
  injection this with e _
  exact e.symm
 obtain ⟨n1, n2, n3⟩ := tok_new h
 unfold tokC at n1 n2 n3
 have hRaw := jRaw F B b a (a + 1) q st ln _ n1 (by omega) (by rw [hd1]; exact hs) (by omega)
 rw [hd1, Int.natCast_add, Int.natCast_one] at hRaw
 have HR := hide hRaw
 have hw : Jsp.walk (T.take j) = true \/ True := .inr trivial
 have hsub : (F.drop (a + 1)).take (a + 1 + j - (a + 1)) = T.take j := by rw [hd1, Nat.add_sub_cancel_left]
 have hCk := fun W hW (hwk : Jsp.walk (T.take j) = true) => hide (jCookedF F B b a (a + 1) (a + 1 + j) st ln W hW (by omega) (by omega) (by rw [hsub]; exact hwk) (by rw [hsub]; exact hsj) hl)
 rw [hsub, Int.natCast_add a 1, Int.natCast_one] at hCk
 have hCut := fun W hW => hide (jCut F B b a (a + (j + 2)) st ln W hW (by omega) (by omega))
 rw [Nat.add_sub_cancel_left] at hCut
 obtain ⟨Z, hZ⟩ : ∃ Z : Int, ((a + 1 + j : Nat) : Int) = Z := ⟨_, rfl⟩
 obtain ⟨Y, hY⟩ : ∃ Y : Int, ((a + (j + 2) : Nat) : Int) = Y := ⟨_, rfl⟩
 rw [hZ] at hCk
 rw [hY] at hCut
 have z1 : (Z == -1) = false := by rw [beq_eq_false_iff_ne]; omega
 have z2 : (Z == -2) = false := by rw [beq_eq_false_iff_ne]; omega
 have hsum : wrap64 (Z + 1) = Y := by unfold wrap64; omega
 have hsum2 : Z + 1 = Y := by omega
 clear hsum2
 have HRR := hide hr
 have HCC := hide hc
 have HSS := hide hs
 have hqb := u8_lt q
 obtain ⟨_, _, _, hx⟩ := id n1
 obtain ⟨c0, c1, -⟩ := hx.cells
 have b0 : (0 : Int) <= (a : Int) := by omega
 have b1 : (a : Int) < (F.length : Int) := by omega
 have H1 := hide n1
 have H2 := hide n2
 have HZ := hide hZ
 clear h n1 n2 n3 hx hRaw hT hd1 hw hsub hr hc hs hsj hj hZ hY hsum
 go_enter Tryz.func42, Tryz.ntmps42
 go_wp2_with fail
 refine HR.out.mono ?_
 rintro e w1 ⟨tp, last, rfl, hb1, hp⟩
 obtain ⟨rfl, hwk⟩ : tp = Z /\ Jsp.walk (T.take j) = true := by
  rcases hp with ⟨j', h1, h2, h3⟩ | ⟨h1, _⟩ | ⟨h1, _⟩
  ·rw [HRR.out] at h1
   injection h1 with h1
   subst h1
   exact ⟨h2.trans HZ.out, h3.walk HSS.out⟩
  ·rw [HRR.out] at h1; cases h1
  ·rw [HRR.out] at h1; cases h1
 have H4 := hide (H2.out.fresh hB hb1)
 have H5 := hide (H1.out.below hb1)
 have HWK := hide hwk
 clear hb1 hp c0 c1 hwk
 go_wp2_with fail
 refine (hCk _ H5.out HWK.out).out.mono ?_
 rintro e w2 ⟨hb2, ⟨v', hv', _⟩ | ⟨o', ho, rfl⟩⟩
 ·rw [HCC.out] at hv'; cases hv'
 ·rw [HCC.out] at ho
  injection ho with ho
  subst ho
  have H7 := hide (H4.out.fresh hB hb2)
  clear hb2
  go_wp2_with fail
  exact ⟨rfl, w0x, by rw [show a + (o + 1) = a + 1 + o by omega], by decide, H7.out⟩
theorem jTextLine (F : List UInt8) (B b a : Nat) (q : UInt8) (T : List UInt8) (st : Jsp.St) (ln : Bool) (w : World) (h : Lx w B b F a st ln) (hT : F.drop a = q :: T) (hs : Jsp.Suf T) (hl : F.length <= 4190000) (hr : Jsp.raw q T = .line) :
  Calls Tryz.prog 42 #[.pointer (some ⟨b, 0, none⟩)] w (PkN 171 a B w) := by
 have hB := h.leB
 have hlen : F.length = a + (T.length + 1) := by
  have := congrArg List.length hT
  rw [List.length_drop, List.length_cons] at this
  omega
 have hd1 : F.drop (a + 1) = T := by rw [<- List.drop_drop, hT]; rfl
 have hlt : a < F.length := by omega
 have hq : F[a] = q := by
  have := List.drop_eq_getElem_cons hlt
  rw [hT] at this
  injection this with e _
  exact e.symm
 obtain ⟨n1, n2, n3⟩ := tok_new h
 unfold tokC at n1 n2 n3
 have hRaw := jRaw F B b a (a + 1) q st ln _ n1 (by omega) (by rw [hd1]; exact hs) (by omega)
 rw [hd1, Int.natCast_add, Int.natCast_one] at hRaw
 have HR := hide hRaw
 have HRR := hide hr
 have hqb := u8_lt q
 obtain ⟨_, _, _, hx⟩ := id n1
 obtain ⟨c0, c1, -⟩ := hx.cells
 have b0 : (0 : Int) <= (a : Int) := by omega
 have b1 : (a : Int) < (F.length : Int) := by omega
 have H2 := hide n2
 clear h n1 n2 n3 hx hRaw hT hd1 hr hs
 go_enter Tryz.func42, Tryz.ntmps42
 go_wp2_with fail
 refine HR.out.mono ?_
 rintro e w1 ⟨tp, last, rfl, hb1, hp⟩
 obtain rfl : tp = -2 := by
  rcases hp with ⟨j', h1, _, _⟩ | ⟨_, h2⟩ | ⟨h1, _⟩
  ·rw [HRR.out] at h1; cases h1
  ·exact h2
  ·rw [HRR.out] at h1; cases h1
 have H4 := hide (H2.out.fresh hB hb1)
 clear hb1 hp c0 c1
 go_wp2_with fail
 refine (jFail b 171 a _).mono ?_
 rintro e w2 ⟨rfl, rfl⟩
 go_wp2_with fail
 exact ⟨rfl, w0x, rfl, by decide, H4.out⟩
theorem jTextScript (F : List UInt8) (B b a : Nat) (q : UInt8) (T : List UInt8) (st : Jsp.St) (ln : Bool) (w : World) (h : Lx w B b F a st ln) (hT : F.drop a = q :: T) (hs : Jsp.Suf T) (hl : F.length <= 4190000) (hr : Jsp.raw q T = .script) :
  Calls Tryz.prog 42 #[.pointer (some ⟨b, 0, none⟩)] w (Pk 171 a (fun x => x.s ≠ 1 /\ ((92 : UInt8) ∉ T -> x = ⟨3, q.toNat, false, false, st.stk⟩)) B w) := by
 have hB := h.leB
 have hlen : F.length = a + (T.length + 1) := by
  have := congrArg List.length hT
  rw [List.length_drop, List.length_cons] at this
  omega
 have hd1 : F.drop (a + 1) = T := by rw [<- List.drop_drop, hT]; rfl
 have hlt : a < F.length := by omega
 have hq : F[a] = q := by
  have := List.drop_eq_getElem_cons hlt
  rw [hT] at this
  injection this with e _
  exact e.symm
 obtain ⟨n1, n2, n3⟩ := tok_new h
 unfold tokC at n1 n2 n3
 have hRaw := jRaw F B b a (a + 1) q st ln _ n1 (by omega) (by rw [hd1]; exact hs) (by omega)
 rw [hd1, Int.natCast_add, Int.natCast_one] at hRaw
 have HR := hide hRaw
 have HRR := hide hr
 have HSS := hide hs
 have hS0 := fun (hw : Jsp.walk T = true) W hW => (jSoundAll F B b a (a + 1) (-1) st ln W hW (by omega) (by rw [hd1]; exact hw) (by rw [hd1]; exact hs) hl).mono (R' := SndP ((92 : UInt8) ∉ T) W) fun e w' hp => by rw [hd1] at hp; exact hp
 have hW0 := fun (hw : Jsp.walk T = true) W hW => hide (jWithinS F B b a 171 a q.toNat st ln W hW ((92 : UInt8) ∉ T) (by omega) (hS0 hw))
 have hSl := fun (l : Nat) (hlt : l < T.length) (hw : Jsp.walk (T.take l) = true) (hsl : Jsp.Suf (T.take l)) (hww : l + 1 < T.length -> Jsp.walk T = true) (o : Bool) W (ho : o = false -> a + 1 + l + 1 < F.length) (hW : Lx W B b F a st ln) => show Calls Tryz.prog 63 #[.pointer (some ⟨b, 0, none⟩), .int .i64 ((a + 1 : Nat) : Int), .int .i64 ((a + 1 + l : Nat) : Int), .bool o] W (SndP False W) by
  cases o with
  | false => exact (jSoundAll F B b a (a + 1) ((a + 1 + l : Nat) : Int) st ln W hW (by omega) (by rw [hd1]; exact hww (by have := ho rfl; omega)) (by rw [hd1]; exact hs) hl).mono fun e w' ⟨x, h1, h2, _⟩ => ⟨x, h1, h2, False.elim⟩
  | true =>
   have hsub : (F.drop (a + 1)).take (a + 1 + l - (a + 1)) = T.take l := by rw [hd1, Nat.add_sub_cancel_left]
   exact (jSoundOpen F B b a (a + 1) (a + 1 + l) (by omega) (by omega) st ln W hW (by omega) (by rw [hsub]; exact hw) (by rw [hsub]; exact hsl) hl).mono fun e w' ⟨x, h1, h2, _⟩ => ⟨x, h1, h2, False.elim⟩
 have hWl := fun (l : Nat) (hlt : l < T.length) (hw : Jsp.walk (T.take l) = true) (hsl : Jsp.Suf (T.take l)) (hww : l + 1 < T.length -> Jsp.walk T = true) (hvl : Cssp.valid (T.drop (l + 1)) = true) W hW => hide (jWithinSL F B b a 171 a q.toNat st ln W hW (by omega) (by omega) hl (a + 1 + l) (by omega) (by rw [show a + 1 + l + 1 = a + 1 + (l + 1) by omega, <- List.drop_drop, hd1]; exact hvl) (hSl l hlt hw hsl hww))
 have HW0 := hide hW0
 have HWl := hide hWl
 have hqb := u8_lt q
 obtain ⟨_, _, _, hx⟩ := id n1
 obtain ⟨c0, c1, -⟩ := hx.cells
 have b0 : (0 : Int) <= (a : Int) := by omega
 have b1 : (a : Int) < (F.length : Int) := by omega
 have H1 := hide n1
 have H2 := hide n2
 clear h n1 n2 n3 hx hRaw hT hd1 hr hs hS0 hW0 hSl hWl
 go_enter Tryz.func42, Tryz.ntmps42
 go_wp2_with fail
 refine HR.out.mono ?_
 rintro e w1 ⟨tp, last, rfl, hb1, hp⟩
 obtain ⟨rfl, hlp⟩ : tp = -1 /\ Jsp.LastP T (a + 1) last := by
  rcases hp with ⟨j', h1, _, _⟩ | ⟨h1, _⟩ | ⟨_, h2, h3⟩
  ·rw [HRR.out] at h1; cases h1
  ·rw [HRR.out] at h1; cases h1
  ·exact ⟨h2, h3⟩
 have H4 := hide (H2.out.fresh hB hb1)
 have H5 := hide (H1.out.below hb1)
 clear hb1 hp c0 c1
 have h92 : last = -1 \/ (92 : UInt8) ∈ T := by
  rcases hlp with ⟨h1, _⟩ | ⟨l, _, _, h3, _⟩
  ·exact .inl h1
  ·exact .inr (List.mem_of_getElem? h3)
 rcases hlp.ways HSS.out with ⟨rfl, h1, h2⟩ | ⟨l, rfl, h1, h2, h3, h4, h5⟩
 ·have HW := HW0.out h2 _ H5.out
  clear hlp h1 h2 h92
  go_wp2_with fail
  refine HW.out.mono ?_
  rintro e w2 ⟨x, rfl, hx, hk⟩
  go_wp2_with fail
  exact ⟨rfl, x, rfl, hx, H4.out.trans hk⟩
 ·have HW := HWl.out l h1 h2 h3 h4 h5 _ H5.out
  have H92 := hide (show (92 : UInt8) ∈ T from h92.resolve_left (by omega))
  clear h92 hlp h1 h2 h3 h4 h5
  generalize ((a + 1 + l : Nat) : Int) = Z at HW ⊢
  go_wp2_with fail
  refine HW.out.mono ?_
  rintro e w2 ⟨x, rfl, hx, hk⟩
  go_wp2_with fail
  exact ⟨rfl, x, rfl, ⟨hx, fun hn => absurd H92.out hn⟩, H4.out.trans hk⟩
end Go.Proofs.YtngccmlcopcghaaGreatDoor
