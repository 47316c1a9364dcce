/- text.Normal; cooked; sound. -/
import Derived.Test.YtngccmlcopcghaaGreatDoorUc
import Derived.Test.YtngccmlcopcghaaGreatDoorSe
import Derived.Test.YtngccmlcopcghaaGreatDoorQl
set_option maxRecDepth 100000
set_option maxHeartbeats 8000000
namespace Go.Proofs.YtngccmlcopcghaaGreatDoor
open Go.RowKit
theorem ra_hlen (s old : List UInt8) (h1 : 1 <= old.length) (hl : s.length <= 4194304) : (⟨s.toArray⟩ : ByteArray).size + Lib.countB ⟨s.toArray⟩ ⟨old.toArray⟩ * (⟨([10] : List UInt8).toArray⟩ : ByteArray).size <= 140737488355328 := by
 have h := Lib.countB_mul_le ⟨old.toArray⟩ (by rw [bl_size]; exact h1) _ ⟨s.toArray⟩ (Nat.le_refl _)
 have h2 : Lib.countB ⟨s.toArray⟩ ⟨old.toArray⟩ <= Lib.countB ⟨s.toArray⟩ ⟨old.toArray⟩ * (⟨old.toArray⟩ : ByteArray).size := Nat.le_mul_of_pos_right _ (by rw [bl_size]; exact h1)
 rw [show (⟨([10] : List UInt8).toArray⟩ : ByteArray).size = 1 from rfl, Nat.mul_one]
 have h3 : (⟨s.toArray⟩ : ByteArray).size = s.length := bl_size s
 omega
theorem jNormal (s : List UInt8) (w : World) (ht : Tab w) (hl : s.length <= 4194304) : Calls Tryz.prog 120 #[S s] w (Fresh (S (Jsp.norm s)) w) := by
 obtain ⟨m, hm⟩ := ht.mx
 obtain ⟨t, hT⟩ : ∃ t, Lib.replaceAll s [13, 10] [10] = t := ⟨_, rfl⟩
 have htl : t.length <= s.length := by rw [<- hT]; exact Jsp.ra_len _ s (Nat.le_refl _)
 have H1 := hide (Tryz.strings_ReplaceAll ⟨s.toArray⟩ ⟨([13, 10] : List UInt8).toArray⟩ ⟨([10] : List UInt8).toArray⟩ m w (by rw [bl_size]; omega) hm (by decide) (ra_hlen s [13, 10] (by decide) hl))
 have hn : Lib.replaceAll t [13] [10] = Jsp.norm s := by rw [<- hT]; exact Jsp.norm_eq _ s (Nat.le_refl _)
 have H2 := fun W (h : W.cell? ⟨1, 0, none⟩ = some (.int .i64 m)) => hide (Tryz.strings_ReplaceAll ⟨t.toArray⟩ ⟨([13] : List UInt8).toArray⟩ ⟨([10] : List UInt8).toArray⟩ m W (by rw [bl_size]; omega) h (by decide) (ra_hlen t [13] (by decide) (by omega)))
 simp only [hT] at H1
 have H2' := fun W h => (by have := (H2 W h).out; simp only [hn] at this; exact hide this : Hid (Calls Tryz.prog 148 #[S t, S [13], S [10]] W fun e w' => e = .returned (S (Jsp.norm s)) /\ Below W.heap.size W w'))
 clear H2 hT htl hn
 go_enter Tryz.func120, Tryz.ntmps120
 go_wp2_with fail
 refine H1.out.mono ?_
 rintro e w1 ⟨rfl, hb⟩
 go_wp2_with fail
 refine (H2' w1 (cell_below hm hb)).out.mono ?_
 rintro e w2 ⟨rfl, hb2⟩
 go_wp2_with fail
 go_ret
 exact ⟨rfl, hb.trans (hb2.mono hb.size)⟩
theorem chr_len (v : Nat) : (Jsp.chr v).length <= 4 := by
 have h4 := Lib.runeCells_le (v : Int)
 rw [Lib.runeCells_length] at h4
 exact h4.2
theorem escape_len {s : List UInt8} (h0 : s ≠ []) {x : List UInt8} {n : Nat} (h : Jsp.escape s = some (x, n)) : x.length <= 4 := by
 unfold Jsp.escape at h
 split at h
 ·injection h with h
  injection h with h1 h2
  rw [<- h1]; simp
 ·by_cases c1 : Jsp.pt s = 120
  ·rw [if_pos c1] at h
   cases hx : Jsp.hexOf (s.drop 1) 2 with
   | none => rw [hx] at h; cases h
   | some v =>
    rw [hx] at h
    injection h with h
    injection h with h1 h2
    rw [<- h1]; exact chr_len v
  rw [if_neg c1] at h
  by_cases c2 : Jsp.pt s = 117
  ·rw [if_pos c2] at h
   unfold Jsp.unicode at h
   have pl : ∀ {v k : Nat}, (some (Jsp.chr v, k) : Option (List UInt8 × Nat)) = some (x, n) -> x.length <= 4 := fun h => by
    injection h with h
    injection h with h1 h2
    rw [<- h1]; exact chr_len _
   cases hu : Jsp.unit s with
   | none => rw [hu] at h; cases h
   | some y =>
    obtain ⟨v, m⟩ := y
    rw [hu] at h
    simp only at h
    split at h
    ·cases hu2 : Jsp.unit (s.drop (m + 1)) with
     | none => rw [hu2] at h; exact pl h
     | some y2 =>
      obtain ⟨w, k⟩ := y2
      rw [hu2] at h
      simp only at h
      split at h
      ·exact pl h
      ·exact pl h
    ·exact pl h
  rw [if_neg c2] at h
  by_cases c3 : Jsp.pt s = 48 /\ Jsp.isB (fun c => Jsp.digit c.toNat) (s.drop 1) = false
  ·rw [if_pos c3] at h
   injection h with h
   injection h with h1 h2
   rw [<- h1]; decide
  rw [if_neg c3] at h
  by_cases c4 : Jsp.digit (Jsp.pt s) = true
  ·rw [if_pos c4] at h; cases h
  rw [if_neg c4] at h
  by_cases c5 : ([13, 10] : List UInt8).isPrefixOf s = true
  ·rw [if_pos c5] at h
   injection h with h
   injection h with h1 h2
   rw [<- h1]; decide
  rw [if_neg c5] at h
  by_cases c6 : Jsp.lineEnd (Jsp.pt s) = true
  ·rw [if_pos c6] at h
   injection h with h
   injection h with h1 h2
   rw [<- h1]; decide
  ·rw [if_neg c6] at h
   injection h with h
   injection h with h1 h2
   rw [<- h1, List.length_take]
   have := (Cssp.piece_le s h0).2.2
   unfold Jsp.pn
   rw [if_neg h0]
   omega
structure CkI (t : Bool) (T cur acc : List UInt8) : Prop where
 eq : Jsp.cook t T = Jsp.mp acc (T.length - cur.length) (Jsp.cook t cur)
 wk : Jsp.walk cur = true
 sf : Jsp.Suf cur
 le : cur.length <= T.length
 ac : acc.length <= 4 * (T.length - cur.length)
theorem CkI.start {t : Bool} {T : List UInt8} (hw : Jsp.walk T = true) (hs : Jsp.Suf T) : CkI t T T [] := ⟨by rw [Nat.sub_self, Jsp.mp_nil], hw, hs, Nat.le_refl _, by simp⟩
theorem CkI.end {t : Bool} {T cur acc : List UInt8} (h : CkI t T cur acc) (hn : (92 : UInt8) ∉ cur) : Jsp.cook t T = .inl (acc ++ Jsp.nrm t cur) := by
 rw [h.eq, Jsp.cook_plain t cur hn]; rfl
theorem CkI.rest {t : Bool} {T acc p r : List UInt8} (h : CkI t T (p ++ 92 :: r) acc) (hp : (92 : UInt8) ∉ p) : r ≠ [] /\ Cssp.valid r = true /\ Jsp.walk (r.drop (Jsp.skip r)) = true /\ Jsp.Suf r := by
 have hw := h.wk
 rw [Jsp.walk_pre _ _ hp] at hw
 obtain ⟨h1, h2⟩ := Jsp.walk_esc hw
 have hs : Jsp.Suf (92 :: r) := by
  have := h.sf.drop p.length
  rwa [List.drop_left] at this
 exact ⟨h1, hs.valid (by decide), h2, hs.tail⟩
theorem CkI.bad {t : Bool} {T acc p r : List UInt8} (h : CkI t T (p ++ 92 :: r) acc) (hp : (92 : UInt8) ∉ p) (he : Jsp.escape r = none) : Jsp.cook t T = .inr (T.length - (r.length + 1)) := by
 rw [h.eq, Jsp.cook_cut t p r hp, he]
 have := h.le
 rw [List.length_append, List.length_cons] at this ⊢
 show Sum.inr (p.length + _) = _
 congr 1
 omega
theorem CkI.next {t : Bool} {T acc p r : List UInt8} (h : CkI t T (p ++ 92 :: r) acc) (hp : (92 : UInt8) ∉ p) {x : List UInt8} {n : Nat} (he : Jsp.escape r = some (x, n)) :
  CkI t T (r.drop n) (acc ++ Jsp.nrm t p ++ x) /\ n <= r.length /\ 1 <= n := by
 obtain ⟨h0, hv, hw, hs⟩ := h.rest hp
 obtain ⟨e1, e2, e3⟩ := Jsp.escape_walk hv h0 he hw
 have hle := h.le
 have hac := h.ac
 have hx := escape_len h0 he
 have hnl := Jsp.nrm_len t p
 rw [List.length_append, List.length_cons] at hle hac
 refine ⟨⟨?_, e1, hs.drop n, by rw [List.length_drop]; omega, ?_⟩, e3, e2⟩
 ·rw [h.eq, Jsp.cook_cut t p r hp, he]
  simp only
  rw [Jsp.mp_mp, List.append_assoc]
  congr 1
  rw [List.length_append, List.length_cons, List.length_drop]
  omega
 ·rw [List.length_append, List.length_append, List.length_drop]
  omega
def CkP (t : Bool) (T : List UInt8) (k : Nat) (w : World) (e : Ending) (w' : World) : Prop :=
 Below w.heap.size w w' /\ ((∃ v, Jsp.cook t T = .inl v /\ e = .returned (S v)) \/ ∃ o, Jsp.cook t T = .inr o /\ e = broke 172 (k + o) w0x)
theorem jCookedF (F : List UInt8) (B b a k p : Nat) (st : Jsp.St) (ln : Bool) (w : World) (h : Lx w B b F a st ln) (hk : k <= p) (hp : p <= F.length) (hw : Jsp.walk ((F.drop k).take (p - k)) = true) (hs : Jsp.Suf ((F.drop k).take (p - k))) (hl : F.length <= 4190000) :
  Calls Tryz.prog 72 #[.pointer (some ⟨b, 0, none⟩), .int .i64 (k : Int), .int .i64 (p : Int), .bool false] w (CkP false ((F.drop k).take (p - k)) k w) := by
 obtain ⟨ao, cap, lo, h⟩ := h
 have ht := h.tab
 have h7 := ht.lt
 obtain ⟨c0, -⟩ := h.cells
 have b0 : (0 : Int) <= (k : Int) := by omega
 have b1 : (k : Int) <= (p : Int) := by omega
 have b2 : (p : Int) <= (F.length : Int) := by omega
 obtain ⟨T, hT⟩ : ∃ T, (F.drop k).take (p - k) = T := ⟨_, rfl⟩
 rw [hT] at hw hs ⊢
 have hTl : T.length = p - k := by rw [<- hT, List.length_take, List.length_drop]; omega
 have HST := hide (CkI.start (t := false) hw hs)
 have HBN := hide (bld_new w)
 have hal : Below w.heap.size w (w.alloc (.cells #[.pointer none, .slice none 0 0] 60)) := (Below.refl _ w).alloc (Nat.le_refl _) _
 have HAL := hide hal
 clear h hw hs hal
 go_enter Tryz.func72, Tryz.ntmps72
 go_wp2_with fail
 clear hT c0
 go_loopg [9] T.length (fun g s9 wx => ∃ cur acc : List UInt8, s9 = S cur /\ cur.length = g /\ Hid (Bld w.heap.size w.heap.size acc wx) /\ Hid (Below w.heap.size w wx) /\ Hid (CkI false T cur acc))
 case atStart => exact ⟨T, [], rfl, rfl, HBN.out, HAL.out, HST.out⟩
 case round =>
  obtain ⟨cur, acc, rfl, hcg, HBL, HB1, HI⟩ := hrel
  clear HST HBN HAL
  have hle := HI.out.le
  have hac := HI.out.ac
  have HT1 := hide (ht.below h7 HB1.out)
  have hC := fun W (hT : Tab W) => hide (sCut cur [92] W hT (by omega))
  rcases Jsp.cut_one 92 cur with ⟨n1, n2⟩ | ⟨q, r, n1, n2, n3⟩
  ·rw [n2] at hC
   have hfin := HI.out.end n1
   have HF := hide hfin
   have hnl := Jsp.nrm_len false cur
   clear n1 n2 hfin HI
   go_wp2_with fail
   refine (hC _ HT1.out).out.mono ?_
   rintro e w2 ⟨rfl, nq, rfl⟩
   have hbl := bld_below HBL.out (belowN wr nq)
   have hb2 := HB1.out.trans ((belowN wr nq).mono HB1.out.size)
   generalize wr.drewN nq = w2 at hbl hb2 ⊢
   have HBL := hide hbl
   have HB1 := hide hb2
   have HT1 := hide (ht.below h7 hb2)
   clear hbl hb2 hC
   go_wp2_with fail
   refine (writeString w.heap.size w.heap.size acc cur _ HBL.out HB1.out.size (by omega)).mono ?_
   rintro e w5 ⟨rfl, hbl5, hk5⟩
   have hb5 := HB1.out.trans hk5.below
   have HBL5 := hide (show Bld w.heap.size w.heap.size (acc ++ cur) w5 from .inr hbl5)
   clear hbl5 hk5 HBL
   go_wp2_with fail
   refine (stringO w.heap.size w.heap.size _ _ HBL5.out hb5.size).mono ?_
   rintro e w6 ⟨rfl, hb6, -⟩
   go_wp2_with fail
   go_ret
   exact ⟨hb5.trans hb6, .inl ⟨_, HF.out, rfl⟩⟩
  ·rw [n3] at hC
   subst n1
   obtain ⟨g1, g2, -, -⟩ := HI.out.rest n2
   have HN2 := hide n2
   rw [List.length_append, List.length_cons] at hcg hle hac
   have hql : q.length <= T.length := by omega
   have hrl : r.length <= 4190000 := by omega
   have hE := fun W (hT : Tab W) => hide (jEscape r W hT hT.lt g1 g2 hrl)
   have q0 : wrap64 ((p : Int) - (r.length : Int)) = (p : Int) - (r.length : Int) := by unfold wrap64; omega
   have q1 : wrap64 ((p : Int) - (r.length : Int) - 1) = (p : Int) - (r.length : Int) - 1 := by unfold wrap64; omega
   obtain ⟨P1, hP1⟩ : ∃ P1 : Int, (p : Int) - (r.length : Int) - 1 = P1 := ⟨_, rfl⟩
   clear n2 n3 g1 g2
   go_wp2_with fail
   refine (hC _ HT1.out).out.mono ?_
   rintro e w2 ⟨rfl, nq, rfl⟩
   have hbl := bld_below HBL.out (belowN wr nq)
   have hb2 := HB1.out.trans ((belowN wr nq).mono HB1.out.size)
   generalize wr.drewN nq = w2 at hbl hb2 ⊢
   have HBL := hide hbl
   have HB1 := hide hb2
   clear hbl hb2 hC
   go_wp2_with fail
   refine (writeString w.heap.size w.heap.size acc q _ HBL.out HB1.out.size (by omega)).mono ?_
   rintro e w5 ⟨rfl, hbl5, hk5⟩
   have hb5 := HB1.out.trans hk5.below
   have HBL5 := hide (show Bld w.heap.size w.heap.size (acc ++ q) w5 from .inr hbl5)
   have HT5 := hide (ht.below h7 hb5)
   clear hbl5 hk5 HBL HB1
   go_wp2_with fail
   refine (hE _ HT5.out).out.mono ?_
   rintro e w6 ⟨y, j, rfl, hb6, hj1, hj2⟩
   have hbl6 := bld_below HBL5.out hb6
   have hb7 := hb5.trans (hb6.mono hb5.size)
   have HBL6 := hide hbl6
   have HB7 := hide hb7
   clear hE hb6 hbl6 hb7 HBL5 HT5 hb5
   cases hx : Jsp.escape r with
   | none =>
    obtain rfl := hj1 hx
    have hbad := HI.out.bad HN2.out hx
    have HBAD := hide hbad
    have hpl : P1 = ((k + (T.length - (r.length + 1)) : Nat) : Int) := by omega
    have HPL := hide hpl
    clear hj1 hj2 hx hbad hpl HI
    go_wp2_with fail
    rw [HPL.out]
    refine (jFail b 172 _ _).mono ?_
    rintro e w8 ⟨rfl, rfl⟩
    go_wp2_with fail
    exact ⟨rfl, HB7.out, .inr ⟨_, HBAD.out, by rw [hTl]⟩⟩
   | some y2 =>
    obtain ⟨x, n⟩ := y2
    obtain ⟨rfl, rfl⟩ := hj2 x n hx
    obtain ⟨hN, hn1, hn2⟩ := HI.out.next HN2.out hx
    have hxl := escape_len (HI.out.rest HN2.out).1 hx
    have HNX := hide hN
    have n0 : (0 : Int) <= (n : Int) := by omega
    have n3 : (n : Int) <= (r.length : Int) := by omega
    have n4 : ¬ (n : Int) < 0 := by omega
    clear hj1 hj2 hx hN HI
    go_wp2_with fail
    refine (writeString w.heap.size w.heap.size (acc ++ q) y _ HBL6.out HB7.out.size (by rw [List.length_append]; omega)).mono ?_
    rintro e w8 ⟨rfl, hbl8, hk8⟩
    have HBL8 := hide (show Bld w.heap.size w.heap.size (acc ++ q ++ y) w8 from .inr hbl8)
    have HB8 := hide (HB7.out.trans hk8.below)
    clear hbl8 hk8 HBL6 HB7
    go_wp2_with fail
    go_roundg ((r.drop n).length)
    case measure => rw [List.length_drop]; omega
    case rel => exact ⟨r.drop n, _, rfl, rfl, HBL8.out, HB8.out, HNX.out⟩
theorem jCookedT (F : List UInt8) (B b a k p : Nat) (st : Jsp.St) (ln : Bool) (w : World) (h : Lx w B b F a st ln) (hk : k <= p) (hp : p <= F.length) (hw : Jsp.walk ((F.drop k).take (p - k)) = true) (hs : Jsp.Suf ((F.drop k).take (p - k))) (hl : F.length <= 4190000) :
  Calls Tryz.prog 72 #[.pointer (some ⟨b, 0, none⟩), .int .i64 (k : Int), .int .i64 (p : Int), .bool true] w (CkP true ((F.drop k).take (p - k)) k w) := by
 obtain ⟨ao, cap, lo, h⟩ := h
 have ht := h.tab
 have h7 := ht.lt
 obtain ⟨c0, -⟩ := h.cells
 have b0 : (0 : Int) <= (k : Int) := by omega
 have b1 : (k : Int) <= (p : Int) := by omega
 have b2 : (p : Int) <= (F.length : Int) := by omega
 obtain ⟨T, hT⟩ : ∃ T, (F.drop k).take (p - k) = T := ⟨_, rfl⟩
 rw [hT] at hw hs ⊢
 have hTl : T.length = p - k := by rw [<- hT, List.length_take, List.length_drop]; omega
 have HST := hide (CkI.start (t := true) hw hs)
 have HBN := hide (bld_new w)
 have hal : Below w.heap.size w (w.alloc (.cells #[.pointer none, .slice none 0 0] 60)) := (Below.refl _ w).alloc (Nat.le_refl _) _
 have HAL := hide hal
 clear h hw hs hal
 go_enter Tryz.func72, Tryz.ntmps72
 go_wp2_with fail
 clear hT c0
 go_loopg [9] T.length (fun g s9 wx => ∃ cur acc : List UInt8, s9 = S cur /\ cur.length = g /\ Hid (Bld w.heap.size w.heap.size acc wx) /\ Hid (Below w.heap.size w wx) /\ Hid (CkI true T cur acc))
 case atStart => exact ⟨T, [], rfl, rfl, HBN.out, HAL.out, HST.out⟩
 case round =>
  obtain ⟨cur, acc, rfl, hcg, HBL, HB1, HI⟩ := hrel
  clear HST HBN HAL
  have hle := HI.out.le
  have hac := HI.out.ac
  have HT1 := hide (ht.below h7 HB1.out)
  have hC := fun W (hT : Tab W) => hide (sCut cur [92] W hT (by omega))
  rcases Jsp.cut_one 92 cur with ⟨n1, n2⟩ | ⟨q, r, n1, n2, n3⟩
  ·rw [n2] at hC
   have hfin := HI.out.end n1
   have HF := hide hfin
   have hnl := Jsp.nrm_len true cur
   clear n1 n2 hfin HI
   go_wp2_with fail
   refine (hC _ HT1.out).out.mono ?_
   rintro e w2 ⟨rfl, nq, rfl⟩
   have hbl := bld_below HBL.out (belowN wr nq)
   have hb2 := HB1.out.trans ((belowN wr nq).mono HB1.out.size)
   generalize wr.drewN nq = w2 at hbl hb2 ⊢
   have HBL := hide hbl
   have HB1 := hide hb2
   have HT1 := hide (ht.below h7 hb2)
   clear hbl hb2 hC
   go_wp2_with fail
   refine (jNormal cur _ HT1.out (by omega)).mono ?_
   rintro e w3 ⟨rfl, hb3⟩
   have hbl := bld_below HBL.out hb3
   have hb4 := HB1.out.trans (hb3.mono HB1.out.size)
   have HBL := hide hbl
   have HB1 := hide hb4
   have HT1 := hide (ht.below h7 hb4)
   clear hb3 hbl hb4
   go_wp2_with fail
   refine (writeString w.heap.size w.heap.size acc (Jsp.norm cur) _ HBL.out HB1.out.size (by have := Jsp.norm_len false cur; unfold Jsp.norm; omega)).mono ?_
   rintro e w5 ⟨rfl, hbl5, hk5⟩
   have hb5 := HB1.out.trans hk5.below
   have HBL5 := hide (show Bld w.heap.size w.heap.size (acc ++ Jsp.norm cur) w5 from .inr hbl5)
   clear hbl5 hk5 HBL
   go_wp2_with fail
   refine (stringO w.heap.size w.heap.size _ _ HBL5.out hb5.size).mono ?_
   rintro e w6 ⟨rfl, hb6, -⟩
   go_wp2_with fail
   go_ret
   exact ⟨hb5.trans hb6, .inl ⟨_, HF.out, rfl⟩⟩
  ·rw [n3] at hC
   subst n1
   obtain ⟨g1, g2, -, -⟩ := HI.out.rest n2
   have HN2 := hide n2
   rw [List.length_append, List.length_cons] at hcg hle hac
   have hql : q.length <= T.length := by omega
   have hrl : r.length <= 4190000 := by omega
   have hE := fun W (hT : Tab W) => hide (jEscape r W hT hT.lt g1 g2 hrl)
   have q0 : wrap64 ((p : Int) - (r.length : Int)) = (p : Int) - (r.length : Int) := by unfold wrap64; omega
   have q1 : wrap64 ((p : Int) - (r.length : Int) - 1) = (p : Int) - (r.length : Int) - 1 := by unfold wrap64; omega
   obtain ⟨P1, hP1⟩ : ∃ P1 : Int, (p : Int) - (r.length : Int) - 1 = P1 := ⟨_, rfl⟩
   clear n2 n3 g1 g2
   go_wp2_with fail
   refine (hC _ HT1.out).out.mono ?_
   rintro e w2 ⟨rfl, nq, rfl⟩
   have hbl := bld_below HBL.out (belowN wr nq)
   have hb2 := HB1.out.trans ((belowN wr nq).mono HB1.out.size)
   generalize wr.drewN nq = w2 at hbl hb2 ⊢
   have HBL := hide hbl
   have HB1 := hide hb2
   have HT1 := hide (ht.below h7 hb2)
   clear hbl hb2 hC
   go_wp2_with fail
   refine (jNormal q _ HT1.out (by omega)).mono ?_
   rintro e w3 ⟨rfl, hb3⟩
   have hbl := bld_below HBL.out hb3
   have hb4 := HB1.out.trans (hb3.mono HB1.out.size)
   have HBL := hide hbl
   have HB1 := hide hb4
   clear hb3 hbl hb4
   go_wp2_with fail
   refine (writeString w.heap.size w.heap.size acc (Jsp.norm q) _ HBL.out HB1.out.size (by have := Jsp.norm_len false q; unfold Jsp.norm; omega)).mono ?_
   rintro e w5 ⟨rfl, hbl5, hk5⟩
   have hb5 := HB1.out.trans hk5.below
   have HBL5 := hide (show Bld w.heap.size w.heap.size (acc ++ Jsp.norm q) w5 from .inr hbl5)
   have HT5 := hide (ht.below h7 hb5)
   clear hbl5 hk5 HBL HB1
   go_wp2_with fail
   refine (hE _ HT5.out).out.mono ?_
   rintro e w6 ⟨y, j, rfl, hb6, hj1, hj2⟩
   have hbl6 := bld_below HBL5.out hb6
   have hb7 := hb5.trans (hb6.mono hb5.size)
   have HBL6 := hide hbl6
   have HB7 := hide hb7
   clear hE hb6 hbl6 hb7 HBL5 HT5 hb5
   cases hx : Jsp.escape r with
   | none =>
    obtain rfl := hj1 hx
    have hbad := HI.out.bad HN2.out hx
    have HBAD := hide hbad
    have hpl : P1 = ((k + (T.length - (r.length + 1)) : Nat) : Int) := by omega
    have HPL := hide hpl
    clear hj1 hj2 hx hbad hpl HI
    go_wp2_with fail
    rw [HPL.out]
    refine (jFail b 172 _ _).mono ?_
    rintro e w8 ⟨rfl, rfl⟩
    go_wp2_with fail
    exact ⟨rfl, HB7.out, .inr ⟨_, HBAD.out, by rw [hTl]⟩⟩
   | some y2 =>
    obtain ⟨x, n⟩ := y2
    obtain ⟨rfl, rfl⟩ := hj2 x n hx
    obtain ⟨hN, hn1, hn2⟩ := HI.out.next HN2.out hx
    have hxl := escape_len (HI.out.rest HN2.out).1 hx
    have HNX := hide hN
    have n0 : (0 : Int) <= (n : Int) := by omega
    have n3 : (n : Int) <= (r.length : Int) := by omega
    have n4 : ¬ (n : Int) < 0 := by omega
    clear hj1 hj2 hx hN HI
    go_wp2_with fail
    refine (writeString w.heap.size w.heap.size (acc ++ Jsp.norm q) y _ HBL6.out HB7.out.size (by rw [List.length_append]; have := Jsp.norm_len false q; unfold Jsp.norm; omega)).mono ?_
    rintro e w8 ⟨rfl, hbl8, hk8⟩
    have HBL8 := hide (show Bld w.heap.size w.heap.size (acc ++ Jsp.norm q ++ y) w8 from .inr hbl8)
    have HB8 := hide (HB7.out.trans hk8.below)
    clear hbl8 hk8 HBL6 HB7
    go_wp2_with fail
    go_roundg ((r.drop n).length)
    case measure => rw [List.length_drop]; omega
    case rel => exact ⟨r.drop n, _, rfl, rfl, HBL8.out, HB8.out, HNX.out⟩
def SnP (seg : List UInt8) (w : World) (e : Ending) (w' : World) : Prop := ∃ x, e = .returned (.bool x) /\ Below w.heap.size w w' /\ ((92 : UInt8) ∉ seg -> x = true)
theorem jSoundAll (F : List UInt8) (B b a k : Nat) (last : Int) (st : Jsp.St) (ln : Bool) (w : World) (h : Lx w B b F a st ln) (hk : k <= F.length) (hw : Jsp.walk (F.drop k) = true) (hs : Jsp.Suf (F.drop k)) (hl : F.length <= 4190000) :
  Calls Tryz.prog 63 #[.pointer (some ⟨b, 0, none⟩), .int .i64 (k : Int), .int .i64 last, .bool false] w (SnP (F.drop k) w) := by
 obtain ⟨ao, cap, lo, h⟩ := h
 have ht := h.tab
 have h7 := ht.lt
 obtain ⟨c0, -⟩ := h.cells
 have b0 : (0 : Int) <= (k : Int) := by omega
 have b1 : (k : Int) <= (F.length : Int) := by omega
 obtain ⟨T, hT⟩ : ∃ T, (F.drop k) = T := ⟨_, rfl⟩
 rw [hT] at hw hs ⊢
 have hTl : T.length <= F.length := by rw [<- hT]; rw [List.length_drop]; omega
 have HW := hide hw
 have HS := hide hs
 have HTT := hide hT
 clear h hw hs hT
 go_enter Tryz.func63, Tryz.ntmps63
 go_wp2_with fail
 clear c0
 go_loopg [9] T.length (fun g s9 wx => ∃ cur : List UInt8, s9 = S cur /\ cur.length = g /\ g <= T.length /\ Hid (Below w.heap.size w wx) /\ Hid (Jsp.walk cur = true) /\ Hid (Jsp.Suf cur) /\ Hid ((92 : UInt8) ∉ T -> (92 : UInt8) ∉ cur))
 case atStart => exact ⟨T, by rw [<- HTT.out], rfl, Nat.le_refl _, Below.refl _ _, HW.out, HS.out, fun h => h⟩
 case round =>
  obtain ⟨cur, rfl, hcg, hgT, HB1, HW1, HS1, HN⟩ := hrel
  clear HW HS
  have HT1 := hide (ht.below h7 HB1.out)
  have hC := fun W (hT : Tab W) => hide (sCut cur [92] W hT (by omega))
  rcases Jsp.cut_one 92 cur with ⟨n1, n2⟩ | ⟨q, r, n1, n2, n3⟩
  ·rw [n2] at hC
   clear n1 n2 HN HW1 HS1
   go_wp2_with fail
   refine (hC _ HT1.out).out.mono ?_
   rintro e w2 ⟨rfl, nq, rfl⟩
   have hb2 := HB1.out.trans ((belowN wr nq).mono HB1.out.size)
   clear hC
   go_wp2_with fail
   go_ret
   exact ⟨true, rfl, hb2, fun _ => rfl⟩
  ·rw [n3] at hC
   have hno : ¬ (92 : UInt8) ∉ T := fun h => HN.out h (by rw [n1]; simp)
   have hsuf : Jsp.Suf (92 :: r) := by
    have := HS1.out.drop q.length
    rwa [n1, List.drop_left] at this
   have hwk := HW1.out
   rw [n1, Jsp.walk_pre _ _ n2] at hwk
   obtain ⟨g1, g3⟩ := Jsp.walk_esc hwk
   have g2 := hsuf.valid (by decide)
   subst n1
   have HNO := hide hno
   have HG1 := hide g1
   have HG2 := hide g2
   have HG3 := hide g3
   have HSF := hide hsuf.tail
   rw [List.length_append, List.length_cons] at hcg
   have hE := fun W (hT : Tab W) => hide (jEscape r W hT hT.lt g1 g2 (by omega))
   clear n2 n3 g1 g2 g3 hno hwk hsuf HN HW1 HS1
   go_wp2_with fail
   refine (hC _ HT1.out).out.mono ?_
   rintro e w2 ⟨rfl, nq, rfl⟩
   have hb2 := HB1.out.trans ((belowN wr nq).mono HB1.out.size)
   generalize wr.drewN nq = w2 at hb2 ⊢
   have HB2 := hide hb2
   have HT2 := hide (ht.below h7 hb2)
   clear hb2 hC
   go_wp2_with fail
   refine (hE _ HT2.out).out.mono ?_
   rintro e w6 ⟨y, j, rfl, hb6, hj1, hj2⟩
   have HB3 := hide (HB2.out.trans (hb6.mono HB2.out.size))
   clear hE hb6 HB2 HT2
   cases hx : Jsp.escape r with
   | none =>
    obtain rfl := hj1 hx
    clear hj1 hj2 hx
    go_wp2_with fail
    go_ret
    exact ⟨false, rfl, HB3.out, fun h => absurd h HNO.out⟩
   | some y2 =>
    obtain ⟨x, n⟩ := y2
    obtain ⟨rfl, rfl⟩ := hj2 x n hx
    obtain ⟨e1, e2, e3⟩ := Jsp.escape_walk HG2.out HG1.out hx HG3.out
    have HE1 := hide e1
    have n0 : (0 : Int) <= (n : Int) := by omega
    have n3 : (n : Int) <= (r.length : Int) := by omega
    have n4 : ¬ (n : Int) < 0 := by omega
    clear hj1 hj2 hx e1
    go_wp2_with fail
    go_roundg ((r.drop n).length)
    case measure => rw [List.length_drop]; omega
    case rel => exact ⟨r.drop n, rfl, rfl, by rw [List.length_drop]; omega, HB3.out, HE1.out, HSF.out.drop n, fun h => absurd h HNO.out⟩
theorem jSoundOpen (F : List UInt8) (B b a k : Nat) (l : Nat) (hkl : k <= l) (hll : l <= F.length) (st : Jsp.St) (ln : Bool) (w : World) (h : Lx w B b F a st ln) (hk : k <= F.length) (hw : Jsp.walk ((F.drop k).take (l - k)) = true) (hs : Jsp.Suf ((F.drop k).take (l - k))) (hl : F.length <= 4190000) :
  Calls Tryz.prog 63 #[.pointer (some ⟨b, 0, none⟩), .int .i64 (k : Int), .int .i64 (l : Int), .bool true] w (SnP ((F.drop k).take (l - k)) w) := by
 obtain ⟨ao, cap, lo, h⟩ := h
 have ht := h.tab
 have h7 := ht.lt
 obtain ⟨c0, -⟩ := h.cells
 have b0 : (0 : Int) <= (k : Int) := by omega
 have b1 : (k : Int) <= (F.length : Int) := by omega
 have b2 : (k : Int) <= (l : Int) := by omega
 have b3 : (l : Int) <= (F.length : Int) := by omega
 obtain ⟨T, hT⟩ : ∃ T, ((F.drop k).take (l - k)) = T := ⟨_, rfl⟩
 rw [hT] at hw hs ⊢
 have hTl : T.length <= F.length := by rw [<- hT]; rw [List.length_take, List.length_drop]; omega
 have HW := hide hw
 have HS := hide hs
 clear h hw hs
 go_enter Tryz.func63, Tryz.ntmps63
 go_wp2_with fail
 clear hT c0
 go_loopg [9] T.length (fun g s9 wx => ∃ cur : List UInt8, s9 = S cur /\ cur.length = g /\ g <= T.length /\ Hid (Below w.heap.size w wx) /\ Hid (Jsp.walk cur = true) /\ Hid (Jsp.Suf cur) /\ Hid ((92 : UInt8) ∉ T -> (92 : UInt8) ∉ cur))
 case atStart => exact ⟨T, rfl, rfl, Nat.le_refl _, Below.refl _ _, HW.out, HS.out, fun h => h⟩
 case round =>
  obtain ⟨cur, rfl, hcg, hgT, HB1, HW1, HS1, HN⟩ := hrel
  clear HW HS
  have HT1 := hide (ht.below h7 HB1.out)
  have hC := fun W (hT : Tab W) => hide (sCut cur [92] W hT (by omega))
  rcases Jsp.cut_one 92 cur with ⟨n1, n2⟩ | ⟨q, r, n1, n2, n3⟩
  ·rw [n2] at hC
   clear n1 n2 HN HW1 HS1
   go_wp2_with fail
   refine (hC _ HT1.out).out.mono ?_
   rintro e w2 ⟨rfl, nq, rfl⟩
   have hb2 := HB1.out.trans ((belowN wr nq).mono HB1.out.size)
   clear hC
   go_wp2_with fail
   go_ret
   exact ⟨true, rfl, hb2, fun _ => rfl⟩
  ·rw [n3] at hC
   have hno : ¬ (92 : UInt8) ∉ T := fun h => HN.out h (by rw [n1]; simp)
   have hsuf : Jsp.Suf (92 :: r) := by
    have := HS1.out.drop q.length
    rwa [n1, List.drop_left] at this
   have hwk := HW1.out
   rw [n1, Jsp.walk_pre _ _ n2] at hwk
   obtain ⟨g1, g3⟩ := Jsp.walk_esc hwk
   have g2 := hsuf.valid (by decide)
   subst n1
   have HNO := hide hno
   have HG1 := hide g1
   have HG2 := hide g2
   have HG3 := hide g3
   have HSF := hide hsuf.tail
   rw [List.length_append, List.length_cons] at hcg
   have hE := fun W (hT : Tab W) => hide (jEscape r W hT hT.lt g1 g2 (by omega))
   clear n2 n3 g1 g2 g3 hno hwk hsuf HN HW1 HS1
   go_wp2_with fail
   refine (hC _ HT1.out).out.mono ?_
   rintro e w2 ⟨rfl, nq, rfl⟩
   have hb2 := HB1.out.trans ((belowN wr nq).mono HB1.out.size)
   generalize wr.drewN nq = w2 at hb2 ⊢
   have HB2 := hide hb2
   have HT2 := hide (ht.below h7 hb2)
   clear hb2 hC
   go_wp2_with fail
   refine (hE _ HT2.out).out.mono ?_
   rintro e w6 ⟨y, j, rfl, hb6, hj1, hj2⟩
   have HB3 := hide (HB2.out.trans (hb6.mono HB2.out.size))
   clear hE hb6 HB2 HT2
   cases hx : Jsp.escape r with
   | none =>
    obtain rfl := hj1 hx
    clear hj1 hj2 hx
    go_wp2_with fail
    go_ret
    exact ⟨false, rfl, HB3.out, fun h => absurd h HNO.out⟩
   | some y2 =>
    obtain ⟨x, n⟩ := y2
    obtain ⟨rfl, rfl⟩ := hj2 x n hx
    obtain ⟨e1, e2, e3⟩ := Jsp.escape_walk HG2.out HG1.out hx HG3.out
    have HE1 := hide e1
    have n0 : (0 : Int) <= (n : Int) := by omega
    have n3 : (n : Int) <= (r.length : Int) := by omega
    have n4 : ¬ (n : Int) < 0 := by omega
    clear hj1 hj2 hx e1
    go_wp2_with fail
    go_roundg ((r.drop n).length)
    case measure => rw [List.length_drop]; omega
    case rel => exact ⟨r.drop n, rfl, rfl, by rw [List.length_drop]; omega, HB3.out, HE1.out, HSF.out.drop n, fun h => absurd h HNO.out⟩
end Go.Proofs.YtngccmlcopcghaaGreatDoor
