/- The reference's one: its frame; the tail behind its switch. -/
import Derived.Test.YtngccmlcopcghaaGreatDoorXr
import Derived.Test.YtngccmlcopcghaaGreatDoorXs
import Derived.Test.YtngccmlcopcghaaGreatDoorXt
import Derived.Test.YtngccmlcopcghaaGreatDoorXw
import Derived.Test.YtngccmlcopcghaaGreatDoorXz
import Derived.Test.YtngccmlcopcghaaGreatDoorYa
set_option maxRecDepth 100000
set_option maxHeartbeats 8000000
namespace Go.Proofs.YtngccmlcopcghaaGreatDoor
namespace Jsp
open Go
theorem mark35 {s : List UInt8} (h : pt s = 35) : markOf s = none := by
 have h0 : s ≠ [] := fun e => by rw [e] at h; cases h
 obtain ⟨c, r, rfl, hc, _⟩ := pt_byte h0 (by omega)
 have hc35 : c = 35 := UInt8.toNat_inj.1 (by rw [hc, h]; rfl)
 subst hc35
 unfold markOf
 rw [List.find?_eq_none]
 have hm : ∀ m ∈ marks, m.head? ≠ some 35 /\ m ≠ [] := by decide
 intro m hmm
 obtain ⟨h1, h2⟩ := hm m hmm
 cases m with
 | nil => exact absurd rfl h2
 | cons x t =>
  have hx : x ≠ 35 := fun e => h1 (by rw [e]; rfl)
  simp [List.isPrefixOf, hx]
end Jsp
open Go.RowKit
def txVr : List UInt8 := [97, 119, 97, 105, 116, 32, 99, 97, 115, 101, 32, 100, 101, 108, 101, 116, 101, 32, 100, 111, 32, 101, 108, 115, 101, 32, 105, 110, 32, 105, 110, 115, 116, 97, 110, 99, 101, 111, 102, 32, 110, 101, 119, 32, 111, 102, 32, 114, 101, 116, 117, 114, 110, 32, 116, 104, 114, 111, 119, 32, 116, 121, 112, 101, 111, 102, 32, 118, 111, 105, 100, 32, 121, 105, 101, 108, 100]
theorem rAmongV (s : List UInt8) (w : World) : Calls Tryz.prog 53 #[S s, S txVr] w (Ret (.bool (Jsp.wordsOf Jsp.aheadV s)) w) := by
 rw [<- Jsp.among_words (W := txVr) (L := Jsp.aheadV) (by decide +kernel) (by decide)]
 exact rAmong s txVr w (by decide)
structure To (w w' : World) (b r q : Nat) (F : List UInt8) (a : Int) (k : List UInt8) (d : Bool) (l : List UInt8) (so : Bool) (e pl : Int) (fr : Fr) (x : Int) (t v : List UInt8) : Prop where
 ti : Ti w w' b r F a k d l so e pl fr
 tk : TkX w' q x t v
 qb : q ≠ b
 qr : q ≠ r
 ql : w.heap.size <= q
section
variable {w w' w2 : World} {b r q : Nat} {F k l t v : List UInt8} {a e pl x : Int} {d so : Bool} {fr : Fr}
theorem To.lt (h : To w w' b r q F a k d l so e pl fr x t v) : q < w'.heap.size := heap_lt h.tk
theorem To.below (h : To w w' b r q F a k d l so e pl fr x t v) (hb : Below w'.heap.size w' w2) : To w w2 b r q F a k d l so e pl fr x t v :=
 ⟨h.ti.below hb, h.tk.same (hb.block q h.lt), h.qb, h.qr, h.ql⟩
theorem To.drewN (h : To w w' b r q F a k d l so e pl fr x t v) (n : Nat) : To w (w'.drewN n) b r q F a k d l so e pl fr x t v := ⟨h.ti.drewN n, h.tk, h.qb, h.qr, h.ql⟩
theorem To.call {a2 : Int} {k2 : List UInt8} {d2 : Bool} {l2 : List UInt8} {so2 : Bool} {e2 pl2 : Int} {fr2 : Fr} (h : To w w' b r q F a k d l so e pl fr x t v) (hm : MB w2 b F a2 k2 d2 l2 so2 e2 pl2 fr2) (hk : Km b w' w2) : To w w2 b r q F a2 k2 d2 l2 so2 e2 pl2 fr2 x t v :=
 ⟨h.ti.call hm hk, h.tk.same (hk.block q h.lt (by simp; exact fun e => h.qb e)), h.qb, h.qr, h.ql⟩
theorem To.set1 (h : To w w' b r q F a k d l so e pl fr x t v) (y : Int) : To w (w'.setCell ⟨b, 1, none⟩ (.int .i64 y)) b r q F y k d l so e pl fr x t v := ⟨h.ti.set1 y, h.tk.same (setM_other _ h.qb _ _), h.qb, h.qr, h.ql⟩
theorem To.set3 (h : To w w' b r q F a k d l so e pl fr x t v) (y : Bool) : To w (w'.setCell ⟨b, 3, none⟩ (.bool y)) b r q F a k y l so e pl fr x t v := ⟨h.ti.set3 y, h.tk.same (setM_other _ h.qb _ _), h.qb, h.qr, h.ql⟩
theorem To.set4 (h : To w w' b r q F a k d l so e pl fr x t v) (y : List UInt8) : To w (w'.setCell ⟨b, 4, none⟩ (S y)) b r q F a k d y so e pl fr x t v := ⟨h.ti.set4 y, h.tk.same (setM_other _ h.qb _ _), h.qb, h.qr, h.ql⟩
theorem To.set5 (h : To w w' b r q F a k d l so e pl fr x t v) (y : Bool) : To w (w'.setCell ⟨b, 5, none⟩ (.bool y)) b r q F a k d l y e pl fr x t v := ⟨h.ti.set5 y, h.tk.same (setM_other _ h.qb _ _), h.qb, h.qr, h.ql⟩
theorem To.put (h : To w w' b r q F a k d l so e pl fr x t v) (x' : Int) (t' v' : List UInt8) : To w (tokW w' q x' t' v') b r q F a k d l so e pl fr x' t' v' := by
 have h' : w'.heap[q]? = some _ := h.tk
 exact ⟨((h.ti.other h.ql h.qb h.qr 0 _).other h.ql h.qb h.qr 1 _).other h.ql h.qb h.qr 2 _, by unfold TkX; simp [tokW, World.setCell, Array.getElem?_modify, h'], h.qb, h.qr, h.ql⟩
theorem To.start (h : Ti w w' b r F a k d l so e pl fr) : To w (w'.alloc (.cells tokC 29)) b r w'.heap.size F a k d l so e pl fr 0 [] [] :=
 ⟨h.below ((Below.refl _ w').alloc (Nat.le_refl _) _), heap_alloc_last _ _, Nat.ne_of_gt h.m.lt, Nat.ne_of_gt h.lt, h.km.size⟩
end
def OnR (w : World) (b r q : Nat) (F : List UInt8) (n : Nat) (st : Jsp.St) (wx : World) : Prop :=
 (∃ (x : Int) (t v : List UInt8) (er o : Nat) (a : Int) (k : List UInt8) (d : Bool) (l : List UInt8) (so : Bool) (fr : Fr), Jsp.next st (F.drop n) = .no er o /\ er ≠ 0 /\ To w wx b r q F a k d l so (er : Int) ((n + o : Nat) : Int) fr x t v) \/
 (∃ (x : Nat) (t v : List UInt8) (kk : Nat) (st2 : Jsp.St) (pl : Int) (fr : Fr), Jsp.next st (F.drop n) = .ok ⟨x, t, v⟩ kk st2 /\ To w wx b r q F ((n + kk : Nat) : Int) st2.stk (!st.goal) st.last st.some 0 pl fr (x : Int) t v /\ st2.some = true /\
  ((x = 1 /\ st2.last = t /\ st2.goal = Jsp.wordsOf Jsp.aheadV t) \/ (x ≠ 1 /\ st2.last = [] /\ st2.goal = (x == 7 || x == 8))))
def NxR (b : Nat) (F : List UInt8) (n : Nat) (st : Jsp.St) (w : World) (e : Ending) (w' : World) : Prop := match Jsp.next st (F.drop n) with
 | .no er o => ErP b F er (n + o) w e w'
 | .ok x k st2 => OkP b F (x.kind : Int) x.t x.v (n + k) st2.stk (!st2.goal) st2.last st2.some w e w'
def FinP (b : Nat) (F : List UInt8) (n : Nat) (st : Jsp.St) (w0 : World) (e : Ending) (w' : World) : Prop :=
 ∃ (x : Int) (t v : List UInt8) (a : Int) (k : List UInt8) (d : Bool) (l : List UInt8) (so : Bool) (er pl : Int) (fr : Fr), e = .returned (tokV x t v) /\ Km b w0 w' /\ MB w' b F a k d l so er pl fr /\ ∀ w wx r q, To w wx b r q F a k d l so er pl fr x t v -> OnR w b r q F n st wx
section
variable {b : Nat} {F : List UInt8} {n : Nat} {st : Jsp.St} {w0 w' : World} {e : Ending}
theorem ErP.fin {er o : Nat} (hnx : Jsp.next st (F.drop n) = .no er o) (h : ErP b F er (n + o) w0 e w') : FinP b F n st w0 e w' := by
 obtain ⟨x, t, v, he, hk, a, k, d, l, so, fr, hm⟩ := h
 exact ⟨x, t, v, a, k, d, l, so, _, _, fr, he, hk, hm, fun w wx r q h => .inl ⟨x, t, v, er, o, a, k, d, l, so, fr, hnx, Jsp.next_er hnx, h⟩⟩
theorem OkP.fin {x kk : Nat} {t v : List UInt8} {st2 : Jsp.St} (hnx : Jsp.next st (F.drop n) = .ok ⟨x, t, v⟩ kk st2) (hw : (x = 1 /\ st2.last = t /\ st2.goal = Jsp.wordsOf Jsp.aheadV t) \/ (x ≠ 1 /\ st2.last = [] /\ st2.goal = (x == 7 || x == 8)))
  (h : OkP b F (x : Int) t v (n + kk) st2.stk (!st.goal) st.last st.some w0 e w') : FinP b F n st w0 e w' := by
 obtain ⟨he, hk, pl, fr, hm⟩ := h
 exact ⟨x, t, v, _, _, _, _, _, _, pl, fr, he, hk, hm, fun w wx r q h => .inr ⟨x, t, v, kk, st2, pl, fr, hnx, h, Jsp.next_some hnx, hw⟩⟩
theorem NmP.fin (h0 : Jsp.begins (Jsp.pt (F.drop n)) = false) (h35 : ¬ Jsp.pt (F.drop n) = 35) (hd : Jsp.digit (Jsp.pt (F.drop n)) = true \/ (Jsp.pt (F.drop n) = 46 /\ Jsp.digit (Jsp.pt (F.drop (n + 1))) = true))
  (h : NmP b F n st.stk (!st.goal) st.last st.some w0 e w') : FinP b F n st w0 e w' := by
 have hnx := Jsp.nx_num (st := st) h0 h35 hd
 unfold NmP at h
 split at h
 ·rename_i q; rw [if_pos q] at hnx; exact ErP.fin (o := 0) hnx h
 ·rename_i q; rw [if_neg q] at hnx; exact OkP.fin hnx (.inr ⟨by decide, rfl, rfl⟩) h
theorem TxtP.fin (hx : Jsp.pt (F.drop n) = 34 \/ Jsp.pt (F.drop n) = 39) (h : TxtP b F n st.stk (!st.goal) st.last st.some w0 e w') : FinP b F n st w0 e w' := by
 have hnx := Jsp.nx_text (st := st) hx
 unfold TxtP at h
 cases hq : Jsp.quote (F.drop n) with
 | inl y =>
  rw [hq] at h hnx
  cases y with
  | no er o => exact ErP.fin hnx h
  | ok x k s => exact h.elim
 | inr y =>
  rw [hq] at h hnx
  exact OkP.fin hnx (.inr ⟨by decide, rfl, rfl⟩) h
theorem TmpP.fin (hx : Jsp.pt (F.drop n) = 96 \/ (Jsp.pt (F.drop n) = 125 /\ Jsp.top st = 36)) (h : TmpP b F n st w0 e w') : FinP b F n st w0 e w' := by
 have hnx := Jsp.nx_tmpl hx
 unfold TmpP at h
 cases hq : Jsp.tmpl st (F.drop n) with
 | no er o => rw [hq] at h hnx; exact ErP.fin hnx h
 | ok x k st2 =>
  rw [hq] at h hnx
  obtain ⟨_, f2, f3, f4⟩ := Jsp.tmpl_facts hq
  exact OkP.fin (x := x.kind) (t := x.t) (v := x.v) hnx (.inr ⟨f2, f3, f4⟩) h
theorem RxP.fin (hx : Jsp.pt (F.drop n) = 47) (hg : st.goal = true) (h : RxP b F n st.stk (!st.goal) st.last st.some w0 e w') : FinP b F n st w0 e w' := by
 have hnx := Jsp.nx_reg hx hg
 unfold RxP at h
 cases hq : Jsp.reg (F.drop (n + 1)) with
 | none => rw [hq] at h hnx; exact ErP.fin (o := 0) hnx h
 | some k =>
  rw [hq] at h hnx
  exact OkP.fin hnx (.inr ⟨by decide, rfl, rfl⟩) h
def MkF (b : Nat) (F : List UInt8) (n : Nat) (st : Jsp.St) (w0 : World) (e : Ending) (w' : World) : Prop :=
 ∃ (x : Int) (t v : List UInt8) (a : Int) (k : List UInt8) (d : Bool) (l : List UInt8) (so : Bool) (er pl : Int) (fr : Fr), e = .returned (tokV x t v) /\ Km b w0 w' /\ MB w' b F a k d l so er pl fr /\ ∀ w w2 fr', Km b w w2 -> MB w2 b F a k d t true er pl fr' -> NxR b F n st w (.returned (tokV x t v)) w2
theorem MkP.fin (hnx : Jsp.next st (F.drop n) = match Jsp.markOf (F.drop n) with
  | none => .no 170 0
  | some m => match Jsp.bracket st m with
   | none => .no 177 0
   | some st2 => .ok ⟨3, m, []⟩ m.length { st2 with last := m, some := true }) (h : MkP b F n st w0 e w') : MkF b F n st w0 e w' := by
 have her : ∀ er, Jsp.next st (F.drop n) = .no er 0 -> ErP b F er n w0 e w' -> MkF b F n st w0 e w' := by
  rintro er hn ⟨x, t, v, he, hk, a, k, d, l, so, fr, hm⟩
  refine ⟨x, t, v, a, k, d, l, so, _, _, fr, he, hk, hm, fun w w2 fr' h1 h2 => ?_⟩
  unfold NxR; rw [hn]
  exact ⟨x, t, v, rfl, h1, a, k, d, t, true, fr', h2⟩
 unfold MkP at h
 cases hm : Jsp.markOf (F.drop n) with
 | none => rw [hm] at h hnx; exact her 170 hnx h
 | some m =>
  rw [hm] at h hnx
  cases hb : Jsp.bracket st m with
  | none => simp only [hb] at h hnx; exact her 177 hnx h
  | some st2 =>
   simp only [hb] at h hnx
   obtain ⟨he, hk, pl, fr, hm2⟩ := h
   refine ⟨3, m, [], _, _, _, _, _, _, pl, fr, he, hk, hm2, fun w w2 fr' h1 h2 => ?_⟩
   unfold NxR; rw [hnx]
   exact ⟨rfl, h1, pl, fr', h2⟩
end
end Go.Proofs.YtngccmlcopcghaaGreatDoor
