/- name. -/
import Derived.Test.YtojgcangnkjmjaaGreatDoorI
import Derived.Test.YtojgcangnkjmjaaGreatDoorRun2
namespace Go.Proofs.YtojgcangnkjmjaaGreatDoor
open Go.RowKit

theorem owns_of_block {w w' : World} {base : Nat} {e : TypeId} {size : Nat} {v : Value} {n : Nat} {xs : List Value} (h : w.ownsRow base e size v n xs) (hg : ∀ g, v.ownBlock = some g → w'.heap[g]? = w.heap[g]?) : w'.ownsRow base e size v n xs := by
  refine ⟨h.1, ?_⟩
  rcases h.2 with hn | ⟨g, cap, cur, rfl, hb, hh, r⟩
  · exact .inl hn
  · exact .inr ⟨g, cap, cur, rfl, hb, (hg g rfl).trans hh, r⟩
/-- a Builder stays where only a block below it was written -/
theorem bld_upto {B b q : Nat} {bs : List UInt8} {w w' : World} (h : Bld B b bs w) (hu : Upto q w w') (hq : q < B) : Bld B b bs w' := by
  have keep : ∀ k cs (t : TypeId), w.heap[k]? = some (Obj.cells cs t (0, 0)) → B ≤ k → w'.heap[k]? = w.heap[k]? := fun k cs t hk hB => hu.2 k (heap_lt hk) (by omega)
  rcases h with ⟨hB, v, hb, hown, hne⟩ | ⟨hB, v, hb, hown, hne⟩
  · refine .inl ⟨hB, v, (keep _ _ _ hb hB).trans hb, owns_of_block hown fun g e => ?_, hne⟩
    obtain ⟨c, hc⟩ := ownsRow_kind hown g e
    exact keep g _ _ hc (hown.lt g e).1
  · refine .inr ⟨hB, v, (keep _ _ _ hb hB).trans hb, owns_of_block hown fun g e => ?_, hne⟩
    obtain ⟨c, hc⟩ := ownsRow_kind hown g e
    exact keep g _ _ hc (hown.lt g e).1
theorem bld_below {B b : Nat} {bs : List UInt8} {w w' : World} (h : Bld B b bs w) (hb : Below w.heap.size w w') : Bld B b bs w' := by
  rcases h with ⟨hB, v, hk, hown, hne⟩ | ⟨hB, v, hk, hown, hne⟩
  · exact .inl ⟨hB, v, (hb.block _ (heap_lt hk)).trans hk, owns_of_block hown fun g e => hb.block g (hown.lt g e).2, hne⟩
  · exact .inr ⟨hB, v, (hb.block _ (heap_lt hk)).trans hk, owns_of_block hown fun g e => hb.block g (hown.lt g e).2, hne⟩
theorem Lx.keep {w w' : World} {B b : Nat} {s t : List UInt8} {i o : Bool} (h : Lx w b s i o t) (hk : Below B w w') (hb : b < B) : Lx w' b s i o t := h.of_heap (hk.block b hb)

theorem Upto.keep {q : Nat} {w a c : World} (h : Upto q w a) (k : Below w.heap.size a c) : Upto q w c :=
  ⟨h.1.trans (k.mono (Nat.zero_le _)), fun i hi hq => (k.block i hi).trans (h.2 i hi hq)⟩
set_option maxRecDepth 100000 in
set_option maxHeartbeats 4000000 in
theorem name_ (s t : List UInt8) (b : Nat) (i o : Bool) (w : World) (h : Lx w b s i o t) (hl : s.length ≤ 1048576) :
    Calls Tryz.prog 74 #[.pointer (some ⟨b, 0, none⟩)] w fun e w' => ∃ t', Left (S (Cssp.name s).t) w b (s.drop (Cssp.name s).k) i (o || (Cssp.name s).o) t' e w' := by
  have hbl := bld_new w
  have hal := (Below.refl w.heap.size w).alloc (Nat.le_refl _) (.cells #[.pointer none, .slice none 0 0] 99)
  have hx1 := h.below hal
  have hlt := h.lt
  go_enter Tryz.func74, Tryz.ntmps74
  go_upto_region 2 with (fail)
  obtain ⟨w1, hw1⟩ : ∃ x, x = w.alloc (.cells #[.pointer none, .slice none 0 0] 99) := ⟨_, rfl⟩
  rw [← hw1] at hbl hal hx1 ⊢
  clear hw1 h
  have hnl := (Cssp.name_len s.length s (Nat.le_refl _))
  have HB0 := hide hbl
  have HX0 := hide hx1
  have HA0 := hide hal
  have hsz := hal.size
  clear hbl hal hx1
  go_wp2_with fail
  go_loopg [4] s.length (fun g _ wx => ∃ (l acc tt : List UInt8) (oo : Bool), l.length ≤ g ∧ g ≤ s.length ∧ Hid (Lx wx b l i oo tt) ∧ Hid (Bld w.heap.size w.heap.size acc wx) ∧ Hid (Upto b w wx) ∧
    Hid (acc ++ (Cssp.name l).t = (Cssp.name s).t ∧ l.drop (Cssp.name l).k = s.drop (Cssp.name s).k ∧ (oo || (Cssp.name l).o) = (o || (Cssp.name s).o)))
  case atStart => exact ⟨s, [], t, o, Nat.le_refl _, Nat.le_refl _, HX0.out, HB0.out, Upto.of_below HA0.out, by simp, rfl, rfl⟩
  case round =>
    obtain ⟨l, acc, tt, oo, hlg, hgs, hLx, hBld, hUp, hEq⟩ := hrel
    have hacc : acc.length ≤ 4194304 := by
      have := congrArg List.length hEq.out.1
      rw [List.length_append] at this
      omega
    have hll : l.length ≤ 1048576 := by omega
    have HW := hide (whileGoesOn l tt b i oo wr hLx.out (by omega))
    obtain ⟨n, hn⟩ : ∃ n, Cssp.run Cssp.goesOn l = n := ⟨_, rfl⟩
    have hnl2 := Cssp.run_le Cssp.goesOn l
    have hstop := Cssp.run_drop Cssp.goesOn l
    have hrun := Cssp.name_run l
    rw [hn] at HW hnl2 hstop hrun
    obtain ⟨m, hm⟩ : ∃ m, l.drop n = m := ⟨_, rfl⟩
    rw [hm] at HW hrun
    have hm0 : Hid (Cssp.isAt Cssp.goesOn m 0 = false) := by
      unfold Hid
      rw [← hm]
      unfold Cssp.isAt at hstop ⊢
      rw [List.getElem?_drop, Nat.add_zero]
      exact hstop
    have hml : m.length + n = l.length := by rw [← hm, List.length_drop]; omega
    have HRUN := hide hrun
    have HM := hide hm
    have htl : (l.take n).length ≤ 1048576 := by rw [List.length_take]; omega
    clear hstop hrun hm hn
    go_wp2_with fail
    refine HW.out.mono ?_
    rintro e w2 ⟨rfl, hLx2, hU2⟩
    have hB2 := bld_upto hBld.out hU2 hlt
    have hUp2 := hUp.out.trans hU2
    have HLX2 := hide hLx2
    have HUP2 := hide hUp2
    have HWS := hide (writeString w.heap.size w.heap.size acc (l.take n) w2 hB2 hUp2.size (by omega))
    clear HW hLx2 hU2 hB2 hUp2
    go_wp2_with fail
    refine HWS.out.mono ?_
    rintro e w3 ⟨rfl, hB3, hk3⟩
    have hLx3 := HLX2.out.keep hk3.below hlt
    have hUp3 := HUP2.out.keep hk3.below
    have HLX3 := hide hLx3
    have HUP3 := hide hUp3
    have HB3 := hide (p := Bld w.heap.size w.heap.size (acc ++ l.take n) w3) (.inr hB3)
    have HES := hide (escapeAt m tt b 0 i oo w3 hLx3 (by omega))
    clear HWS hB3 hk3 hLx3 hUp3 HLX2 HUP2
    go_wp2_with fail
    refine HES.out.mono ?_
    rintro e w4 ⟨rfl, rfl⟩
    clear HES
    cases hes : Cssp.escAt m 0 with
    | false =>
      have hfin : Hid (Cssp.name l = ⟨l.take n, n, false⟩) := by
        unfold Hid
        rw [HRUN.out, Cssp.name_stop hes hm0.out, List.append_nil, Nat.add_zero]
      have HST := hide (Tryz.Builder_String_any w.heap.size w.heap.size (acc ++ l.take n) w3 HB3.out HUP3.out.size)
      go_wp2_with fail
      refine HST.out.mono ?_
      rintro e w5 ⟨rfl, hb5⟩
      have hLx5 := hide (HLX3.out.keep hb5 hlt)
      have hUp5 := hide (HUP3.out.keep hb5)
      have hE := hEq.out
      rw [hfin.out] at hE
      obtain ⟨e1, e2, e3⟩ := hE
      have E1 := hide e1
      have E2 := hide e2
      have E3 := hide e3
      clear HST hb5 e1 e2 e3
      go_wp2_with fail
      go_ret
      refine ⟨tt, by rw [← E1.out]; rfl, ?_, hUp5.out⟩
      rw [← E2.out, ← E3.out, HM.out, Bool.or_false]
      exact hLx5.out
    | true =>
      have hm1 : 1 ≤ m.length := by
        obtain ⟨r, rfl, _⟩ := Cssp.escAt_some hes
        simp
      have HE := hide (escape_ m tt b i oo w3 HLX3.out hm1 (by omega))
      have hnext : Hid (Cssp.name l = ⟨l.take n ++ ((Cssp.esc m).t ++ (Cssp.name (m.drop (Cssp.esc m).k)).t), n + ((Cssp.esc m).k + (Cssp.name (m.drop (Cssp.esc m).k)).k), (Cssp.esc m).o || (Cssp.name (m.drop (Cssp.esc m).k)).o⟩) := by
        unfold Hid
        rw [HRUN.out, Cssp.name_esc hes]
      have hek := Cssp.esc_pos m
      have hel := Cssp.esc_len m
      have hel2 := hel.2 hm1
      obtain ⟨E, hE⟩ : ∃ E, Cssp.esc m = E := ⟨_, rfl⟩
      rw [hE] at HE hnext hek hel hel2
      have hel1 : E.t.length ≤ 4194304 := by omega
      clear hel hE
      go_wp2_with fail
      refine HE.out.mono ?_
      rintro e w5 ⟨rfl, hLx5, hU5⟩
      have hB5 := bld_upto HB3.out hU5 hlt
      have HLX5 := hide hLx5
      have HUP5 := hide (HUP3.out.trans hU5)
      have hlen2 : (acc ++ l.take n).length + E.t.length ≤ 140737488355328 := by rw [List.length_append]; omega
      have HWS := hide (writeString w.heap.size w.heap.size (acc ++ l.take n) E.t w5 hB5 HUP5.out.size hlen2)
      clear HE hLx5 hU5 hB5
      go_wp2_with fail
      refine HWS.out.mono ?_
      rintro e w6 ⟨rfl, hB6, hk6⟩
      have HLX6 := hide (HLX5.out.keep hk6.below hlt)
      have HUP6 := hide (HUP5.out.keep hk6.below)
      have HB6 := hide (p := Bld w.heap.size w.heap.size (acc ++ l.take n ++ E.t) w6) (.inr hB6)
      clear HWS hB6 hk6
      have hEE := hEq.out
      rw [hnext.out] at hEE
      have HEE := hide hEE
      clear hEE
      go_wp2_with fail
      go_roundg (gk - 1)
      case measure => omega
      case rel =>
        refine ⟨m.drop E.k, acc ++ l.take n ++ E.t, m, oo || E.o, ?_, by omega, HLX6.out, HB6.out, HUP6.out, ?_, ?_, ?_⟩
        · rw [List.length_drop]; omega
        · rw [← HEE.out.1]
          simp only [List.append_assoc]
        · rw [← HEE.out.2.1, ← HM.out, List.drop_drop, List.drop_drop]
        · rw [← HEE.out.2.2, Bool.or_assoc]
end Go.Proofs.YtojgcangnkjmjaaGreatDoor
