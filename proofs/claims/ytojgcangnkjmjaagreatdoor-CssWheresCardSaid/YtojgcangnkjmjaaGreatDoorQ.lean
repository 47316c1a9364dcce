/- url. (Printed by genCssQ.py.) -/
import Derived.Test.YtojgcangnkjmjaaGreatDoorP
import Derived.Deep.CutBlock
import Derived.Deep.CutRange
namespace Go.Proofs.YtojgcangnkjmjaaGreatDoor
open Go.RowKit

/-- where a URL's walk stands behind its inner loop -/
def UrlAt (u0 l acc : List UInt8) (oo : Bool) : Prop :=
  (oo = false ∧ Cssp.escAt l 0 = false ∧ Cssp.isAt Cssp.plainU l 0 = false ∧ ∃ k, u0.drop k = l ∧ Cssp.urlX u0 = (Cssp.urlX l).on acc k) ∨
  (oo = true ∧ l = [] ∧ Cssp.urlX u0 = ⟨false, acc, u0.length, true, true⟩)
theorem url_end {u0 l acc l2 : List UInt8} {oo : Bool} {U : Cssp.Ur} {n2 : Nat} (hAt : UrlAt u0 l acc oo) (hU : Cssp.urlX u0 = U) (hn2 : Cssp.run Cssp.blank l = n2) (hl2 : l.drop n2 = l2) :
    (l2 = [] → U.bad = false ∧ U.t = acc ∧ u0.drop U.k = [] ∧ U.o = oo ∧ U.i = true) ∧
    (∀ r, l2 = 41 :: r → U.bad = false ∧ U.t = acc ∧ u0.drop U.k = r ∧ U.o = false ∧ oo = false ∧ U.i = false) ∧
    (∀ c r, l2 = c :: r → c ≠ 41 → U.bad = true ∧ u0.drop U.k = l2.drop (Cssp.bad l2).1 ∧ U.o = (Cssp.bad l2).2.1 ∧ U.i = (Cssp.bad l2).2.2 ∧ oo = false) := by
  subst hU hn2 hl2
  rcases hAt with ⟨rfl, hes, hpl, k, hk, hX⟩ | ⟨rfl, rfl, hX⟩
  · cases l with
    | nil =>
      rw [hX, Cssp.urlX_nil]
      refine ⟨fun _ => ⟨rfl, by simp [Cssp.Ur.on], by simpa [Cssp.Ur.on] using hk, rfl, rfl⟩, fun r h => ?_, fun c r h => ?_⟩ <;> simp at h
    | cons c r =>
      have hpc : Cssp.plainU c = false := hpl
      rw [hX, Cssp.urlX_cons]
      have hdd : ∀ j, u0.drop (j + k) = (c :: r).drop j := fun j => by rw [Nat.add_comm, ← List.drop_drop, hk]
      by_cases hb : Cssp.blank c = true
      · have hc41 : c ≠ 41 := by rintro rfl; exact absurd hb (by decide)
        rw [if_neg hc41, if_pos hb]
        have hle := Cssp.run_le Cssp.blank (c :: r)
        have hst := Cssp.run_drop Cssp.blank (c :: r)
        generalize Cssp.run Cssp.blank (c :: r) = m at hle hst ⊢
        refine ⟨fun h => ?_, fun r2 h => ?_, fun d r2 h hd => ?_⟩
        · have hm : ¬ m < (c :: r).length := by
            have := congrArg List.length h
            rw [List.length_drop, List.length_nil] at this
            omega
          rw [if_neg fun h => hm h.1, if_neg hm]
          exact ⟨rfl, by simp [Cssp.Ur.on], by show u0.drop (m + k) = []; rw [hdd, h], rfl, rfl⟩
        · have hm : m < (c :: r).length := by
            have := congrArg List.length h
            rw [List.length_drop] at this
            simp only [List.length_cons] at this ⊢
            omega
          have ha : Cssp.isAt (· == 41) (c :: r) m = true := by
            have := Cssp.isAt_drop (· == 41) (c :: r) m 0
            rw [h, Nat.add_zero] at this
            exact this.symm
          rw [if_neg fun h => by rw [ha] at h; exact Bool.noConfusion h.2, if_pos hm]
          refine ⟨rfl, by simp [Cssp.Ur.on], ?_, rfl, rfl, rfl⟩
          show u0.drop (m + 1 + k) = r2
          rw [hdd, ← List.drop_drop, h]
          rfl
        · have hm : m < (c :: r).length := by
            have := congrArg List.length h
            rw [List.length_drop] at this
            simp only [List.length_cons] at this ⊢
            omega
          have ha : Cssp.isAt (· == 41) (c :: r) m = false := by
            have := Cssp.isAt_drop (· == 41) (c :: r) m 0
            rw [h, Nat.add_zero] at this
            rw [← this]
            exact beq_eq_false_iff_ne.2 hd
          rw [if_pos ⟨hm, ha⟩]
          refine ⟨rfl, ?_, rfl, rfl, rfl⟩
          show u0.drop ((Cssp.bad ((c :: r).drop m)).1 + m + k) = _
          rw [hdd, List.drop_drop, Nat.add_comm]
      · have hb' := eq_false_of_ne_true hb
        have h0 : Cssp.run Cssp.blank (c :: r) = 0 := by rw [Cssp.run, if_neg hb]
        rw [if_neg hb, h0, List.drop_zero]
        refine ⟨fun h => by simp at h, fun r2 h => ?_, fun d r2 h hd => ?_⟩
        · injection h with h1 h2
          subst h1 h2
          rw [if_pos rfl]
          refine ⟨rfl, by simp [Cssp.Ur.on], ?_, rfl, rfl, rfl⟩
          show u0.drop (1 + k) = _
          rw [hdd]
          rfl
        · injection h with h1 h2
          subst h1 h2
          rw [if_neg hd, if_neg (by rw [hes]; decide), if_neg (by rw [hpc]; decide)]
          refine ⟨rfl, ?_, rfl, rfl, rfl⟩
          show u0.drop ((Cssp.bad (c :: r)).1 + k) = _
          rw [hdd]
  · rw [hX]
    refine ⟨fun _ => ⟨rfl, rfl, by simp, rfl, rfl⟩, fun r h => ?_, fun c r h => ?_⟩ <;> simp at h
set_option maxRecDepth 100000 in
set_option maxHeartbeats 8000000 in
theorem url_ (s t : List UInt8) (b : Nat) (o : Bool) (w : World) (h : Lx w b s false o t) (hl : s.length ≤ 1048576) :
    Calls Tryz.prog 108 #[.pointer (some ⟨b, 0, none⟩)] w (TokP (Cssp.url s) s w b) := by
  obtain ⟨n, hn⟩ : ∃ n, Cssp.run Cssp.blank s = n := ⟨_, rfl⟩
  obtain ⟨u0, hu0⟩ : ∃ u, s.drop n = u := ⟨_, rfl⟩
  obtain ⟨U, hU⟩ : ∃ U, Cssp.urlX u0 = U := ⟨_, rfl⟩
  have hurl : Cssp.url s = ⟨if U.bad = true then Cssp.tk 9 [] else Cssp.tk 8 U.t, U.k + n, U.o, U.i, 0⟩ := by
    rw [Cssp.url, hn, hu0, ← hU]; rfl
  have hUl := Cssp.urlX_len u0.length u0 (Nat.le_refl _)
  rw [hU] at hUl
  have hu0l : u0.length ≤ s.length := by rw [← hu0, List.length_drop]; omega
  have HURL := hide hurl
  have HUU := hide hU
  have HU00 := hide hu0
  have HSD : Hid (∀ k, s.drop (k + n) = u0.drop k) := by unfold Hid; intro k; rw [← hu0, List.drop_drop, Nat.add_comm]
  have HWB := fun (W : World) (hW : Lx W b s false o t) => hide (whileBlank s t b false o W hW (by omega))
  rw [hn, hu0] at HWB
  obtain ⟨tk0, htk0⟩ : ∃ x, s.take n = x := ⟨_, rfl⟩
  rw [htk0] at HWB
  clear hurl hU hu0 hn htk0
  have hz := Zt.new w
  have hal := (Below.refl w.heap.size w).alloc (Nat.le_refl _) (.cells #[.int .u8 0, S [], S [], .bool false] 27)
  have hx := h.below hal
  have hlt := h.lt
  go_enter Tryz.func108, Tryz.ntmps108
  go_upto_region 1 with (fail)
  change Code.wp _ _ _ _ (w.alloc (.cells #[.int .u8 0, S [], S [], .bool false] 27))
  generalize hgen : w.alloc (.cells #[.int .u8 0, S [], S [], .bool false] 27) = w1 at hz hal hx ⊢
  clear hgen h
  have hsz1 := hal.size
  have hzlt := hz.lt
  have HX1 := hide hx
  have HZ1 := hide hz
  have HU1 := hide (p := Upto b w w1) (Upto.of_below hal)
  have HW := HWB w1 hx
  clear hz hal hx HWB
  go_wp2_with fail
  refine HW.out.mono ?_
  rintro e w2 ⟨rfl, hx, hu⟩
  have HX2 := hide hx
  have HU2 := hide (HU1.out.trans hu)
  have HZ2 := hide (HZ1.out.upto hu (by omega))
  have hsz2 := hu.size
  clear HW hx hu HX1 HU1 HZ1
  go_upto_block 0 with (fail)
  change Code.wp _ _ _ _ (w2.alloc (.cells #[.pointer none, .slice none 0 0] 99))
  have hbl := bld_new w2
  have hal := (Below.refl w2.heap.size w2).alloc (Nat.le_refl _) (.cells #[.pointer none, .slice none 0 0] 99)
  generalize hgen : w2.alloc (.cells #[.pointer none, .slice none 0 0] 99) = w3 at hbl hal ⊢
  clear hgen
  have HX3 := hide (HX2.out.below hal)
  have HU3 := hide (p := Upto b w2 w3) (Upto.of_below hal)
  have HB3 := hide hbl
  have hsz3 := hal.size
  clear hal hbl HX2
  go_wp2_with fail
  go_loopg [6] 0 (fun g _ wx => g ≤ 0 ∧ Hid (w3 = wx))
  case atStart => exact ⟨Nat.le_refl _, rfl⟩
  case round =>
    obtain ⟨-, hw⟩ := hrel
    have hw' := hw.out
    clear hw
    subst hw'
    have hx := HX3.out.set2 false
    have hu := HU3.out.setCell 2 (.bool false)
    have hb := bld_upto HB3.out ((Upto.refl b w3).setCell 2 (.bool false)) (by omega)
    obtain ⟨c0, c1, c2, c3⟩ := HX3.out.cells
    have f2 := HX3.out.frozen 2
    go_upto_region 4 with (fail)
    change Code.wp _ _ _ _ (w3.setCell ⟨b, 2, none⟩ (.bool false))
    generalize hgen : w3.setCell ⟨b, 2, none⟩ (.bool false) = w4 at hx hu hb ⊢
    clear hgen c0 c1 c2 c3 f2 HX3 HU3 HB3
    have HX4 := hide hx
    have HU4 := hide hu
    have HB4 := hide hb
    clear hx hu hb
    have hmf : ∀ (fn : Fn) (first cap : Array Value) (w : World), (Instr.makeFunc fn first cap).run Tryz.prog w = .ok (.func fn first cap) w := fun _ _ _ _ => rfl
    obtain ⟨m, hm⟩ : ∃ m, Cssp.run Cssp.plainU u0 = m := ⟨_, rfl⟩
    have HW0 := whileUrl1 u0 t b false false w4 HX4.out (by omega)
    have hml := Cssp.run_le Cssp.plainU u0
    have hstop := Cssp.run_drop Cssp.plainU u0
    have hrun := Cssp.urlX_run u0
    rw [hm] at HW0 hml hstop hrun
    obtain ⟨l0, hl0⟩ : ∃ l, u0.drop m = l := ⟨_, rfl⟩
    obtain ⟨e0, he0⟩ : ∃ l, u0.take m = l := ⟨_, rfl⟩
    rw [hl0, he0] at HW0
    rw [hl0, he0, HUU.out] at hrun
    have hstop0 : Cssp.isAt Cssp.plainU l0 0 = false := by rw [← hl0, Cssp.isAt_drop]; exact hstop
    have hl0l : l0.length ≤ u0.length := by rw [← hl0, List.length_drop]; omega
    have he0l : e0.length ≤ 1048576 := by rw [← he0, List.length_take]; omega
    have HL00 := hide hl0
    have HST0 := hide hstop0
    have HRUN := hide hrun
    have HW := hide HW0
    clear HW0 hstop hrun hl0 he0 hstop0 hm
    go_wp2_with fail
    refine HW.out.mono ?_
    rintro e w5 ⟨rfl, hx, hu⟩
    have HX5 := hide hx
    have HU5 := hide (HU4.out.trans hu)
    have HWS := hide (writeString w2.heap.size w2.heap.size [] e0 w5 (bld_upto HB4.out hu (by omega)) HU5.out.size (by simp; omega))
    clear HW hx hu HX4 HU4 HB4
    go_wp2_with fail
    refine HWS.out.mono ?_
    rintro e w6 ⟨rfl, hB, hk⟩
    have HX6 := hide (HX5.out.keep hk.below (by omega))
    have HU6 := hide (HU5.out.keep hk.below)
    have HB6 := hide (p := Bld w2.heap.size w2.heap.size e0 w6) (.inr hB)
    clear HWS hB hk HX5 HU5
    go_upto_block 2 with (fail)
    go_cut [] from 6 to 68 (fun wx => ∃ (l acc tt : List UInt8) (oo : Bool), Hid (Lx wx b l false oo tt) ∧ Hid (Bld w2.heap.size w2.heap.size acc wx) ∧ Hid (Upto b w2 wx) ∧ Hid (UrlAt u0 l acc oo) ∧ l.length ≤ 1048576)
    case first =>
      go_wp2_with fail
      go_loopg [12] u0.length (fun g _ wx => ∃ (l acc tt : List UInt8) (k : Nat), l.length ≤ g ∧ g ≤ u0.length ∧ Hid (Lx wx b l false false tt) ∧ Hid (Bld w2.heap.size w2.heap.size acc wx) ∧ Hid (Upto b w2 wx) ∧ Hid (u0.drop k = l ∧ Cssp.isAt Cssp.plainU l 0 = false ∧ U = (Cssp.urlX l).on acc k))
      case atStart => exact ⟨l0, e0, t, m, hl0l, Nat.le_refl _, HX6.out, HB6.out, HU6.out, HL00.out, HST0.out, HRUN.out⟩
      case round =>
        obtain ⟨l, acc, tt, k, hlg, hgs, hLx, hBld, hUp, hSt⟩ := hrel
        have hll : l.length ≤ 1048576 := by omega
        have hacc : acc.length ≤ 4194304 := by
          have := congrArg (fun x => x.t.length) hSt.out.2.2
          simp only [Cssp.Ur.on, List.length_append] at this
          omega
        have HEA := hide (escapeAt l tt b 0 false false wr hLx.out (by omega))
        go_wp2_with fail
        refine HEA.out.mono ?_
        rintro e w' ⟨rfl, rfl⟩
        clear HEA
        cases hes : Cssp.escAt l 0 with
        | false =>
          have HES := hide hes
          clear hes
          go_wp2_with fail
          go_meet
          case rel => exact ⟨l, acc, tt, false, hLx.out, hBld.out, hUp.out, .inl ⟨rfl, HES.out, hSt.out.2.1, k, hSt.out.1, by rw [HUU.out]; exact hSt.out.2.2⟩, hll⟩
        | true =>
          have hll1 : 1 ≤ l.length := by
            obtain ⟨r, rfl, -⟩ := Cssp.escAt_some hes
            simp
          have hux : Hid (Cssp.urlX l = if (Cssp.esc l).o = true then ⟨false, (Cssp.esc l).t, (Cssp.esc l).k, true, true⟩ else (Cssp.urlX (l.drop (Cssp.esc l).k)).on (Cssp.esc l).t (Cssp.esc l).k) := by
            unfold Hid
            obtain ⟨r, rfl, -⟩ := Cssp.escAt_some hes
            rw [Cssp.urlX_cons, if_neg (by decide), if_neg (by decide), if_pos hes]
          have HEs := hide (escape_ l tt b false false wr hLx.out hll1 (by omega))
          have hek := Cssp.esc_pos l
          have hel := Cssp.esc_len l
          have hel2 := hel.2 hll1
          have heo := Cssp.esc_open l
          obtain ⟨E, hE⟩ : ∃ E, Cssp.esc l = E := ⟨_, rfl⟩
          rw [hE] at HEs hek hel hel2 heo hux
          have hel1 : E.t.length ≤ 4194304 := by have := hel.1; omega
          have HEO := hide heo
          clear hel hE hes heo
          go_wp2_with fail
          refine HEs.out.mono ?_
          rintro e w7 ⟨rfl, hx, hu⟩
          have HX7 := hide hx
          have HU7 := hide (hUp.out.trans hu)
          have HWS := hide (writeString w2.heap.size w2.heap.size acc E.t w7 (bld_upto hBld.out hu (by omega)) HU7.out.size (by omega))
          clear HEs hx hu
          go_wp2_with fail
          refine HWS.out.mono ?_
          rintro e w8 ⟨rfl, hB, hk⟩
          have hx8 := HX7.out.keep hk.below (by omega)
          obtain ⟨c0, c1, c2, c3⟩ := hx8.cells
          have HX8 := hide hx8
          have HU8 := hide (HU7.out.keep hk.below)
          have HB8 := hide (p := Bld w2.heap.size w2.heap.size (acc ++ E.t) w8) (.inr hB)
          clear HWS hB hk HX7 HU7 hx8
          cases ho : E.o with
          | true =>
            rw [ho] at c2
            simp only [Bool.or_true] at c2
            have hX8 := HX8.out
            rw [ho] at hX8
            have HX9 := hide hX8
            have hnil := HEO.out ho
            have HUX := hux.out
            rw [if_pos ho] at HUX
            have HUX' := hide HUX
            have HNIL := hide hnil
            clear hnil HUX ho hX8
            go_wp2_with fail
            go_meet
            case rel =>
              refine ⟨[], acc ++ E.t, l, true, ?_, HB8.out, HU8.out, .inr ⟨rfl, rfl, ?_⟩, by simp⟩
              · have := HX9.out
                rw [HNIL.out] at this
                exact this
              · have e1 : E.k = l.length := by
                  have := congrArg List.length HNIL.out
                  rw [List.length_drop, List.length_nil] at this
                  omega
                have e2 : k + l.length = u0.length := by
                  have := congrArg List.length hSt.out.1
                  rw [List.length_drop] at this
                  omega
                rw [HUU.out, hSt.out.2.2, HUX'.out]
                simp [Cssp.Ur.on]
                omega
          | false =>
            rw [ho] at c2
            simp only [Bool.or_false] at c2
            have hX8 := HX8.out
            rw [ho] at hX8
            have HX9 := hide hX8
            have HUX := hux.out
            rw [if_neg (by rw [ho]; decide)] at HUX
            have HUX' := hide HUX
            have HD : Hid (u0.drop (k + E.k) = l.drop E.k) := by unfold Hid; rw [← List.drop_drop, hSt.out.1]
            obtain ⟨l2, hl2⟩ : ∃ x, l.drop E.k = x := ⟨_, rfl⟩
            have hl2l : l2.length + E.k = l.length := by rw [← hl2, List.length_drop]; omega
            have hHX := HX9.out
            have hHD := HD.out
            have hHU := HUX'.out
            rw [hl2] at hHX hHD hHU
            have HXA := hide hHX
            have HDA := hide hHD
            have HUA := hide hHU
            clear HUX ho hX8 hHX hHD hHU hl2 HX9 HD HUX' HX8
            obtain ⟨m2, hm2⟩ : ∃ m, Cssp.run Cssp.plainU l2 = m := ⟨_, rfl⟩
            have HW0 := whileUrl2 l2 l b false false w8 HXA.out (by omega)
            have hml := Cssp.run_le Cssp.plainU l2
            have hstop := Cssp.run_drop Cssp.plainU l2
            have hrun := Cssp.urlX_run l2
            rw [hm2] at HW0 hml hstop hrun
            obtain ⟨l3, hl3⟩ : ∃ l, l2.drop m2 = l := ⟨_, rfl⟩
            obtain ⟨e3, he3⟩ : ∃ l, l2.take m2 = l := ⟨_, rfl⟩
            rw [hl3, he3] at HW0 hrun
            have hstop3 : Cssp.isAt Cssp.plainU l3 0 = false := by rw [← hl3, Cssp.isAt_drop]; exact hstop
            have hl3l : l3.length ≤ l2.length := by rw [← hl3, List.length_drop]; omega
            have he3l : e3.length ≤ 1048576 := by rw [← he3, List.length_take]; omega
            have HL3 := hide hl3
            have HST3 := hide hstop3
            have HRUN3 := hide hrun
            have HW := hide HW0
            have hae : (acc ++ E.t).length ≤ 8388608 := by rw [List.length_append]; omega
            clear HW0 hstop hrun hl3 he3 hstop3 hm2
            go_wp2_with fail
            refine HW.out.mono ?_
            rintro e w9 ⟨rfl, hx, hu⟩
            have HX9 := hide hx
            have HU9 := hide (HU8.out.trans hu)
            have HWS := hide (writeString w2.heap.size w2.heap.size (acc ++ E.t) e3 w9 (bld_upto HB8.out hu (by omega)) HU9.out.size (by omega))
            clear HW hx hu HU8 HB8
            go_wp2_with fail
            refine HWS.out.mono ?_
            rintro e w10 ⟨rfl, hB, hk⟩
            have HX10 := hide (HX9.out.keep hk.below (by omega))
            have HU10 := hide (HU9.out.keep hk.below)
            have HB10 := hide (p := Bld w2.heap.size w2.heap.size (acc ++ E.t ++ e3) w10) (.inr hB)
            clear HWS hB hk HX9 HU9
            go_wp2_with fail
            go_roundg (gk - 1)
            case measure => omega
            case rel =>
              refine ⟨l3, acc ++ E.t ++ e3, l, k + E.k + m2, by omega, by omega, HX10.out, HB10.out, HU10.out, ?_, HST3.out, ?_⟩
              · rw [← List.drop_drop, HDA.out, HL3.out]
              · rw [hSt.out.2.2, HUA.out, HRUN3.out, Cssp.Ur.on_on, Cssp.Ur.on_on]
    case rest =>
      obtain ⟨l, acc, tt, oo, HL, HB, HU, HAt, hll⟩ := hcut
      clear HX6 HB6 HU6 HRUN HST0 HL00 hmf
      obtain ⟨n2, hn2⟩ : ∃ x, Cssp.run Cssp.blank l = x := ⟨_, rfl⟩
      have HW0 := whileBlank l tt b false oo wc HL.out (by omega)
      have hn2l := Cssp.run_le Cssp.blank l
      have hstop := Cssp.run_drop Cssp.blank l
      rw [hn2] at HW0 hn2l hstop
      obtain ⟨l2, hl2⟩ : ∃ x, l.drop n2 = x := ⟨_, rfl⟩
      obtain ⟨e2, he2⟩ : ∃ x, l.take n2 = x := ⟨_, rfl⟩
      have hEnd := url_end HAt.out HUU.out hn2 hl2
      rw [hl2, he2] at HW0
      have hl2l : l2.length + n2 = l.length := by rw [← hl2, List.length_drop]; omega
      have he2l : e2.length = n2 := by rw [← he2, List.length_take]; omega
      have HE2L := hide he2l
      have HW := hide HW0
      have HEND := hide hEnd

      obtain ⟨bd, hbd⟩ : ∃ x, (decide (0 < n2) && Cssp.isAt (fun c => !(c == 41)) l2 0) = x := ⟨_, rfl⟩
      have HBD := hide hbd
      clear HW0 hl2 hn2 hstop he2 hEnd hbd he2l
      go_upto_region 9 with (fail)
      go_cut [42] from 6 to 68 (fun s42 wx => s42 = .bool bd ∧ Hid (Lx wx b l2 false oo tt) ∧ Hid (Bld w2.heap.size w2.heap.size acc wx) ∧ Hid (Upto b w2 wx))
      case first =>
        go_wp2_with fail
        refine HW.out.mono ?_
        rintro e w7 ⟨rfl, hx, hu⟩
        have HX7 := hide hx
        have HU7 := hide (HU.out.trans hu)
        have HB7 := hide (bld_upto HB.out hu (by omega))
        clear HW hx hu HL HU HB
        obtain ⟨c0, c1, c2, c3⟩ := HX7.out.cells
        by_cases hn0 : n2 = 0
        · have he2n : e2 = [] := List.eq_nil_of_length_eq_zero (by rw [HE2L.out]; exact hn0)
          subst he2n
          have HN0 := hide hn0
          clear hn0
          go_wp2_with fail
          go_meet
          case rel => exact ⟨by rw [← HBD.out, HN0.out]; rfl, HX7.out, HB7.out, HU7.out⟩
        · have hpos : 0 < e2.length := by rw [HE2L.out]; omega
          have d1 : decide ((0 : Int) < (e2.length : Int)) = true := by simp; omega
          have HN0 : Hid (decide (0 < n2) = true) := by unfold Hid; simp; omega
          clear hn0
          cases l2 with
          | nil =>
            go_wp2_with fail
            go_meet
            case rel => exact ⟨by rw [← HBD.out, HN0.out]; rfl, HX7.out, HB7.out, HU7.out⟩
          | cons c r =>
            have hne : ((c :: r : List UInt8) != []) = true := by simp
            by_cases h41 : c = 41
            · have e1 : ((c.toNat : Int) != 41) = false := u8y h41
              have H41 := hide h41
              clear h41
              go_wp2_with fail
              go_meet
              case rel => exact ⟨by rw [← HBD.out, HN0.out, H41.out]; rfl, HX7.out, HB7.out, HU7.out⟩
            · have e1 : ((c.toNat : Int) != 41) = true := u8n h41
              have H41 := hide (beq_eq_false_iff_ne.2 h41)
              clear h41
              go_wp2_with fail
              go_meet
              case rel => exact ⟨by rw [← HBD.out, HN0.out]; show _ = Value.bool (true && !(c == 41)); rw [H41.out]; rfl, HX7.out, HB7.out, HU7.out⟩
      case rest =>
        obtain ⟨rfl, HL0, HB0, HU0⟩ := hcut
        clear HW HL HU HB HAt
        cases bd with
        | true =>
          obtain ⟨c, r, hcr, h41⟩ : ∃ c r, l2 = c :: r ∧ c ≠ 41 := by
            have h := HBD.out
            simp only [Bool.and_eq_true] at h
            have h2 := h.2
            cases l2 with
            | nil => simp [Cssp.isAt] at h2
            | cons c r =>
              refine ⟨c, r, rfl, ?_⟩
              rintro rfl
              simp [Cssp.isAt] at h2
          have hE := HEND.out.2.2 c r hcr h41
          have HE := hide hE
          clear hE HEND HBD hcr h41
          have HT := hide (bad_ l2 tt b oo wc HL0.out (by omega))
          go_wp2_with fail
          refine HT.out.mono ?_
          rintro e wz ⟨tz, ⟨rfl, hxz, huz⟩, -⟩
          have HXz := hide hxz
          have HUy := hide (HU0.out.trans huz)
          have HUz := hide (HU2.out.trans HUy.out)
          have HZz := hide (HZ2.out.upto HUy.out (by omega))
          clear HT hxz huz
          obtain ⟨z0, z1, z2, z3⟩ := HZz.out.cells
          have g0 := HZz.out.frozen 0
          have g1 := HZz.out.frozen 1
          have g2 := HZz.out.frozen 2
          have g3 := HZz.out.frozen 3
          go_wp2_with fail
          change bodyPost _ _ _ _ ⟨_, _⟩ (putT wz w.heap.size (Cssp.tk 9 []))
          obtain ⟨q0, q1, q2, q3⟩ := putT_cells HZz.out (Cssp.tk 9 [])
          obtain ⟨e1, e2⟩ := putT_keep HUz.out HXz.out hlt (Nat.le_refl _) (Cssp.tk 9 [])
          refine bodyPost_ret (v := TV (Cssp.tk 9 [])) (by simp [results, Tryz.results108, go_sem, q0, q1, q2, q3]) rfl ?_
          obtain ⟨p1, p2, p3, p4, -⟩ := HE.out
          rw [HURL.out]
          refine ⟨tz, ⟨by rw [if_pos p1], ?_, e2⟩, fun _ _ h => by rw [if_pos p1] at h; cases h⟩
          show Lx _ _ (s.drop (U.k + n)) U.i U.o _
          rw [HSD.out, p2, p3, p4]
          exact e1
        | false =>
          obtain ⟨c0, c1, c2, c3⟩ := HL0.out.cells
          have f1 := HL0.out.frozen 1
          cases l2 with
          | nil =>
            have hE := HEND.out.1 rfl
            have HE := hide hE
            clear hE HEND HBD
            have hx := HL0.out.set1 true
            have hu := HU0.out.setCell 1 (.bool true)
            have hb := bld_upto HB0.out ((Upto.refl b wc).setCell 1 (.bool true)) (by omega)
            go_upto_region 13 with (fail)
            change Code.wp _ _ _ _ (wc.setCell ⟨b, 1, none⟩ (.bool true))
            generalize hgen : wc.setCell ⟨b, 1, none⟩ (.bool true) = w8 at hx hu hb ⊢
            clear hgen c0 c1 c2 c3 f1 HL0 HU0 HB0
            have HL0 := hide hx
            have HU0 := hide hu
            have HB0 := hide hb
            clear hx hu hb
            have HST := hide (Tryz.Builder_String_any w2.heap.size w2.heap.size acc w8 HB0.out HU0.out.size)
            go_wp2_with fail
            refine HST.out.mono ?_
            rintro e wa ⟨rfl, hba⟩
            have HXa := hide (HL0.out.keep hba (by omega))
            have HUa := hide (HU0.out.keep hba)
            have HT := hide (token_ 8 acc wa (by decide))
            clear HST hba
            go_wp2_with fail
            refine HT.out.mono ?_
            rintro e wz ⟨rfl, hbz⟩
            have HXz := hide (HXa.out.below hbz)
            have HUy := hide (HUa.out.trans (Upto.of_below hbz))
            have HUz := hide (HU2.out.trans HUy.out)
            have HZz := hide (HZ2.out.upto HUy.out (by omega))
            clear HT hbz
            obtain ⟨z0, z1, z2, z3⟩ := HZz.out.cells
            have g0 := HZz.out.frozen 0
            have g1 := HZz.out.frozen 1
            have g2 := HZz.out.frozen 2
            have g3 := HZz.out.frozen 3
            go_wp2_with fail
            change bodyPost _ _ _ _ ⟨_, _⟩ (putT wz w.heap.size (Cssp.tk 8 acc))
            obtain ⟨q0, q1, q2, q3⟩ := putT_cells HZz.out (Cssp.tk 8 acc)
            obtain ⟨e1, e2⟩ := putT_keep HUz.out HXz.out hlt (Nat.le_refl _) (Cssp.tk 8 acc)
            refine bodyPost_ret (v := TV (Cssp.tk 8 acc)) (by simp [results, Tryz.results108, go_sem, q0, q1, q2, q3]) rfl ?_
            obtain ⟨p1, p2, p3, p4, p5⟩ := HE.out
            rw [HURL.out]
            refine ⟨tt, ⟨by rw [if_neg (by rw [p1]; decide), p2], ?_, e2⟩, fun _ _ h => by rw [if_neg (by rw [p1]; decide)] at h; cases h⟩
            show Lx _ _ (s.drop (U.k + n)) U.i U.o _
            rw [HSD.out, p3, p4, p5]
            exact e1
          | cons c r =>
            by_cases h41 : c = 41
            · have e1 : ((c.toNat : Int) == 41) = true := u8t h41
              have hE := HEND.out.2.1 r (by rw [h41])
              have HE := hide hE
              clear hE HEND HBD h41
              have HT := hide (take_ (c :: r) tt b 1 false oo wc HL0.out (by simp))
              go_wp2_with fail
              refine HT.out.mono ?_
              rintro e w8 ⟨rfl, hx, hu⟩
              have HU8 := hide (HU0.out.trans hu)
              have HB8 := hide (bld_upto HB0.out hu (by omega))
              have HL8 := hide (p := Lx w8 b r false oo tt) hx
              clear HT hx hu c0 c1 c2 c3 f1 HL0 HU0 HB0
              have HL0 := HL8
              have HU0 := HU8
              have HB0 := HB8
              have HST := hide (Tryz.Builder_String_any w2.heap.size w2.heap.size acc w8 HB0.out HU0.out.size)
              go_wp2_with fail
              refine HST.out.mono ?_
              rintro e wa ⟨rfl, hba⟩
              have HXa := hide (HL0.out.keep hba (by omega))
              have HUa := hide (HU0.out.keep hba)
              have HT := hide (token_ 8 acc wa (by decide))
              clear HST hba
              go_wp2_with fail
              refine HT.out.mono ?_
              rintro e wz ⟨rfl, hbz⟩
              have HXz := hide (HXa.out.below hbz)
              have HUy := hide (HUa.out.trans (Upto.of_below hbz))
              have HUz := hide (HU2.out.trans HUy.out)
              have HZz := hide (HZ2.out.upto HUy.out (by omega))
              clear HT hbz
              obtain ⟨z0, z1, z2, z3⟩ := HZz.out.cells
              have g0 := HZz.out.frozen 0
              have g1 := HZz.out.frozen 1
              have g2 := HZz.out.frozen 2
              have g3 := HZz.out.frozen 3
              go_wp2_with fail
              change bodyPost _ _ _ _ ⟨_, _⟩ (putT wz w.heap.size (Cssp.tk 8 acc))
              obtain ⟨q0, q1, q2, q3⟩ := putT_cells HZz.out (Cssp.tk 8 acc)
              obtain ⟨e1, e2⟩ := putT_keep HUz.out HXz.out hlt (Nat.le_refl _) (Cssp.tk 8 acc)
              refine bodyPost_ret (v := TV (Cssp.tk 8 acc)) (by simp [results, Tryz.results108, go_sem, q0, q1, q2, q3]) rfl ?_
              obtain ⟨p1, p2, p3, p4, p5, p6⟩ := HE.out
              rw [HURL.out]
              refine ⟨tt, ⟨by rw [if_neg (by rw [p1]; decide), p2], ?_, e2⟩, fun _ _ h => by rw [if_neg (by rw [p1]; decide)] at h; cases h⟩
              show Lx _ _ (s.drop (U.k + n)) U.i U.o _
              rw [HSD.out, p3, p4, p6]
              rw [p5] at e1
              exact e1
            · have e1 : ((c.toNat : Int) == 41) = false := u8f h41
              have hE := HEND.out.2.2 c r rfl h41
              have HE := hide hE
              clear hE HEND HBD h41
              have HT := hide (bad_ (c :: r) tt b oo wc HL0.out (by omega))
              go_wp2_with fail
              refine HT.out.mono ?_
              rintro e wz ⟨tz, ⟨rfl, hxz, huz⟩, -⟩
              have HXz := hide hxz
              have HUy := hide (HU0.out.trans huz)
              have HUz := hide (HU2.out.trans HUy.out)
              have HZz := hide (HZ2.out.upto HUy.out (by omega))
              clear HT hxz huz
              obtain ⟨z0, z1, z2, z3⟩ := HZz.out.cells
              have g0 := HZz.out.frozen 0
              have g1 := HZz.out.frozen 1
              have g2 := HZz.out.frozen 2
              have g3 := HZz.out.frozen 3
              go_wp2_with fail
              change bodyPost _ _ _ _ ⟨_, _⟩ (putT wz w.heap.size (Cssp.tk 9 []))
              obtain ⟨q0, q1, q2, q3⟩ := putT_cells HZz.out (Cssp.tk 9 [])
              obtain ⟨e1, e2⟩ := putT_keep HUz.out HXz.out hlt (Nat.le_refl _) (Cssp.tk 9 [])
              refine bodyPost_ret (v := TV (Cssp.tk 9 [])) (by simp [results, Tryz.results108, go_sem, q0, q1, q2, q3]) rfl ?_
              obtain ⟨p1, p2, p3, p4, -⟩ := HE.out
              rw [HURL.out]
              refine ⟨tz, ⟨by rw [if_pos p1], ?_, e2⟩, fun _ _ h => by rw [if_pos p1] at h; cases h⟩
              show Lx _ _ (s.drop (U.k + n)) U.i U.o _
              rw [HSD.out, p2, p3, p4]
              exact e1
end Go.Proofs.YtojgcangnkjmjaaGreatDoor
