/- dom.Same, walked. -/
import Derived.Test.YtagkdmolgmhmdaaGreatDoorTc
import Derived.BigQuiet
import Derived.Deep.QuietTactic
import Derived.LoopN
namespace Go.Proofs.YtagkdmolgmhmdaaGreatDoor
open Go.RowKit

set_option maxHeartbeats 1000000 in
theorem equalAttrs (va vb : Value) (l m : List Dm.A) (w : World) (h1 : RdA w va l) (h2 : RdA w vb m) (hl : l.length ≤ 9223372036854775807) :
    Calls Tryz.prog 50 #[va, vb] w (Quiet (.bool (decide (l = m))) w) := by
  obtain ⟨aa, ca, rfl⟩ := h1.length
  obtain ⟨ab, cb, rfl⟩ := h2.length
  by_cases hlm : l.length = m.length
  · have hn : ((l.length : Int) != (m.length : Int)) = false := by rw [bne_eq_false_iff_eq]; omega
    have HLM := hide hlm
    clear hlm
    go_enter Tryz.func50, Tryz.ntmps50
    go_wp2_with fail
    go_loopg [13] l.length (fun g s13 wx => ∃ (i q : Nat), i + g = l.length ∧ s13 = .int .i64 i ∧ wx = w.drewN q ∧ Hid (l.take i = m.take i))
    case atStart => exact ⟨0, 0, by omega, rfl, rfl, by unfold Hid; simp⟩
    case round =>
      obtain ⟨i, q, hi, rfl, rfl, ht⟩ := hrel
      by_cases hlt : i < l.length
      · have hltm : i < m.length := by have := HLM.out; omega
        obtain ⟨x, hx⟩ : ∃ x, l[i] = x := ⟨_, rfl⟩
        obtain ⟨y, hy⟩ : ∃ y, m[i] = y := ⟨_, rfl⟩
        have hx' : l[i]? = some x := by rw [List.getElem?_eq_getElem hlt, hx]
        have hy' : m[i]? = some y := by rw [List.getElem?_eq_getElem hltm, hy]
        obtain ⟨b, o, rfl, c0, c1, c2⟩ := h1.at hx'
        obtain ⟨b', o', rfl, d0, d1, d2⟩ := h2.at hy'
        have HX := hide hx'
        have HY := hide hy'
        clear h1 h2 hx hy hx' hy'
        by_cases hxy : x = y
        · have HE := hide hxy
          subst hxy
          have hne := attr_neq x.sp x.nm x.vl x.sp x.nm x.vl
          simp only [beq_self_eq_true, Bool.and_self, Bool.not_true] at hne
          go_wp2_with fail
          go_quiet (fail)
          go_wp2_with fail
          go_roundg (gk - 1)
          case measure => omega
          case rel =>
            refine ⟨i + 1, _, by omega, by go_num, by first | rfl | exact World.drewN_drewN _ _ _, ?_⟩
            unfold Hid
            rw [List.take_add_one, List.take_add_one, ht.out, HX.out, HY.out]
        · have HE : Hid (l ≠ m) := fun e => by
            have h1 := HX.out
            rw [e, HY.out] at h1
            injection h1 with h1
            exact hxy h1.symm
          have hne := attr_neq x.sp x.nm x.vl y.sp y.nm y.vl
          have hf : ((x.sp == y.sp) && (x.nm == y.nm) && (x.vl == y.vl)) = false := by
            rw [Bool.eq_false_iff]
            intro h
            simp only [Bool.and_eq_true, beq_iff_eq] at h
            apply hxy
            cases x; cases y
            simp only at h
            obtain ⟨⟨rfl, rfl⟩, rfl⟩ := h
            rfl
          rw [hf] at hne
          simp only [Bool.not_false] at hne
          clear hf
          go_wp2_with fail
          go_quiet (fail)
          go_wp2_with fail
          go_ret
          exact ⟨by rw [decide_eq_false HE.out]; rfl, _, World.drewN_drewN _ _ _⟩
      · have HE : Hid (l = m) := by
          unfold Hid
          have := ht.out
          rwa [List.take_of_length_le (by omega), List.take_of_length_le (by have := HLM.out; omega)] at this
        clear h1 h2
        go_wp2_with fail
        go_ret
        exact ⟨by rw [decide_eq_true HE.out]; rfl, q, rfl⟩
  · have hn : ((l.length : Int) != (m.length : Int)) = true := by rw [bne_iff_ne]; omega
    have HE : Hid (l ≠ m) := fun e => hlm (by rw [e])
    clear hlm
    go_enter Tryz.func50, Tryz.ntmps50
    go_wp2_with fail
    go_ret
    exact ⟨by rw [decide_eq_false HE.out]; rfl, 0, rfl⟩

set_option maxRecDepth 100000 in
set_option maxHeartbeats 8000000 in
theorem equalFunc (ks ls : List Dm.T) (va vb : Value) (w : World) (hk : RdS w va ks) (hl : RdS w vb ls) (hn : ks.length ≤ 9223372036854775807)
    (ih : ∀ t ∈ ks, ∀ (u : Dm.T) (av kv au ku : Value) (w : World), RdT w t av kv → RdT w u au ku → Calls Tryz.prog 30 #[NV t.d av kv, NV u.d au ku] w (Fresh (.bool (t.same u)) w)) :
    Calls Tryz.prog 51 #[va, vb, .func (.func 30) #[] #[]] w (Fresh (.bool (Dm.sameK ks ls)) w) := by
  obtain ⟨ka, kc, rfl⟩ := hk.length
  obtain ⟨la, lc, rfl⟩ := hl.length
  by_cases hlm : ks.length = ls.length
  · have hne : ((ks.length : Int) != (ls.length : Int)) = false := by rw [bne_eq_false_iff_eq]; omega
    have HLM := hide hlm
    have HK := hide hk
    have HL := hide hl
    have HI := hide ih
    clear hlm hk hl ih
    go_enter Tryz.func51, Tryz.ntmps51
    go_wp2_with fail
    go_loopg [17] ks.length (fun g s17 wx => ∃ i : Nat, i + g = ks.length ∧ s17 = .int .i64 i ∧ Hid (ks.take i = ls.take i) ∧ Below w.heap.size w wx)
    case atStart => exact ⟨0, by omega, rfl, by unfold Hid; simp, Below.refl _ _⟩
    case round =>
      obtain ⟨i, hi, rfl, ht, hbx⟩ := hrel
      by_cases hlt : i < ks.length
      · have hltm : i < ls.length := by have := HLM.out; omega
        obtain ⟨t, hx'⟩ : ∃ x, ks[i]? = some x := ⟨_, List.getElem?_eq_getElem hlt⟩
        obtain ⟨u, hy'⟩ : ∃ x, ls[i]? = some x := ⟨_, List.getElem?_eq_getElem hltm⟩
        obtain ⟨b, o, av, kv, rfl, ⟨m0, m1, m2, m3, m4, m5, m6, m7⟩, hrt⟩ := (HK.out.below hbx).at hx'
        obtain ⟨b', o', bv, lv, rfl, hatu, hru⟩ := (HL.out.below hbx).at hy'
        obtain ⟨⟨xo, xc, rfl⟩, yo, yc, rfl⟩ := (⟨(hrt.eta).1.length, (hrt.eta).2.length⟩ : (∃ ao c, av = .slice ao t.d.ats.length c) ∧ ∃ ko c, kv = .slice ko t.ks.length c)
        obtain ⟨⟨x2, c2, rfl⟩, y2, k2, rfl⟩ := (⟨(hru.eta).1.length, (hru.eta).2.length⟩ : (∃ ao c, bv = .slice ao u.d.ats.length c) ∧ ∃ ko c, lv = .slice ko u.ks.length c)
        have HX := hide (p := ks[i]? = some t) hx'
        have HY := hide (p := ls[i]? = some u) hy'
        have hmem := List.mem_of_getElem? hx'
        have hal := (Below.refl wr.heap.size wr).alloc (Nat.le_refl _) (.cells #[.int .u8 t.d.kd, S t.d.sp, S t.d.nm, .slice xo t.d.ats.length xc, S t.d.tx, S t.d.pb, S t.d.sy, .slice yo t.ks.length yc] 26)
        have bk := Box.new wr t.d (.slice xo t.d.ats.length xc) (.slice yo t.ks.length yc)
        clear hx' hy'
        go_upto_region 6 with (fail)
        generalize hgen : wr.alloc (.cells #[.int .u8 t.d.kd, S t.d.sp, S t.d.nm, .slice xo t.d.ats.length xc, S t.d.tx, S t.d.pb, S t.d.sy, .slice yo t.ks.length yc] 26) = w4 at hal bk ⊢
        obtain ⟨n0, n1, n2, n3, n4, n5, n6, n7⟩ := AtN.stay hatu (Stay.of_below hal)
        have hrt4 := hrt.below hal
        have hru4 := hru.below hal
        have hb4 : Below w.heap.size w w4 := hbx.trans (hal.mono hbx.size)
        clear m0 m1 m2 m3 m4 m5 m6 m7 hgen hatu hrt hru
        have bk2 := bk.alloc (.cells #[.int .u8 u.d.kd, S u.d.sp, S u.d.nm, .slice x2 u.d.ats.length c2, S u.d.tx, S u.d.pb, S u.d.sy, .slice y2 u.ks.length k2] 26)
        have bl := Box.new w4 u.d (.slice x2 u.d.ats.length c2) (.slice y2 u.ks.length k2)
        have hal2 := (Below.refl w4.heap.size w4).alloc (Nat.le_refl _) (.cells #[.int .u8 u.d.kd, S u.d.sp, S u.d.nm, .slice x2 u.d.ats.length c2, S u.d.tx, S u.d.pb, S u.d.sy, .slice y2 u.ks.length k2] 26)
        go_upto_region 7 with (fail)
        generalize hgen : w4.alloc (.cells #[.int .u8 u.d.kd, S u.d.sp, S u.d.nm, .slice x2 u.d.ats.length c2, S u.d.tx, S u.d.pb, S u.d.sy, .slice y2 u.ks.length k2] 26) = w5 at hal2 bk2 bl ⊢
        obtain ⟨d0, d1, d2, d3, d4, d5, d6, d7⟩ := bk2.cells
        obtain ⟨e0, e1, e2, e3, e4, e5, e6, e7⟩ := bl.cells
        have hcall := HI.out t hmem u _ _ _ _ w5 (hrt4.below hal2) (hru4.below hal2)
        obtain ⟨q, hq⟩ : ∃ q, t.same u = q := ⟨_, rfl⟩
        rw [hq] at hcall
        have HC := hide hcall
        have HB5 := hide (hb4.trans (hal2.mono hb4.size))
        have HQ := hide hq
        clear hcall hq hgen hrt4 hru4 bk bk2 bl hal hal2 n0 n1 n2 n3 n4 n5 n6 n7 hmem hb4
        go_wp2_with fail
        refine HC.out.mono ?_
        rintro e w6 ⟨rfl, hb6⟩
        have HB6 := hide (HB5.out.trans (hb6.mono HB5.out.size))
        clear hb6 d0 d1 d2 d3 d4 d5 d6 d7 e0 e1 e2 e3 e4 e5 e6 e7
        cases q with
        | true =>
          go_wp2_with fail
          go_roundg (gk - 1)
          case measure => omega
          case rel =>
            refine ⟨i + 1, by omega, by go_num, ?_, HB6.out⟩
            unfold Hid
            rw [List.take_add_one, List.take_add_one, ht.out, HX.out, HY.out, (t.same_iff u).1 HQ.out]
        | false =>
          have HE : Hid (Dm.sameK ks ls = false) := by
            unfold Hid
            rw [Bool.eq_false_iff]
            intro h
            have h1 := HX.out
            rw [(Dm.sameK_iff ks ls).1 h, HY.out] at h1
            injection h1 with h1
            have h2 := HQ.out
            rw [h1, t.same_self] at h2
            cases h2
          go_wp2_with fail
          go_ret
          exact ⟨by rw [HE.out]; rfl, HB6.out⟩
      · have HE : Hid (Dm.sameK ks ls = true) := by
          unfold Hid
          have := ht.out
          rw [List.take_of_length_le (by omega), List.take_of_length_le (by have := HLM.out; omega)] at this
          exact (Dm.sameK_iff ks ls).2 this
        go_wp2_with fail
        go_ret
        exact ⟨by rw [HE.out]; rfl, hbx⟩
  · have hne : ((ks.length : Int) != (ls.length : Int)) = true := by rw [bne_iff_ne]; omega
    have HE : Hid (Dm.sameK ks ls = false) := by
      unfold Hid
      rw [Bool.eq_false_iff]
      exact fun e => hlm (by rw [(Dm.sameK_iff ks ls).1 e])
    clear hlm
    go_enter Tryz.func51, Tryz.ntmps51
    go_wp2_with fail
    go_ret
    exact ⟨by rw [HE.out]; rfl, Below.refl _ _⟩
end Go.Proofs.YtagkdmolgmhmdaaGreatDoor
namespace Go.Proofs.YtagkdmolgmhmdaaGreatDoor
open Go.RowKit

set_option maxRecDepth 100000 in
set_option maxHeartbeats 8000000 in
theorem same (N : Nat) (hN : N ≤ 9223372036854775807) (s : Dm.T) : ∀ (t : Dm.T) (av kv au ku : Value) (w : World), RdT w s av kv → RdT w t au ku → s.Lim N →
    Calls Tryz.prog 30 #[NV s.d av kv, NV t.d au ku] w (Fresh (.bool (s.same t)) w) := by
  refine Dm.T.induct (C := fun s => ∀ (t : Dm.T) (av kv au ku : Value) (w : World), RdT w s av kv → RdT w t au ku → s.Lim N →
    Calls Tryz.prog 30 #[NV s.d av kv, NV t.d au ku] w (Fresh (.bool (s.same t)) w)) (fun d ks ih t av kv au ku w hs ht hlim => ?_) s
  obtain ⟨e, ls⟩ := t
  obtain ⟨ha, hk⟩ := RdT.mk_iff.1 hs
  obtain ⟨hb, hl⟩ := RdT.mk_iff.1 ht
  obtain ⟨ka, kc, rfl⟩ := hk.length
  obtain ⟨la, lc, rfl⟩ := hl.length
  obtain ⟨aa, ac, rfl⟩ := ha.length
  obtain ⟨ba, bc, rfl⟩ := hb.length
  simp only [Dm.T.Lim] at hlim
  obtain ⟨hld, hlk, hlK⟩ := hlim
  have hkl : ks.length ≤ 9223372036854775807 := by omega
  have hal : d.ats.length ≤ 9223372036854775807 := by have := hld.2.2.1; omega
  have HIH := hide (p := ∀ t ∈ ks, t.Lim N) (fun t ht => hlK.mem ht)
  clear hlK hld hs ht
  show Calls Tryz.prog 30 #[NV d (.slice aa d.ats.length ac) (.slice ka ks.length kc), NV e (.slice ba e.ats.length bc) (.slice la ls.length lc)] w _
  obtain ⟨R, hR⟩ : ∃ R, Dm.T.same (.mk d ks) (.mk e ls) = R := ⟨_, rfl⟩
  rw [hR]
  have HR := hide hR
  clear hR
  have b1 := (Box.new w d (.slice aa d.ats.length ac) (.slice ka ks.length kc)).alloc (.cells #[.int .u8 e.kd, S e.sp, S e.nm, .slice ba e.ats.length bc, S e.tx, S e.pb, S e.sy, .slice la ls.length lc] 26)
  have b2 := Box.new (w.alloc (.cells #[.int .u8 d.kd, S d.sp, S d.nm, .slice aa d.ats.length ac, S d.tx, S d.pb, S d.sy, .slice ka ks.length kc] 26)) e (.slice ba e.ats.length bc) (.slice la ls.length lc)
  have hw1 := ((Below.refl w.heap.size w).alloc (Nat.le_refl _) (.cells #[.int .u8 d.kd, S d.sp, S d.nm, .slice aa d.ats.length ac, S d.tx, S d.pb, S d.sy, .slice ka ks.length kc] 26)).alloc (by simp) (.cells #[.int .u8 e.kd, S e.sp, S e.nm, .slice ba e.ats.length bc, S e.tx, S e.pb, S e.sy, .slice la ls.length lc] 26)
  have hsz : (w.alloc (.cells #[.int .u8 d.kd, S d.sp, S d.nm, .slice aa d.ats.length ac, S d.tx, S d.pb, S d.sy, .slice ka ks.length kc] 26)).heap.size = w.heap.size + 1 := by simp
  rw [hsz] at b2
  clear hsz
  go_enter Tryz.func30, Tryz.ntmps30
  go_upto_region 1 with (fail)
  generalize hgen : (w.alloc (.cells #[.int .u8 d.kd, S d.sp, S d.nm, .slice aa d.ats.length ac, S d.tx, S d.pb, S d.sy, .slice ka ks.length kc] 26)).alloc (.cells #[.int .u8 e.kd, S e.sp, S e.nm, .slice ba e.ats.length bc, S e.tx, S e.pb, S e.sy, .slice la ls.length lc] 26) = w1 at b1 b2 hw1 ⊢
  clear hgen
  obtain ⟨kd, sp, nm, ats, tx, pb, sy⟩ := d
  obtain ⟨kd', sp', nm', ats', tx', pb', sy'⟩ := e
  obtain ⟨d0, d1, d2, d3, d4, d5, d6, d7⟩ := b1.cells
  obtain ⟨e0, e1, e2, e3, e4, e5, e6, e7⟩ := b2.cells
  have hA := hide ha
  have hB := hide hb
  have hKs := hide hk
  have hLs := hide hl
  have hW := hide hw1
  have hB1 := hide b1
  have hB2 := hide b2
  clear ha hb hk hl b1 b2
  simp only at d0 d1 d2 d3 d4 d5 d6 d7 e0 e1 e2 e3 e4 e5 e6 e7 hal hA hB
  by_cases c1 : kd = kd'
  rotate_left
  · have HE : Hid (R = false) := by unfold Hid; rw [← HR.out, ← Bool.not_eq_true, Dm.T.same_iff]; intro h; injection h with h1 h2; injection h1; exact c1 (by first | assumption | (rw [h2]))
    have hy : (kd == kd') = false := by rw [beq_eq_false_iff_ne]; exact c1
    clear c1 ih hw1
    go_wp2_with fail
    go_ret
    exact ⟨by rw [HE.out]; rfl, hW.out⟩
  subst c1
  by_cases c1 : sp = sp'
  rotate_left
  · have HE : Hid (R = false) := by unfold Hid; rw [← HR.out, ← Bool.not_eq_true, Dm.T.same_iff]; intro h; injection h with h1 h2; injection h1; exact c1 (by first | assumption | (rw [h2]))
    have hy : (sp == sp') = false := by rw [beq_eq_false_iff_ne]; exact c1
    clear c1 ih hw1
    go_wp2_with fail
    go_ret
    exact ⟨by rw [HE.out]; rfl, hW.out⟩
  subst c1
  by_cases c1 : nm = nm'
  rotate_left
  · have HE : Hid (R = false) := by unfold Hid; rw [← HR.out, ← Bool.not_eq_true, Dm.T.same_iff]; intro h; injection h with h1 h2; injection h1; exact c1 (by first | assumption | (rw [h2]))
    have hy : (nm == nm') = false := by rw [beq_eq_false_iff_ne]; exact c1
    clear c1 ih hw1
    go_wp2_with fail
    go_ret
    exact ⟨by rw [HE.out]; rfl, hW.out⟩
  subst c1
  by_cases c1 : tx = tx'
  rotate_left
  · have HE : Hid (R = false) := by unfold Hid; rw [← HR.out, ← Bool.not_eq_true, Dm.T.same_iff]; intro h; injection h with h1 h2; injection h1; exact c1 (by first | assumption | (rw [h2]))
    have hy : (tx == tx') = false := by rw [beq_eq_false_iff_ne]; exact c1
    clear c1 ih hw1
    go_wp2_with fail
    go_ret
    exact ⟨by rw [HE.out]; rfl, hW.out⟩
  subst c1
  by_cases c1 : pb = pb'
  rotate_left
  · have HE : Hid (R = false) := by unfold Hid; rw [← HR.out, ← Bool.not_eq_true, Dm.T.same_iff]; intro h; injection h with h1 h2; injection h1; exact c1 (by first | assumption | (rw [h2]))
    have hy : (pb == pb') = false := by rw [beq_eq_false_iff_ne]; exact c1
    clear c1 ih hw1
    go_wp2_with fail
    go_ret
    exact ⟨by rw [HE.out]; rfl, hW.out⟩
  subst c1
  by_cases c1 : sy = sy'
  rotate_left
  · have HE : Hid (R = false) := by unfold Hid; rw [← HR.out, ← Bool.not_eq_true, Dm.T.same_iff]; intro h; injection h with h1 h2; injection h1; exact c1 (by first | assumption | (rw [h2]))
    have hy : (sy == sy') = false := by rw [beq_eq_false_iff_ne]; exact c1
    clear c1 ih hw1
    go_wp2_with fail
    go_ret
    exact ⟨by rw [HE.out]; rfl, hW.out⟩
  subst c1
  have hA1 := hide (hA.out.below hw1)
  have hB0 := hide (hB.out.below hw1)
  have hK1 := hide (hKs.out.below hw1)
  have hL1 := hide (hLs.out.below hw1)
  clear hw1
  go_wp2_with fail
  refine (equalAttrs _ _ ats ats' w1 hA1.out hB0.out hal).mono ?_
  rintro _ _ ⟨rfl, n1, rfl⟩
  by_cases c1 : ats = ats'
  rotate_left
  · have HE : Hid (R = false) := by unfold Hid; rw [← HR.out, ← Bool.not_eq_true, Dm.T.same_iff]; intro h; injection h with h1 h2; injection h1; exact c1 (by first | assumption | (rw [h2]))
    have hd : decide (ats = ats') = false := decide_eq_false c1
    clear c1 ih
    go_wp2_with fail
    go_ret
    exact ⟨by rw [HE.out]; rfl, below_drewN hW.out _⟩
  have hd : decide (ats = ats') = true := decide_eq_true c1
  have HC1 := hide c1
  have hcall := hide (equalFunc ks ls _ _ (w1.drewN n1) (hK1.out.below (below_drewN (Below.refl _ w1) _)) (hL1.out.below (below_drewN (Below.refl _ w1) _)) hkl (fun t ht u av kv au ku w h1 h2 => ih t ht u av kv au ku w h1 h2 (HIH.out t ht)))
  have hbN : Below w1.heap.size w1 (w1.drewN n1) := below_drewN (Below.refl _ w1) _
  have HBN := hide hbN
  have HE : Hid (R = Dm.sameK ks ls) := by
    unfold Hid
    rw [← HR.out, Bool.eq_iff_iff, Dm.T.same_iff, Dm.sameK_iff]
    refine ⟨fun h => ?_, fun h => ?_⟩
    · injection h
    · rw [h, HC1.out]
  clear c1 ih hbN
  go_wp2_with fail
  refine hcall.out.mono ?_
  rintro e w2 ⟨rfl, hb2⟩
  have HB2' := hide (hW.out.trans ((HBN.out.trans (hb2.mono HBN.out.size)).mono hW.out.size))
  clear hb2
  generalize Dm.sameK ks ls = q at HE
  go_wp2_with fail
  go_ret
  exact ⟨by rw [HE.out]; rfl, HB2'.out⟩
end Go.Proofs.YtagkdmolgmhmdaaGreatDoor
