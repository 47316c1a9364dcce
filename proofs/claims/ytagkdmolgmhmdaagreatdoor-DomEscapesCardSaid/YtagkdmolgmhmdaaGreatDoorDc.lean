/- Two trees held against each other. -/
import Derived.Test.YtagkdmolgmhmdaaGreatDoorDb
import Derived.Test.YtagkdmolgmhmdaaGreatDoorRw
import Derived.StillTailTactics
import Derived.Deep.WholeRow
import Derived.Deep.Cut
import Derived.Deep.RegionWith
namespace Go.Proofs.YtagkdmolgmhmdaaGreatDoor
open Go.RowKit

/-- a node in a block of its own -/
def Box (w : World) (b : Nat) (d : Dm.D) (av kv : Value) : Prop := w.heap[b]? = some (.cells #[.int .u8 d.kd, S d.sp, S d.nm, av, S d.tx, S d.pb, S d.sy, kv] 26 (0, 0))
theorem Box.lt {w : World} {b : Nat} {d : Dm.D} {av kv : Value} (h : Box w b d av kv) : b < w.heap.size := heap_lt h
theorem Box.new (w : World) (d : Dm.D) (av kv : Value) : Box (w.alloc (.cells #[.int .u8 d.kd, S d.sp, S d.nm, av, S d.tx, S d.pb, S d.sy, kv] 26)) w.heap.size d av kv := heap_alloc_last _ _
theorem Box.alloc {w : World} {b : Nat} {d : Dm.D} {av kv : Value} (h : Box w b d av kv) (o : Obj) : Box (w.alloc o) b d av kv := (Below.heap_alloc _ _ _ h.lt).trans h
theorem Box.below {w w' : World} {b B : Nat} {d : Dm.D} {av kv : Value} (h : Box w b d av kv) (hb : Below B w w') (hB : b < B) : Box w' b d av kv := (hb.block b hB).trans h
theorem Box.cells {w : World} {b : Nat} {d : Dm.D} {av kv : Value} (h : Box w b d av kv) :
    w.cell? ⟨b, 0, none⟩ = some (.int .u8 d.kd) ∧ w.cell? ⟨b, 1, none⟩ = some (S d.sp) ∧ w.cell? ⟨b, 2, none⟩ = some (S d.nm) ∧ w.cell? ⟨b, 3, none⟩ = some av ∧
    w.cell? ⟨b, 4, none⟩ = some (S d.tx) ∧ w.cell? ⟨b, 5, none⟩ = some (S d.pb) ∧ w.cell? ⟨b, 6, none⟩ = some (S d.sy) ∧ w.cell? ⟨b, 7, none⟩ = some kv := by
  refine ⟨?_, ?_, ?_, ?_, ?_, ?_, ?_, ?_⟩ <;> rw [Lib.cell_of_heap h] <;> rfl
theorem Box.frozen {w : World} {b : Nat} {d : Dm.D} {av kv : Value} (h : Box w b d av kv) (o : Nat) : w.frozen? ⟨b, o, none⟩ = false := by
  unfold Box at h
  simp [World.frozen?, h]
theorem Box.setA {w : World} {b : Nat} {d : Dm.D} {av kv : Value} (h : Box w b d av kv) (v : Value) : Box (w.setCell ⟨b, 3, none⟩ v) b d v kv := by
  unfold Box at h ⊢
  simp [World.setCell, Array.getElem?_modify, h]
theorem Box.setK {w : World} {b : Nat} {d : Dm.D} {av kv : Value} (h : Box w b d av kv) (v : Value) : Box (w.setCell ⟨b, 7, none⟩ v) b d av v := by
  unfold Box at h ⊢
  simp [World.setCell, Array.getElem?_modify, h]
theorem Box.far {w : World} {b : Nat} {d : Dm.D} {av kv : Value} (h : Box w b d av kv) {p : Addr} (hp : b ≠ p.block) (v : Value) : Box (w.setCell p v) b d av kv := (Below.heap_setCell _ _ _ _ hp).trans h
theorem below_drewN {B : Nat} {w w' : World} (h : Below B w w') (n : Nat) : Below B w (w'.drewN n) := ⟨h.os, h.tape, h.output, h.size, h.block⟩

set_option maxRecDepth 100000 in
set_option maxHeartbeats 4000000 in
theorem sameNode (N : Nat) (hN : N ≤ 9223372036854775807) (s : Dm.T) : ∀ (t : Dm.T) (av kv au ku : Value) (w : World), RdT w s av kv → RdT w t au ku → s.Lim N →
    Calls Tryz.prog 14 #[NV s.d av kv, NV t.d au ku] w (Fresh (.bool (s.same t)) w) := by
  refine Dm.T.induct (C := fun s => ∀ (t : Dm.T) (av kv au ku : Value) (w : World), RdT w s av kv → RdT w t au ku → s.Lim N →
    Calls Tryz.prog 14 #[NV s.d av kv, NV t.d au ku] w (Fresh (.bool (s.same t)) w)) (fun d ks ih t av kv au ku w hs ht hlim => ?_) s
  obtain ⟨e, ls⟩ := t
  obtain ⟨ha, hk⟩ := RdT.mk_iff.1 hs
  obtain ⟨hb, hl⟩ := RdT.mk_iff.1 ht
  obtain ⟨ka, kc, rfl⟩ := hk.length
  obtain ⟨la, lc, rfl⟩ := hl.length
  obtain ⟨aa, ac, rfl⟩ := ha.length
  obtain ⟨ba, bc, rfl⟩ := hb.length
  simp only [Dm.T.Lim] at hlim
  obtain ⟨hld, hlk, hlK⟩ := hlim
  have hkl : ks.length ≤ 9223372036854775807 := by omega
  have hal : d.ats.length ≤ 9223372036854775807 := by have := hld.2.2.1; omega
  have HIH := hide (p := ∀ t ∈ ks, t.Lim N) (fun t ht => hlK.mem ht)
  clear hlK hld hs ht
  show Calls Tryz.prog 14 #[NV d (.slice aa d.ats.length ac) (.slice ka ks.length kc), NV e (.slice ba e.ats.length bc) (.slice la ls.length lc)] w _
  obtain ⟨R, hR⟩ : ∃ R, Dm.T.same (.mk d ks) (.mk e ls) = R := ⟨_, rfl⟩
  rw [hR]
  have HR := hide hR
  clear hR
  have b1 := (Box.new w d (.slice aa d.ats.length ac) (.slice ka ks.length kc)).alloc (.cells #[.int .u8 e.kd, S e.sp, S e.nm, .slice ba e.ats.length bc, S e.tx, S e.pb, S e.sy, .slice la ls.length lc] 26)
  have b2 := Box.new (w.alloc (.cells #[.int .u8 d.kd, S d.sp, S d.nm, .slice aa d.ats.length ac, S d.tx, S d.pb, S d.sy, .slice ka ks.length kc] 26)) e (.slice ba e.ats.length bc) (.slice la ls.length lc)
  have hw1 := ((Below.refl w.heap.size w).alloc (Nat.le_refl _) (.cells #[.int .u8 d.kd, S d.sp, S d.nm, .slice aa d.ats.length ac, S d.tx, S d.pb, S d.sy, .slice ka ks.length kc] 26)).alloc (by simp) (.cells #[.int .u8 e.kd, S e.sp, S e.nm, .slice ba e.ats.length bc, S e.tx, S e.pb, S e.sy, .slice la ls.length lc] 26)
  have hsz : (w.alloc (.cells #[.int .u8 d.kd, S d.sp, S d.nm, .slice aa d.ats.length ac, S d.tx, S d.pb, S d.sy, .slice ka ks.length kc] 26)).heap.size = w.heap.size + 1 := by simp
  rw [hsz] at b2
  clear hsz
  go_enter Tryz.func14, Tryz.ntmps14
  go_upto_region 1 with (fail)
  generalize hgen : (w.alloc (.cells #[.int .u8 d.kd, S d.sp, S d.nm, .slice aa d.ats.length ac, S d.tx, S d.pb, S d.sy, .slice ka ks.length kc] 26)).alloc (.cells #[.int .u8 e.kd, S e.sp, S e.nm, .slice ba e.ats.length bc, S e.tx, S e.pb, S e.sy, .slice la ls.length lc] 26) = w1 at b1 b2 hw1 ⊢
  clear hgen
  obtain ⟨kd, sp, nm, ats, tx, pb, sy⟩ := d
  obtain ⟨kd', sp', nm', ats', tx', pb', sy'⟩ := e
  obtain ⟨d0, d1, d2, d3, d4, d5, d6, d7⟩ := b1.cells
  obtain ⟨e0, e1, e2, e3, e4, e5, e6, e7⟩ := b2.cells
  have hA := hide ha
  have hB := hide hb
  have hKs := hide hk
  have hLs := hide hl
  have hW := hide hw1
  have hB1 := hide b1
  have hB2 := hide b2
  clear ha hb hk hl b1 b2
  simp only at d0 d1 d2 d3 d4 d5 d6 d7 e0 e1 e2 e3 e4 e5 e6 e7 hal hA hB
  go_wp2_with fail
  refine (sameAttrs _ _ ats ats' w1 (hA.out.below hw1) (hB.out.below hw1) hal).mono ?_
  rintro _ _ ⟨rfl, n1, rfl⟩
  clear hw1
  by_cases c1 : ats = ats'
  rotate_left
  · have HE : Hid (R = false) := by unfold Hid; rw [← HR.out, ← Bool.not_eq_true, Dm.T.same_iff]; intro h; injection h with h1 h2; injection h1; exact c1 (by first | assumption | (rw [h2]))
    have hd : decide (ats = ats') = false := decide_eq_false c1
    clear c1
    go_wp2_with fail
    go_ret
    exact ⟨by rw [HE.out]; rfl, below_drewN hW.out _⟩
  have hd : decide (ats = ats') = true := decide_eq_true c1
  have HC1 := hide c1
  clear c1
  by_cases c1 : kd = kd'
  rotate_left
  · have HE : Hid (R = false) := by unfold Hid; rw [← HR.out, ← Bool.not_eq_true, Dm.T.same_iff]; intro h; injection h with h1 h2; injection h1; exact c1 (by first | assumption | (rw [h2]))
    have hx : (kd != kd') = true := by rw [bne_iff_ne]; exact c1
    go_wp2_with fail
    go_ret
    exact ⟨by rw [HE.out]; rfl, below_drewN hW.out _⟩
  subst c1
  by_cases c1 : sp = sp'
  rotate_left
  · have HE : Hid (R = false) := by unfold Hid; rw [← HR.out, ← Bool.not_eq_true, Dm.T.same_iff]; intro h; injection h with h1 h2; injection h1; exact c1 (by first | assumption | (rw [h2]))
    have hx : (sp != sp') = true := by rw [bne_iff_ne]; exact c1
    have hy : (sp == sp') = false := by rw [beq_eq_false_iff_ne]; exact c1
    go_wp2_with fail
    go_ret
    exact ⟨by rw [HE.out]; rfl, below_drewN hW.out _⟩
  subst c1
  by_cases c1 : nm = nm'
  rotate_left
  · have HE : Hid (R = false) := by unfold Hid; rw [← HR.out, ← Bool.not_eq_true, Dm.T.same_iff]; intro h; injection h with h1 h2; injection h1; exact c1 (by first | assumption | (rw [h2]))
    have hx : (nm != nm') = true := by rw [bne_iff_ne]; exact c1
    have hy : (nm == nm') = false := by rw [beq_eq_false_iff_ne]; exact c1
    go_wp2_with fail
    go_ret
    exact ⟨by rw [HE.out]; rfl, below_drewN hW.out _⟩
  subst c1
  by_cases c1 : tx = tx'
  rotate_left
  · have HE : Hid (R = false) := by unfold Hid; rw [← HR.out, ← Bool.not_eq_true, Dm.T.same_iff]; intro h; injection h with h1 h2; injection h1; exact c1 (by first | assumption | (rw [h2]))
    have hx : (tx != tx') = true := by rw [bne_iff_ne]; exact c1
    have hy : (tx == tx') = false := by rw [beq_eq_false_iff_ne]; exact c1
    go_wp2_with fail
    go_ret
    exact ⟨by rw [HE.out]; rfl, below_drewN hW.out _⟩
  subst c1
  by_cases c1 : pb = pb'
  rotate_left
  · have HE : Hid (R = false) := by unfold Hid; rw [← HR.out, ← Bool.not_eq_true, Dm.T.same_iff]; intro h; injection h with h1 h2; injection h1; exact c1 (by first | assumption | (rw [h2]))
    have hx : (pb != pb') = true := by rw [bne_iff_ne]; exact c1
    have hy : (pb == pb') = false := by rw [beq_eq_false_iff_ne]; exact c1
    go_wp2_with fail
    go_ret
    exact ⟨by rw [HE.out]; rfl, below_drewN hW.out _⟩
  subst c1
  by_cases c1 : sy = sy'
  rotate_left
  · have HE : Hid (R = false) := by unfold Hid; rw [← HR.out, ← Bool.not_eq_true, Dm.T.same_iff]; intro h; injection h with h1 h2; injection h1; exact c1 (by first | assumption | (rw [h2]))
    have hx : (sy != sy') = true := by rw [bne_iff_ne]; exact c1
    have hy : (sy == sy') = false := by rw [beq_eq_false_iff_ne]; exact c1
    go_wp2_with fail
    go_ret
    exact ⟨by rw [HE.out]; rfl, below_drewN hW.out _⟩
  subst c1
  by_cases c1 : ks.length = ls.length
  rotate_left
  · have HE : Hid (R = false) := by unfold Hid; rw [← HR.out, ← Bool.not_eq_true, Dm.T.same_iff]; intro h; injection h with h1 h2; injection h1; exact c1 (by first | assumption | (rw [h2]))
    have hx : ((ks.length : Int) != (ls.length : Int)) = true := by rw [bne_iff_ne]; omega
    go_wp2_with fail
    go_ret
    exact ⟨by rw [HE.out]; rfl, below_drewN hW.out _⟩
  have hx : ((ks.length : Int) != (ls.length : Int)) = false := by rw [bne_eq_false_iff_eq]; omega
  have HL := hide c1
  clear c1
  go_wp2_with fail
  go_loopg [6] ks.length (fun g s6 wx => ∃ i : Nat, i + g = ks.length ∧ s6 = .int .i64 i ∧ Hid (Dm.sameK (ks.take i) (ls.take i) = true) ∧ Below w1.heap.size w1 wx)
  case atStart => exact ⟨0, by omega, rfl, by simp [Dm.sameK, Hid], belowN w1 n1⟩
  case round =>
    obtain ⟨i, hi, rfl, hs, hbx⟩ := hrel
    have f7 := (hB1.out.below hbx hB1.out.lt).cells.2.2.2.2.2.2.2
    have g7 := (hB2.out.below hbx hB2.out.lt).cells.2.2.2.2.2.2.2
    have hwx : Below w.heap.size w wr := hW.out.trans (hbx.mono hW.out.size)
    have hsx := hbx.size
    by_cases hlt : i < ks.length
    · have hlt2 : i < ls.length := by have := HL.out; omega
      obtain ⟨t, ht⟩ : ∃ t, ks[i]? = some t := ⟨ks[i], List.getElem?_eq_getElem hlt⟩
      obtain ⟨u, hu⟩ : ∃ u, ls[i]? = some u := ⟨ls[i], List.getElem?_eq_getElem hlt2⟩
      obtain ⟨b, o, av, kv, rfl, ⟨m0, m1, m2, m3, m4, m5, m6, m7⟩, hrt⟩ := (hKs.out.below hwx).at ht
      obtain ⟨b', o', av', kv', rfl, ⟨n0, n1, n2, n3, n4, n5, n6, n7⟩, hru⟩ := (hLs.out.below hwx).at hu
      have hmem := List.mem_of_getElem? ht
      have HT := hide (p := ks[i]? = some t ∧ ls[i]? = some u) ⟨ht, hu⟩
      have hcall := hide (ih t hmem u av kv av' kv' (wr.drewN 1) (hrt.below (belowN _ _)) (hru.below (belowN _ _)) (HIH.out t hmem))
      have HI := hide ih
      clear ih ht hu hrt hru hmem hKs hLs
      go_wp2_with fail
      go_still_tail 10, (by kernel_rfl)
      change wpList _ _ _ _ _ (wr.drewN 1)
      go_wp2_with fail
      refine hcall.out.mono ?_
      rintro e w2 ⟨rfl, hb2⟩
      have hb3 := (hbx.trans ((belowN wr 1).mono hsx)).trans (hb2.mono hsx)
      cases hbool : t.same u with
      | true =>
        go_wp2_with fail
        go_roundg (gk - 1)
        case measure => omega
        case rel =>
          refine ⟨i + 1, by omega, by go_num, ?_, hb3⟩
          unfold Hid
          rw [List.take_add_one, List.take_add_one, HT.out.1, HT.out.2, Dm.sameK_iff, (Dm.sameK_iff _ _).1 hs.out, (Dm.T.same_iff _ _).1 hbool]
      | false =>
        have HE : Hid (R = false) := by
          unfold Hid
          rw [← HR.out, ← Bool.not_eq_true, Dm.T.same_iff]
          intro h
          injection h with _ h2
          have h3 := HT.out.1
          rw [h2, HT.out.2] at h3
          injection h3 with h3
          rw [h3, Dm.T.same_self] at hbool
          cases hbool
        go_wp2_with fail
        go_ret
        exact ⟨by rw [HE.out]; rfl, hW.out.trans (hb3.mono hW.out.size)⟩
    · have HE : Hid (R = true) := by
        unfold Hid
        rw [← HR.out, Dm.T.same_iff]
        have h1 := (Dm.sameK_iff _ _).1 hs.out
        rw [List.take_of_length_le (by omega), List.take_of_length_le (by have := HL.out; omega)] at h1
        rw [h1, HC1.out]
      clear ih
      go_wp2_with fail
      go_ret
      exact ⟨by rw [HE.out]; rfl, hwx⟩
end Go.Proofs.YtagkdmolgmhmdaaGreatDoor
