/- A tree shown. -/
import Derived.Test.YtagkdmolgmhmdaaGreatDoorSo
namespace Go.Proofs.YtagkdmolgmhmdaaGreatDoor
open Go.RowKit

abbrev ShowC (t : Dm.T) : Prop := ∀ (bs ind : List UInt8) (av kv : Value) (w0 w : World) (b : Nat), RdT w0 t av kv → Below w0.heap.size w0 w → Bld w0.heap.size b bs w → t.Lim 1048576 → bs.length + (showT ind t).length ≤ 140737488355328 →
  Calls Tryz.prog 41 #[.pointer (some ⟨b, 0, none⟩), NV t.d av kv, S ind] w (Wrote w0 w b (bs ++ showT ind t))
theorem below_two {w a b : World} (h : Below w.heap.size w a) (k : Below a.heap.size a b) : Below w.heap.size w b := h.trans (k.mono h.size)
theorem below_al {w a : World} (h : Below w.heap.size w a) (o : Obj) : Below w.heap.size w (a.alloc o) := h.alloc h.size o
/-- the closure's cells and the node's own -/
def ShBox (w1 : World) (K b : Nat) (ind : List UInt8) (d : Dm.D) (av kv : Value) : Prop :=
  w1.heap[K]? = some (.cells #[.pointer (some ⟨b, 0, none⟩)] 51 (0, 0)) ∧ Box w1 (K + 1) d av kv ∧ w1.heap[K + 1 + 1]? = some (.cells #[S ind] 9 (0, 0))
theorem ShBox.keep {w w' : World} {K b B : Nat} {ind : List UInt8} {d : Dm.D} {av kv : Value} (h : ShBox w K b ind d av kv) (hk : Keep B w w') : ShBox w' K b ind d av kv :=
  ⟨hk.kept _ _ _ _ h.1 (by decide) (by decide), h.2.1.keep hk, hk.kept _ _ _ _ h.2.2 (by decide) (by decide)⟩
theorem ShBox.below {w w' : World} {K b : Nat} {ind : List UInt8} {d : Dm.D} {av kv : Value} (h : ShBox w K b ind d av kv) (hk : Below w.heap.size w w') : ShBox w' K b ind d av kv :=
  ⟨(hk.block _ (heap_lt h.1)).trans h.1, h.2.1.below hk h.2.1.lt, (hk.block _ (heap_lt h.2.2)).trans h.2.2⟩
/-- a line, at the closure -/
theorem line_at {w0 w1 : World} {K b : Nat} {bs ind : List UInt8} {d : Dm.D} {av kv : Value} (l : List (List UInt8)) (n : Nat) (W : World) (hs : ShBox W K b ind d av kv) (hn : l.length = n) (hn2 : n ≤ 100) (hk : Keep w0.heap.size w1 W)
    (hb : Below w0.heap.size w0 w1) (hB : Bld w0.heap.size b bs W) (hlen : bs.length + (lineP ind l).length ≤ 140737488355328) :
    Calls Tryz.prog 58 #[.slice (some ⟨W.heap.size, 0, none⟩) n n, .pointer (some ⟨K, 0, none⟩), .pointer (some ⟨K + 1 + 1, 0, none⟩)] (W.alloc (.cells (l.map S).toArray 9))
      fun e w' => e = .returned (.tuple #[]) ∧ Bld w0.heap.size b (bs ++ lineP ind l) w' ∧ Keep w0.heap.size w1 w' := by
  have hbW := hb.trans hk.below
  have ha := (Below.refl W.heap.size W).alloc (Nat.le_refl _) (.cells (l.map S).toArray 9)
  have hkA := Keep.of_below hbW.size ha
  have hsA := hs.keep hkA
  refine (line l W.heap.size n K (K + 1 + 1) b bs ind w0 _ hn hn2 (words_new W l 9) (by simp) hsA.1 hsA.2.2 (bld_below hB ha) (hbW.trans hkA.below) hlen).mono ?_
  rintro e w' ⟨h1, h2, h3⟩
  exact ⟨h1, h2, hk.trans (hkA.trans h3)⟩

set_option maxRecDepth 100000 in
set_option maxHeartbeats 8000000 in
theorem show_of (d : Dm.D) (ks : List Dm.T) (ih : ∀ t ∈ ks, ShowC t) : ShowC (.mk d ks) := by
  intro bs ind av kv w0 w b hs hbw hB hlim hlen
  have hmf : ∀ (fn : Fn) (first cap : Array Value) (w : World), (Instr.makeFunc fn first cap).run Tryz.prog w = .ok (.func fn first cap) w := fun _ _ _ _ => rfl
  obtain ⟨ha, hk⟩ := RdT.mk_iff.1 hs
  obtain ⟨ka, kc, rfl⟩ := hk.length
  obtain ⟨aa, ac, rfl⟩ := ha.length
  simp only [Dm.T.Lim] at hlim
  obtain ⟨⟨y1, y2, y3, y4, y5, y6, y7⟩, hlk, hlK⟩ := hlim
  have HIH := hide (p := ∀ t ∈ ks, t.Lim 1048576) (fun t ht => hlK.mem ht)
  have HAL := hide y7
  have HI := hide ih
  have HKS := hide hk
  have HAS := hide ha
  clear hlK hs ha ih hk y7
  show Calls Tryz.prog 41 #[.pointer (some ⟨b, 0, none⟩), NV d (.slice aa d.ats.length ac) (.slice ka ks.length kc), S ind] w _
  obtain ⟨R, hR⟩ : ∃ R, bs ++ showT ind (.mk d ks) = R := ⟨_, rfl⟩
  rw [hR]
  have HR : Hid (R = bs ++ (headP ind d ++ showK (ind ++ [32, 32]) ks)) := by unfold Hid; rw [← hR, showT]
  have HLN : Hid (bs.length + (headP ind d ++ showK (ind ++ [32, 32]) ks).length ≤ 140737488355328) := by unfold Hid; rw [showT] at hlen; exact hlen
  have hind : ind.length ≤ 140737488355328 := by
    have h := HLN.out
    simp only [headP, lineP, List.length_append] at h
    omega
  clear hR hlen
  go_enter Tryz.func41, Tryz.ntmps41
  go_upto_region 1 with (fail)
  generalize hgen : ((w.alloc (.cells #[.pointer (some ⟨b, 0, none⟩)] 51)).alloc (.cells #[.int .u8 d.kd, S d.sp, S d.nm, .slice aa d.ats.length ac, S d.tx, S d.pb, S d.sy, .slice ka ks.length kc] 26)).alloc (.cells #[S ind] 9) = w1
  have hsh : ShBox w1 w.heap.size b ind d (.slice aa d.ats.length ac) (.slice ka ks.length kc) := by
    rw [← hgen]
    refine ⟨?_, ?_, ?_⟩
    · rw [Below.heap_alloc _ _ _ (by simp; omega), Below.heap_alloc _ _ _ (by simp)]; exact heap_alloc_last _ _
    · refine Box.alloc ?_ _
      have := Box.new (w.alloc (.cells #[.pointer (some ⟨b, 0, none⟩)] 51)) d (.slice aa d.ats.length ac) (.slice ka ks.length kc)
      rwa [show (w.alloc (.cells #[.pointer (some ⟨b, 0, none⟩)] 51)).heap.size = w.heap.size + 1 by simp] at this
    · have := heap_alloc_last ((w.alloc (.cells #[.pointer (some ⟨b, 0, none⟩)] 51)).alloc (.cells #[.int .u8 d.kd, S d.sp, S d.nm, .slice aa d.ats.length ac, S d.tx, S d.pb, S d.sy, .slice ka ks.length kc] 26)) (.cells #[S ind] 9)
      rwa [show ((w.alloc (.cells #[.pointer (some ⟨b, 0, none⟩)] 51)).alloc (.cells #[.int .u8 d.kd, S d.sp, S d.nm, .slice aa d.ats.length ac, S d.tx, S d.pb, S d.sy, .slice ka ks.length kc] 26)).heap.size = w.heap.size + 1 + 1 by simp] at this
  have hw1 : Below w.heap.size w w1 := by
    rw [← hgen]
    exact (((Below.refl w.heap.size w).alloc (Nat.le_refl _) _).alloc (by simp) _).alloc (by simp; omega) _
  clear hgen
  have hk1 := hide (Keep.of_below hbw.size hw1)
  have hB1 := hide (bld_below hB hw1)
  have hb1 := hide (hbw.trans (hw1.mono hbw.size))
  have HSH := hide hsh
  obtain ⟨d0, d1, d2, d3, d4, d5, d6, d7⟩ := hsh.2.1.cells
  obtain ⟨kd, sp, nm, ats, tx, pb, sy⟩ := d
  simp only at d0 d1 d2 d3 d4 d5 d6 d7 y1 y2 y3 y4 y5 y6
  clear hB hw1 hsh
  go_upto_block 0 with (fail)
  go_cut [] from 14 (fun wx => Hid (Bld w0.heap.size b (bs ++ headP ind ⟨kd, sp, nm, ats, tx, pb, sy⟩) wx) ∧ Keep w0.heap.size w1 wx)
  case rest =>
    obtain ⟨hBc, hkc⟩ := hcut
    have hb7 := (HSH.out.keep hkc)
    have HSC := hide hb7
    obtain ⟨c0, c1, c2, c3, c4, c5, c6, c7⟩ := hb7.2.1.cells
    have hbc := hide (hb1.out.trans hkc.below)
    clear hb7 c0 c1 c2 c3 c4 c5 c6 d0 d1 d2 d3 d4 d5 d6 d7
    go_wp2_with fail
    go_loopg [86] ks.length (fun g s86 wx => ∃ i : Nat, i + g = ks.length ∧ s86 = .int .i64 i ∧ Hid (Bld w0.heap.size b (bs ++ headP ind ⟨kd, sp, nm, ats, tx, pb, sy⟩ ++ showK (ind ++ [32, 32]) (ks.take i)) wx) ∧ Keep w0.heap.size w1 wx)
    case atStart => exact ⟨0, by omega, rfl, by simpa [Hid, showK] using hBc.out, hkc⟩
    case round =>
      obtain ⟨i, hi, rfl, hbld, hkx⟩ := hrel
      have hbx := hb1.out.trans hkx.below
      have hsx := hbx.size
      by_cases hlt : i < ks.length
      · obtain ⟨t, ht⟩ : ∃ t, ks[i]? = some t := ⟨ks[i], List.getElem?_eq_getElem hlt⟩
        obtain ⟨b', o, av, kv, rfl, ⟨n0, n1, n2, n3, n4, n5, n6, n7⟩, hrt⟩ := HKS.out.at ht
        have st := Stay.of_below hbx
        have m0 := st _ _ _ n0
        have m1 := st _ _ _ n1
        have m2 := st _ _ _ n2
        have m3 := st _ _ _ n3
        have m4 := st _ _ _ n4
        have m5 := st _ _ _ n5
        have m6 := st _ _ _ n6
        have m7 := st _ _ _ n7
        obtain ⟨⟨aa2, ac2, rfl⟩, ka2, kc2, rfl⟩ := (⟨(hrt.eta).1.length, (hrt.eta).2.length⟩ : (∃ ao c, av = .slice ao t.d.ats.length c) ∧ ∃ ko c, kv = .slice ko t.ks.length c)
        have hmem := List.mem_of_getElem? ht
        have htake := showK_take (ind ++ [32, 32]) ks i t ht
        have hle := showK_le (ind ++ [32, 32]) ks (i + 1)
        rw [htake, List.length_append] at hle
        have hal := (Below.refl wr.heap.size wr).alloc (Nat.le_refl _) (.cells #[.int .u8 t.d.kd, S t.d.sp, S t.d.nm, .slice aa2 t.d.ats.length ac2, S t.d.tx, S t.d.pb, S t.d.sy, .slice ka2 t.ks.length kc2] 26)
        have hkA := hide (hkx.trans (Keep.of_below hsx hal))
        have hshA := HSH.out.keep hkA.out
        have q0 : (wr.alloc (.cells #[.int .u8 t.d.kd, S t.d.sp, S t.d.nm, .slice aa2 t.d.ats.length ac2, S t.d.tx, S t.d.pb, S t.d.sy, .slice ka2 t.ks.length kc2] 26)).cell? ⟨w.heap.size, 0, none⟩ = some (.pointer (some ⟨b, 0, none⟩)) := by rw [Lib.cell_of_heap hshA.1]; rfl
        have q2 : (wr.alloc (.cells #[.int .u8 t.d.kd, S t.d.sp, S t.d.nm, .slice aa2 t.d.ats.length ac2, S t.d.tx, S t.d.pb, S t.d.sy, .slice ka2 t.ks.length kc2] 26)).cell? ⟨w.heap.size + 1 + 1, 0, none⟩ = some (S ind) := by rw [Lib.cell_of_heap hshA.2.2]; rfl
        have hlen2 : (bs ++ headP ind ⟨kd, sp, nm, ats, tx, pb, sy⟩ ++ showK (ind ++ [32, 32]) (ks.take i)).length + (showT (ind ++ [32, 32]) t).length ≤ 140737488355328 := by
          have h := HLN.out
          simp only [List.length_append] at h hle ⊢
          omega
        have hcall := hide (HI.out t hmem (bs ++ headP ind ⟨kd, sp, nm, ats, tx, pb, sy⟩ ++ showK (ind ++ [32, 32]) (ks.take i)) (ind ++ [32, 32]) (.slice aa2 t.d.ats.length ac2) (.slice ka2 t.ks.length kc2) w0 _ b hrt (hb1.out.trans hkA.out.below) (bld_below hbld.out hal) (HIH.out t hmem) hlen2)
        have g1 : ¬ 9223372036854775807 < ind.length + 2 := by omega
        have HTK := hide htake
        clear ht hrt hmem htake hle hal hshA st n0 n1 n2 n3 n4 n5 n6 n7 hlen2
        go_wp2_with fail
        refine Calls.mono hcall.out ?_
        rintro e w5 ⟨rfl, hB5, hk5⟩
        have HB5 := hide hB5
        clear hB5
        go_wp2_with fail
        go_roundg (gk - 1)
        case measure => omega
        case rel => exact ⟨i + 1, by omega, by go_num, by unfold Hid; rw [HTK.out, ← List.append_assoc]; exact HB5.out, hkA.out.trans hk5⟩
      · obtain rfl : i = ks.length := by omega
        go_wp2_with fail
        refine bodyPost_end (results_none (by kernel_rfl) _ _ _) rfl ⟨rfl, ?_, hk1.out.trans hkx⟩
        have h := hbld.out
        rw [List.take_of_length_le (Nat.le_refl _), List.append_assoc, ← HR.out] at h
        exact h
  case first =>
    by_cases k1 : kd = 1
    · subst k1
      have hP : headP ind ⟨1, sp, nm, ats, tx, pb, sy⟩ = lineP ind [wDoc] := by simp [headP, partsD]
      have hL : bs.length + (lineP ind [wDoc]).length ≤ 140737488355328 := by
        have h := HLN.out
        rw [hP, List.length_append] at h
        omega
      have HP := hide hP
      have HL := hide hL
      clear hP hL
      go_wp2_with fail
      refine Calls.mono (line_at (d := ⟨_, sp, nm, ats, tx, pb, sy⟩) [wDoc] 1 w1 HSH.out rfl (by decide) (Keep.refl _ _) hb1.out hB1.out HL.out) ?_
      rintro e w6 ⟨rfl, hB6, hk6⟩
      have HB6 := hide hB6
      clear hB6
      go_wp2_with fail
      go_meet
      case rel => exact ⟨by unfold Hid; rw [HP.out]; exact HB6.out, hk6⟩
    by_cases k4 : kd = 4
    · subst k4
      have hP : headP ind ⟨4, sp, nm, ats, tx, pb, sy⟩ = lineP ind [quotedP tx] := by simp [headP, partsD]
      have hL : bs.length + (lineP ind [quotedP tx]).length ≤ 140737488355328 := by
        have h := HLN.out
        rw [hP, List.length_append] at h
        omega
      have HP := hide hP
      have HL := hide hL
      clear hP hL
      go_wp2_with fail
      refine Calls.mono (quoted tx w1 (by assumption)) ?_
      rintro e w5 ⟨rfl, hb5⟩
      have HB5 := hide hb5
      clear hb5
      go_wp2_with fail
      refine Calls.mono (line_at (d := ⟨_, sp, nm, ats, tx, pb, sy⟩) [quotedP tx] 1 w5 (HSH.out.below HB5.out) rfl (by decide) (Keep.of_below hb1.out.size HB5.out) hb1.out (bld_below hB1.out HB5.out) HL.out) ?_
      rintro e w6 ⟨rfl, hB6, hk6⟩
      have HB6 := hide hB6
      clear hB6
      go_wp2_with fail
      go_meet
      case rel => exact ⟨by unfold Hid; rw [HP.out]; exact HB6.out, hk6⟩
    by_cases k5 : kd = 5
    · subst k5
      have hP : headP ind ⟨5, sp, nm, ats, tx, pb, sy⟩ = lineP ind [[45, 45], quotedP tx] := by simp [headP, partsD]
      have hL : bs.length + (lineP ind [[45, 45], quotedP tx]).length ≤ 140737488355328 := by
        have h := HLN.out
        rw [hP, List.length_append] at h
        omega
      have HP := hide hP
      have HL := hide hL
      clear hP hL
      go_wp2_with fail
      refine Calls.mono (quoted tx w1 (by assumption)) ?_
      rintro e w5 ⟨rfl, hb5⟩
      have HB5 := hide hb5
      clear hb5
      go_wp2_with fail
      refine Calls.mono (line_at (d := ⟨_, sp, nm, ats, tx, pb, sy⟩) [[45, 45], quotedP tx] 2 w5 (HSH.out.below HB5.out) rfl (by decide) (Keep.of_below hb1.out.size HB5.out) hb1.out (bld_below hB1.out HB5.out) HL.out) ?_
      rintro e w6 ⟨rfl, hB6, hk6⟩
      have HB6 := hide hB6
      clear hB6
      go_wp2_with fail
      go_meet
      case rel => exact ⟨by unfold Hid; rw [HP.out]; exact HB6.out, hk6⟩
    by_cases k2 : kd = 2
    · subst k2
      have hP : headP ind ⟨2, sp, nm, ats, tx, pb, sy⟩ = lineP ind [[33], quotedP nm, [32], quotedP pb, [32], quotedP sy] := by simp [headP, partsD]
      have hL : bs.length + (lineP ind [[33], quotedP nm, [32], quotedP pb, [32], quotedP sy]).length ≤ 140737488355328 := by
        have h := HLN.out
        rw [hP, List.length_append] at h
        omega
      have HP := hide hP
      have HL := hide hL
      clear hP hL
      have HALL : Hid (∀ W, Below w1.heap.size w1 W → W.cell? ⟨w.heap.size + 1, 2, none⟩ = some (S nm) ∧ W.cell? ⟨w.heap.size + 1, 5, none⟩ = some (S pb) ∧ W.cell? ⟨w.heap.size + 1, 6, none⟩ = some (S sy)) := fun W hW => by
        have h := (HSH.out.below hW).2.1.cells
        exact ⟨h.2.2.1, h.2.2.2.2.2.1, h.2.2.2.2.2.2.1⟩
      have HALK : Hid (∀ W, Keep w0.heap.size w1 W → W.cell? ⟨w.heap.size + 1, 2, none⟩ = some (S nm) ∧ W.cell? ⟨w.heap.size + 1, 5, none⟩ = some (S pb) ∧ W.cell? ⟨w.heap.size + 1, 6, none⟩ = some (S sy)) := fun W hW => by
        have h := (HSH.out.keep hW).2.1.cells
        exact ⟨h.2.2.1, h.2.2.2.2.2.1, h.2.2.2.2.2.2.1⟩
      clear d0 d1 d2 d3 d4 d5 d6 d7
      obtain ⟨c2, c5, c6⟩ := HALL.out w1 (Below.refl _ _)
      go_wp2_with fail
      go_region_held3 (fun w' => w'.cell? ⟨w.heap.size + 1, 2, none⟩ = some (S nm) ∧ w'.cell? ⟨w.heap.size + 1, 5, none⟩ = some (S pb) ∧ w'.cell? ⟨w.heap.size + 1, 6, none⟩ = some (S sy)) (first | exact HALL.out _ (Below.refl _ _) | exact HALL.out _ (Below.refl _ _).drew | exact HALL.out _ (by assumption) | exact HALL.out _ (below_al (by assumption) _) | assumption) (first | (go_at_call 60; refine Calls.mono (quoted _ _ (by assumption)) ?_; rintro e w5 ⟨rfl, hb5⟩; have hz5 : Below w1.heap.size w1 w5 := by first | exact below_d hb5 | exact below_two (by assumption) hb5) | (go_at_call 58; refine Calls.mono (line_at (d := ⟨_, sp, nm, ats, tx, pb, sy⟩) [[33], quotedP nm, [32], quotedP pb, [32], quotedP sy] 6 _ (HSH.out.below (by assumption)) rfl (by decide) (Keep.of_below hb1.out.size (by assumption)) hb1.out (bld_below hB1.out (by assumption)) HL.out) ?_; rintro e w6 ⟨rfl, hB6, hk6⟩; have hs6 := HALK.out _ hk6))
      all_goals
        have HB6 := hide hB6
        clear hB6
        go_wp2_with fail
        go_meet
        case rel => exact ⟨by unfold Hid; rw [HP.out]; exact HB6.out, hk6⟩
    by_cases k3 : kd = 3
    · subst k3
      have hP : headP ind ⟨3, sp, nm, ats, tx, pb, sy⟩ = lineP ind [[60], bareP sp, [58], bareP nm] ++ linesA ind ats := by simp [headP, partsD]
      have hL : bs.length + (lineP ind [[60], bareP sp, [58], bareP nm]).length + (linesA ind ats).length ≤ 140737488355328 := by
        have h := HLN.out
        rw [hP, List.length_append, List.length_append] at h
        omega
      have hL1 : bs.length + (lineP ind [[60], bareP sp, [58], bareP nm]).length ≤ 140737488355328 := by omega
      have HP := hide hP
      have HL := hide hL1
      have HLL := hide hL
      have HALL : Hid (∀ W, Below w1.heap.size w1 W → W.cell? ⟨w.heap.size + 1, 1, none⟩ = some (S sp) ∧ W.cell? ⟨w.heap.size + 1, 2, none⟩ = some (S nm)) := fun W hW => by
        have h := (HSH.out.below hW).2.1.cells
        exact ⟨h.2.1, h.2.2.1⟩
      have HALK : Hid (∀ W, Keep w0.heap.size w1 W → W.cell? ⟨w.heap.size + 1, 1, none⟩ = some (S sp) ∧ W.cell? ⟨w.heap.size + 1, 2, none⟩ = some (S nm)) := fun W hW => by
        have h := (HSH.out.keep hW).2.1.cells
        exact ⟨h.2.1, h.2.2.1⟩
      clear hP hL hL1 d0 d1 d2 d3 d4 d5 d6 d7
      have d0 := HSH.out.2.1.cells.1
      simp only at d0
      obtain ⟨c1, c2⟩ := HALL.out w1 (Below.refl _ _)
      go_wp2_with fail
      go_region_held3 (fun w' => w'.cell? ⟨w.heap.size + 1, 1, none⟩ = some (S sp) ∧ w'.cell? ⟨w.heap.size + 1, 2, none⟩ = some (S nm)) (first | exact HALL.out _ (Below.refl _ _) | exact HALL.out _ (Below.refl _ _).drew | exact HALL.out _ (by assumption) | exact HALL.out _ (below_al (by assumption) _) | assumption) (first | (go_at_call 61; refine Calls.mono (bare _ _ (by assumption)) ?_; rintro e w5 ⟨rfl, hb5⟩; have hz5 : Below w1.heap.size w1 w5 := by first | exact below_d hb5 | exact below_two (by assumption) hb5) | (go_at_call 58; refine Calls.mono (line_at (d := ⟨_, sp, nm, ats, tx, pb, sy⟩) [[60], bareP sp, [58], bareP nm] 4 _ (HSH.out.below (by assumption)) rfl (by decide) (Keep.of_below hb1.out.size (by assumption)) hb1.out (bld_below hB1.out (by assumption)) HL.out) ?_; rintro e w6 ⟨rfl, hB6, hk6⟩; have hs6 := HALK.out _ hk6))
      all_goals
        have HB6 := hide hB6
        have HK6 := hide hk6
        have c3 := (HSH.out.keep hk6).2.1.cells.2.2.2.1
        clear hB6 hk6 hs6 c1 c2 d0 HALL HALK
        go_wp2_with fail
        go_loopg [50] ats.length (fun g s50 wx => ∃ i : Nat, i + g = ats.length ∧ s50 = .int .i64 i ∧ Hid (Bld w0.heap.size b (bs ++ lineP ind [[60], bareP sp, [58], bareP nm] ++ linesA ind (ats.take i)) wx) ∧ Keep w0.heap.size w1 wx)
        case atStart => exact ⟨0, by omega, rfl, by simpa [Hid, linesA] using HB6.out, HK6.out⟩
        case round =>
          obtain ⟨i, hi, rfl, hbld, hkx⟩ := hrel
          have hbx := hb1.out.trans hkx.below
          have hsx := hbx.size
          by_cases hlt : i < ats.length
          · obtain ⟨a, hx⟩ : ∃ a, ats[i]? = some a := ⟨ats[i], List.getElem?_eq_getElem hlt⟩
            obtain ⟨b', o, rfl, m0, m1, m2⟩ := (HAS.out.below hbx).at hx
            obtain ⟨z1, z2, z3⟩ := HAL.out a (List.mem_of_getElem? hx)
            have htake := linesA_take ind ats i a hx
            have hle := linesA_le ind ats (i + 1)
            rw [htake, List.length_append] at hle
            have HTK := hide htake
            obtain ⟨sp', nm', vl⟩ := a
            simp only at m0 m1 m2 z1 z2 z3
            have hLa : (bs ++ lineP ind [[60], bareP sp, [58], bareP nm] ++ linesA ind (ats.take i)).length + (lineP ind [[32, 32, 64], bareP sp', [58], bareP nm', [61], quotedP vl]).length ≤ 140737488355328 := by
              have h := HLL.out
              have h2 : (lineP ind [[32, 32, 64], bareP sp', [58], bareP nm', [61], quotedP vl]).length = (lineP ind (partsA ⟨sp', nm', vl⟩)).length := rfl
              rw [h2]
              simp only [List.length_append] at h hle ⊢
              omega
            have HLA := hide hLa
            clear hx htake hle hLa
            go_upto_region 13 with (fail)
            have hal : Below wr.heap.size wr (wr.alloc (.cells #[S sp', S nm', S vl] 43)) := (Below.refl _ wr).alloc (Nat.le_refl _) _
            have hX : (wr.alloc (.cells #[S sp', S nm', S vl] 43)).heap[wr.heap.size]? = some (.cells #[S sp', S nm', S vl] 43 (0, 0)) := heap_alloc_last _ _
            generalize hgen : wr.alloc (.cells #[S sp', S nm', S vl] 43) = wA at hal hX ⊢
            clear hgen m0 m1 m2
            have hkA := hkx.trans (Keep.of_below hsx hal)
            have HKA := hide hkA
            have hbA := hide (hb1.out.trans hkA.below)
            have HBA := hide (bld_below hbld.out hal)
            have HALL : Hid (∀ W, Below wA.heap.size wA W → W.cell? ⟨wr.heap.size, 0, none⟩ = some (S sp') ∧ W.cell? ⟨wr.heap.size, 1, none⟩ = some (S nm') ∧ W.cell? ⟨wr.heap.size, 2, none⟩ = some (S vl)) := fun W hW => by
              have h := (hW.block _ (heap_lt hX)).trans hX
              refine ⟨?_, ?_, ?_⟩ <;> rw [Lib.cell_of_heap h] <;> rfl
            have HALK : Hid (∀ W, Keep w0.heap.size wA W → W.cell? ⟨wr.heap.size, 0, none⟩ = some (S sp') ∧ W.cell? ⟨wr.heap.size, 1, none⟩ = some (S nm') ∧ W.cell? ⟨wr.heap.size, 2, none⟩ = some (S vl)) := fun W hW => by
              have h := hW.kept _ _ _ _ hX (by decide) (by decide)
              refine ⟨?_, ?_, ?_⟩ <;> rw [Lib.cell_of_heap h] <;> rfl
            have HSA := hide (HSH.out.keep hkA)
            obtain ⟨e0, e1, e2⟩ := HALL.out wA (Below.refl _ _)
            clear hkA hal hX
            go_region_held3 (fun w' => w'.cell? ⟨wr.heap.size, 0, none⟩ = some (S sp') ∧ w'.cell? ⟨wr.heap.size, 1, none⟩ = some (S nm') ∧ w'.cell? ⟨wr.heap.size, 2, none⟩ = some (S vl)) (first | exact HALL.out _ (Below.refl _ _) | exact HALL.out _ (Below.refl _ _).drew | exact HALL.out _ (by assumption) | exact HALL.out _ (below_al (by assumption) _) | assumption) (first | (go_at_call 61; refine Calls.mono (bare _ _ (by assumption)) ?_; rintro e w5 ⟨rfl, hb5⟩; have hz5 : Below wA.heap.size wA w5 := by first | exact below_d hb5 | exact below_two (by assumption) hb5) | (go_at_call 60; refine Calls.mono (quoted _ _ (by assumption)) ?_; rintro e w5 ⟨rfl, hb5⟩; have hz5 : Below wA.heap.size wA w5 := by first | exact below_d hb5 | exact below_two (by assumption) hb5) | (go_at_call 58; refine Calls.mono (line_at (w1 := wA) (d := ⟨_, sp, nm, ats, tx, pb, sy⟩) [[32, 32, 64], bareP sp', [58], bareP nm', [61], quotedP vl] 6 _ (HSA.out.below (by assumption)) rfl (by decide) (Keep.of_below hbA.out.size (by assumption)) hbA.out (bld_below HBA.out (by assumption)) HLA.out) ?_; rintro e w6 ⟨rfl, hB6, hk6⟩; have hs6 := HALK.out _ hk6))
            all_goals
              have HB7 := hide hB6
              have HK7 := hide (HKA.out.trans hk6)
              clear hB6 hk6
              go_wp2_with fail
              go_roundg (gk - 1)
              case measure => omega
              case rel => exact ⟨i + 1, by omega, by go_num, by unfold Hid; rw [HTK.out, ← List.append_assoc]; exact HB7.out, HK7.out⟩
          · obtain rfl : i = ats.length := by omega
            have hbl := hbld.out
            rw [List.take_of_length_le (Nat.le_refl _), List.append_assoc, ← HP.out] at hbl
            have HB7 := hide hbl
            clear hbl
            go_wp2_with fail
            go_meet
            case rel => exact ⟨HB7.out, hkx⟩
    have hP : headP ind ⟨kd, sp, nm, ats, tx, pb, sy⟩ = lineP ind [[63]] := by simp [headP, partsD, k1, k2, k3, k4, k5]
    have hL : bs.length + (lineP ind [[63]]).length ≤ 140737488355328 := by
      have h := HLN.out
      rw [hP, List.length_append] at h
      omega
    have HP := hide hP
    have HL := hide hL
    have k1b : (kd == 1) = false := by simpa using k1
    have k2b : (kd == 2) = false := by simpa using k2
    have k3b : (kd == 3) = false := by simpa using k3
    have k4b : (kd == 4) = false := by simpa using k4
    have k5b : (kd == 5) = false := by simpa using k5
    clear hP hL
    go_wp2_with fail
    refine Calls.mono (line_at (d := ⟨_, sp, nm, ats, tx, pb, sy⟩) [[63]] 1 w1 HSH.out rfl (by decide) (Keep.refl _ _) hb1.out hB1.out HL.out) ?_
    rintro e w6 ⟨rfl, hB6, hk6⟩
    have HB6 := hide hB6
    clear hB6
    go_wp2_with fail
    go_meet
    case rel => exact ⟨by unfold Hid; rw [HP.out]; exact HB6.out, hk6⟩
theorem show_ (t : Dm.T) : ShowC t := Dm.T.induct (C := ShowC) (fun d ks ih => show_of d ks ih) t
set_option maxRecDepth 100000 in
set_option maxHeartbeats 4000000 in
theorem shown (t : Dm.T) (av kv : Value) (w : World) (hs : RdT w t av kv) (hlim : t.Lim 1048576) (hlen : (showT [] t).length ≤ 140737488355328) :
    Calls Tryz.prog 20 #[NV t.d av kv] w (Fresh (S (showT [] t)) w) := by
  obtain ⟨⟨aa, ac, rfl⟩, ka, kc, rfl⟩ := (⟨(hs.eta).1.length, (hs.eta).2.length⟩ : (∃ ao c, av = .slice ao t.d.ats.length c) ∧ ∃ ko c, kv = .slice ko t.ks.length c)
  obtain ⟨M, hM⟩ : ∃ M, showT [] t = M := ⟨_, rfl⟩
  obtain ⟨w1, hw1⟩ : ∃ x, x = w.alloc (.cells #[.int .u8 t.d.kd, S t.d.sp, S t.d.nm, .slice aa t.d.ats.length ac, S t.d.tx, S t.d.pb, S t.d.sy, .slice ka t.ks.length kc] 26) := ⟨_, rfl⟩
  have hb1 : Below w.heap.size w w1 := by rw [hw1]; exact (Below.refl _ w).alloc (Nat.le_refl _) _
  have b1 : Box w1 w.heap.size t.d (.slice aa t.d.ats.length ac) (.slice ka t.ks.length kc) := by rw [hw1]; exact Box.new w t.d _ _
  have hB := bld_new w1
  have hb2 : Below w1.heap.size w1 (w1.alloc (.cells #[.pointer none, .slice none 0 0] 54)) := (Below.refl _ w1).alloc (Nat.le_refl _) _
  have hcall := hide (show_ t [] [] (.slice aa t.d.ats.length ac) (.slice ka t.ks.length kc) w1 (w1.alloc (.cells #[.pointer none, .slice none 0 0] 54)) w1.heap.size (hs.below hb1) hb2 hB hlim (by simpa using hlen))
  rw [hM] at hcall ⊢
  simp only [List.nil_append] at hcall
  obtain ⟨d0, d1, d2, d3, d4, d5, d6, d7⟩ := (b1.alloc (.cells #[.pointer none, .slice none 0 0] 54)).cells
  have HB1 := hide hb1
  have HB2 := hide hb2
  have hs1 : w1.heap.size = w.heap.size + 1 := by rw [hw1]; simp
  have HS1 := hide hs1
  clear hs hM hB hb1 hb2 b1 hs1
  go_enter Tryz.func20, Tryz.ntmps20
  go_upto_region 1 with (fail)
  rw [← hw1]
  clear hw1
  go_wp2_with fail
  refine Calls.mono hcall.out ?_
  rintro e w2 ⟨rfl, hB2, hk2⟩
  go_wp2_with fail
  refine (Tryz.Builder_String_any w1.heap.size w1.heap.size M _ hB2 (Nat.le_trans HB2.out.size hk2.below.size)).mono ?_
  rintro e w3 ⟨rfl, hb3⟩
  go_wp2_with fail
  go_ret
  have h12 := HB2.out.trans hk2.below
  exact ⟨rfl, HB1.out.trans ((h12.trans hb3).mono HB1.out.size)⟩
end Go.Proofs.YtagkdmolgmhmdaaGreatDoor
