/- An element written as HTML; what is below a node. -/
import Derived.Test.YtagkdmolgmhmdaaGreatDoorSm
import Derived.Deep.CutRange
namespace Go.Proofs.YtagkdmolgmhmdaaGreatDoor
open Go.RowKit

theorem below_d {w W : World} (h : Below w.drew.heap.size w.drew W) : Below w.heap.size w W := ((Below.refl _ w).drew).trans h
theorem Box.keep {w w' : World} {b B : Nat} {d : Dm.D} {av kv : Value} (h : Box w b d av kv) (hk : Keep B w w') : Box w' b d av kv := hk.kept _ _ _ _ h (by decide) (by decide)
theorem escapedV (s u : List UInt8) (v : Bool) (w : World) (hl : s.length ≤ 1048576) (hul : u.length ≤ 140737488355328) (hu : Hid (escV v s = u)) :
    Calls Tryz.prog 62 #[S s, .bool v] w (Fresh (S u) w) := escaped s u v w hl hul hu
theorem atH_of (a : Dm.A) (u : List UInt8) (hu : escV true a.vl = u) : atH a = [32] ++ (if a.sp = [] then [] else a.sp ++ [58]) ++ (a.nm ++ [61, 34] ++ u ++ [34]) := by rw [atH, hu]
set_option maxRecDepth 100000 in
set_option maxHeartbeats 8000000 in
theorem elem_of (d : Dm.D) (ks : List Dm.T) (hbel : BelowC (.mk d ks)) : ElemC (.mk d ks) := by
  intro bs av kv w0 w b htab hs hbw hB hlim hwt hlen
  obtain ⟨ha, hk⟩ := RdT.mk_iff.1 hs
  obtain ⟨ka, kc, rfl⟩ := hk.length
  obtain ⟨aa, ac, rfl⟩ := ha.length
  have hld : d.Lim 140737488355328 := by simp only [Dm.T.Lim] at hlim; exact hlim.1
  have hown : d.own + Dm.wtA d.ats ≤ 1048576 := by simp only [Dm.T.wt] at hwt; omega
  have lnm : d.nm.length ≤ 1048576 := by simp only [Dm.D.own] at hown; omega
  have lat : d.ats.length ≤ 1048576 := by simp only [Dm.D.own] at hown; omega
  have HAL := hide (p := ∀ a ∈ d.ats, a.sp.length ≤ 140737488355328 ∧ a.nm.length ≤ 1048576 ∧ a.vl.length ≤ 1048576) (fun a h => ⟨(hld.2.2.2.2.2.2 a h).1, by have := Dm.wtA_mem h; simp only [Dm.A.wt] at this; omega, by have := Dm.wtA_mem h; simp only [Dm.A.wt] at this; omega⟩)
  have HCB := hide (p := ∀ (acc : List UInt8) (W : World), Below w0.heap.size w0 W → Bld w0.heap.size b acc W → acc.length + (htmlT (.mk d ks)).length ≤ 140737488355328 → Calls Tryz.prog 45 #[.pointer (some ⟨b, 0, none⟩), NV d (.slice aa d.ats.length ac) (.slice ka ks.length kc)] W (Wrote w0 W b (acc ++ htmlT (.mk d ks)))) (fun acc W h1 h2 h3 => hbel acc _ _ w0 W b htab hs h1 h2 hlim hwt h3)
  have HT := hide htab
  have HB := hide hB
  have HA := hide ha
  clear hld hs hwt ha htab hB hk hown hlim hbel
  show Calls Tryz.prog 63 #[.pointer (some ⟨b, 0, none⟩), NV d (.slice aa d.ats.length ac) (.slice ka ks.length kc)] w _
  obtain ⟨E, hE⟩ : ∃ E, elemH (.mk d ks) = E := ⟨_, rfl⟩
  obtain ⟨M, hM⟩ : ∃ M, htmlT (.mk d ks) = M := ⟨_, rfl⟩
  rw [hE] at hlen ⊢
  rw [hM] at HCB
  obtain ⟨q, hq⟩ : ∃ q, endless d = q := ⟨_, rfl⟩
  have HE : Hid (E = [60] ++ d.nm ++ atsH d.ats ++ [62] ++ (if q = true then [] else M ++ ([60, 47] ++ d.nm ++ [62]))) := by
    unfold Hid
    rw [← hE, ← hM, ← hq]
    rfl
  have HLN := hide hlen
  have HQ := hide hq
  clear hE hM hq hlen
  have b1 := (Box.new w d (.slice aa d.ats.length ac) (.slice ka ks.length kc))
  have hw1 := ((Below.refl w.heap.size w).alloc (Nat.le_refl _) (.cells #[.int .u8 d.kd, S d.sp, S d.nm, .slice aa d.ats.length ac, S d.tx, S d.pb, S d.sy, .slice ka ks.length kc] 26))
  go_enter Tryz.func63, Tryz.ntmps63
  go_upto_region 1 with (fail)
  generalize hgen : (w.alloc (.cells #[.int .u8 d.kd, S d.sp, S d.nm, .slice aa d.ats.length ac, S d.tx, S d.pb, S d.sy, .slice ka ks.length kc] 26)) = w1 at b1 hw1 ⊢
  clear hgen
  have hB1 := hide (bld_below HB.out hw1)
  have hb1 := hide (hbw.trans (hw1.mono hbw.size))
  have HBX := hide b1
  have HW1 := hide hw1
  have hwlt : w.heap.size < w1.heap.size := b1.lt
  obtain ⟨kd, sp, nm, ats, tx, pb, sy⟩ := d
  obtain ⟨d0, d1, d2, d3, d4, d5, d6, d7⟩ := b1.cells
  simp only at lnm lat d0 d1 d2 d3 d4 d5 d6 d7 HAL HE HA
  clear b1 HB hw1
  have hl1 : bs.length + ([60] ++ nm).length ≤ 140737488355328 := by
    have h1 := HLN.out
    rw [HE.out] at h1
    simp only [List.length_append] at h1 ⊢
    omega
  have g1 : ¬ 9223372036854775807 < 1 + nm.length := by omega
  have g2 : ¬ 9223372036854775807 < nm.length + 1 := by omega
  go_wp2_with fail
  refine (wString ([60] ++ nm) hb1.out hB1.out hl1).mono ?_
  rintro e w2 ⟨rfl, hB2, hb2⟩
  have hk1 := hide (hb2)
  have HB2 := hide hB2
  have c3 := (HBX.out.keep hb2).cells.2.2.2.1
  clear hB2 hb2 d0 d1 d2 d3 d4 d5 d6 d7
  go_wp2_with fail
  go_loopg [14] ats.length (fun g s14 wx => ∃ i : Nat, i + g = ats.length ∧ s14 = .int .i64 i ∧ Hid (Bld w0.heap.size b (bs ++ ([60] ++ nm) ++ atsH (ats.take i)) wx) ∧ Keep w0.heap.size w1 wx)
  case atStart => exact ⟨0, by omega, rfl, by simpa [Hid, atsH] using HB2.out, hk1.out⟩
  case round =>
    obtain ⟨i, hi, rfl, hbld, hkx⟩ := hrel
    have hbx := hb1.out.trans hkx.below
    have hsx := hbx.size
    by_cases hlt : i < ats.length
    · obtain ⟨a, hx⟩ : ∃ a, ats[i]? = some a := ⟨ats[i], List.getElem?_eq_getElem hlt⟩
      obtain ⟨b', o, rfl, m0, m1, m2⟩ := (HA.out.below hbx).at hx
      obtain ⟨y1, y2, y3⟩ := HAL.out a (List.mem_of_getElem? hx)
      have htake := atsH_take ats i a hx
      have hle := atsH_le ats (i + 1)
      rw [htake, List.length_append] at hle
      have HTK := hide htake
      have hal := (Below.refl wr.heap.size wr).alloc (Nat.le_refl _) (.cells #[S a.sp, S a.nm, S a.vl] 43)
      have hx1 : (wr.alloc (.cells #[S a.sp, S a.nm, S a.vl] 43)).heap[wr.heap.size]? = some (.cells #[S a.sp, S a.nm, S a.vl] 43 (0, 0)) := heap_alloc_last _ _
      obtain ⟨acc, hacc⟩ : ∃ acc, bs ++ ([60] ++ nm) ++ atsH (ats.take i) = acc := ⟨_, rfl⟩
      have hal2 : acc.length = bs.length + (1 + nm.length) + (atsH (ats.take i)).length := by rw [← hacc]; simp only [List.length_append, List.length_cons, List.length_nil]
      have hBa := hide (bld_below hbld.out hal)
      rw [hacc] at hBa
      obtain ⟨sp', nm', vl⟩ := a
      obtain ⟨u, hu⟩ : ∃ u, escV true vl = u := ⟨_, rfl⟩
      have HU := hide hu
      have hAT := atH_of ⟨sp', nm', vl⟩ u hu
      have hATl : (atH ⟨sp', nm', vl⟩).length = 1 + (if sp' = [] then [] else sp' ++ [58] : List UInt8).length + (nm'.length + 2 + u.length + 1) := by
        rw [hAT]; simp only [List.length_append, List.length_cons, List.length_nil]
      have hsum : acc.length + (atH ⟨sp', nm', vl⟩).length ≤ 140737488355328 := by
        have h1 := HLN.out
        rw [HE.out] at h1
        simp only [List.length_append, List.length_cons, List.length_nil] at h1
        omega
      rw [hATl] at hsum
      have HAT := hide hAT
      have HACC := hide hacc
      have hba := hide (hbx.trans (hal.mono hsx))
      have hka := hide (hkx.trans (Keep.of_below hsx hal))
      have HX1 := hide hx1
      have HLL := hide (p := acc.length ≤ 140737488355328) (by omega)
      simp only at m0 m1 m2 y1 y2 y3
      clear hx htake hle hal hal2 hacc hAT hATl hu hx1
      go_wp2_with fail
      refine (wByte 32 hba.out hBa.out (by omega)).mono ?_
      rintro e w3 ⟨rfl, hB3, hk3⟩
      have hX3 := hk3.kept _ _ _ _ HX1.out (by decide) (by decide)
      have hka3 := hide (hka.out.trans hk3)
      have hba3 := hide (hba.out.trans hk3.below)
      have HB3 := hide hB3
      have n0 : w3.cell? ⟨wr.heap.size, 0, none⟩ = some (S sp') := by rw [Lib.cell_of_heap hX3]; rfl
      have n1 : w3.cell? ⟨wr.heap.size, 1, none⟩ = some (S nm') := by rw [Lib.cell_of_heap hX3]; rfl
      have n2 : w3.cell? ⟨wr.heap.size, 2, none⟩ = some (S vl) := by rw [Lib.cell_of_heap hX3]; rfl
      have HX3 := hide hX3
      clear hB3 hk3 hX3 HX1 hba hka hBa
      go_upto_if 22 with (fail)
      go_cut [14] from 20 to 27 (fun s14 wx => s14 = .int .i64 i ∧ Hid (Bld w0.heap.size b (acc ++ [32] ++ (if sp' = [] then [] else sp' ++ [58])) wx) ∧ Keep w0.heap.size w3 wx)
      case first =>
        have hzi : ∀ z, (!sp'.isEmpty) = z → (z = true ↔ sp' ≠ []) := fun z hz => by rw [← hz]; cases sp' <;> simp
        generalize hz : (!sp'.isEmpty) = z
        have HZ := hide (hzi z hz)
        clear hzi hz
        by_cases hsp : sp' = []
        · obtain rfl : z = false := by rw [Bool.eq_false_iff]; exact fun h => HZ.out.1 h hsp
          subst hsp
          go_wp2_with fail
          go_meet
          case rel => exact ⟨rfl, by simpa [Hid] using HB3.out, Keep.refl _ _⟩
        · obtain rfl : z = true := HZ.out.2 hsp
          have hspb : (sp' == []) = false := by simpa using hsp
          have hspc : (sp' != []) = true := by rw [bne, hspb]; rfl
          have hspe : sp'.isEmpty = false := by simpa using hsp
          have hspf : (!sp'.isEmpty) = true := by rw [hspe]; rfl
          have g3 : ¬ 9223372036854775807 < sp'.length + 1 := by omega
          rw [if_neg hsp] at hsum
          simp only [List.length_append, List.length_cons, List.length_nil] at hsum
          have HSP := hide hsp
          clear hsp
          go_wp2_with fail
          refine (wString (sp' ++ [58]) hba3.out HB3.out (by simp only [List.length_append, List.length_cons, List.length_nil]; omega)).mono ?_
          rintro e w4 ⟨rfl, hB4, hk4⟩
          have HB4 := hide hB4
          clear hB4
          go_wp2_with fail
          go_meet
          case rel => exact ⟨rfl, by unfold Hid; rw [if_neg HSP.out]; exact HB4.out, hk4⟩
      case rest =>
        obtain ⟨rfl, hBc, hkc⟩ := hcut
        have hkac := hide (hka3.out.trans hkc)
        have hbac := hide (hba3.out.trans hkc.below)
        have hXc := hkc.kept _ _ _ _ HX3.out (by decide) (by decide)
        have p1 : wc.cell? ⟨wr.heap.size, 1, none⟩ = some (S nm') := by rw [Lib.cell_of_heap hXc]; rfl
        have p2 : wc.cell? ⟨wr.heap.size, 2, none⟩ = some (S vl) := by rw [Lib.cell_of_heap hXc]; rfl
        obtain ⟨pre, hpre⟩ : ∃ pre, acc ++ [32] ++ (if sp' = [] then [] else sp' ++ [58]) = pre := ⟨_, rfl⟩
        rw [hpre] at hBc
        have hpl : pre.length + (nm'.length + 2 + u.length + 1) ≤ 140737488355328 := by
          rw [← hpre]
          simp only [List.length_append, List.length_cons, List.length_nil]
          split at hsum <;> simp_all <;> omega
        have HP := hide hpre
        have HALL : Hid (∀ W, Below wc.heap.size wc W → W.cell? ⟨wr.heap.size, 1, none⟩ = some (S nm') ∧ W.cell? ⟨wr.heap.size, 2, none⟩ = some (S vl)) := fun W hW => ⟨(hW.cell (World.block_lt_of_cell? wc _ p1)).trans p1, (hW.cell (World.block_lt_of_cell? wc _ p2)).trans p2⟩
        have HALK : Hid (∀ W, Keep w0.heap.size wc W → W.cell? ⟨wr.heap.size, 1, none⟩ = some (S nm') ∧ W.cell? ⟨wr.heap.size, 2, none⟩ = some (S vl)) := fun W hW => by
          have hXW := hW.kept _ _ _ _ hXc (by decide) (by decide)
          exact ⟨by rw [Lib.cell_of_heap hXW]; rfl, by rw [Lib.cell_of_heap hXW]; rfl⟩
        have HBC := hide hBc
        clear n0 n1 n2 hkc hXc hBc hpre hsum HX3
        have g4 : ¬ 9223372036854775807 < nm'.length + 2 := by omega
        have g5 : ¬ 9223372036854775807 < nm'.length + 2 + u.length := by omega
        have g6 : ¬ 9223372036854775807 < nm'.length + 2 + u.length + 1 := by omega
        have g7 : ¬ 9223372036854775807 < nm'.length + (u.length + 1 + 1) := by omega
        have g8 : ¬ 9223372036854775807 < nm'.length + (u.length + 1 + 1) + 1 := by omega
        go_wp2_with fail
        first | go_region_held3 (fun w' => w'.cell? ⟨wr.heap.size, 1, none⟩ = some (S nm') ∧ w'.cell? ⟨wr.heap.size, 2, none⟩ = some (S vl)) (first | exact HALL.out _ (Below.refl _ _) | exact HALL.out _ (Below.refl _ _).drew | exact HALL.out _ (by assumption) | assumption) (first | (go_at_call 62; refine Calls.mono (escapedV vl u true _ (by omega) (by omega) HU) ?_; rintro e w5 ⟨rfl, hb5⟩; have hz5 := below_d hb5) | (go_at_call 46; refine (wString (nm' ++ 61 :: 34 :: (u ++ [34])) (hbac.out.trans ((by assumption : Below wc.heap.size wc _).mono hbac.out.size)) (bld_below HBC.out.out (by assumption)) (by simp only [List.length_append, List.length_cons, List.length_nil]; omega)).mono ?_; rintro e w6 ⟨rfl, hB6, hk6⟩; have hs6 := HALK.out _ ((Keep.of_below hbac.out.size (by assumption)).trans hk6))) | fail
        clear HALL HALK hs6 p1 p2
        have HB6 := hide hB6
        have hk7 := hide (hkac.out.trans ((Keep.of_below hbac.out.size hz5).trans hk6))
        clear hB6 hk6
        go_wp2_with fail
        go_roundg (gk - 1)
        case measure => omega
        case rel =>
          refine ⟨i + 1, by omega, by go_num, ?_, hk7.out⟩
          have h := HB6.out
          unfold Hid
          rw [HTK.out, HAT.out, ← List.append_assoc, HACC.out]
          have e : acc ++ ([32] ++ (if sp' = [] then [] else sp' ++ [58]) ++ (nm' ++ [61, 34] ++ u ++ [34])) = pre ++ (nm' ++ 61 :: 34 :: (u ++ [34])) := by
            rw [← HP.out]; simp only [List.append_assoc, List.cons_append, List.nil_append]
          rw [e]
          exact h
    · obtain rfl : i = ats.length := by omega
      obtain ⟨acc, hacc⟩ : ∃ acc, bs ++ ([60] ++ nm) ++ atsH ats = acc := ⟨_, rfl⟩
      have hbld' := hbld.out
      rw [List.take_of_length_le (Nat.le_refl _), hacc] at hbld'
      have hbld2 := hide hbld'
      have hlen : acc.length + 1 + (if q = true then [] else M ++ ([60, 47] ++ nm ++ [62]) : List UInt8).length ≤ 140737488355328 := by
        have h1 := HLN.out
        rw [HE.out] at h1
        rw [← hacc]
        simp only [List.length_append, List.length_cons, List.length_nil] at h1 ⊢
        omega
      have HLL := hide hlen
      have HEE : Hid (bs ++ E = acc ++ [62] ++ (if q = true then [] else M ++ ([60, 47] ++ nm ++ [62]))) := by
        unfold Hid
        rw [HE.out, ← hacc]
        simp only [List.append_assoc]
      have hl2 : acc.length + 1 ≤ 140737488355328 := by omega
      clear hbld hbld' hacc hlen c3
      go_wp2_with fail
      refine (wByte 62 hbx hbld2.out hl2).mono ?_
      rintro e w3 ⟨rfl, hB3, hk3⟩
      have hkk3 := hide (hkx.trans hk3)
      have hb3 := hide (hbx.trans hk3.below)
      have hB3' := hide hB3
      have hX := HBX.out.keep (hkx.trans hk3)
      obtain ⟨d0, d1, d2, d3, d4, d5, d6, d7⟩ := hX.cells
      simp only at d0 d1 d2 d3 d4 d5 d6 d7
      have HX := hide hX
      clear hB3 hk3 hX hbld2
      have hcase : (sp ≠ Dm.wHtml ∧ q = false) ∨ (sp = Dm.wHtml ∧ voids.contains nm = q) := by
        have h := HQ.out
        by_cases hsp : sp = Dm.wHtml
        · exact .inr ⟨hsp, by rw [← h]; simp [endless, hsp]⟩
        · exact .inl ⟨hsp, by rw [← h]; simp [endless, hsp]⟩
      rcases hcase with ⟨hsp, rfl⟩ | ⟨rfl, hq⟩
      · have hspb : (sp == [104, 116, 109, 108]) = false := by rw [beq_eq_false_iff_ne]; exact hsp
        have hcall := hide (HCB.out (acc ++ [62]) w3 hb3.out hB3'.out (by
          have := HLL.out
          simp only [Bool.false_eq_true, if_false, List.length_append, List.length_cons, List.length_nil] at this ⊢
          omega))
        have hl4 : (acc ++ [62] ++ M).length + ([60, 47] ++ nm ++ [62]).length ≤ 140737488355328 := by
          have := HLL.out
          simp only [Bool.false_eq_true, if_false, List.length_append, List.length_cons, List.length_nil] at this ⊢
          omega
        have g3 : ¬ 9223372036854775807 < 2 + nm.length := by omega
        have g4 : ¬ 9223372036854775807 < 2 + nm.length + 1 := by omega
        go_wp2_with fail
        refine Calls.mono hcall.out ?_
        rintro e w4 ⟨rfl, hB4, hk4⟩
        have hX4 := (HX.out.keep hk4).cells.2.2.1
        simp only at hX4
        have HB4 := hide hB4
        have HK4 := hide hk4
        clear hB4 hk4 d0 d1 d2 d3 d4 d5 d6 d7
        go_wp2_with fail
        refine (wString ([60, 47] ++ nm ++ [62]) (hb3.out.trans HK4.out.below) HB4.out hl4).mono ?_
        rintro e w5 ⟨rfl, hB5, hk5⟩
        have HB5 := hide hB5
        clear hB5
        go_wp2_with fail
        refine bodyPost_end (results_none (by kernel_rfl) _ _ _) rfl ⟨rfl, ?_, ?_⟩
        · rw [HEE.out]
          simp only [Bool.false_eq_true, if_false]
          rw [← List.append_assoc]
          exact HB5.out
        · exact (Keep.of_below hbw.size HW1.out).trans (hkk3.out.trans (HK4.out.trans hk5))
      · have hcv := hide (void_ nm w3 (HT.out.below hb3.out) (by omega))
        rw [hq] at hcv
        unfold Dm.wHtml at d1
        clear hq
        go_wp2_with fail
        refine Calls.mono hcv.out ?_
        rintro e w33 ⟨rfl, hb33⟩
        have hkq := hide (hkk3.out.trans (Keep.of_below hb3.out.size hb33))
        have hbq := hide (hb3.out.trans (hb33.mono hb3.out.size))
        have hBq := hide (bld_below hB3'.out hb33)
        cases q with
        | true =>
          go_wp2_with fail
          refine bodyPost_ret (v := .tuple #[]) (results_none (by kernel_rfl) _ _ _) rfl ⟨rfl, ?_, ?_⟩
          · rw [HEE.out]
            simp only [if_true, List.append_nil]
            exact hBq.out
          · exact (Keep.of_below hbw.size HW1.out).trans hkq.out
        | false =>
          have hXq := HX.out.below hb33 HX.out.lt
          obtain ⟨p0, p1, p2, p3, p4, p5, p6, p7⟩ := hXq.cells
          simp only at p0 p1 p2 p3 p4 p5 p6 p7
          unfold Dm.wHtml at p1
          have HXQ := hide hXq
          have hcall := hide (HCB.out (acc ++ [62]) w33 hbq.out hBq.out (by
            have := HLL.out
            simp only [Bool.false_eq_true, if_false, List.length_append, List.length_cons, List.length_nil] at this ⊢
            omega))
          have hl4 : (acc ++ [62] ++ M).length + ([60, 47] ++ nm ++ [62]).length ≤ 140737488355328 := by
            have := HLL.out
            simp only [Bool.false_eq_true, if_false, List.length_append, List.length_cons, List.length_nil] at this ⊢
            omega
          have g3 : ¬ 9223372036854775807 < 2 + nm.length := by omega
          have g4 : ¬ 9223372036854775807 < 2 + nm.length + 1 := by omega
          clear hXq
          go_wp2_with fail
          refine Calls.mono hcall.out ?_
          rintro e w4 ⟨rfl, hB4, hk4⟩
          have hX4 := (HXQ.out.keep hk4).cells.2.2.1
          simp only at hX4
          have HB4 := hide hB4
          have HK4 := hide hk4
          clear hB4 hk4 p0 p1 p2 p3 p4 p5 p6 p7
          go_wp2_with fail
          refine (wString ([60, 47] ++ nm ++ [62]) (hbq.out.trans HK4.out.below) HB4.out hl4).mono ?_
          rintro e w5 ⟨rfl, hB5, hk5⟩
          have HB5 := hide hB5
          clear hB5
          go_wp2_with fail
          refine bodyPost_end (results_none (by kernel_rfl) _ _ _) rfl ⟨rfl, ?_, ?_⟩
          · rw [HEE.out]
            simp only [Bool.false_eq_true, if_false]
            rw [← List.append_assoc]
            exact HB5.out
          · exact (Keep.of_below hbw.size HW1.out).trans (hkq.out.trans (HK4.out.trans hk5))
theorem below_elem (t : Dm.T) : BelowC t ∧ ElemC t := by
  refine Dm.T.induct (C := fun t => BelowC t ∧ ElemC t) (fun d ks ih => ?_) t
  have h := below_of d ks (fun t ht => (ih t ht).1) (fun t ht => (ih t ht).2)
  exact ⟨h, elem_of d ks h⟩
set_option maxRecDepth 100000 in
set_option maxHeartbeats 4000000 in
theorem html (t : Dm.T) (av kv : Value) (w : World) (htab : Tab w) (hs : RdT w t av kv) (hlim : t.Lim 140737488355328) (hwt : t.wt ≤ 1048576) (hlen : (htmlT t).length ≤ 140737488355328) :
    Calls Tryz.prog 23 #[NV t.d av kv] w (Fresh (S (htmlT t)) w) := by
  obtain ⟨⟨aa, ac, rfl⟩, ka, kc, rfl⟩ := (⟨(hs.eta).1.length, (hs.eta).2.length⟩ : (∃ ao c, av = .slice ao t.d.ats.length c) ∧ ∃ ko c, kv = .slice ko t.ks.length c)
  obtain ⟨M, hM⟩ : ∃ M, htmlT t = M := ⟨_, rfl⟩
  obtain ⟨w1, hw1⟩ : ∃ x, x = w.alloc (.cells #[.int .u8 t.d.kd, S t.d.sp, S t.d.nm, .slice aa t.d.ats.length ac, S t.d.tx, S t.d.pb, S t.d.sy, .slice ka t.ks.length kc] 26) := ⟨_, rfl⟩
  have hb1 : Below w.heap.size w w1 := by rw [hw1]; exact (Below.refl _ w).alloc (Nat.le_refl _) _
  have b1 : Box w1 w.heap.size t.d (.slice aa t.d.ats.length ac) (.slice ka t.ks.length kc) := by rw [hw1]; exact Box.new w t.d _ _
  have hB := bld_new w1
  have hb2 : Below w1.heap.size w1 (w1.alloc (.cells #[.pointer none, .slice none 0 0] 54)) := (Below.refl _ w1).alloc (Nat.le_refl _) _
  have hcall := hide ((below_elem t).1 [] (.slice aa t.d.ats.length ac) (.slice ka t.ks.length kc) w1 (w1.alloc (.cells #[.pointer none, .slice none 0 0] 54)) w1.heap.size (htab.below hb1) (hs.below hb1) hb2 hB hlim hwt (by simpa using hlen))
  rw [hM] at hcall ⊢
  simp only [List.nil_append] at hcall
  obtain ⟨d0, d1, d2, d3, d4, d5, d6, d7⟩ := (b1.alloc (.cells #[.pointer none, .slice none 0 0] 54)).cells
  have HB1 := hide hb1
  have HB2 := hide hb2
  have hs1 : w1.heap.size = w.heap.size + 1 := by rw [hw1]; simp
  have HS1 := hide hs1
  clear hs htab hM hB hb1 hb2 b1 hs1
  go_enter Tryz.func23, Tryz.ntmps23
  go_upto_region 1 with (fail)
  rw [← hw1]
  clear hw1
  go_wp2_with fail
  refine Calls.mono hcall.out ?_
  rintro e w2 ⟨rfl, hB2, hk2⟩
  go_wp2_with fail
  refine (Tryz.Builder_String_any w1.heap.size w1.heap.size M _ hB2 (Nat.le_trans HB2.out.size hk2.below.size)).mono ?_
  rintro e w3 ⟨rfl, hb3⟩
  go_wp2_with fail
  go_ret
  have h12 := HB2.out.trans hk2.below
  exact ⟨rfl, HB1.out.trans ((h12.trans hb3).mono HB1.out.size)⟩
end Go.Proofs.YtagkdmolgmhmdaaGreatDoor
