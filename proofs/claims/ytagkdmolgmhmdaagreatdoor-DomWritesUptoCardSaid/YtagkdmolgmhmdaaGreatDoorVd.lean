/- The reference's Show, walked. -/
import Derived.Test.YtagkdmolgmhmdaaGreatDoorVb
import Derived.Test.YtagkdmolgmhmdaaGreatDoorSn
import Derived.Test.YtagkdmolgmhmdaaGreatDoorSq
import Derived.Test.YtagkdmolgmhmdaaGreatDoorPb
import Derived.Deep.RegionHeld3
namespace Go.Proofs.YtagkdmolgmhmdaaGreatDoor
open Go.RowKit

theorem quotedP_len (s : List UInt8) : (quotedP s).length ≤ 4 * s.length + 2 := by
  have := bareP_len s
  simp only [quotedP, List.length_cons, List.length_append, List.length_nil]
  omega
theorem rQuotedP (s : List UInt8) (w : World) (hl : s.length ≤ 1048576) : Calls Tryz.prog 66 #[S s] w (Fresh (S (quotedP s)) w) := rQuoted s w hl
def RShow (s : Dm.T) : Prop := ∀ (ind : List UInt8) (av kv : Value) (w : World), RdT w s av kv → s.Lim 1048576 → (showT ind s).length ≤ 140737488355328 → Calls Tryz.prog 48 #[NV s.d av kv, S ind] w (Fresh (S (showT ind s)) w)

set_option maxRecDepth 100000 in
set_option maxHeartbeats 8000000 in
theorem rShow_of (d : Dm.D) (ks : List Dm.T) (ih : ∀ t ∈ ks, RShow t) : RShow (.mk d ks) := by
  intro ind av kv w hs hlim hlen
  obtain ⟨ha, hk⟩ := RdT.mk_iff.1 hs
  obtain ⟨ka, kc, rfl⟩ := hk.length
  obtain ⟨aa, ac, rfl⟩ := ha.length
  simp only [Dm.T.Lim] at hlim
  obtain ⟨⟨y1, y2, y3, y4, y5, y6, y7⟩, hlk, hlK⟩ := hlim
  have HIH := hide (p := ∀ t ∈ ks, t.Lim 1048576) (fun t ht => hlK.mem ht)
  have HLA := hide y7
  have HI := hide ih
  obtain ⟨R, hR⟩ : ∃ R, showT ind (.mk d ks) = R := ⟨_, rfl⟩
  rw [hR]
  have HR : Hid (R = headP ind d ++ showK (ind ++ [32, 32]) ks) := by unfold Hid; rw [← hR, showT]
  have HLN : Hid ((headP ind d ++ showK (ind ++ [32, 32]) ks).length ≤ 140737488355328) := by unfold Hid; rw [showT] at hlen; exact hlen
  have hind : ind.length ≤ 140737488355328 := by
    have h := HLN.out
    simp only [headP, lineP, List.length_append] at h
    omega
  have b1 := Box.new w d (.slice aa d.ats.length ac) (.slice ka ks.length kc)
  have hal := (Below.refl w.heap.size w).alloc (Nat.le_refl _) (.cells #[.int .u8 d.kd, S d.sp, S d.nm, .slice aa d.ats.length ac, S d.tx, S d.pb, S d.sy, .slice ka ks.length kc] 26)
  have HKS := hide (hk.below hal)
  have HAS := hide (ha.below hal)
  clear hlK hs ha ih hk y7 hR hlen
  show Calls Tryz.prog 48 #[NV d (.slice aa d.ats.length ac) (.slice ka ks.length kc), S ind] w _
  go_enter Tryz.func48, Tryz.ntmps48
  go_upto_region 1 with (fail)
  generalize hgen : (w.alloc (.cells #[.int .u8 d.kd, S d.sp, S d.nm, .slice aa d.ats.length ac, S d.tx, S d.pb, S d.sy, .slice ka ks.length kc] 26)) = w1 at b1 hal HKS HAS ⊢
  clear hgen
  have HAL := hide hal
  have HB := hide b1
  obtain ⟨d0, d1, d2, d3, d4, d5, d6, d7⟩ := b1.cells
  obtain ⟨kd, sp, nm, ats, tx, pb, sy⟩ := d
  simp only at d0 d1 d2 d3 d4 d5 d6 d7 y1 y2 y3 y4 y5 y6
  have g2 : ¬ 9223372036854775807 < ind.length + 2 := by omega
  have g10 : ¬ 9223372036854775807 < ind.length + 10 := by omega
  have hsize := hal.size
  clear b1 hal
  go_upto_block 0 with (fail)
  go_cut [5, 6] from 8 (fun s5 s6 wx => s5 = S (headP ind ⟨kd, sp, nm, ats, tx, pb, sy⟩) ∧ Below w1.heap.size w1 wx)
  case rest =>
    obtain ⟨rfl, hbc⟩ := hcut
    clear d0 d1 d2 d3 d4 d5 d6 d7 g2 g10
    go_wp2_with fail
    go_loopg [5, 7] ks.length (fun g s5 s7 wx => ∃ (i : Nat) (z : List UInt8), i + g = ks.length ∧ s7 = .int .i64 i ∧ s5 = S z ∧ Hid (z = headP ind ⟨kd, sp, nm, ats, tx, pb, sy⟩ ++ showK (ind ++ [32, 32]) (ks.take i)) ∧ Below w1.heap.size w1 wx)
    case atStart => exact ⟨0, _, by omega, rfl, rfl, by simp [Hid, showK], hbc⟩
    case round =>
      obtain ⟨i, z, hi, rfl, rfl, hz, hbx⟩ := hrel
      have f7 : wr.cell? ⟨w.heap.size, 7, none⟩ = some (.slice ka ks.length kc) := (HB.out.below hbx HB.out.lt).cells.2.2.2.2.2.2.2
      by_cases hlt : i < ks.length
      · obtain ⟨t, ht⟩ : ∃ t, ks[i]? = some t := ⟨ks[i], List.getElem?_eq_getElem hlt⟩
        obtain ⟨b, o, av, kv, rfl, ⟨m0, m1, m2, m3, m4, m5, m6, m7⟩, hrt⟩ := (HKS.out.below hbx).at ht
        have hmem := List.mem_of_getElem? ht
        have htk := showK_take (ind ++ [32, 32]) ks i t ht
        have hle := showK_le (ind ++ [32, 32]) ks (i + 1)
        rw [htk, List.length_append] at hle
        have hzl : z.length + (showT (ind ++ [32, 32]) t).length ≤ 140737488355328 := by
          have h1 := HLN.out
          rw [hz.out]
          simp only [List.length_append] at h1 ⊢
          omega
        have hcall := hide (HI.out t hmem (ind ++ [32, 32]) av kv wr hrt (HIH.out t hmem) (by omega))
        have HTK := hide htk
        generalize hx : showT (ind ++ [32, 32]) t = x at hcall hzl HTK
        clear ht hrt hmem htk hle hx
        have g1 : ¬ 9223372036854775807 < z.length + x.length := by omega
        have g2 : ¬ 9223372036854775807 < ind.length + 2 := by omega
        go_wp2_with fail
        refine hcall.out.mono ?_
        rintro e w2 ⟨rfl, hb2⟩
        have hb3 := hide (hbx.trans (hb2.mono hbx.size))
        clear hb2 m0 m1 m2 m3 m4 m5 m6 m7 f7
        go_wp2_with fail
        go_roundg (gk - 1)
        case measure => omega
        case rel => exact ⟨i + 1, z ++ x, by omega, by go_num, rfl, by unfold Hid; rw [HTK.out, hz.out]; simp, hb3.out⟩
      · obtain rfl : i = ks.length := by omega
        have hz2 := hz.out
        rw [List.take_of_length_le (Nat.le_refl _)] at hz2
        have HZ := hide hz2
        clear hz2
        go_wp2_with fail
        go_ret
        exact ⟨by rw [HR.out, ← HZ.out]; rfl, HAL.out.trans (hbx.mono HAL.out.size)⟩
  case first =>
    by_cases k1 : kd = 1
    · subst k1
      have hP : headP ind ⟨1, sp, nm, ats, tx, pb, sy⟩ = lineP ind [wDoc] := by simp [headP, partsD]
      have HP := hide hP
      clear hP
      go_wp2_with fail
      go_meet
      case rel => exact ⟨by rw [HP.out]; simp [lineP, wDoc], Below.refl _ _⟩
    by_cases k4 : kd = 4
    · subst k4
      have hP : headP ind ⟨4, sp, nm, ats, tx, pb, sy⟩ = lineP ind [quotedP tx] := by simp [headP, partsD]
      have HP := hide hP
      have hc := hide (rQuoted tx w1 y4)
      have hql := quotedP_len tx
      change Hid (Calls _ _ _ _ (Fresh (S (quotedP tx)) w1)) at hc
      generalize quotedP tx = q at HP hc hql
      have g3 : ¬ 9223372036854775807 < ind.length + q.length := by omega
      have g4 : ¬ 9223372036854775807 < ind.length + q.length + 1 := by omega
      clear hP
      go_wp2_with fail
      refine hc.out.mono ?_
      rintro e w5 ⟨rfl, hb5⟩
      go_wp2_with fail
      go_meet
      case rel => exact ⟨by rw [HP.out]; simp [lineP], hb5⟩
    by_cases k5 : kd = 5
    · subst k5
      have hP : headP ind ⟨5, sp, nm, ats, tx, pb, sy⟩ = lineP ind [[45, 45], quotedP tx] := by simp [headP, partsD]
      have HP := hide hP
      have hc := hide (rQuoted tx w1 y4)
      have hql := quotedP_len tx
      change Hid (Calls _ _ _ _ (Fresh (S (quotedP tx)) w1)) at hc
      generalize quotedP tx = q at HP hc hql
      clear hP
      go_wp2_with fail
      refine hc.out.mono ?_
      rintro e w5 ⟨rfl, hb5⟩
      go_wp2_with fail
      go_meet
      case rel => exact ⟨by rw [HP.out]; simp [lineP], hb5⟩
    by_cases k2 : kd = 2
    · subst k2
      have hP : headP ind ⟨2, sp, nm, ats, tx, pb, sy⟩ = lineP ind [[33], quotedP nm, [32], quotedP pb, [32], quotedP sy] := by simp [headP, partsD]
      have HP := hide hP
      have q1l := quotedP_len nm
      have q2l := quotedP_len pb
      have q3l := quotedP_len sy
      have HALL : Hid (∀ W, Below w1.heap.size w1 W → W.cell? ⟨w.heap.size, 2, none⟩ = some (S nm) ∧ W.cell? ⟨w.heap.size, 5, none⟩ = some (S pb) ∧ W.cell? ⟨w.heap.size, 6, none⟩ = some (S sy)) := fun W hW => by
        have h := (HB.out.below hW HB.out.lt).cells
        exact ⟨h.2.2.1, h.2.2.2.2.2.1, h.2.2.2.2.2.2.1⟩
      clear hP d1 d3 d4 d7 d2 d5 d6
      obtain ⟨c2, c5, c6⟩ := HALL.out w1 (Below.refl _ _)
      have hs00 : ¬ 9223372036854775807 < ind.length + 1 := by omega
      have hs0 : ¬ 9223372036854775807 < ind.length + 1 + (quotedP nm).length := by omega
      have hs1 : ¬ 9223372036854775807 < ind.length + ((quotedP nm).length + 1) + 1 := by omega
      have hs2 : ¬ 9223372036854775807 < ind.length + ((quotedP nm).length + 1 + 1) + (quotedP pb).length := by omega
      have hs3 : ¬ 9223372036854775807 < ind.length + ((quotedP nm).length + 2) + (quotedP pb).length := by omega
      have hs4 : ¬ 9223372036854775807 < ind.length + ((quotedP nm).length + ((quotedP pb).length + 1) + 1) + 1 := by omega
      have hs5 : ¬ 9223372036854775807 < ind.length + ((quotedP nm).length + ((quotedP pb).length + 1 + 1) + 1) + (quotedP sy).length := by omega
      have hs6 : ¬ 9223372036854775807 < ind.length + ((quotedP nm).length + ((quotedP pb).length + 2) + 1) + (quotedP sy).length := by omega
      have hs7 : ¬ 9223372036854775807 < ind.length + ((quotedP nm).length + ((quotedP pb).length + ((quotedP sy).length + 1) + 1) + 1) + 1 := by omega
      go_upto_region 6 with (fail)
      clear d0
      go_region_held3 (fun w' => w'.cell? ⟨w.heap.size, 2, none⟩ = some (S nm) ∧ w'.cell? ⟨w.heap.size, 5, none⟩ = some (S pb) ∧ w'.cell? ⟨w.heap.size, 6, none⟩ = some (S sy)) (first | exact HALL.out _ (Below.refl _ _) | exact HALL.out _ (Below.refl _ _).drew | exact HALL.out _ (by assumption) | assumption) (first | (go_at_call 66; refine Calls.mono (rQuotedP _ _ (by assumption)) ?_; rintro e w5 ⟨rfl, hb5⟩; have hz5 : Below w1.heap.size w1 w5 := by first | exact below_d hb5 | exact below_two (by assumption) hb5))
      all_goals
        clear HALL
        go_wp2_with fail
        go_meet
        case rel => exact ⟨by rw [HP.out]; simp [lineP], hz5⟩
    by_cases k3 : kd = 3
    · subst k3
      have hP : headP ind ⟨3, sp, nm, ats, tx, pb, sy⟩ = lineP ind [[60], bareP sp, [58], bareP nm] ++ linesA ind ats := by simp [headP, partsD]
      have HP := hide hP
      have hLL : (lineP ind [[60], bareP sp, [58], bareP nm] ++ linesA ind ats).length ≤ 140737488355328 := by
        have h := HLN.out
        rw [hP] at h
        rw [List.length_append] at h
        omega
      have q1l := bareP_len sp
      have q2l := bareP_len nm
      have HLL := hide hLL
      have HALL : Hid (∀ W, Below w1.heap.size w1 W → W.cell? ⟨w.heap.size, 1, none⟩ = some (S sp) ∧ W.cell? ⟨w.heap.size, 2, none⟩ = some (S nm)) := fun W hW => by
        have h := (HB.out.below hW HB.out.lt).cells
        exact ⟨h.2.1, h.2.2.1⟩
      clear hP hLL d3 d4 d7 d1 d2 d5 d6
      obtain ⟨c1, c2⟩ := HALL.out w1 (Below.refl _ _)
      have hs0 : ¬ 9223372036854775807 < ind.length + 1 := by omega
      have hs1 : ¬ 9223372036854775807 < ind.length + 1 + (bareP sp).length := by omega
      have hs2 : ¬ 9223372036854775807 < ind.length + ((bareP sp).length + 1) + 1 := by omega
      have hs3 : ¬ 9223372036854775807 < ind.length + ((bareP sp).length + 1 + 1) + (bareP nm).length := by omega
      have hs4 : ¬ 9223372036854775807 < ind.length + ((bareP sp).length + 2) + (bareP nm).length := by omega
      have hs5 : ¬ 9223372036854775807 < ind.length + ((bareP sp).length + ((bareP nm).length + 1) + 1) + 1 := by omega
      go_upto_region 8 with (fail)
      clear d0
      go_region_held3 (fun w' => w'.cell? ⟨w.heap.size, 1, none⟩ = some (S sp) ∧ w'.cell? ⟨w.heap.size, 2, none⟩ = some (S nm)) (first | exact HALL.out _ (Below.refl _ _) | exact HALL.out _ (Below.refl _ _).drew | exact HALL.out _ (by assumption) | assumption) (first | (go_at_call 67; refine Calls.mono (rPlain _ _ (by assumption)) ?_; rintro e w5 ⟨rfl, hb5⟩; have hz5 : Below w1.heap.size w1 w5 := by first | exact below_d hb5 | exact below_two (by assumption) hb5))
      all_goals
        clear HALL c1 c2 hs0 hs1 hs2 hs3 hs4 hs5
        have HZ5 := hide hz5
        clear hz5
        go_wp2_with fail
        go_loopg [5, 6] ats.length (fun g s5 s6 wx => ∃ (i : Nat) (z : List UInt8), i + g = ats.length ∧ s6 = .int .i64 i ∧ s5 = S z ∧ Hid (z = lineP ind [[60], bareP sp, [58], bareP nm] ++ linesA ind (ats.take i)) ∧ Below w1.heap.size w1 wx)
        case atStart => exact ⟨0, _, by omega, rfl, rfl, by simp [Hid, linesA, lineP], HZ5.out⟩
        case round =>
          obtain ⟨i, z, hi, rfl, rfl, hz, hbx⟩ := hrel
          have hbo := HB.out.below hbx HB.out.lt
          have f3 : wr.cell? ⟨w.heap.size, 3, none⟩ = some (.slice aa ats.length ac) := hbo.cells.2.2.2.1
          by_cases hlt : i < ats.length
          · obtain ⟨at', hx⟩ : ∃ a, ats[i]? = some a := ⟨ats[i], List.getElem?_eq_getElem hlt⟩
            obtain ⟨b', o, rfl, m0, m1, m2⟩ := (HAS.out.below hbx).at hx
            obtain ⟨z1, z2, z3⟩ := HLA.out at' (List.mem_of_getElem? hx)
            have htk := linesA_take ind ats i at' hx
            have hle := linesA_le ind ats (i + 1)
            rw [htk, List.length_append] at hle
            have hzl : z.length ≤ 140737488355328 := by
              have h := HLL.out
              rw [hz.out]
              simp only [List.length_append] at h ⊢
              omega
            obtain ⟨sp', nm', vl⟩ := at'
            simp only at m0 m1 m2 z1 z2 z3
            have t1l := bareP_len sp'
            have t2l := bareP_len nm'
            have t3l := quotedP_len vl
            have HTK := hide (p := linesA ind (ats.take (i + 1)) = linesA ind (ats.take i) ++ lineP ind [[32, 32, 64], bareP sp', [58], bareP nm', [61], quotedP vl]) htk
            clear htk hle hx
            have HALL : Hid (∀ W, Below wr.heap.size wr W → W.cell? ⟨w.heap.size, 3, none⟩ = some (.slice (some ⟨b', o, none⟩) ats.length ac) ∧ W.cell? ⟨b', o + i * 3, none⟩ = some (S sp') ∧ W.cell? ⟨b', o + i * 3 + 1, none⟩ = some (S nm') ∧ W.cell? ⟨b', o + i * 3 + 2, none⟩ = some (S vl)) := fun W hW => by
              have st := Stay.of_below hW
              exact ⟨st _ _ _ f3, st _ _ _ m0, st _ _ _ m1, st _ _ _ m2⟩
            have i0 : (0 : Int) ≤ (i : Int) := by omega
            have i1 : (i : Int) < (ats.length : Int) := by omega
            have hs0 : ¬ 9223372036854775807 < z.length + ind.length := by omega
            have hs1 : ¬ 9223372036854775807 < z.length + ind.length + 3 := by omega
            have hs2 : ¬ 9223372036854775807 < z.length + (ind.length + 3) + (bareP sp').length := by omega
            have hs3 : ¬ 9223372036854775807 < z.length + (ind.length + ((bareP sp').length + 1 + 1 + 1)) + 1 := by omega
            have hs4 : ¬ 9223372036854775807 < z.length + (ind.length + ((bareP sp').length + 3)) + 1 := by omega
            have hs5 : ¬ 9223372036854775807 < z.length + (ind.length + ((bareP sp').length + 1 + 1 + 1 + 1)) + (bareP nm').length := by omega
            have hs6 : ¬ 9223372036854775807 < z.length + (ind.length + ((bareP sp').length + 4)) + (bareP nm').length := by omega
            have hs7 : ¬ 9223372036854775807 < z.length + (ind.length + ((bareP sp').length + ((bareP nm').length + 1) + 1 + 1 + 1)) + 1 := by omega
            have hs8 : ¬ 9223372036854775807 < z.length + (ind.length + ((bareP sp').length + ((bareP nm').length + 1) + 3)) + 1 := by omega
            have hs9 : ¬ 9223372036854775807 < z.length + (ind.length + ((bareP sp').length + ((bareP nm').length + 1 + 1) + 1 + 1 + 1)) + (quotedP vl).length := by omega
            have hs10 : ¬ 9223372036854775807 < z.length + (ind.length + ((bareP sp').length + ((bareP nm').length + 2) + 3)) + (quotedP vl).length := by omega
            have hs11 : ¬ 9223372036854775807 < z.length + (ind.length + ((bareP sp').length + ((bareP nm').length + 2) + 1 + 1 + 1)) + (quotedP vl).length := by omega
            have hs12 : ¬ 9223372036854775807 < z.length + (ind.length + ((bareP sp').length + ((bareP nm').length + ((quotedP vl).length + 1) + 1) + 1 + 1 + 1)) + 1 := by omega
            have hs13 : ¬ 9223372036854775807 < z.length + (ind.length + ((bareP sp').length + ((bareP nm').length + ((quotedP vl).length + 1) + 1) + 3)) + 1 := by omega
            have HBX := hide hbx
            clear hbo hbx
            go_upto_region 12 with (fail)
            go_region_held3 (fun w' => w'.cell? ⟨w.heap.size, 3, none⟩ = some (.slice (some ⟨b', o, none⟩) ats.length ac) ∧ w'.cell? ⟨b', o + i * 3, none⟩ = some (S sp') ∧ w'.cell? ⟨b', o + i * 3 + 1, none⟩ = some (S nm') ∧ w'.cell? ⟨b', o + i * 3 + 2, none⟩ = some (S vl)) (first | exact HALL.out _ (Below.refl _ _) | exact HALL.out _ (Below.refl _ _).drew | exact HALL.out _ (by assumption) | assumption) (first | (go_at_call 67; refine Calls.mono (rPlain _ _ (by assumption)) ?_; rintro e w5 ⟨rfl, hb5⟩; have hz5 : Below wr.heap.size wr w5 := by first | exact below_d hb5 | exact below_two (by assumption) hb5) | (go_at_call 66; refine Calls.mono (rQuotedP _ _ (by assumption)) ?_; rintro e w5 ⟨rfl, hb5⟩; have hz5 : Below wr.heap.size wr w5 := by first | exact below_d hb5 | exact below_two (by assumption) hb5))
            all_goals
              clear HALL
              go_wp2_with fail
              go_roundg (gk - 1)
              (case measure => omega)
              (case rel => exact ⟨i + 1, z ++ (ind ++ 32 :: 32 :: 64 :: (bareP sp' ++ 58 :: (bareP nm' ++ 61 :: (quotedP vl ++ [10])))), by omega, by go_num, rfl, by unfold Hid; rw [HTK.out, hz.out]; simp [lineP], HBX.out.trans (hz5.mono HBX.out.size)⟩)
          · obtain rfl : i = ats.length := by omega
            have hz2 := hz.out
            rw [List.take_of_length_le (Nat.le_refl _), ← HP.out] at hz2
            have HZ := hide hz2
            clear hz2
            go_wp2_with fail
            go_meet
            case rel => exact ⟨by rw [← HZ.out], hbx⟩
    have hP : headP ind ⟨kd, sp, nm, ats, tx, pb, sy⟩ = lineP ind [[63]] := by simp [headP, partsD, k1, k2, k3, k4, k5]
    have HP := hide hP
    have k1b : (kd == 1) = false := by simpa using k1
    have k2b : (kd == 2) = false := by simpa using k2
    have k3b : (kd == 3) = false := by simpa using k3
    have k4b : (kd == 4) = false := by simpa using k4
    have k5b : (kd == 5) = false := by simpa using k5
    clear hP k1 k2 k3 k4 k5
    go_wp2_with fail
    go_meet
    case rel => exact ⟨by rw [HP.out]; simp [lineP], Below.refl _ _⟩
theorem rShow_ (t : Dm.T) : RShow t := Dm.T.induct (C := RShow) (fun d ks ih => rShow_of d ks ih) t
set_option maxRecDepth 100000 in
theorem rShow (t : Dm.T) (av kv : Value) (w : World) (hs : RdT w t av kv) (htot : t.tot ≤ 1048576) :
    Calls Tryz.prog 26 #[NV t.d av kv] w (Fresh (S (showT [] t)) w) := by
  obtain ⟨⟨aa, ac, rfl⟩, ka, kc, rfl⟩ := (⟨(hs.eta).1.length, (hs.eta).2.length⟩ : (∃ ao c, av = .slice ao t.d.ats.length c) ∧ ∃ ko c, kv = .slice ko t.ks.length c)
  have hw1 := ((Below.refl w.heap.size w).alloc (Nat.le_refl _) (.cells #[.int .u8 t.d.kd, S t.d.sp, S t.d.nm, .slice aa t.d.ats.length ac, S t.d.tx, S t.d.pb, S t.d.sy, .slice ka t.ks.length kc] 26))
  have hc := hide (rShow_ t [] _ _ _ (hs.below hw1) (lim_of _ t htot) (show_fits htot))
  have HW := hide hw1
  generalize showT [] t = M at hc ⊢
  clear hs hw1
  go_enter Tryz.func26, Tryz.ntmps26
  go_wp2_with fail
  refine Calls.mono hc.out ?_
  rintro e w2 ⟨rfl, hb⟩
  go_wp2_with fail
  go_ret
  exact ⟨rfl, HW.out.trans (hb.mono HW.out.size)⟩
end Go.Proofs.YtagkdmolgmhmdaaGreatDoor
