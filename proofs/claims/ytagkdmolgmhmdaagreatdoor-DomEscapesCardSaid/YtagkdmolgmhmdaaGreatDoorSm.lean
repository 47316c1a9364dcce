/- A tree written as HTML. -/
import Derived.Test.YtagkdmolgmhmdaaGreatDoorPh
import Derived.Test.YtagkdmolgmhmdaaGreatDoorSi
import Derived.Test.YtagkdmolgmhmdaaGreatDoorSd
import Derived.Deep.RegionHeld3
namespace Go.Proofs.YtagkdmolgmhmdaaGreatDoor
open Go.RowKit

/-- behind a write -/
def Wrote (w0 w : World) (b : Nat) (bs : List UInt8) (e : Ending) (w' : World) : Prop := e = .returned (.tuple #[]) ∧ Bld w0.heap.size b bs w' ∧ Keep w0.heap.size w w'
abbrev BelowC (t : Dm.T) : Prop := ∀ (bs : List UInt8) (av kv : Value) (w0 w : World) (b : Nat), Tab w0 → RdT w0 t av kv → Below w0.heap.size w0 w → Bld w0.heap.size b bs w → t.Lim 140737488355328 → t.wt ≤ 1048576 → bs.length + (htmlT t).length ≤ 140737488355328 →
  Calls Tryz.prog 45 #[.pointer (some ⟨b, 0, none⟩), NV t.d av kv] w (Wrote w0 w b (bs ++ htmlT t))
abbrev ElemC (t : Dm.T) : Prop := ∀ (bs : List UInt8) (av kv : Value) (w0 w : World) (b : Nat), Tab w0 → RdT w0 t av kv → Below w0.heap.size w0 w → Bld w0.heap.size b bs w → t.Lim 140737488355328 → t.wt ≤ 1048576 → bs.length + (elemH t).length ≤ 140737488355328 →
  Calls Tryz.prog 63 #[.pointer (some ⟨b, 0, none⟩), NV t.d av kv] w (Wrote w0 w b (bs ++ elemH t))
theorem wString {w0 w : World} {b : Nat} {bs : List UInt8} (s : List UInt8) (hb : Below w0.heap.size w0 w) (h : Bld w0.heap.size b bs w) (hl : bs.length + s.length ≤ 140737488355328) :
    Calls Tryz.prog 46 #[.pointer (some ⟨b, 0, none⟩), S s] w fun e w' => e = .returned (.tuple #[.int .i64 s.length, .nilIface]) ∧ Bld w0.heap.size b (bs ++ s) w' ∧ Keep w0.heap.size w w' :=
  (writeString w0.heap.size b bs s w h hb.size hl).mono fun _ _ ⟨h1, h2, h3⟩ => ⟨h1, .inr h2, h3⟩
theorem wByte {w0 w : World} {b : Nat} {bs : List UInt8} (c : UInt8) (hb : Below w0.heap.size w0 w) (h : Bld w0.heap.size b bs w) (hl : bs.length + 1 ≤ 140737488355328) :
    Calls Tryz.prog 79 #[.pointer (some ⟨b, 0, none⟩), B8 c] w fun e w' => e = .returned .nilIface ∧ Bld w0.heap.size b (bs ++ [c]) w' ∧ Keep w0.heap.size w w' :=
  (writeByte w0.heap.size b bs c w h hb.size hl).mono fun _ _ ⟨h1, h2, h3⟩ => ⟨h1, .inr h2, h3⟩

set_option maxRecDepth 100000 in
set_option maxHeartbeats 8000000 in
theorem below_of (d : Dm.D) (ks : List Dm.T) (ihB : ∀ t ∈ ks, BelowC t) (ihE : ∀ t ∈ ks, ElemC t) : BelowC (.mk d ks) := by
  intro bs av kv w0 w b htab hs hbw hB hlim hwt hlen
  obtain ⟨ha, hk⟩ := RdT.mk_iff.1 hs
  obtain ⟨ka, kc, rfl⟩ := hk.length
  obtain ⟨aa, ac, rfl⟩ := ha.length
  simp only [Dm.T.Lim] at hlim
  obtain ⟨hld, hlk, hlK⟩ := hlim
  have HIH := hide (p := ∀ t ∈ ks, t.Lim 140737488355328 ∧ t.wt ≤ 1048576) (fun t ht => ⟨hlK.mem ht, by have := Dm.wtK_mem ht; simp only [Dm.T.wt, Dm.D.own] at hwt; omega⟩)
  have lnm := hld.2.1
  have HE := hide ihE
  have HBB := hide ihB
  have HT := hide htab
  have HB := hide hB
  clear hlK hld hs hwt ha htab ihB ihE hB
  show Calls Tryz.prog 45 #[.pointer (some ⟨b, 0, none⟩), NV d (.slice aa d.ats.length ac) (.slice ka ks.length kc)] w _
  obtain ⟨R, hR⟩ : ∃ R, bs ++ htmlT (.mk d ks) = R := ⟨_, rfl⟩
  rw [hR]
  obtain ⟨q, hq⟩ : ∃ q, rawOf d = q := ⟨_, rfl⟩
  have HR : Hid (bs ++ htmlK q ks = R) := by unfold Hid; rw [← hR, htmlT, ← hq]; rfl
  have HLN : Hid (bs.length + (htmlK q ks).length ≤ 140737488355328) := by unfold Hid; rw [← hq]; exact hlen
  have HQ := hide hq
  clear hR hq hlen
  have b1 := (Box.new w d (.slice aa d.ats.length ac) (.slice ka ks.length kc))
  have hw1 := ((Below.refl w.heap.size w).alloc (Nat.le_refl _) (.cells #[.int .u8 d.kd, S d.sp, S d.nm, .slice aa d.ats.length ac, S d.tx, S d.pb, S d.sy, .slice ka ks.length kc] 26))
  go_enter Tryz.func45, Tryz.ntmps45
  go_upto_region 1 with (fail)
  generalize hgen : (w.alloc (.cells #[.int .u8 d.kd, S d.sp, S d.nm, .slice aa d.ats.length ac, S d.tx, S d.pb, S d.sy, .slice ka ks.length kc] 26)) = w1 at b1 hw1 ⊢
  clear hgen
  have hB1 := hide (bld_below HB.out hw1)
  have HW1 := hide hw1
  have hb1 := hide (hbw.trans (hw1.mono hbw.size))
  have HBX := hide b1
  obtain ⟨kd, sp, nm, ats, tx, pb, sy⟩ := d
  simp only at lnm
  obtain ⟨d0, d1, d2, d3, d4, d5, d6, d7⟩ := b1.cells
  simp only at d0 d1 d2 d7
  clear d3 d4 d5 d6 b1 HB hw1
  -- the raw flag
  have hcase : (kd ≠ 3 ∧ q = false) ∨ (kd = 3 ∧ sp ≠ Dm.wHtml ∧ q = false) ∨ (kd = 3 ∧ sp = Dm.wHtml ∧ raws.contains nm = q) := by
    have h := HQ.out
    by_cases k3 : kd = 3
    · by_cases hsp : sp = Dm.wHtml
      · exact .inr (.inr ⟨k3, hsp, by rw [← h]; simp [rawOf, k3, hsp]⟩)
      · exact .inr (.inl ⟨k3, hsp, by rw [← h]; simp [rawOf, k3, hsp]⟩)
    · exact .inl ⟨k3, by rw [← h]; simp [rawOf, k3]⟩
  go_cut [4] from 7 (fun s4 wx => s4 = .bool q ∧ Below w1.heap.size w1 wx)
  case first =>
    have HB := hide (Below.refl w1.heap.size w1)
    rcases hcase with ⟨k3, rfl⟩ | ⟨rfl, hsp, rfl⟩ | ⟨rfl, rfl, hq⟩
    · have k3b : (kd == 3) = false := by simpa using k3
      go_wp2_with fail
      go_meet
      case rel => exact ⟨rfl, HB.out⟩
    · have hspb : (sp == [104, 116, 109, 108]) = false := by rw [beq_eq_false_iff_ne]; exact hsp
      go_wp2_with fail
      go_meet
      case rel => exact ⟨rfl, HB.out⟩
    · have hcall := hide (raw_ nm w1 (HT.out.below hb1.out) (by omega))
      rw [hq] at hcall
      have hspb : (Dm.wHtml == [104, 116, 109, 108]) = true := rfl
      unfold Dm.wHtml at d1
      clear hq
      go_wp2_with fail
      refine Calls.mono hcall.out ?_
      rintro e w2 ⟨rfl, hb2⟩
      go_wp2_with fail
      go_meet
      case rel => exact ⟨by cases q <;> rfl, hb2⟩
  case rest =>
    obtain ⟨rfl, hbc⟩ := hcut
    have d7c : wc.cell? ⟨w.heap.size, 7, none⟩ = some (.slice ka ks.length kc) := (hbc.cell HBX.out.lt).trans d7
    have hB2 := hide (bld_below hB1.out hbc)
    have hb2 := hide (Keep.of_below hbw.size (HW1.out.trans (hbc.mono HW1.out.size)))
    clear d0 d1 d2 d7 hbc hB1 hb1 hcase HQ
    have hKS := hide hk
    clear hk
    go_wp2_with fail
    go_loopg [23] ks.length (fun g s23 wx => ∃ i : Nat, i + g = ks.length ∧ s23 = .int .i64 i ∧ Hid (Bld w0.heap.size b (bs ++ htmlK q (ks.take i)) wx) ∧ Keep w0.heap.size w wx)
    case atStart => exact ⟨0, by omega, rfl, by simpa [Hid, htmlK] using hB2.out, hb2.out⟩
    case round =>
      obtain ⟨i, hi, rfl, hbld, hkx⟩ := hrel
      have hbx := hbw.trans hkx.below
      have hsx := hbx.size
      by_cases hlt : i < ks.length
      · obtain ⟨t, ht⟩ : ∃ t, ks[i]? = some t := ⟨ks[i], List.getElem?_eq_getElem hlt⟩
        obtain ⟨b', o, av, kv, rfl, ⟨m0, m1, m2, m3, m4, m5, m6, m7⟩, hrt⟩ := (hKS.out.below hbx).at ht
        have hrt0 : RdT w0 t av kv := by
          obtain ⟨b2', o2, av2, kv2, e2, ⟨n0, n1, n2, n3, n4, n5, n6, n7⟩, hr2⟩ := hKS.out.at ht
          injection e2 with e2
          injection e2 with e2 e3
          subst e2; subst e3
          have st := Stay.of_below hbx
          have q3 := (st _ _ _ n3).symm.trans m3
          have q7 := (st _ _ _ n7).symm.trans m7
          injection q3 with q3
          injection q7 with q7
          rw [← q3, ← q7]
          exact hr2
        obtain ⟨⟨aa2, ac2, rfl⟩, ka2, kc2, rfl⟩ := (⟨(hrt.eta).1.length, (hrt.eta).2.length⟩ : (∃ ao c, av = .slice ao t.d.ats.length c) ∧ ∃ ko c, kv = .slice ko t.ks.length c)
        have hmem := List.mem_of_getElem? ht
        have htake := htmlK_take q ks i t ht
        have hle := htmlK_le q ks (i + 1)
        have HTT := hide (p := ks[i]? = some t) ht
        obtain ⟨hLim, hWt⟩ := HIH.out t hmem
        have hCB := hide (HBB.out t hmem)
        have hCE := hide (HE.out t hmem)
        have HR0 := hide hrt0
        have htx : t.d.tx.length ≤ 1048576 := by
          have := hWt
          rw [← t.eta, Dm.T.wt, Dm.D.own] at this
          omega
        have hnm : t.d.nm.length ≤ 1048576 := by
          have := hWt
          rw [← t.eta, Dm.T.wt, Dm.D.own] at this
          omega
        have hal := (Below.refl wr.heap.size wr).alloc (Nat.le_refl _) (.cells #[.int .u8 t.d.kd, S t.d.sp, S t.d.nm, .slice aa2 t.d.ats.length ac2, S t.d.tx, S t.d.pb, S t.d.sy, .slice ka2 t.ks.length kc2] 26)
        have hBa := hide (bld_below hbld.out hal)
        have hba := hide (hbx.trans (hal.mono hsx))
        have hka := hide (hkx.trans (Keep.of_below hsx hal))
        have hlen2 : Hid (bs.length + (htmlK q (ks.take i)).length + (oneH q t).length ≤ 140737488355328) := by
          unfold Hid
          have := HLN.out
          rw [htake, List.length_append] at hle
          omega
        have HTK := hide htake
        obtain ⟨acc, hacc⟩ : ∃ acc, bs ++ htmlK q (ks.take i) = acc := ⟨_, rfl⟩
        have hal2 : acc.length = bs.length + (htmlK q (ks.take i)).length := by rw [← hacc, List.length_append]
        rw [hacc] at hBa
        have hlen3 : Hid (acc.length + (oneH q t).length ≤ 140737488355328) := by unfold Hid; rw [hal2]; exact hlen2.out
        have HACC := hide hacc
        clear ht hrt hrt0 hmem htake hle hal hacc hal2 hlen2
        obtain ⟨kk, hkk⟩ : ∃ kk, t.d.kd = kk := ⟨_, rfl⟩
        rw [hkk] at m0 hBa hba hka
        have HK := hide hkk
        clear hkk
        by_cases k4 : kk = 4
        · subst k4
          cases q with
          | true =>
            have hone : oneH true t = t.d.tx := oneH_text HK.out
            have HL := hlen3.out
            rw [hone] at HL
            have HON := hide hone
            clear hone
            go_wp2_with fail
            refine (wString t.d.tx hba.out hBa.out HL).mono ?_
            rintro e w5 ⟨rfl, hB5, hb5⟩
            have HB5 := hide hB5
            clear hB5
            go_wp2_with fail
            go_roundg (gk - 1)
            case measure => omega
            case rel => exact ⟨i + 1, by omega, by go_num, by unfold Hid; rw [HTK.out, HON.out, ← List.append_assoc, HACC.out]; exact HB5.out, hka.out.trans hb5⟩
          | false =>
            obtain ⟨u, hu⟩ : ∃ u, escV false t.d.tx = u := ⟨_, rfl⟩
            have hone : oneH false t = u := (oneH_text HK.out).trans hu
            have HL := hlen3.out
            rw [hone] at HL
            have HON := hide hone
            have HU : Hid (esc (if false = true then pV else pT) t.d.tx = u) := hu
            clear hone hu
            go_wp2_with fail
            refine Calls.mono (escaped t.d.tx u false _ htx (by omega) HU) ?_
            rintro e w4 ⟨rfl, hb4⟩
            have hba4 := hide (hba.out.trans (hb4.mono hba.out.size))
            have hBa4 := hide (bld_below hBa.out hb4)
            have hka4 := hide (hka.out.trans (Keep.of_below hba.out.size hb4))
            clear hb4
            go_wp2_with fail
            refine (wString u hba4.out hBa4.out HL).mono ?_
            rintro e w5 ⟨rfl, hB5, hb5⟩
            have HB5 := hide hB5
            clear hB5
            go_wp2_with fail
            go_roundg (gk - 1)
            case measure => omega
            case rel => exact ⟨i + 1, by omega, by go_num, by unfold Hid; rw [HTK.out, HON.out, ← List.append_assoc, HACC.out]; exact HB5.out, hka4.out.trans hb5⟩
        have k4b : (kk == 4) = false := by simpa using k4
        by_cases k5 : kk = 5
        · subst k5
          have hone : oneH q t = [60, 33, 45, 45] ++ t.d.tx ++ [45, 45, 62] := oneH_comment HK.out
          have HL := hlen3.out
          rw [hone] at HL
          have HON := hide hone
          have g1 : ¬ 9223372036854775807 < 4 + t.d.tx.length := by omega
          have g2 : ¬ 9223372036854775807 < 4 + t.d.tx.length + 3 := by omega
          clear hone
          go_wp2_with fail
          refine (wString ([60, 33, 45, 45] ++ t.d.tx ++ [45, 45, 62]) hba.out hBa.out HL).mono ?_
          rintro e w5 ⟨rfl, hB5, hb5⟩
          have HB5 := hide hB5
          clear hB5
          go_wp2_with fail
          go_roundg (gk - 1)
          case measure => omega
          case rel => exact ⟨i + 1, by omega, by go_num, by unfold Hid; rw [HTK.out, HON.out, ← List.append_assoc, HACC.out]; exact HB5.out, hka.out.trans hb5⟩
        have k5b : (kk == 5) = false := by simpa using k5
        by_cases k2 : kk = 2
        · subst k2
          have hone : oneH q t = wType ++ t.d.nm ++ [62] := oneH_type HK.out
          have HL := hlen3.out
          rw [hone] at HL
          have HON := hide hone
          have g1 : ¬ 9223372036854775807 < 10 + t.d.nm.length := by omega
          have g2 : ¬ 9223372036854775807 < 10 + t.d.nm.length + 1 := by omega
          clear hone
          go_wp2_with fail
          refine (wString (wType ++ t.d.nm ++ [62]) hba.out hBa.out HL).mono ?_
          rintro e w5 ⟨rfl, hB5, hb5⟩
          have HB5 := hide hB5
          clear hB5
          go_wp2_with fail
          go_roundg (gk - 1)
          case measure => omega
          case rel => exact ⟨i + 1, by omega, by go_num, by unfold Hid; rw [HTK.out, HON.out, ← List.append_assoc, HACC.out]; exact HB5.out, hka.out.trans hb5⟩
        have k2b : (kk == 2) = false := by simpa using k2
        by_cases k1 : kk = 1
        · subst k1
          have hone : oneH q t = htmlT t := oneH_doc HK.out
          have HL := hlen3.out
          rw [hone] at HL
          have HON := hide hone
          have hcall := hide (hCB.out acc (.slice aa2 t.d.ats.length ac2) (.slice ka2 t.ks.length kc2) w0 _ b HT.out HR0.out hba.out hBa.out hLim (by assumption) HL)
          rw [NV, HK.out] at hcall
          clear hone
          go_wp2_with fail
          refine Calls.mono hcall.out ?_
          rintro e w5 ⟨rfl, hB5, hb5⟩
          have HB5 := hide hB5
          clear hB5
          go_wp2_with fail
          go_roundg (gk - 1)
          case measure => omega
          case rel => exact ⟨i + 1, by omega, by go_num, by unfold Hid; rw [HTK.out, HON.out, ← List.append_assoc, HACC.out]; exact HB5.out, hka.out.trans hb5⟩
        have k1b : (kk == 1) = false := by simpa using k1
        by_cases k3 : kk = 3
        · subst k3
          have hone : oneH q t = elemH t := oneH_elem HK.out
          have HL := hlen3.out
          rw [hone] at HL
          have HON := hide hone
          have hcall := hide (hCE.out acc (.slice aa2 t.d.ats.length ac2) (.slice ka2 t.ks.length kc2) w0 _ b HT.out HR0.out hba.out hBa.out hLim (by assumption) HL)
          rw [NV, HK.out] at hcall
          clear hone
          go_wp2_with fail
          refine Calls.mono hcall.out ?_
          rintro e w5 ⟨rfl, hB5, hb5⟩
          have HB5 := hide hB5
          clear hB5
          go_wp2_with fail
          go_roundg (gk - 1)
          case measure => omega
          case rel => exact ⟨i + 1, by omega, by go_num, by unfold Hid; rw [HTK.out, HON.out, ← List.append_assoc, HACC.out]; exact HB5.out, hka.out.trans hb5⟩
        have k3b : (kk == 3) = false := by simpa using k3
        have hone : oneH q t = [] := oneH_else (by rw [HK.out]; exact k1) (by rw [HK.out]; exact k2) (by rw [HK.out]; exact k3) (by rw [HK.out]; exact k4) (by rw [HK.out]; exact k5)
        have HON := hide hone
        have HB5 := hBa
        clear hone
        go_wp2_with fail
        go_roundg (gk - 1)
        case measure => omega
        case rel => exact ⟨i + 1, by omega, by go_num, by unfold Hid; rw [HTK.out, HON.out, List.append_nil, HACC.out]; exact HB5.out, hka.out⟩
      · have HB5 := hbld
        have e : i = ks.length := by omega
        subst e
        go_wp2_with fail
        refine bodyPost_end (results_none (by kernel_rfl) _ _ _) rfl ⟨rfl, ?_, hkx⟩
        have h := HB5.out
        rw [List.take_of_length_le (Nat.le_refl _), HR.out] at h
        exact h
end Go.Proofs.YtagkdmolgmhmdaaGreatDoor
