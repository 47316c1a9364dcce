/- The reference's Texts, walked. -/
import Derived.Test.YtagkdmolgmhmdaaGreatDoorDc
import Derived.IntWalk
namespace Go.Proofs.YtagkdmolgmhmdaaGreatDoor
open Go.RowKit

theorem Dm.texts_len (t : Dm.T) : t.texts.length ≤ t.wt := by
  refine Dm.T.induct (C := fun t => t.texts.length ≤ t.wt) (fun d ks ih => ?_) t
  have key : ∀ l : List Dm.T, (∀ t ∈ l, t ∈ ks) → (Dm.textsK l).length ≤ Dm.wtK l := by
    intro l
    induction l with
    | nil => intro _; simp [Dm.textsK]
    | cons a r ihr =>
      intro hl
      have h1 := ih a (hl a (by simp))
      have h2 := ihr fun t ht => hl t (by simp [ht])
      simp only [Dm.textsK, Dm.wtK, List.length_append]
      omega
  have h := key ks fun _ h => h
  simp only [Dm.T.texts, Dm.T.wt, Dm.D.own, List.length_append]
  split <;> simp <;> omega
set_option maxRecDepth 100000 in
set_option maxHeartbeats 4000000 in
theorem rTexts (s : Dm.T) : ∀ (av kv : Value) (w : World), RdT w s av kv → s.wt ≤ 1048576 →
    Calls Tryz.prog 27 #[NV s.d av kv] w (Fresh (S s.texts) w) := by
  refine Dm.T.induct (C := fun s => ∀ (av kv : Value) (w : World), RdT w s av kv → s.wt ≤ 1048576 →
    Calls Tryz.prog 27 #[NV s.d av kv] w (Fresh (S s.texts) w)) (fun d ks ih av kv w hs hwt => ?_) s
  have hlen := Dm.texts_len (.mk d ks)
  obtain ⟨ha, hk⟩ := RdT.mk_iff.1 hs
  obtain ⟨ka, kc, rfl⟩ := hk.length
  obtain ⟨aa, ac, rfl⟩ := ha.length
  have l2 : ks.length ≤ 1048576 := by have := Dm.wtK_len ks; simp only [Dm.T.wt, Dm.D.own] at hwt; omega
  have HWT := hide (p := ∀ t ∈ ks, t.wt ≤ 1048576) (fun t ht => by have := Dm.wtK_mem ht; simp only [Dm.T.wt, Dm.D.own] at hwt; omega)
  obtain ⟨O, hO⟩ : ∃ O : List UInt8, (if d.kd = 4 then d.tx else []) = O := ⟨_, rfl⟩
  have htx : (Dm.T.mk d ks).texts = O ++ Dm.textsK ks := by rw [← hO]; simp only [Dm.T.texts]
  rw [htx] at hlen ⊢
  have HL := hide (p := O.length + (Dm.textsK ks).length ≤ 1048576) (by rw [List.length_append] at hlen; omega)
  have b1 := Box.new w d (.slice aa d.ats.length ac) (.slice ka ks.length kc)
  have hal := (Below.refl w.heap.size w).alloc (Nat.le_refl _) (.cells #[.int .u8 d.kd, S d.sp, S d.nm, .slice aa d.ats.length ac, S d.tx, S d.pb, S d.sy, .slice ka ks.length kc] 26)
  have HK := hide (hk.below hal)
  have HO := hide hO
  clear hwt hs ha hk hlen htx hO
  show Calls Tryz.prog 27 #[NV d (.slice aa d.ats.length ac) (.slice ka ks.length kc)] w _
  go_enter Tryz.func27, Tryz.ntmps27
  go_upto_region 1 with (fail)
  generalize hgen : (w.alloc (.cells #[.int .u8 d.kd, S d.sp, S d.nm, .slice aa d.ats.length ac, S d.tx, S d.pb, S d.sy, .slice ka ks.length kc] 26)) = w1 at b1 hal HK ⊢
  clear hgen
  obtain ⟨d0, d1, d2, d3, d4, d5, d6, d7⟩ := b1.cells
  have HB := hide b1
  have HAL := hide hal
  clear b1 hal
  by_cases k4 : d.kd = 4
  all_goals
    have q4 : ((d.kd : Int) == 4) = decide (d.kd = 4) := by
      by_cases h : d.kd = 4 <;> simp [h] <;> omega
    have hO2 := HO.out
    first | rw [if_pos k4] at hO2 | rw [if_neg k4] at hO2
    first | rw [decide_eq_true k4] at q4 | rw [decide_eq_false k4] at q4
    clear k4 HO
    have HO2 := hide hO2
    clear hO2
    go_wp2_with fail
    clear d0 d1 d2 d3 d4 d5 d6 d7
    go_loopg [3, 4] ks.length (fun g s3 s4 wx => ∃ (i : Nat) (z : List UInt8), i + g = ks.length ∧ s4 = .int .i64 i ∧ s3 = S z ∧ Hid (z = O ++ Dm.textsK (ks.take i)) ∧ Below w1.heap.size w1 wx)
    case atStart =>
      first
      | exact ⟨0, d.tx, by omega, rfl, rfl, by unfold Hid; rw [← HO2.out]; simp [Dm.textsK], Below.refl _ _⟩
      | exact ⟨0, [], by omega, rfl, rfl, by unfold Hid; rw [← HO2.out]; simp [Dm.textsK], Below.refl _ _⟩
    case round =>
      obtain ⟨i, z, hi, rfl, rfl, hz, hbx⟩ := hrel
      have f7 := (HB.out.below hbx HB.out.lt).cells.2.2.2.2.2.2.2
      by_cases hlt : i < ks.length
      · obtain ⟨t, ht⟩ : ∃ t, ks[i]? = some t := ⟨ks[i], List.getElem?_eq_getElem hlt⟩
        obtain ⟨b, o, av, kv, rfl, ⟨m0, m1, m2, m3, m4, m5, m6, m7⟩, hrt⟩ := (HK.out.below hbx).at ht
        have hmem := List.mem_of_getElem? ht
        have hcall := hide (ih t hmem av kv wr hrt (HWT.out t hmem))
        have hsp : Dm.textsK ks = Dm.textsK (ks.take i) ++ (t.texts ++ Dm.textsK (ks.drop (i + 1))) := by
          have e : ks.drop i = t :: ks.drop (i + 1) := by
            obtain ⟨hi, rfl⟩ := List.getElem?_eq_some_iff.1 ht
            exact List.drop_eq_getElem_cons hi
          have := Dm.textsK_append (ks.take i) (ks.drop i)
          rw [List.take_append_drop, e, Dm.textsK] at this
          exact this
        have htk : Dm.textsK (ks.take (i + 1)) = Dm.textsK (ks.take i) ++ t.texts := by
          rw [List.take_add_one, ht, Dm.textsK_append]
          simp [Dm.textsK]
        have hzl : z.length + t.texts.length ≤ 1048576 := by
          have h1 := HL.out
          have h2 := congrArg List.length hz.out
          rw [hsp] at h1
          simp only [List.length_append] at h1 h2
          omega
        have HTK := hide htk
        have HI := hide ih
        generalize hx : t.texts = x at hcall hzl HTK
        clear ih ht hrt hmem hsp htk hx
        go_wp2_with fail
        refine hcall.out.mono ?_
        rintro e w2 ⟨rfl, hb2⟩
        have hb3 := hide (hbx.trans (hb2.mono hbx.size))
        clear hb2 m0 m1 m2 m3 m4 m5 m6 m7 f7
        go_wp2_with fail
        go_roundg (gk - 1)
        case measure => omega
        case rel => exact ⟨i + 1, z ++ x, by omega, by go_num, rfl, by unfold Hid; rw [HTK.out, hz.out]; simp, hb3.out⟩
      · obtain rfl : i = ks.length := by omega
        have hz2 := hz.out
        rw [List.take_of_length_le (Nat.le_refl _)] at hz2
        have HZ := hide hz2
        clear ih hz2
        go_wp2_with fail
        go_ret
        exact ⟨by rw [← HZ.out]; rfl, HAL.out.trans (hbx.mono HAL.out.size)⟩
end Go.Proofs.YtagkdmolgmhmdaaGreatDoor
