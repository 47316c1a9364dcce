/- dom.Tidy, walked. -/
import Derived.Test.YtagkdmolgmhmdaaGreatDoorTa
namespace Go.Proofs.YtagkdmolgmhmdaaGreatDoor
open Go.RowKit

/-- a node written over a box -/
def putN (w : World) (b : Nat) (d : Dm.D) (av kv : Value) : World :=
  (((((((w.setCell ⟨b, 0, none⟩ (.int .u8 d.kd)).setCell ⟨b, 1, none⟩ (S d.sp)).setCell ⟨b, 2, none⟩ (S d.nm)).setCell ⟨b, 3, none⟩ av).setCell ⟨b, 4, none⟩ (S d.tx)).setCell ⟨b, 5, none⟩ (S d.pb)).setCell ⟨b, 6, none⟩ (S d.sy)).setCell ⟨b, 7, none⟩ kv
theorem Box.put {w : World} {b : Nat} {d e : Dm.D} {av kv bv lv : Value} (h : Box w b d av kv) : Box (putN w b e bv lv) b e bv lv := by
  unfold Box at h ⊢
  unfold putN
  simp [World.setCell, Array.getElem?_modify, h]
theorem putN_far {w : World} {b g : Nat} {d : Dm.D} {av kv : Value} (hg : g ≠ b) : (putN w b d av kv).heap[g]? = w.heap[g]? := by
  unfold putN
  rw [Below.heap_setCell, Below.heap_setCell, Below.heap_setCell, Below.heap_setCell, Below.heap_setCell, Below.heap_setCell, Below.heap_setCell, Below.heap_setCell] <;> exact hg
theorem putN_below {B : Nat} {w w' : World} {b : Nat} {d : Dm.D} {av kv : Value} (h : Below B w w') (hb : B ≤ b) : Below B w (putN w' b d av kv) := by
  unfold putN
  exact (((((((h.setCell hb _).setCell hb _).setCell hb _).setCell hb _).setCell hb _).setCell hb _).setCell hb _).setCell hb _
theorem putN_size {w : World} {b : Nat} {d : Dm.D} {av kv : Value} : (putN w b d av kv).heap.size = w.heap.size := by
  unfold putN; simp

set_option maxRecDepth 100000 in
set_option maxHeartbeats 8000000 in
theorem tidy (s : Dm.T) : ∀ (av kv : Value) (w : World), RdT w s av kv → s.wt ≤ 1048576 →
    Calls Tryz.prog 28 #[NV s.d av kv] w (Made s.tidy w) := by
  refine Dm.T.induct (C := fun s => ∀ (av kv : Value) (w : World), RdT w s av kv → s.wt ≤ 1048576 →
    Calls Tryz.prog 28 #[NV s.d av kv] w (Made s.tidy w)) (fun d ks ih av kv w hs hwt => ?_) s
  obtain ⟨i0, hi, hz0, hz1, hz2⟩ := info_parts info_nd
  obtain ⟨ha, hk⟩ := RdT.mk_iff.1 hs
  obtain ⟨ka, kc, rfl⟩ := hk.length
  obtain ⟨aa, ac, rfl⟩ := ha.length
  have l1 : d.ats.length ≤ 1048576 := by simp only [Dm.T.wt, Dm.D.own] at hwt; omega
  have l2 : ks.length ≤ 1048576 := by have := Dm.wtK_len ks; simp only [Dm.T.wt, Dm.D.own] at hwt; omega
  have HWK := hide (p := Dm.wtK ks ≤ 1048576) (by simp only [Dm.T.wt, Dm.D.own] at hwt; omega)
  have HWT := hide (p := ∀ t ∈ ks, t.wt ≤ 1048576) (fun t ht => by have := Dm.wtK_mem ht; simp only [Dm.T.wt, Dm.D.own] at hwt; omega)
  clear hwt hs
  show Calls Tryz.prog 28 #[NV d (.slice aa d.ats.length ac) (.slice ka ks.length kc)] w _
  go_enter Tryz.func28, Tryz.ntmps28
  go_upto_region 1 with (fail)
  generalize hgen : (w.alloc (.cells #[.int .u8 d.kd, S d.sp, S d.nm, .slice aa d.ats.length ac, S d.tx, S d.pb, S d.sy, .slice ka ks.length kc] 26)).alloc (.cells #[.int .u8 0, .string { data := #[] }, .string { data := #[] }, .slice none 0 0, .string { data := #[] }, .string { data := #[] }, .string { data := #[] }, .slice none 0 0] 26) = w1
  have hs1 : w1.heap.size = w.heap.size + 2 := by rw [← hgen]; simp
  have hw1 : Below w.heap.size w w1 := by rw [← hgen]; exact ((Below.refl w.heap.size w).alloc (Nat.le_refl _) _).alloc (by simp) _
  have b1 : Box w1 w.heap.size d (.slice aa d.ats.length ac) (.slice ka ks.length kc) := by rw [← hgen]; exact (Box.new w d _ _).alloc _
  have b2 : Box w1 (w.heap.size + 1) ⟨0, [], [], [], [], [], []⟩ (.slice none 0 0) (.slice none 0 0) := by
    rw [← hgen, show w.heap.size + 1 = (w.alloc (.cells #[.int .u8 d.kd, S d.sp, S d.nm, .slice aa d.ats.length ac, S d.tx, S d.pb, S d.sy, .slice ka ks.length kc] 26)).heap.size by simp]
    exact Box.new _ ⟨0, [], [], [], [], [], []⟩ _ _
  clear hgen
  obtain ⟨d0, d1, d2, d3, d4, d5, d6, d7⟩ := b1.cells
  have HS1 := hide hs1
  have hk1 := hide hk
  have ha1 := hide (ha.below hw1)
  have hcl := hide (clone d.ats _ w1 ha1.out l1)
  clear hs1 hk ha
  go_wp2_with fail
  refine Calls.mono hcl.out ?_
  rintro e w2 ⟨ao, acap, rfl, hown1, hb2⟩
  have c1 := b1.below hb2 b1.lt
  have c2 := b2.below hb2 b2.lt
  have lt1 := b1.lt
  have lt2 := b2.lt
  have f3 := c1.frozen 3
  have g3 := c1.cells.2.2.2.1
  have hs2 := hb2.size
  have HB1 := hide b1
  have HB2 := hide b2
  have HW := hide hw1
  clear d0 d1 d2 d3 d4 d5 d6 d7 b1 b2 hw1
  go_upto_region 2 with (fail)
  generalize hgen : w2.setCell ⟨w.heap.size, 3, none⟩ (.slice ao d.ats.length acap) = w3
  have hb3 : Below w.heap.size w w3 := by rw [← hgen]; exact (HW.out.trans (hb2.mono HW.out.size)).setCell (Nat.le_refl _) _
  have e1 : Box w3 w.heap.size d (.slice ao d.ats.length acap) (.slice ka ks.length kc) := by rw [← hgen]; exact c1.setA _
  have e2 : Box w3 (w.heap.size + 1) ⟨0, [], [], [], [], [], []⟩ (.slice none 0 0) (.slice none 0 0) := by rw [← hgen]; exact c2.far (by simp) _
  have own3 : w3.ownsRow w1.heap.size 43 3 (.slice ao d.ats.length acap) d.ats.length (atCells d.ats) := by
    rw [← hgen]
    exact owns_of_block hown1 fun g e => Below.heap_setCell _ _ _ _ (by have := (hown1.lt g e).1; simp; omega)
  obtain ⟨d0, d1, d2, d3, d4, d5, d6, d7⟩ := e1.cells
  have HE1 := hide e1
  have HE2 := hide e2
  have HO3 := hide own3
  have HB3 := hide hb3
  have hs3 : w1.heap.size ≤ w3.heap.size := by rw [← hgen]; simp; omega
  have hk3 := hide (hk1.out.below hb3)
  clear hgen hb2 c1 c2 hown1 f3 g3 hb3 e1 e2 own3
  go_wp2_with fail
  clear d0 d1 d2 d3 d4 d5 d6 d7
  go_loopg [3, 14] ks.length (fun g s3 s14 wx => ∃ (i n : Nat) (lo : Option Addr) (lc : Nat) (vs : List (Value × Value)) (G : List Nat), i + g = ks.length ∧ s14 = .int .i64 i ∧ s3 = .slice lo n lc ∧ n = (Dm.upK ks i).length ∧ Hid (CInv w3.heap.size wx (Dm.upK ks i) (.slice lo n lc) vs G) ∧ Below w3.heap.size w3 wx)
  case atStart => exact ⟨0, 0, none, 0, [], [], by omega, rfl, rfl, rfl, by simpa [Hid, Dm.upK_zero] using CInv.nil w3.heap.size w3, Below.refl _ _⟩
  case round =>
    obtain ⟨i, n, lo, lc, vs, G, hi', rfl, rfl, hn, hinv, hbx⟩ := hrel
    have hsx := hbx.size
    have HN0 := hide hn
    have hn' : n ≤ 1048576 := by have := Dm.up_len ks i; omega
    clear hn
    by_cases hlt : i < ks.length
    · obtain ⟨t, ht⟩ : ∃ t, ks[i]? = some t := ⟨ks[i], List.getElem?_eq_getElem hlt⟩
      obtain ⟨b, o, av, kv, rfl, ⟨m0, m1, m2, m3, m4, m5, m6, m7⟩, hrt⟩ := (hk3.out.below hbx).at ht
      have hmem := List.mem_of_getElem? ht
      have HT := hide (p := ks[i]? = some t) ht
      obtain ⟨⟨xo, xc, rfl⟩, yo, yc, rfl⟩ := (⟨(hrt.eta).1.length, (hrt.eta).2.length⟩ : (∃ ao c, av = .slice ao t.d.ats.length c) ∧ ∃ ko c, kv = .slice ko t.ks.length c)
      have hal := (Below.refl wr.heap.size wr).alloc (Nat.le_refl _) (.cells #[.int .u8 t.d.kd, S t.d.sp, S t.d.nm, .slice xo t.d.ats.length xc, S t.d.tx, S t.d.pb, S t.d.sy, .slice yo t.ks.length yc] 26)
      have bk := Box.new wr t.d (.slice xo t.d.ats.length xc) (.slice yo t.ks.length yc)
      have hcall := hide (ih t hmem _ _ _ (hrt.below hal) (HWT.out t hmem))
      have HI := hide ih
      clear ih ht hrt hmem hk3
      go_upto_region 6 with (fail)
      generalize hgen : wr.alloc (.cells #[.int .u8 t.d.kd, S t.d.sp, S t.d.nm, .slice xo t.d.ats.length xc, S t.d.tx, S t.d.pb, S t.d.sy, .slice yo t.ks.length yc] 26) = w4 at hal bk hcall ⊢
      obtain ⟨d0, d1, d2, d3, d4, d5, d6, d7⟩ := bk.cells
      clear hgen m0 m1 m2 m3 m4 m5 m6 m7
      have hs4 := hal.size
      have HBK := hide bk
      clear bk
      go_wp2_with fail
      refine hcall.out.mono ?_
      rintro e w5 ⟨av', kv', F, rfl, hot, hnd, hfr, hb5⟩
      obtain ⟨⟨ao', ac', rfl⟩, ko', kc', rfl⟩ := hot.forms
      have hdd := Dm.tidy_d t
      rw [hdd] at hot ⊢
      obtain ⟨m, hm⟩ : ∃ m, t.tidy.ks.length = m := ⟨_, rfl⟩
      rw [hm] at hot ⊢
      have HDD := hide hdd
      clear hdd
      clear d0 d1 d2 d3 d4 d5 d6 d7
      obtain ⟨d0, d1, d2, d3, d4, d5, d6, d7⟩ := (HBK.out.below hb5 HBK.out.lt).cells
      have hz : ∀ o, w5.frozen? ⟨wr.heap.size, o, none⟩ = false := fun o => (HBK.out.below hb5 HBK.out.lt).frozen o
      go_upto_region 7 with (fail)
      show Code.wp _ _ _ _ (putN w5 wr.heap.size t.d (.slice ao' t.d.ats.length ac') (.slice ko' m kc'))
      have b6 := (HBK.out.below hb5 HBK.out.lt).put (e := t.d) (bv := .slice ao' t.d.ats.length ac') (lv := .slice ko' m kc')
      have hb6 : Below wr.heap.size wr (putN w5 wr.heap.size t.d (.slice ao' t.d.ats.length ac') (.slice ko' m kc')) := putN_below (hal.trans (hb5.mono hs4)) (Nat.le_refl _)
      have hot6 : OwT (putN w5 wr.heap.size t.d (.slice ao' t.d.ats.length ac') (.slice ko' m kc')) t.tidy F (.slice ao' t.d.ats.length ac') (.slice ko' m kc') :=
        OwT.stay _ _ _ _ hot fun g hg => putN_far (by have := hfr g hg; have := HBK.out.lt; omega)
      have hs6 : (putN w5 wr.heap.size t.d (.slice ao' t.d.ats.length ac') (.slice ko' m kc')).heap.size = w5.heap.size := putN_size
      generalize putN w5 wr.heap.size t.d (.slice ao' t.d.ats.length ac') (.slice ko' m kc') = w6 at b6 hb6 hot6 hs6 ⊢
      have hsF : ∀ g ∈ F, wr.heap.size ≤ g := fun g hg => by have := hfr g hg; omega
      have HF := hide hsF
      have HN := hide hnd
      have HOT := hide hot6
      have HB6 := hide b6
      have HBE := hide hb6
      have hsz6 : wr.heap.size ≤ w6.heap.size := hb6.size
      have hinv6 := hinv.out.below hb6
      clear d0 d1 d2 d3 d4 d5 d6 d7 hz hsF hnd hot hot6 hfr hb5 HBK hcall hs6 hs4 hb6
      obtain ⟨d0, d1, d2, d3, d4, d5, d6, d7⟩ := b6.cells
      clear b6 hal
      have hdk : t.tidy.d.kd = t.d.kd := by rw [HDD.out]
      have hdt : t.tidy.d.tx = t.d.tx := by rw [HDD.out]
      by_cases k4 : t.d.kd = 4
      · have q4 : ((t.d.kd : Int) == 4) = true := by simp [k4]
        have hk4 : t.tidy.d.kd = 4 := by rw [hdk]; exact k4
        have hcx := HN0.out
        rcases List.eq_nil_or_concat (Dm.upK ks i) with hup | ⟨A, l, hup⟩
        · obtain rfl : n = 0 := by rw [hcx, hup]; rfl
          have hpu : Hid (Dm.pushK (Dm.upK ks i) t.tidy = if t.d.tx = [] then Dm.upK ks i else Dm.upK ks i ++ [t.tidy]) := by
            unfold Hid
            rw [hup, Dm.pushK_nil hk4, hdt]
            rfl
          clear hcx hup hk4 hdk hdt k4
          go_upto_region 12 with (fail)
          · have htx : t.d.tx = [] := List.isEmpty_iff.1 (by assumption)
            have hpush : Hid (Dm.pushK (Dm.upK ks i) t.tidy = Dm.upK ks i) := by unfold Hid; rw [hpu.out, if_pos htx]
            go_roundg (gk - 1)
            case measure => omega
            case rel =>
              refine ⟨i + 1, 0, lo, lc, vs, G, by omega, by go_num, rfl, ?_, ?_, ?_⟩
              · rw [Dm.upK_succ HT.out, hpush.out]; exact HN0.out
              · unfold Hid
                rw [Dm.upK_succ HT.out, hpush.out]
                exact hinv6
              · exact hbx.trans (HBE.out.mono hsx)
          · have htx : t.d.tx ≠ [] := fun h => by
              have h0 : t.d.tx.isEmpty = false := by assumption
              rw [h] at h0
              cases h0
            have hpush : Hid (Dm.pushK (Dm.upK ks i) t.tidy = Dm.upK ks i ++ [t.tidy]) := by unfold Hid; rw [hpu.out, if_neg htx]
            clear htx hpu
            have hln : (Dm.upK ks i).length = 0 := HN0.out.symm
            have hown6 := hinv6.own
            rw [hln] at hown6
            have hown6' := hide (hown6.alloc (.cells #[.int .u8 t.d.kd, S t.d.sp, S t.d.nm, .slice ao' t.d.ats.length ac', S t.d.tx, S t.d.pb, S t.d.sy, .slice ko' m kc'] 26))
            have HINV6 := hide hinv6
            clear hown6 hinv6 hln
            go_wp2_with (at_builtin; refine wpList_append_own_at _ rfl _ _ 24 rfl w3.heap.size 26 i0 _ 8 136 Tryz.underlying24 hi hz0 hz1 hz2 rfl (by decide) _ 0 _ rfl hown6'.out ⟨w6.heap.size, 0, none⟩ 1 1 (ndCells t.d (.slice ao' t.d.ats.length ac') (.slice ko' m kc')) rfl rfl ?c1 (nd_one _ _ _ _ _ _ _) ?c3 ?c4 ?c5 ?_)
            case c1 => intro j u hu; first | exact hu | (rw [add_zero']; exact row_new w6 _ 26 j u hu)
            case c3 => unfold maxLen; omega
            case c4 => omega
            case c5 => first | omega | (simp; omega)
            intro v5 w7 hown7 hg7 _ hl7
            obtain ⟨lo', lc', rfl, -⟩ := owns_form hown7
            go_wp2_with fail
            go_roundg (gk - 1)
            case measure => omega
            case rel =>
              have hln : (Dm.upK ks i).length = 0 := HN0.out.symm
              refine ⟨i + 1, 0 + 1, lo', lc', vs ++ [(.slice ao' t.d.ats.length ac', .slice ko' m kc')], G ++ F, by omega, by go_num, rfl, ?_, ?_, ?_⟩
              · rw [Dm.upK_succ HT.out, hpush.out, List.length_append, hln]; rfl
              · unfold Hid
                rw [Dm.upK_succ HT.out, hpush.out]
                exact hinv.out.push HBE.out HOT.out HN.out HF.out hsx (by rw [hln, HDD.out]; exact hown7) hg7 (by simpa using hl7)
              · have hb9 := (hbx.trans (HBE.out.mono hsx)).alloc (by omega) (.cells #[.int .u8 t.d.kd, S t.d.sp, S t.d.nm, .slice ao' t.d.ats.length ac', S t.d.tx, S t.d.pb, S t.d.sy, .slice ko' m kc'] 26)
                exact hb9.grown hg7 (by simp; omega) (fun k hk => (hown6'.out.lt k hk).1)
        · rw [List.concat_eq_append] at hup
          obtain rfl : n = A.length + 1 := by rw [hcx, hup]; simp
          have hinv7 := hinv6
          rw [hup] at hinv7
          obtain ⟨g, cap, he, hBg, c0, c4, cf, hset⟩ := hinv7.last
          injection he with he1 he2 he3
          subst he1; subst he3
          by_cases lk : l.d.kd = 4
          · have r4 : ((l.d.kd : Int) == 4) = true := by simp [lk]
            have hpush : Hid (Dm.pushK (Dm.upK ks i) t.tidy = A ++ [l.addTx t.d.tx]) := by unfold Hid; rw [hup, Dm.pushK_join hk4 lk, hdt]
            have hlen := Dm.upK_text HT.out hup
            have hlen2 : l.d.tx.length + t.d.tx.length ≤ 1048576 := Nat.le_trans hlen HWK.out
            have hcf := cf (A.length * 8 + 4)
            have HSET := hide (hset t.d.tx)
            clear hset cf hinv7 hup hcx hk4 hdk hdt k4 lk
            go_upto_region 10 with (fail)
            go_region
            go_wp2_with fail
            go_roundg (gk - 1)
            case measure => omega
            case rel =>
              refine ⟨i + 1, A.length + 1, _, _, vs, G, by omega, by go_num, rfl, ?_, ?_, ?_⟩
              · rw [Dm.upK_succ HT.out, hpush.out]; simp
              · unfold Hid
                rw [Dm.upK_succ HT.out, hpush.out]
                exact HSET.out.below (Below.refl _ _).drew
              · exact ((hbx.trans (HBE.out.mono hsx)).setCell hBg _).drew
          · have r4 : ((l.d.kd : Int) == 4) = false := by simp; omega
            have hpu : Hid (Dm.pushK (Dm.upK ks i) t.tidy = if t.d.tx = [] then Dm.upK ks i else Dm.upK ks i ++ [t.tidy]) := by
              unfold Hid
              rw [hup, Dm.pushK_text hk4 lk, hdt]
            clear hcx hup hk4 hdk hdt hinv7 hset cf k4 lk
            go_upto_region 12 with (fail)
            · have htx : t.d.tx = [] := List.isEmpty_iff.1 (by assumption)
              have hpush : Hid (Dm.pushK (Dm.upK ks i) t.tidy = Dm.upK ks i) := by unfold Hid; rw [hpu.out, if_pos htx]
              go_roundg (gk - 1)
              case measure => omega
              case rel =>
                refine ⟨i + 1, A.length + 1, _, _, vs, G, by omega, by go_num, rfl, ?_, ?_, ?_⟩
                · rw [Dm.upK_succ HT.out, hpush.out]; exact HN0.out
                · unfold Hid
                  rw [Dm.upK_succ HT.out, hpush.out]
                  exact hinv6
                · exact hbx.trans (HBE.out.mono hsx)
            · have htx : t.d.tx ≠ [] := fun h => by
                have h0 : t.d.tx.isEmpty = false := by assumption
                rw [h] at h0
                cases h0
              have hpush : Hid (Dm.pushK (Dm.upK ks i) t.tidy = Dm.upK ks i ++ [t.tidy]) := by unfold Hid; rw [hpu.out, if_neg htx]
              clear htx hpu c0 c4
              have hln : (Dm.upK ks i).length = A.length + 1 := HN0.out.symm
              have hown6 := hinv6.own
              rw [hln] at hown6
              have hown6' := hide (hown6.alloc (.cells #[.int .u8 t.d.kd, S t.d.sp, S t.d.nm, .slice ao' t.d.ats.length ac', S t.d.tx, S t.d.pb, S t.d.sy, .slice ko' m kc'] 26))
              have HINV6 := hide hinv6
              clear hown6 hinv6 hln
              go_wp2_with (at_builtin; refine wpList_append_own_at _ rfl _ _ 24 rfl w3.heap.size 26 i0 _ 8 136 Tryz.underlying24 hi hz0 hz1 hz2 rfl (by decide) _ (A.length + 1) _ rfl hown6'.out ⟨w6.heap.size, 0, none⟩ 1 1 (ndCells t.d (.slice ao' t.d.ats.length ac') (.slice ko' m kc')) rfl rfl ?c1 (nd_one _ _ _ _ _ _ _) ?c3 ?c4 ?c5 ?_)
              case c1 => intro j u hu; first | exact hu | (rw [add_zero']; exact row_new w6 _ 26 j u hu)
              case c3 => unfold maxLen; omega
              case c4 => omega
              case c5 => first | omega | (simp; omega)
              intro v5 w7 hown7 hg7 _ hl7
              obtain ⟨lo', lc', rfl, -⟩ := owns_form hown7
              go_wp2_with fail
              go_roundg (gk - 1)
              case measure => omega
              case rel =>
                have hln : (Dm.upK ks i).length = A.length + 1 := HN0.out.symm
                refine ⟨i + 1, A.length + 1 + 1, lo', lc', vs ++ [(.slice ao' t.d.ats.length ac', .slice ko' m kc')], G ++ F, by omega, by go_num, rfl, ?_, ?_, ?_⟩
                · rw [Dm.upK_succ HT.out, hpush.out, List.length_append, hln]; rfl
                · unfold Hid
                  rw [Dm.upK_succ HT.out, hpush.out]
                  exact hinv.out.push HBE.out HOT.out HN.out HF.out hsx (by rw [hln, HDD.out]; exact hown7) hg7 (by simpa using hl7)
                · have hb9 := (hbx.trans (HBE.out.mono hsx)).alloc (by omega) (.cells #[.int .u8 t.d.kd, S t.d.sp, S t.d.nm, .slice ao' t.d.ats.length ac', S t.d.tx, S t.d.pb, S t.d.sy, .slice ko' m kc'] 26)
                  exact hb9.grown hg7 (by simp; omega) (fun k hk => (hown6'.out.lt k hk).1)
      · have q4 : ((t.d.kd : Int) == 4) = false := by simp; omega
        have hpush : Hid (Dm.pushK (Dm.upK ks i) t.tidy = Dm.upK ks i ++ [t.tidy]) := Dm.pushK_snoc (by rw [hdk]; exact k4) _
        clear hdk hdt
        have hln : (Dm.upK ks i).length = n := HN0.out.symm
        have hown6 := hinv6.own
        rw [hln] at hown6
        have hown6' := hide (hown6.alloc (.cells #[.int .u8 t.d.kd, S t.d.sp, S t.d.nm, .slice ao' t.d.ats.length ac', S t.d.tx, S t.d.pb, S t.d.sy, .slice ko' m kc'] 26))
        have HINV6 := hide hinv6
        clear hown6 hinv6 hln
        go_wp2_with (at_builtin; refine wpList_append_own_at _ rfl _ _ 24 rfl w3.heap.size 26 i0 _ 8 136 Tryz.underlying24 hi hz0 hz1 hz2 rfl (by decide) _ n _ rfl hown6'.out ⟨w6.heap.size, 0, none⟩ 1 1 (ndCells t.d (.slice ao' t.d.ats.length ac') (.slice ko' m kc')) rfl rfl ?c1 (nd_one _ _ _ _ _ _ _) ?c3 ?c4 ?c5 ?_)
        case c1 => intro j u hu; first | exact hu | (rw [add_zero']; exact row_new w6 _ 26 j u hu)
        case c3 => unfold maxLen; omega
        case c4 => omega
        case c5 => first | omega | (simp; omega)
        intro v5 w7 hown7 hg7 _ hl7
        obtain ⟨lo', lc', rfl, -⟩ := owns_form hown7
        go_wp2_with fail
        go_roundg (gk - 1)
        case measure => omega
        case rel =>
          have hln : (Dm.upK ks i).length = n := HN0.out.symm
          refine ⟨i + 1, n + 1, lo', lc', vs ++ [(.slice ao' t.d.ats.length ac', .slice ko' m kc')], G ++ F, by omega, by go_num, rfl, ?_, ?_, ?_⟩
          · rw [Dm.upK_succ HT.out, hpush.out, List.length_append, hln]; rfl
          · unfold Hid
            rw [Dm.upK_succ HT.out, hpush.out]
            exact hinv.out.push HBE.out HOT.out HN.out HF.out hsx (by rw [hln, HDD.out]; exact hown7) hg7 (by simpa using hl7)
          · have hb9 := (hbx.trans (HBE.out.mono hsx)).alloc (by omega) (.cells #[.int .u8 t.d.kd, S t.d.sp, S t.d.nm, .slice ao' t.d.ats.length ac', S t.d.tx, S t.d.pb, S t.d.sy, .slice ko' m kc'] 26)
            exact hb9.grown hg7 (by simp; omega) (fun k hk => (hown6'.out.lt k hk).1)
    · obtain rfl : i = ks.length := by omega
      have HINV := hide hinv.out
      have k1 := HE1.out.below hbx HE1.out.lt
      have k2 := HE2.out.below hbx HE2.out.lt
      have q7 := k1.cells.2.2.2.2.2.2.2
      have hfz := k1.frozen 7
      clear ih hk3 hinv
      go_upto_region 15 with (fail)
      have b1' := k1.setK (.slice lo n lc)
      have b2' := k2.far (p := ⟨w.heap.size, 7, none⟩) (by simp) (.slice lo n lc)
      have hbS : Below w.heap.size w (wr.setCell ⟨w.heap.size, 7, none⟩ (.slice lo n lc)) := (HB3.out.trans (hbx.mono HB3.out.size)).setCell (Nat.le_refl _) _
      have hinvS : CInv w3.heap.size (wr.setCell ⟨w.heap.size, 7, none⟩ (.slice lo n lc)) (Dm.upK ks ks.length) (.slice lo n lc) vs G := by
        refine ⟨owns_of_block HINV.out.own fun g e => Below.heap_setCell _ _ _ _ ?_, HINV.out.kids.stay fun g hg => Below.heap_setCell _ _ _ _ ?_, HINV.out.nodup, HINV.out.apart⟩
        · have := (HINV.out.own.lt g e).1; simp; omega
        · have := (HINV.out.apart g hg).1; simp; omega
      have hownS : (wr.setCell ⟨w.heap.size, 7, none⟩ (.slice lo n lc)).ownsRow w1.heap.size 43 3 (.slice ao d.ats.length acap) d.ats.length (atCells d.ats) :=
        owns_of_block HO3.out fun g e => by
          have h9 := HO3.out.lt g e
          rw [Below.heap_setCell _ _ _ _ (by simp; omega)]
          exact hbx.block g h9.2
      have hsS : (wr.setCell ⟨w.heap.size, 7, none⟩ (.slice lo n lc)).heap.size = wr.heap.size := by simp
      generalize wr.setCell ⟨w.heap.size, 7, none⟩ (.slice lo n lc) = wS at b1' b2' hbS hinvS hownS hsS ⊢
      have hbS9 := hide hbS
      have HINVS := hide hinvS
      have HOWNS := hide hownS
      have HNK := hide (p := (Dm.upK ks ks.length).length = n) HN0.out.symm
      clear HINV q7 hfz k1 k2 hinvS hownS hbS
      obtain ⟨d0, d1, d2, d3, d4, d5, d6, d7⟩ := b1'.cells
      obtain ⟨p0, p1, p2, p3, p4, p5, p6, p7⟩ := b2'.cells
      have hz : ∀ o, wS.frozen? ⟨w.heap.size + 1, o, none⟩ = false := fun o => b2'.frozen o
      clear b1' b2'
      go_wp2_with fail
      refine bodyPost_ret (v := NV d (.slice ao d.ats.length acap) (.slice lo n lc)) (by simp [results, Tryz.results28, go_sem, p0, p1, p2, p3, p4, p5, p6, p7]) rfl ?_
      obtain ⟨F, hF1, hF2, hF3⟩ := HINVS.out.tree HOWNS.out hs3 fun g e => (HO3.out.lt g e).2
      have hS1 := HS1.out
      have het : (Dm.T.mk d ks).tidy = .mk d (Dm.upK ks ks.length) := Dm.upK_all (Nat.le_refl _) d
      rw [het]
      refine ⟨_, _, F, rfl, OwT.stay _ _ _ _ hF1 fun g hg => ?_, hF2, fun g hg => ?_, ?_⟩
      · have h1 := hF3 g hg
        rw [Below.heap_setCell, Below.heap_setCell, Below.heap_setCell, Below.heap_setCell, Below.heap_setCell, Below.heap_setCell, Below.heap_setCell, Below.heap_setCell] <;> (simp; omega)
      · have h1 := hF3 g hg
        omega
      · have hb9 := hbS9.out
        (repeat (first | (with_reducible exact Below.refl _ _) | (with_reducible assumption) | (with_reducible refine Below.drew ?_) | ((with_reducible refine Below.setCell ?_ ?_ _); rotate_left; (focus (first | omega | (simp; done) | (simp; omega)))) | ((with_reducible refine Below.alloc ?_ ?_ _); rotate_left; (focus (first | omega | (simp; done) | (simp; omega))))))
end Go.Proofs.YtagkdmolgmhmdaaGreatDoor
namespace Go.Proofs.YtagkdmolgmhmdaaGreatDoor
open Go.RowKit

set_option maxRecDepth 100000 in
set_option maxHeartbeats 8000000 in
theorem rTidy (s : Dm.T) : ∀ (av kv : Value) (w : World), RdT w s av kv → s.wt ≤ 1048576 →
    Calls Tryz.prog 32 #[NV s.d av kv] w (Made s.tidy w) := by
  refine Dm.T.induct (C := fun s => ∀ (av kv : Value) (w : World), RdT w s av kv → s.wt ≤ 1048576 →
    Calls Tryz.prog 32 #[NV s.d av kv] w (Made s.tidy w)) (fun d ks ih av kv w hs hwt => ?_) s
  obtain ⟨i0, hi, hz0, hz1, hz2⟩ := info_parts info_nd
  obtain ⟨ha, hk⟩ := RdT.mk_iff.1 hs
  obtain ⟨ka, kc, rfl⟩ := hk.length
  obtain ⟨aa, ac, rfl⟩ := ha.length
  have l1 : d.ats.length ≤ 1048576 := by simp only [Dm.T.wt, Dm.D.own] at hwt; omega
  have l2 : ks.length ≤ 1048576 := by have := Dm.wtK_len ks; simp only [Dm.T.wt, Dm.D.own] at hwt; omega
  have HWK := hide (p := Dm.wtK ks ≤ 1048576) (by simp only [Dm.T.wt, Dm.D.own] at hwt; omega)
  have HWT := hide (p := ∀ t ∈ ks, t.wt ≤ 1048576) (fun t ht => by have := Dm.wtK_mem ht; simp only [Dm.T.wt, Dm.D.own] at hwt; omega)
  clear hwt hs
  show Calls Tryz.prog 32 #[NV d (.slice aa d.ats.length ac) (.slice ka ks.length kc)] w _
  go_enter Tryz.func32, Tryz.ntmps32
  go_upto_region 1 with (fail)
  generalize hgen : (w.alloc (.cells #[.int .u8 d.kd, S d.sp, S d.nm, .slice aa d.ats.length ac, S d.tx, S d.pb, S d.sy, .slice ka ks.length kc] 26)).alloc (.cells #[.int .u8 0, .string { data := #[] }, .string { data := #[] }, .slice none 0 0, .string { data := #[] }, .string { data := #[] }, .string { data := #[] }, .slice none 0 0] 26) = w1
  have hs1 : w1.heap.size = w.heap.size + 2 := by rw [← hgen]; simp
  have hw1 : Below w.heap.size w w1 := by rw [← hgen]; exact ((Below.refl w.heap.size w).alloc (Nat.le_refl _) _).alloc (by simp) _
  have b1 : Box w1 w.heap.size d (.slice aa d.ats.length ac) (.slice ka ks.length kc) := by rw [← hgen]; exact (Box.new w d _ _).alloc _
  have b2 : Box w1 (w.heap.size + 1) ⟨0, [], [], [], [], [], []⟩ (.slice none 0 0) (.slice none 0 0) := by
    rw [← hgen, show w.heap.size + 1 = (w.alloc (.cells #[.int .u8 d.kd, S d.sp, S d.nm, .slice aa d.ats.length ac, S d.tx, S d.pb, S d.sy, .slice ka ks.length kc] 26)).heap.size by simp]
    exact Box.new _ ⟨0, [], [], [], [], [], []⟩ _ _
  clear hgen
  obtain ⟨d0, d1, d2, d3, d4, d5, d6, d7⟩ := b1.cells
  have HS1 := hide hs1
  have hk1 := hide hk
  have ha1 := hide (ha.below hw1)
  clear hs1 hk ha
  go_wp2_with (at_builtin; refine wpList_append_attrs rfl _ _ rfl w1.heap.size _ 0 [] rfl ⟨rfl, .inl ⟨rfl, rfl⟩⟩ d.ats aa d.ats.length ac rfl ha1.out (by omega) (Nat.le_refl _) ?_)
  intro v1 w2 hown1 hg1 hl1
  have hb2 : Below w1.heap.size w1 w2 := (Below.refl _ _).grown hg1 (Nat.le_refl _) (fun k hk => (by cases hk))
  have c1 := b1.below hb2 b1.lt
  have c2 := b2.below hb2 b2.lt
  have lt1 := b1.lt
  have lt2 := b2.lt
  obtain ⟨ao, acap, rfl, -⟩ := owns_form hown1
  have f3 := c1.frozen 3
  have g3 := c1.cells.2.2.2.1
  have hs2 := hb2.size
  have HB1 := hide b1
  have HB2 := hide b2
  have HW := hide hw1
  clear d0 d1 d2 d3 d4 d5 d6 d7 hg1 hl1 b1 b2 hw1
  go_wp2_with fail
  generalize hgen : w2.setCell ⟨w.heap.size, 3, none⟩ (.slice ao d.ats.length acap) = w3
  have hb3 : Below w.heap.size w w3 := by rw [← hgen]; exact (HW.out.trans (hb2.mono HW.out.size)).setCell (Nat.le_refl _) _
  have e1 : Box w3 w.heap.size d (.slice ao d.ats.length acap) (.slice ka ks.length kc) := by rw [← hgen]; exact c1.setA _
  have e2 : Box w3 (w.heap.size + 1) ⟨0, [], [], [], [], [], []⟩ (.slice none 0 0) (.slice none 0 0) := by rw [← hgen]; exact c2.far (by simp) _
  have own3 : w3.ownsRow w1.heap.size 43 3 (.slice ao d.ats.length acap) d.ats.length (atCells d.ats) := by
    rw [← hgen]
    exact owns_of_block hown1 fun g e => Below.heap_setCell _ _ _ _ (by have := (hown1.lt g e).1; simp; omega)
  obtain ⟨d0, d1, d2, d3, d4, d5, d6, d7⟩ := e1.cells
  have HE1 := hide e1
  have HE2 := hide e2
  have HO3 := hide own3
  have HB3 := hide hb3
  have hs3 : w1.heap.size ≤ w3.heap.size := by rw [← hgen]; simp; omega
  have hk3 := hide (hk1.out.below hb3)
  clear hgen hb2 c1 c2 hown1 f3 g3 hb3 e1 e2 own3
  clear d0 d1 d2 d3 d4 d5 d6 d7
  go_loopg [4, 5] ks.length (fun g s4 s5 wx => ∃ (i n : Nat) (lo : Option Addr) (lc : Nat) (vs : List (Value × Value)) (G : List Nat), i + g = ks.length ∧ s5 = .int .i64 i ∧ s4 = .slice lo n lc ∧ n = (Dm.upK ks i).length ∧ Hid (CInv w3.heap.size wx (Dm.upK ks i) (.slice lo n lc) vs G) ∧ Below w3.heap.size w3 wx)
  case atStart => exact ⟨0, 0, none, 0, [], [], by omega, rfl, rfl, rfl, by simpa [Hid, Dm.upK_zero] using CInv.nil w3.heap.size w3, Below.refl _ _⟩
  case round =>
    obtain ⟨i, n, lo, lc, vs, G, hi', rfl, rfl, hn, hinv, hbx⟩ := hrel
    have hsx := hbx.size
    have HN0 := hide hn
    have hn' : n ≤ 1048576 := by have := Dm.up_len ks i; omega
    clear hn
    have f7 := (HE1.out.below hbx HE1.out.lt).cells.2.2.2.2.2.2.2
    by_cases hlt : i < ks.length
    · obtain ⟨t, ht⟩ : ∃ t, ks[i]? = some t := ⟨ks[i], List.getElem?_eq_getElem hlt⟩
      obtain ⟨b, o, av, kv, rfl, ⟨m0, m1, m2, m3, m4, m5, m6, m7⟩, hrt⟩ := (hk3.out.below hbx).at ht
      have hmem := List.mem_of_getElem? ht
      have HT := hide (p := ks[i]? = some t) ht
      obtain ⟨⟨xo, xc, rfl⟩, yo, yc, rfl⟩ := (⟨(hrt.eta).1.length, (hrt.eta).2.length⟩ : (∃ ao c, av = .slice ao t.d.ats.length c) ∧ ∃ ko c, kv = .slice ko t.ks.length c)
      have hcall := hide (ih t hmem _ _ _ hrt (HWT.out t hmem))
      have HI := hide ih
      clear ih ht hrt hmem hk3
      go_wp2_with fail
      refine hcall.out.mono ?_
      rintro e w5 ⟨av', kv', F, rfl, hot, hnd, hfr, hb5⟩
      obtain ⟨⟨ao', ac', rfl⟩, ko', kc', rfl⟩ := hot.forms
      have hdd := Dm.tidy_d t
      rw [hdd] at hot ⊢
      obtain ⟨m, hm⟩ : ∃ m, t.tidy.ks.length = m := ⟨_, rfl⟩
      rw [hm] at hot ⊢
      have HDD := hide hdd
      clear hdd f7
      go_upto_region 8 with (fail)
      have hal := (Below.refl w5.heap.size w5).alloc (Nat.le_refl _) (.cells #[.int .u8 t.d.kd, S t.d.sp, S t.d.nm, .slice ao' t.d.ats.length ac', S t.d.tx, S t.d.pb, S t.d.sy, .slice ko' m kc'] 26)
      have b6 := Box.new w5 t.d (.slice ao' t.d.ats.length ac') (.slice ko' m kc')
      generalize hgen : w5.alloc (.cells #[.int .u8 t.d.kd, S t.d.sp, S t.d.nm, .slice ao' t.d.ats.length ac', S t.d.tx, S t.d.pb, S t.d.sy, .slice ko' m kc'] 26) = w6 at hal b6 ⊢
      have hb6 : Below wr.heap.size wr w6 := hb5.trans (hal.mono hb5.size)
      have hot6 := hot.below hal
      have HF := hide (p := ∀ g ∈ F, wr.heap.size ≤ g) hfr
      have HN := hide hnd
      have HOT := hide hot6
      have HB6 := hide b6
      have HBE := hide hb6
      have hsz6 : wr.heap.size ≤ w6.heap.size := hb6.size
      have hinv6 := hinv.out.below hb6
      clear hgen hnd hot hot6 hfr hb5 hcall hb6 m0 m1 m2 m3 m4 m5 m6 m7
      obtain ⟨d0, d1, d2, d3, d4, d5, d6, d7⟩ := b6.cells
      clear b6 hal
      have hdk : t.tidy.d.kd = t.d.kd := by rw [HDD.out]
      have hdt : t.tidy.d.tx = t.d.tx := by rw [HDD.out]
      by_cases k4 : t.d.kd = 4
      · have q4 : ((t.d.kd : Int) == 4) = true := by simp [k4]
        have hk4 : t.tidy.d.kd = 4 := by rw [hdk]; exact k4
        have hcx := HN0.out
        rcases List.eq_nil_or_concat (Dm.upK ks i) with hup | ⟨A, l, hup⟩
        · obtain rfl : n = 0 := by rw [hcx, hup]; rfl
          have hpu : Hid (Dm.pushK (Dm.upK ks i) t.tidy = if t.d.tx = [] then Dm.upK ks i else Dm.upK ks i ++ [t.tidy]) := by
            unfold Hid
            rw [hup, Dm.pushK_nil hk4, hdt]
            rfl
          clear hcx hup hk4 hdk hdt k4
          go_upto_region 12 with (fail)
          rotate_left
          · rename_i hkd hem
            clear hkd
            have htx : t.d.tx = [] := List.isEmpty_iff.1 (by simpa using hem)
            have hpush : Hid (Dm.pushK (Dm.upK ks i) t.tidy = Dm.upK ks i) := by unfold Hid; rw [hpu.out, if_pos htx]
            go_roundg (gk - 1)
            case measure => omega
            case rel =>
              refine ⟨i + 1, 0, lo, lc, vs, G, by omega, by go_num, rfl, ?_, ?_, ?_⟩
              · rw [Dm.upK_succ HT.out, hpush.out]; exact HN0.out
              · unfold Hid
                rw [Dm.upK_succ HT.out, hpush.out]
                exact hinv6
              · exact hbx.trans (HBE.out.mono hsx)
          · exact absurd (by simpa using q4) (by assumption)
          · rename_i hkd hem
            clear hkd
            have htx : t.d.tx ≠ [] := fun h => by
              have h0 : t.d.tx.isEmpty = false := by simpa using hem
              rw [h] at h0
              cases h0
            have hpush : Hid (Dm.pushK (Dm.upK ks i) t.tidy = Dm.upK ks i ++ [t.tidy]) := by unfold Hid; rw [hpu.out, if_neg htx]
            clear htx hpu
            have hln : (Dm.upK ks i).length = 0 := HN0.out.symm
            have hown6 := hinv6.own
            rw [hln] at hown6
            have hown6' := hide (hown6.alloc (.cells #[.int .u8 t.d.kd, S t.d.sp, S t.d.nm, .slice ao' t.d.ats.length ac', S t.d.tx, S t.d.pb, S t.d.sy, .slice ko' m kc'] 26))
            have HINV6 := hide hinv6
            clear hown6 hinv6 hln
            go_wp2_with (at_builtin; refine wpList_append_own_at _ rfl _ _ 24 rfl w3.heap.size 26 i0 _ 8 136 Tryz.underlying24 hi hz0 hz1 hz2 rfl (by decide) _ 0 _ rfl hown6'.out ⟨w6.heap.size, 0, none⟩ 1 1 (ndCells t.d (.slice ao' t.d.ats.length ac') (.slice ko' m kc')) rfl rfl ?c1 (nd_one _ _ _ _ _ _ _) ?c3 ?c4 ?c5 ?_)
            case c1 => intro j u hu; first | exact hu | (rw [add_zero']; exact row_new w6 _ 26 j u hu)
            case c3 => unfold maxLen; omega
            case c4 => omega
            case c5 => first | omega | (simp; omega)
            intro v5 w7 hown7 hg7 _ hl7
            obtain ⟨lo', lc', rfl, -⟩ := owns_form hown7
            go_wp2_with fail
            go_roundg (gk - 1)
            case measure => omega
            case rel =>
              have hln : (Dm.upK ks i).length = 0 := HN0.out.symm
              refine ⟨i + 1, 0 + 1, lo', lc', vs ++ [(.slice ao' t.d.ats.length ac', .slice ko' m kc')], G ++ F, by omega, by go_num, rfl, ?_, ?_, ?_⟩
              · rw [Dm.upK_succ HT.out, hpush.out, List.length_append, hln]; rfl
              · unfold Hid
                rw [Dm.upK_succ HT.out, hpush.out]
                exact hinv.out.push HBE.out HOT.out HN.out HF.out hsx (by rw [hln, HDD.out]; exact hown7) hg7 (by simpa using hl7)
              · have hb9 := (hbx.trans (HBE.out.mono hsx)).alloc (by omega) (.cells #[.int .u8 t.d.kd, S t.d.sp, S t.d.nm, .slice ao' t.d.ats.length ac', S t.d.tx, S t.d.pb, S t.d.sy, .slice ko' m kc'] 26)
                exact hb9.grown hg7 (by simp; omega) (fun k hk => (hown6'.out.lt k hk).1)
        · rw [List.concat_eq_append] at hup
          obtain rfl : n = A.length + 1 := by rw [hcx, hup]; simp
          have hinv7 := hinv6
          rw [hup] at hinv7
          obtain ⟨g, cap, he, hBg, c0, c4, cf, hset⟩ := hinv7.last
          injection he with he1 he2 he3
          subst he1; subst he3
          by_cases lk : l.d.kd = 4
          · have r4 : ((l.d.kd : Int) == 4) = true := by simp [lk]
            have hpush : Hid (Dm.pushK (Dm.upK ks i) t.tidy = A ++ [l.addTx t.d.tx]) := by unfold Hid; rw [hup, Dm.pushK_join hk4 lk, hdt]
            have hlen := Dm.upK_text HT.out hup
            have hlen2 : l.d.tx.length + t.d.tx.length ≤ 1048576 := Nat.le_trans hlen HWK.out
            have hcf := cf (A.length * 8 + 4)
            have HSET := hide (hset t.d.tx)
            clear hset cf hinv7 hup hcx hk4 hdk hdt k4 lk
            go_upto_region 10 with (fail)
            go_region
            go_wp2_with fail
            go_roundg (gk - 1)
            case measure => omega
            case rel =>
              refine ⟨i + 1, A.length + 1, _, _, vs, G, by omega, by go_num, rfl, ?_, ?_, ?_⟩
              · rw [Dm.upK_succ HT.out, hpush.out]; simp
              · unfold Hid
                rw [Dm.upK_succ HT.out, hpush.out]
                exact HSET.out.below (Below.refl _ _).drew
              · exact ((hbx.trans (HBE.out.mono hsx)).setCell hBg _).drew
          · have r4 : ((l.d.kd : Int) == 4) = false := by simp; omega
            have hpu : Hid (Dm.pushK (Dm.upK ks i) t.tidy = if t.d.tx = [] then Dm.upK ks i else Dm.upK ks i ++ [t.tidy]) := by
              unfold Hid
              rw [hup, Dm.pushK_text hk4 lk, hdt]
            clear hcx hup hk4 hdk hdt hinv7 hset cf k4 lk
            go_upto_region 12 with (fail)
            rotate_left
            · rename_i hkd hem
              clear hkd
              have htx : t.d.tx = [] := List.isEmpty_iff.1 (by simpa using hem)
              have hpush : Hid (Dm.pushK (Dm.upK ks i) t.tidy = Dm.upK ks i) := by unfold Hid; rw [hpu.out, if_pos htx]
              go_roundg (gk - 1)
              case measure => omega
              case rel =>
                refine ⟨i + 1, A.length + 1, _, _, vs, G, by omega, by go_num, rfl, ?_, ?_, ?_⟩
                · rw [Dm.upK_succ HT.out, hpush.out]; exact HN0.out
                · unfold Hid
                  rw [Dm.upK_succ HT.out, hpush.out]
                  exact hinv6
                · exact hbx.trans (HBE.out.mono hsx)
            · exact absurd (by simpa using q4) (by assumption)
            · rename_i hkd hem
              clear hkd
              have htx : t.d.tx ≠ [] := fun h => by
                have h0 : t.d.tx.isEmpty = false := by simpa using hem
                rw [h] at h0
                cases h0
              have hpush : Hid (Dm.pushK (Dm.upK ks i) t.tidy = Dm.upK ks i ++ [t.tidy]) := by unfold Hid; rw [hpu.out, if_neg htx]
              clear htx hpu c0 c4
              have hln : (Dm.upK ks i).length = A.length + 1 := HN0.out.symm
              have hown6 := hinv6.own
              rw [hln] at hown6
              have hown6' := hide (hown6.alloc (.cells #[.int .u8 t.d.kd, S t.d.sp, S t.d.nm, .slice ao' t.d.ats.length ac', S t.d.tx, S t.d.pb, S t.d.sy, .slice ko' m kc'] 26))
              have HINV6 := hide hinv6
              clear hown6 hinv6 hln
              go_wp2_with (at_builtin; refine wpList_append_own_at _ rfl _ _ 24 rfl w3.heap.size 26 i0 _ 8 136 Tryz.underlying24 hi hz0 hz1 hz2 rfl (by decide) _ (A.length + 1) _ rfl hown6'.out ⟨w6.heap.size, 0, none⟩ 1 1 (ndCells t.d (.slice ao' t.d.ats.length ac') (.slice ko' m kc')) rfl rfl ?c1 (nd_one _ _ _ _ _ _ _) ?c3 ?c4 ?c5 ?_)
              case c1 => intro j u hu; first | exact hu | (rw [add_zero']; exact row_new w6 _ 26 j u hu)
              case c3 => unfold maxLen; omega
              case c4 => omega
              case c5 => first | omega | (simp; omega)
              intro v5 w7 hown7 hg7 _ hl7
              obtain ⟨lo', lc', rfl, -⟩ := owns_form hown7
              go_wp2_with fail
              go_roundg (gk - 1)
              case measure => omega
              case rel =>
                have hln : (Dm.upK ks i).length = A.length + 1 := HN0.out.symm
                refine ⟨i + 1, A.length + 1 + 1, lo', lc', vs ++ [(.slice ao' t.d.ats.length ac', .slice ko' m kc')], G ++ F, by omega, by go_num, rfl, ?_, ?_, ?_⟩
                · rw [Dm.upK_succ HT.out, hpush.out, List.length_append, hln]; rfl
                · unfold Hid
                  rw [Dm.upK_succ HT.out, hpush.out]
                  exact hinv.out.push HBE.out HOT.out HN.out HF.out hsx (by rw [hln, HDD.out]; exact hown7) hg7 (by simpa using hl7)
                · have hb9 := (hbx.trans (HBE.out.mono hsx)).alloc (by omega) (.cells #[.int .u8 t.d.kd, S t.d.sp, S t.d.nm, .slice ao' t.d.ats.length ac', S t.d.tx, S t.d.pb, S t.d.sy, .slice ko' m kc'] 26)
                  exact hb9.grown hg7 (by simp; omega) (fun k hk => (hown6'.out.lt k hk).1)
      · have q4 : ((t.d.kd : Int) == 4) = false := by simp; omega
        have hpush : Hid (Dm.pushK (Dm.upK ks i) t.tidy = Dm.upK ks i ++ [t.tidy]) := Dm.pushK_snoc (by rw [hdk]; exact k4) _
        clear hdk hdt
        have hln : (Dm.upK ks i).length = n := HN0.out.symm
        have hown6 := hinv6.own
        rw [hln] at hown6
        have hown6' := hide (hown6.alloc (.cells #[.int .u8 t.d.kd, S t.d.sp, S t.d.nm, .slice ao' t.d.ats.length ac', S t.d.tx, S t.d.pb, S t.d.sy, .slice ko' m kc'] 26))
        have HINV6 := hide hinv6
        clear hown6 hinv6 hln
        go_wp2_with (at_builtin; refine wpList_append_own_at _ rfl _ _ 24 rfl w3.heap.size 26 i0 _ 8 136 Tryz.underlying24 hi hz0 hz1 hz2 rfl (by decide) _ n _ rfl hown6'.out ⟨w6.heap.size, 0, none⟩ 1 1 (ndCells t.d (.slice ao' t.d.ats.length ac') (.slice ko' m kc')) rfl rfl ?c1 (nd_one _ _ _ _ _ _ _) ?c3 ?c4 ?c5 ?_)
        case c1 => intro j u hu; first | exact hu | (rw [add_zero']; exact row_new w6 _ 26 j u hu)
        case c3 => unfold maxLen; omega
        case c4 => omega
        case c5 => first | omega | (simp; omega)
        intro v5 w7 hown7 hg7 _ hl7
        obtain ⟨lo', lc', rfl, -⟩ := owns_form hown7
        go_wp2_with fail
        go_roundg (gk - 1)
        case measure => omega
        case rel =>
          have hln : (Dm.upK ks i).length = n := HN0.out.symm
          refine ⟨i + 1, n + 1, lo', lc', vs ++ [(.slice ao' t.d.ats.length ac', .slice ko' m kc')], G ++ F, by omega, by go_num, rfl, ?_, ?_, ?_⟩
          · rw [Dm.upK_succ HT.out, hpush.out, List.length_append, hln]; rfl
          · unfold Hid
            rw [Dm.upK_succ HT.out, hpush.out]
            exact hinv.out.push HBE.out HOT.out HN.out HF.out hsx (by rw [hln, HDD.out]; exact hown7) hg7 (by simpa using hl7)
          · have hb9 := (hbx.trans (HBE.out.mono hsx)).alloc (by omega) (.cells #[.int .u8 t.d.kd, S t.d.sp, S t.d.nm, .slice ao' t.d.ats.length ac', S t.d.tx, S t.d.pb, S t.d.sy, .slice ko' m kc'] 26)
            exact hb9.grown hg7 (by simp; omega) (fun k hk => (hown6'.out.lt k hk).1)
    · obtain rfl : i = ks.length := by omega
      have HINV := hide hinv.out
      have k1 := HE1.out.below hbx HE1.out.lt
      have k2 := HE2.out.below hbx HE2.out.lt
      have q7 := k1.cells.2.2.2.2.2.2.2
      have hfz := k1.frozen 7
      clear ih hk3 hinv
      go_upto_region 14 with (fail)
      have b1' := k1.setK (.slice lo n lc)
      have b2' := k2.far (p := ⟨w.heap.size, 7, none⟩) (by simp) (.slice lo n lc)
      have hbS : Below w.heap.size w (wr.setCell ⟨w.heap.size, 7, none⟩ (.slice lo n lc)) := (HB3.out.trans (hbx.mono HB3.out.size)).setCell (Nat.le_refl _) _
      have hinvS : CInv w3.heap.size (wr.setCell ⟨w.heap.size, 7, none⟩ (.slice lo n lc)) (Dm.upK ks ks.length) (.slice lo n lc) vs G := by
        refine ⟨owns_of_block HINV.out.own fun g e => Below.heap_setCell _ _ _ _ ?_, HINV.out.kids.stay fun g hg => Below.heap_setCell _ _ _ _ ?_, HINV.out.nodup, HINV.out.apart⟩
        · have := (HINV.out.own.lt g e).1; simp; omega
        · have := (HINV.out.apart g hg).1; simp; omega
      have hownS : (wr.setCell ⟨w.heap.size, 7, none⟩ (.slice lo n lc)).ownsRow w1.heap.size 43 3 (.slice ao d.ats.length acap) d.ats.length (atCells d.ats) :=
        owns_of_block HO3.out fun g e => by
          have h9 := HO3.out.lt g e
          rw [Below.heap_setCell _ _ _ _ (by simp; omega)]
          exact hbx.block g h9.2
      have hsS : (wr.setCell ⟨w.heap.size, 7, none⟩ (.slice lo n lc)).heap.size = wr.heap.size := by simp
      generalize wr.setCell ⟨w.heap.size, 7, none⟩ (.slice lo n lc) = wS at b1' b2' hbS hinvS hownS hsS ⊢
      have hbS9 := hide hbS
      have HINVS := hide hinvS
      have HOWNS := hide hownS
      have HNK := hide (p := (Dm.upK ks ks.length).length = n) HN0.out.symm
      clear HINV q7 hfz k1 k2 hinvS hownS hbS
      obtain ⟨d0, d1, d2, d3, d4, d5, d6, d7⟩ := b1'.cells
      obtain ⟨p0, p1, p2, p3, p4, p5, p6, p7⟩ := b2'.cells
      have hz : ∀ o, wS.frozen? ⟨w.heap.size + 1, o, none⟩ = false := fun o => b2'.frozen o
      clear b1' b2'
      go_wp2_with fail
      refine bodyPost_ret (v := NV d (.slice ao d.ats.length acap) (.slice lo n lc)) (by simp [results, Tryz.results32, go_sem, p0, p1, p2, p3, p4, p5, p6, p7]) rfl ?_
      obtain ⟨F, hF1, hF2, hF3⟩ := HINVS.out.tree HOWNS.out hs3 fun g e => (HO3.out.lt g e).2
      have hS1 := HS1.out
      have het : (Dm.T.mk d ks).tidy = .mk d (Dm.upK ks ks.length) := Dm.upK_all (Nat.le_refl _) d
      rw [het]
      refine ⟨_, _, F, rfl, OwT.stay _ _ _ _ hF1 fun g hg => ?_, hF2, fun g hg => ?_, ?_⟩
      · have h1 := hF3 g hg
        rw [Below.heap_setCell, Below.heap_setCell, Below.heap_setCell, Below.heap_setCell, Below.heap_setCell, Below.heap_setCell, Below.heap_setCell, Below.heap_setCell] <;> (simp; omega)
      · have h1 := hF3 g hg
        omega
      · have hb9 := hbS9.out
        (repeat (first | (with_reducible exact Below.refl _ _) | (with_reducible assumption) | (with_reducible refine Below.drew ?_) | ((with_reducible refine Below.setCell ?_ ?_ _); rotate_left; (focus (first | omega | (simp; done) | (simp; omega)))) | ((with_reducible refine Below.alloc ?_ ?_ _); rotate_left; (focus (first | omega | (simp; done) | (simp; omega))))))
end Go.Proofs.YtagkdmolgmhmdaaGreatDoor
