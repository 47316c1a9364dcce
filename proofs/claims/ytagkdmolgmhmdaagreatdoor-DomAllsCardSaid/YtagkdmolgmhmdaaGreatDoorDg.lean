/- A tree copied: the walk. -/
import Derived.Test.YtagkdmolgmhmdaaGreatDoorDf
import Derived.IntWalk
namespace Go.Proofs.YtagkdmolgmhmdaaGreatDoor
open Go.RowKit

theorem row_new (w : World) (l : List Value) (t : TypeId) : ∀ (j : Nat) x, l[j]? = some x → (w.alloc (.cells l.toArray t)).cell? ⟨w.heap.size, j, none⟩ = some x := fun j x h => by
  rw [Lib.cell_of_heap (heap_alloc_last _ _)]
  simp [h]
theorem nd_one (d : Dm.D) (ao ko : Option Addr) (n c m k : Nat) : ∀ u ∈ ndCells d (.slice ao n c) (.slice ko m k), u.oneCell' = true := by
  intro u hu
  simp [ndCells] at hu
  rcases hu with rfl | rfl | rfl | rfl | rfl | rfl | rfl | rfl <;> rfl
theorem add_zero' (b j : Nat) : (⟨b, 0, none⟩ : Addr).add j = ⟨b, j, none⟩ := by
  unfold Addr.add
  split
  · rename_i h; subst h; rfl
  · simp

theorem OwT.forms {w : World} {t : Dm.T} {F : List Nat} {av kv : Value} (h : OwT w t F av kv) : (∃ ao c, av = .slice ao t.d.ats.length c) ∧ ∃ ko c, kv = .slice ko t.ks.length c := by
  cases t with
  | mk d ks =>
    simp only [OwT] at h
    obtain ⟨h1, vs, G, h2, _⟩ := h
    obtain ⟨ao, c, rfl, _⟩ := owns_form h1
    obtain ⟨ko, c', rfl, _⟩ := owns_form h2
    exact ⟨⟨_, _, rfl⟩, _, _, rfl⟩
set_option maxRecDepth 100000 in
set_option maxHeartbeats 4000000 in
theorem copyNode (s : Dm.T) : ∀ (av kv : Value) (w : World), RdT w s av kv → s.wt ≤ 1048576 →
    Calls Tryz.prog 12 #[NV s.d av kv] w (Made s w) := by
  refine Dm.T.induct (C := fun s => ∀ (av kv : Value) (w : World), RdT w s av kv → s.wt ≤ 1048576 →
    Calls Tryz.prog 12 #[NV s.d av kv] w (Made s w)) (fun d ks ih av kv w hs hwt => ?_) s
  obtain ⟨i0, hi, hz0, hz1, hz2⟩ := info_parts info_nd
  obtain ⟨ha, hk⟩ := RdT.mk_iff.1 hs
  obtain ⟨ka, kc, rfl⟩ := hk.length
  obtain ⟨aa, ac, rfl⟩ := ha.length
  have l1 : d.ats.length ≤ 1048576 := by simp only [Dm.T.wt, Dm.D.own] at hwt; omega
  have l2 : ks.length ≤ 1048576 := by have := Dm.wtK_len ks; simp only [Dm.T.wt, Dm.D.own] at hwt; omega
  have HWT := hide (p := ∀ t ∈ ks, t.wt ≤ 1048576) (fun t ht => by have := Dm.wtK_mem ht; simp only [Dm.T.wt, Dm.D.own] at hwt; omega)
  clear hwt hs
  show Calls Tryz.prog 12 #[NV d (.slice aa d.ats.length ac) (.slice ka ks.length kc)] w _
  go_enter Tryz.func12, Tryz.ntmps12
  go_upto_region 1 with (fail)
  generalize hgen : (w.alloc (.cells #[.int .u8 d.kd, S d.sp, S d.nm, .slice aa d.ats.length ac, S d.tx, S d.pb, S d.sy, .slice ka ks.length kc] 26)).alloc (.cells #[.int .u8 0, .string { data := #[] }, .string { data := #[] }, .slice none 0 0, .string { data := #[] }, .string { data := #[] }, .string { data := #[] }, .slice none 0 0] 26) = w1
  have hs1 : w1.heap.size = w.heap.size + 2 := by rw [← hgen]; simp
  have hw1 : Below w.heap.size w w1 := by rw [← hgen]; exact ((Below.refl w.heap.size w).alloc (Nat.le_refl _) _).alloc (by simp) _
  have b1 : Box w1 w.heap.size d (.slice aa d.ats.length ac) (.slice ka ks.length kc) := by rw [← hgen]; exact (Box.new w d _ _).alloc _
  have b2 : Box w1 (w.heap.size + 1) ⟨0, [], [], [], [], [], []⟩ (.slice none 0 0) (.slice none 0 0) := by
    rw [← hgen, show w.heap.size + 1 = (w.alloc (.cells #[.int .u8 d.kd, S d.sp, S d.nm, .slice aa d.ats.length ac, S d.tx, S d.pb, S d.sy, .slice ka ks.length kc] 26)).heap.size by simp]
    exact Box.new _ ⟨0, [], [], [], [], [], []⟩ _ _
  clear hgen
  obtain ⟨d0, d1, d2, d3, d4, d5, d6, d7⟩ := b1.cells
  have HS1 := hide hs1
  have hk1 := hide hk
  have ha1 := hide (ha.below hw1)
  clear hs1 hk ha
  go_wp2_with (at_builtin; refine wpList_append_attrs rfl _ _ rfl w1.heap.size _ 0 [] rfl ⟨rfl, .inl ⟨rfl, rfl⟩⟩ d.ats aa d.ats.length ac rfl ha1.out (by omega) (Nat.le_refl _) ?_)
  intro v1 w2 hown1 hg1 hl1
  have hb2 : Below w1.heap.size w1 w2 := (Below.refl _ _).grown hg1 (Nat.le_refl _) (fun k hk => by cases hk)
  have c1 := b1.below hb2 b1.lt
  have c2 := b2.below hb2 b2.lt
  have lt1 := b1.lt
  have lt2 := b2.lt
  obtain ⟨ao, acap, rfl, -⟩ := owns_form hown1
  have f3 := c1.frozen 3
  have g3 := c1.cells.2.2.2.1
  have hs2 := hb2.size
  have HB1 := hide b1
  have HB2 := hide b2
  have HW := hide hw1
  clear d0 d1 d2 d3 d4 d5 d6 d7 hg1 hl1 b1 b2 hw1
  go_wp2_with fail
  generalize hgen : w2.setCell ⟨w.heap.size, 3, none⟩ (.slice ao d.ats.length acap) = w3
  have hb3 : Below w.heap.size w w3 := by rw [← hgen]; exact (HW.out.trans (hb2.mono HW.out.size)).setCell (Nat.le_refl _) _
  have e1 : Box w3 w.heap.size d (.slice ao d.ats.length acap) (.slice ka ks.length kc) := by rw [← hgen]; exact c1.setA _
  have e2 : Box w3 (w.heap.size + 1) ⟨0, [], [], [], [], [], []⟩ (.slice none 0 0) (.slice none 0 0) := by rw [← hgen]; exact c2.far (by simp) _
  have own3 : w3.ownsRow w1.heap.size 43 3 (.slice ao d.ats.length acap) d.ats.length (atCells d.ats) := by
    rw [← hgen]
    exact owns_of_block hown1 fun g e => Below.heap_setCell _ _ _ _ (by have := (hown1.lt g e).1; simp; omega)
  have HE1 := hide e1
  have HE2 := hide e2
  have HO3 := hide own3
  have HB3 := hide hb3
  have hs3 : w1.heap.size ≤ w3.heap.size := by rw [← hgen]; simp; omega
  have hk3 := hide (hk1.out.below hb3)
  clear hgen hb2 c1 c2 hown1 f3 g3 hb3 e1 e2 own3
  go_loopg [3, 4] ks.length (fun g s3 s4 wx => ∃ (i : Nat) (lo : Option Addr) (lc : Nat) (vs : List (Value × Value)) (G : List Nat), i + g = ks.length ∧ s4 = .int .i64 i ∧ s3 = .slice lo i lc ∧ Hid (CInv w3.heap.size wx (ks.take i) (.slice lo i lc) vs G) ∧ Below w3.heap.size w3 wx)
  case atStart => exact ⟨0, none, 0, [], [], by omega, rfl, rfl, by simpa [Hid] using CInv.nil w3.heap.size w3, Below.refl _ _⟩
  case round =>
    obtain ⟨i, lo, lc, vs, G, hi', rfl, rfl, hinv, hbx⟩ := hrel
    have f7 := (HE1.out.below hbx HE1.out.lt).cells.2.2.2.2.2.2.2
    by_cases hlt : i < ks.length
    · obtain ⟨t, ht⟩ : ∃ t, ks[i]? = some t := ⟨ks[i], List.getElem?_eq_getElem hlt⟩
      obtain ⟨b, o, av, kv, rfl, ⟨m0, m1, m2, m3, m4, m5, m6, m7⟩, hrt⟩ := (hk3.out.below hbx).at ht
      have hmem := List.mem_of_getElem? ht
      have HT := hide (p := ks[i]? = some t) ht
      have hcall := hide (ih t hmem av kv wr hrt (HWT.out t hmem))
      have HI := hide ih
      clear ih ht hrt hmem hk3
      go_wp2_with fail
      refine hcall.out.mono ?_
      rintro e w4 ⟨av', kv', F, rfl, hot, hnd, hfr, hb4⟩
      obtain ⟨⟨ao', ac', rfl⟩, ko', kc', rfl⟩ := hot.forms
      have hlen : (ks.take i).length = i := by rw [List.length_take]; omega
      have hown4 := hinv.out.own
      rw [hlen] at hown4
      have hown4' := hide ((owns_of_block hown4 fun g e => hb4.block g (hown4.lt g e).2).alloc (.cells #[.int .u8 t.d.kd, S t.d.sp, S t.d.nm, .slice ao' t.d.ats.length ac', S t.d.tx, S t.d.pb, S t.d.sy, .slice ko' t.ks.length kc'] 26))
      have hsx := hbx.size
      have hs4 := hb4.size
      have HF := hide (p := ∀ g ∈ F, wr.heap.size ≤ g) hfr
      have HN := hide hnd
      have HOT := hide hot
      have HL := hide hlen
      clear hown4 hfr hnd hot hlen
      go_wp2_with (at_builtin; refine wpList_append_own_at _ rfl _ _ 24 rfl w3.heap.size 26 i0 _ 8 136 Tryz.underlying24 hi hz0 hz1 hz2 rfl (by decide) _ i _ rfl hown4'.out ⟨w4.heap.size, 0, none⟩ 1 1 (ndCells t.d (.slice ao' t.d.ats.length ac') (.slice ko' t.ks.length kc')) rfl rfl ?c1 (nd_one _ _ _ _ _ _ _) ?c3 ?c4 ?c5 ?_)
      case c1 => intro j u hu; rw [add_zero']; exact row_new w4 _ 26 j u hu
      case c3 => unfold maxLen; omega
      case c4 => omega
      case c5 => simp; omega
      intro v5 w5 hown5 hg5 _ hl5
      obtain ⟨lo', lc', rfl, -⟩ := owns_form hown5
      go_wp2_with fail
      go_roundg (gk - 1)
      case measure => omega
      case rel =>
        refine ⟨i + 1, lo', lc', vs ++ [(.slice ao' t.d.ats.length ac', .slice ko' t.ks.length kc')], G ++ F, by omega, by go_num, rfl, ?_, ?_⟩
        · unfold Hid
          rw [List.take_add_one, HT.out]
          exact hinv.out.push hb4 HOT.out HN.out HF.out hsx (by rw [HL.out]; exact hown5) hg5 (by simpa using hl5)
        · have hb5 := (hbx.trans (hb4.mono hsx)).alloc (by omega) (.cells #[.int .u8 t.d.kd, S t.d.sp, S t.d.nm, .slice ao' t.d.ats.length ac', S t.d.tx, S t.d.pb, S t.d.sy, .slice ko' t.ks.length kc'] 26)
          exact hb5.grown hg5 (by simp; omega) (fun k hk => (hown4'.out.lt k hk).1)
    · obtain rfl : i = ks.length := by omega
      have hinv' := hinv.out
      rw [List.take_of_length_le (Nat.le_refl _)] at hinv'
      have HINV := hide hinv'
      have hsx := hbx.size
      have k1 := HE1.out.below hbx HE1.out.lt
      have k2 := HE2.out.below hbx HE2.out.lt
      obtain ⟨q0, q1, q2, q3, q4, q5, q6, q7⟩ := k1.cells
      have hfz := k1.frozen 7
      obtain ⟨p0, p1, p2, p3, p4, p5, p6, p7⟩ := k2.cells
      have hz : ∀ o, wr.frozen? ⟨w.heap.size + 1, o, none⟩ = false := fun o => k2.frozen o
      clear ih hk3 hinv hinv'
      have HK1 := hide k1
      have HK2 := hide k2
      clear k1 k2
      go_wp2_with fail
      refine bodyPost_ret (v := NV d (.slice ao d.ats.length acap) (.slice lo ks.length lc)) (by simp [results, Tryz.results12, go_sem, p0, p1, p2, p3, p4, p5, p6, p7]) rfl ?_
      have hown3 := owns_of_block HO3.out (w' := wr) fun g e => hbx.block g (HO3.out.lt g e).2
      obtain ⟨F, hF1, hF2, hF3⟩ := HINV.out.tree hown3 hs3 fun g e => (HO3.out.lt g e).2
      have hS1 := HS1.out
      refine ⟨_, _, F, rfl, OwT.stay _ _ _ _ hF1 fun g hg => ?_, hF2, fun g hg => ?_, ?_⟩
      · have h1 := hF3 g hg
        rw [Below.heap_setCell, Below.heap_setCell, Below.heap_setCell, Below.heap_setCell, Below.heap_setCell, Below.heap_setCell, Below.heap_setCell, Below.heap_setCell, Below.heap_setCell] <;> (simp; omega)
      · have h1 := hF3 g hg
        omega
      · have hb9 : Below w.heap.size w wr := HB3.out.trans (hbx.mono HB3.out.size)
        (repeat (first | (with_reducible exact Below.refl _ _) | (with_reducible assumption) | (with_reducible refine Below.drew ?_) | ((with_reducible refine Below.setCell ?_ ?_ _); rotate_left; (focus (first | omega | (simp; done) | (simp; omega)))) | ((with_reducible refine Below.alloc ?_ ?_ _); rotate_left; (focus (first | omega | (simp; done) | (simp; omega))))))
end Go.Proofs.YtagkdmolgmhmdaaGreatDoor
