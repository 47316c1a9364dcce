/- The law DomAlls, walked. -/
import Derived.Test.YtagkdmolgmhmdaaGreatDoorWa
import Derived.Test.YtagkdmolgmhmdaaGreatDoorWc
import Derived.Test.YtagkdmolgmhmdaaGreatDoorWe
import Derived.Test.YtagkdmolgmhmdaaGreatDoorWk
import Derived.RangeFuncOwn
import Derived.Laws.EntriesVeiled
import Derived.Sort.QuietIn
import Derived.Sort.CutIn
namespace Go.Proofs.YtagkdmolgmhmdaaGreatDoor
open Go.RowKit Go.Shelf
attribute [local go_sem] Oper.semAt_some

theorem fn_eq_in (w : World) (d : Nat) (fn : Fn) (a b : Array Value) : (Op.equalIn (d + 1) 38 (.func fn a b) .nilFunc).run Tryz.prog w = .ok false w := by
  simp [Op.equalIn, run_underlying Tryz.underlying38]
theorem fn_neq_nil (w : World) (fn : Fn) (a b : Array Value) : (binOp .eql 38 (.func fn a b) .nilFunc).run Tryz.prog w = .ok (.bool false) w := by
  simp only [binOp]
  simp [Op.equal, Op.maxDepth, fn_eq_in w 9999 fn a b]
theorem cells_hold {W W' : World} {row : Option Nat} (hg : W.grownBy W' row) (hr : ∀ r, row = some r → ∃ o : Obj, W.heap[r]? = some o ∧ o.isCells = false) {k : Nat} {cs : Array Value} {ty : TypeId} {f : Nat × Nat} (h : W.heap[k]? = some (.cells cs ty f)) : W'.heap[k]? = some (.cells cs ty f) :=
  (hg.block k (heap_lt h) (fun e => by
    obtain ⟨o, ho, hc⟩ := hr k e.symm
    rw [h] at ho
    injection ho with ho
    rw [← ho] at hc
    cases hc)).trans h
theorem own_alls {w0 : World} (wc : World) (q : Nat) (v : Value) (t : Dm.T) (c : Code) : OwnFrom wc.heap.size (fun (pre : List (El w0)) W => (c = .ret ∧ ¬ ∃ r, tr pre ++ r = t.all) ∨ (c = .exit 0 ∧ Boxed W q 3 v ∧ Upto q wc W)) :=
  fun _ W W' row hs hg hr => hs.imp id fun ⟨h1, h2, h3⟩ => ⟨h1, boxed_own q 3 (fun (_ : Unit) => v) () W W' row h2 hg (fun r e => (hr r e).2), upto_own (β := Unit) wc.heap.size q wc (Nat.le_refl _) () W W' row h3 hg hr⟩
theorem own_inner {w0 : World} (Wi : World) (q k : Nat) (c : Code) : OwnFrom Wi.heap.size (fun (_ : List (El w0)) W => c = .exit 2 ∧ 2 < k ∧ (∃ z, Boxed W q 3 (.int .i64 z)) ∧ Upto q Wi W) :=
  fun _ W W' row hs hg hr => ⟨hs.1, hs.2.1, hs.2.2.1.elim fun z hz => ⟨z, boxed_own q 3 (fun (_ : Unit) => .int .i64 z) () W W' row hz hg (fun r e => (hr r e).2)⟩, upto_own (β := Unit) Wi.heap.size q Wi (Nat.le_refl _) () W W' row hs.2.2.2 hg hr⟩
theorem wrap_small (z : Nat) (h : z < 9223372036854775808) : wrap64 ((z : Nat) : Int) = z := by
  unfold wrap64
  omega
theorem alls_end {w W : World} {q D E kb : Nat} (hr : Boxed W q 4 (.bool false)) (hD : W.heap[D]? = some (.deferred (some []))) (hE : W.heap[E]? = some (.deferred (some []))) (hqk : q < kb) (hkD : kb < D) (hDE : D < E) (hwq : w.heap.size ≤ q) (hb : Below w.heap.size w W) :
    ∃ W7, (∃ W6, (Instr.takeDeferred E).run Tryz.prog (W.setCell ⟨q, 0, none⟩ (.bool true)) = .ok [] W6 ∧ (Instr.takeDeferred D).run Tryz.prog W6 = .ok [] W7) ∧ Boxed W7 q 4 (.bool true) ∧ Below w.heap.size w W7 := by
  have h1 : (W.setCell ⟨q, 0, none⟩ (.bool true)).heap[E]? = some (.deferred (some [])) := (Below.heap_setCell _ _ _ _ (by show E ≠ q; omega)).trans hE
  have h2 : ((W.setCell ⟨q, 0, none⟩ (.bool true)).putObj E (.deferred none)).heap[D]? = some (.deferred (some [])) := (World.putObj_heap_other (by omega)).trans ((Below.heap_setCell _ _ _ _ (by show D ≠ q; omega)).trans hD)
  refine ⟨_, ⟨_, run_takeDeferred h1, run_takeDeferred h2⟩, ?_, ?_⟩
  · exact (World.putObj_heap_other (by omega)).trans ((World.putObj_heap_other (by omega)).trans (hr.set (.bool true)))
  · exact ((hb.setCell (p := ⟨q, 0, none⟩) hwq _).trans (belowK_b (w := w) (Nat.le_refl _) _ E _ _ (by omega) h1 rfl rfl)).trans (belowK_b (w := w) (Nat.le_refl _) _ D _ _ (by omega) h2 rfl rfl)
theorem alls_miss {w0 : World} {t u : Dm.T} {pre : List (El w0)} {x : El w0} (hu : t.all[pre.length]? = some u) (h : x.val.1.d.kd ≠ u.d.kd ∨ x.val.1.d.tx ≠ u.d.tx ∨ x.val.1.d.nm ≠ u.d.nm ∨ x.val.1.ks.length ≠ u.ks.length) :
    ¬ ∃ r, tr (pre ++ [x]) ++ r = t.all := by
  rintro ⟨r, e⟩
  have h1 : t.all[pre.length]? = some x.val.1 := by
    rw [← e, tr_append, List.append_assoc, List.getElem?_append_right (by simp [tr])]
    simp [tr]
  rw [hu] at h1
  obtain rfl := Option.some.inj h1
  simp at h
set_option maxRecDepth 100000 in
set_option maxHeartbeats 8000000 in
theorem law_alls (t : Dm.T) (av kv : Value) (mo : Int) (w : World) (htab : Tab w) (hs : RdT w t av kv) (hlim : t.Lim 140737488355328) :
    Calls Tryz.prog 5 #[NV t.d av kv, .int .i64 mo] w (Fresh (.bool true) w) := by
  obtain ⟨⟨aa, ac, rfl⟩, ka, kc, rfl⟩ := (⟨(hs.eta).1.length, (hs.eta).2.length⟩ : (∃ ao c, av = .slice ao t.d.ats.length c) ∧ ∃ ko c, kv = .slice ko t.ks.length c)
  have HS := hide hs
  have HTB := hide htab
  clear hs htab
  refine (callsIn_wide (n := 7)).1 ?_
  refine callsIn_of_wp_marks Tryz.func5 rfl trivial ?_ rfl
  refine wpIn_wide.2 ?_
  simp only [Tryz.ntmps5, List.size_toArray, List.length_cons, List.length_nil, Nat.reduceAdd, Nat.reduceSub, Array.replicate_succ, Array.replicate_zero, List.push_toArray, List.append_toArray, List.nil_append, List.cons_append]
  go_upto_region 1 with (fail)
  obtain ⟨w1, hw1⟩ : ∃ x, x = ((w.alloc (.cells #[.int .u8 t.d.kd, S t.d.sp, S t.d.nm, .slice aa t.d.ats.length ac, S t.d.tx, S t.d.pb, S t.d.sy, .slice ka t.ks.length kc] 26)).alloc (.cells #[.int .i64 mo] 3)).alloc (.cells #[.bool false] 4) := ⟨_, rfl⟩
  have hb1 : Below w.heap.size w w1 := by rw [hw1]; exact (((Below.refl _ w).alloc (Nat.le_refl _) _).alloc (by simp) _).alloc (by simp; omega) _
  have b1 : Box w1 w.heap.size t.d (.slice aa t.d.ats.length ac) (.slice ka t.ks.length kc) := by rw [hw1]; exact ((Box.new w t.d _ _).alloc _).alloc _
  have m1 : Boxed w1 (w.heap.size + 1) 3 (.int .i64 mo) := by
    rw [hw1]
    have := (Boxed.new (w.alloc (.cells #[.int .u8 t.d.kd, S t.d.sp, S t.d.nm, .slice aa t.d.ats.length ac, S t.d.tx, S t.d.pb, S t.d.sy, .slice ka t.ks.length kc] 26)) 3 (.int .i64 mo)).alloc (.cells #[.bool false] 4)
    rwa [World.size_alloc] at this
  have r1 : Boxed w1 (w.heap.size + 1 + 1) 4 (.bool false) := by
    rw [hw1]
    have := Boxed.new ((w.alloc (.cells #[.int .u8 t.d.kd, S t.d.sp, S t.d.nm, .slice aa t.d.ats.length ac, S t.d.tx, S t.d.pb, S t.d.sy, .slice ka t.ks.length kc] 26)).alloc (.cells #[.int .i64 mo] 3)) 4 (.bool false)
    rwa [World.size_alloc, World.size_alloc] at this
  rw [← hw1]
  clear hw1
  have HW := hide hb1
  have HB := hide b1
  have HM := hide m1
  have HR := hide r1
  have HT1 := hide (HTB.out.below hb1)
  have h1 := hide (works w1 HT1.out)
  clear hb1 b1 m1 r1
  go_wp2_with fail
  refine Calls.mono h1.out ?_
  rintro e w2 ⟨rfl, hb2⟩
  have HB2 := hide hb2
  obtain ⟨d0, d1, d2, d3, d4, d5, d6, d7⟩ := (HB.out.below hb2 HB.out.lt).cells
  have h2 := hide (far t _ _ w2 (HS.out.below (HW.out.trans (hb2.mono HW.out.size))) hlim)
  clear hb2 h1
  go_wp2_with fail
  refine Calls.mono h2.out ?_
  rintro e w3 ⟨z, rfl, hz, hb3⟩
  have HB3 := hide (HB2.out.trans (hb3.mono HB2.out.size))
  clear hb3 d0 d1 d2 d3 d4 d5 d6 d7 h2 HB2
  have hlt0 := HR.out.lt
  have hs3 := HB3.out.size
  cases z with
  | true =>
    have c3 : Boxed w3 (w.heap.size + 1 + 1) 4 (.bool false) := (HB3.out.block _ HR.out.lt).trans HR.out
    have c4 := c3.cell
    have f4 := c3.frozen
    have g4 := (c3.set (.bool true)).cell
    have hlt := c3.lt
    go_wp2_with fail
    exact ⟨_, by simp [results, Tryz.results5, go_sem, g4], rfl, HW.out.trans ((HB3.out.mono HW.out.size).setCell (p := ⟨w.heap.size + 1 + 1, 0, none⟩) (by show w.heap.size ≤ w.heap.size + 1 + 1; omega) _)⟩
  | false =>
    have hwt := hz rfl
    clear hz
    obtain ⟨d0, d1, d2, d3, d4, d5, d6, d7⟩ := (HB.out.below HB3.out HB.out.lt).cells
    have hc := hide (rAll w t _ _ w3 HS.out (HW.out.trans (HB3.out.mono HW.out.size)) (by omega))
    go_wp2_with fail
    refine Calls.mono hc.out ?_
    rintro e w4 ⟨v4, us, rfl, how4, hrd4, hb4⟩
    have hb4' := HB3.out.trans (hb4.mono HB3.out.size)
    obtain ⟨ao4, cap4, rfl, -⟩ := owns_form how4
    obtain ⟨N, hN⟩ : ∃ N, t.all.length = N := ⟨_, rfl⟩
    have hN1 : N ≤ 8192 := by have := Dm.all_wt t; omega
    have hpos : 0 < t.all.length := by cases t with | mk d ks => simp [Dm.T.all]
    obtain ⟨g4, rfl, -⟩ := owns_at how4 hpos
    rw [hN] at how4 hpos
    have HOW := hide how4
    have HRL := hide hrd4
    have HB4 := hide hb4'
    clear hb4 hb4' how4 hrd4 hc d0 d1 d2 d3 d4 d5 d6 d7
    rw [hN]
    go_upto_region 8 with (fail)
    obtain ⟨w5, hw5⟩ : ∃ x, x = w4.alloc (.cells #[.slice (some ⟨g4, 0, none⟩) N cap4] 24) := ⟨_, rfl⟩
    have hb5 : Below w4.heap.size w4 w5 := by rw [hw5]; exact (Below.refl _ w4).alloc (Nat.le_refl _) _
    have x5 : Boxed w5 w4.heap.size 24 (.slice (some ⟨g4, 0, none⟩) N cap4) := by rw [hw5]; exact Boxed.new _ _ _
    rw [← hw5]
    clear hw5
    have HB5 := hide (HB4.out.trans (hb5.mono HB4.out.size))
    have HX5 := hide x5
    have HOW5 := hide (owns_of_block HOW.out fun g e => hb5.block g (HOW.out.lt g e).2)
    obtain ⟨d0, d1, d2, d3, d4, d5, d6, d7⟩ := (HB.out.below HB5.out HB.out.lt).cells
    have hc := hide (all_ t _ _ w5 (HS.out.below (HW.out.trans (HB5.out.mono HW.out.size))))
    have hs45 := hb5.size
    have hx5 := x5.lt
    clear hb5 HB4 HOW x5
    go_wp2_with fail
    refine Calls.mono hc.out ?_
    rintro e w6 ⟨rfl, hbx6, hb6⟩
    have HBX6 := hide hbx6
    have HB6 := hide (HB5.out.trans (hb6.mono HB5.out.size))
    have HX6 := hide (p := Boxed w6 w4.heap.size 24 (.slice (some ⟨g4, 0, none⟩) N cap4)) ((hb6.block _ HX5.out.lt).trans HX5.out)
    have HOW6 := hide (owns_of_block HOW5.out fun g e => hb6.block g (HOW5.out.lt g e).2)
    clear hbx6 hb6 HX5 HOW5 HB5 hc d0 d1 d2 d3 d4 d5 d6 d7
    go_upto_region 9 with (fail)
    obtain ⟨w7, hw7⟩ : ∃ x, x = w6.alloc (.cells #[.func (.func 43) #[] #[.pointer (some ⟨w5.heap.size, 0, none⟩)]] 38) := ⟨_, rfl⟩
    have hb7 : Below w6.heap.size w6 w7 := by rw [hw7]; exact (Below.refl _ w6).alloc (Nat.le_refl _) _
    have hi7 : Boxed w7 w6.heap.size 38 (.func (.func 43) #[] #[.pointer (some ⟨w5.heap.size, 0, none⟩)]) := by rw [hw7]; exact Boxed.new _ _ _
    rw [← hw7]
    clear hw7
    have HB7 := hide (HB6.out.trans (hb7.mono HB6.out.size))
    have HX7 := hide (p := Boxed w7 w4.heap.size 24 (.slice (some ⟨g4, 0, none⟩) N cap4)) ((hb7.block _ HX6.out.lt).trans HX6.out)
    have HOW7 := hide (owns_of_block HOW6.out fun g e => hb7.block g (HOW6.out.lt g e).2)
    have HBX7 := hide (HBX6.out.below hb7 HBX6.out.lt)
    have ci7 := hi7.cell
    have HI7 := hide hi7
    clear hb7 hi7 HX6 HOW6 HBX6 HB6
    have hfn := fn_neq_nil
    go_upto_region 12 with (fail)
    obtain ⟨wc, hwc⟩ : ∃ x, x = w7.alloc (.cells #[.int .i64 0] 3) := ⟨_, rfl⟩
    have hbc : Below w7.heap.size w7 wc := by rw [hwc]; exact (Below.refl _ w7).alloc (Nat.le_refl _) _
    have bk : Boxed wc w7.heap.size 3 (.int .i64 0) := by rw [hwc]; exact Boxed.new _ _ _
    rw [← hwc]
    clear hwc hfn ci7
    have HBC := hide (HB7.out.trans (hbc.mono HB7.out.size))
    have HXC := hide (p := Boxed wc w4.heap.size 24 (.slice (some ⟨g4, 0, none⟩) N cap4)) ((hbc.block _ HX7.out.lt).trans HX7.out)
    have HOWC := hide (owns_of_block HOW7.out fun g e => hbc.block g (HOW7.out.lt g e).2)
    have HBXC := hide (HBX7.out.below hbc HBX7.out.lt)
    have hic : Boxed wc w6.heap.size 38 (.func (.func 43) #[] #[.pointer (some ⟨w5.heap.size, 0, none⟩)]) := (hbc.block _ HI7.out.lt).trans HI7.out
    have cic := hic.cell
    have HIC := hide hic
    have HG := hide (p := ∀ g, (Value.slice (some ⟨g4, 0, none⟩) N cap4).ownBlock = some g → g < w7.heap.size) (fun g e => (HOW7.out.lt g e).2)
    have HRC := hide (p := Boxed wc (w.heap.size + 1 + 1) 4 (.bool false)) ((HBC.out.block _ HR.out.lt).trans HR.out)
    have HMC := hide (p := Boxed wc (w.heap.size + 1) 3 (.int .i64 mo)) ((HBC.out.block _ HM.out.lt).trans HM.out)
    have hs1 : w.heap.size + 1 + 1 < w7.heap.size := Nat.lt_of_lt_of_le HR.out.lt HB7.out.size
    have hs8 : w7.heap.size < wc.heap.size := bk.lt
    have hs7 : w4.heap.size < w7.heap.size := HX7.out.lt
    have hs67 : w6.heap.size < w7.heap.size := HI7.out.lt
    have hs57 : w5.heap.size < w7.heap.size := HBX7.out.lt
    clear hic HB7 HX7 HOW7 HBX7 HI7
    go_wp2_with fail
    have hkc : KeepT w.heap.size w wc := KeepT.of_below (Nat.le_refl _) (HW.out.trans (HBC.out.mono HW.out.size))
    refine (wpIn_wide (n := 9)).1 ?_
    refine wpIn_rangeFunc_ownH rfl (by omega) (gf := 43) (lb := #[.pointer (some ⟨w5.heap.size, 0, none⟩)]) rfl trivial (enters_of Tryz.func43 (by kernel_rfl) rfl)
      (all_stopsT Fence.wide rfl (9 - 1) trivial trivial rfl w5.heap.size w wc t _ _ HBXC.out HS.out hkc hlim (by omega)) (fun h k => h.trans k) (KeepT.put hkc.below.size) (Below.refl _ _) (fun _ => rfl)
      (fun pre W => Boxed W w7.heap.size 3 (.int .i64 pre.length) ∧ Upto w7.heap.size wc W)
      (fun c pre W => (c = .ret ∧ ¬ ∃ r, tr pre ++ r = t.all) ∨ (c = .exit 0 ∧ Boxed W w7.heap.size 3 (.int .i64 mo) ∧ Upto w7.heap.size wc W))
      (OwnFrom.and (Own.from (boxed_own _ _ _) _) (upto_own _ _ _ (Nat.le_refl _))) (own_alls wc w7.heap.size (.int .i64 mo) t) ⟨bk, Upto.refl _ _⟩
      (fun x a' W => ∃ B, a' = { tmps := #[NV t.d (.slice aa t.d.ats.length ac) (.slice ka t.ks.length kc), .int .i64 mo, .pointer (some ⟨w.heap.size, 0, none⟩), .pointer (some ⟨w.heap.size + 1, 0, none⟩), .pointer (some ⟨w.heap.size + 1 + 1, 0, none⟩), .bool true, .bool false, .pointer (some ⟨w4.heap.size, 0, none⟩), .pointer (some ⟨w6.heap.size, 0, none⟩), .pointer (some ⟨w7.heap.size, 0, none⟩), .pointer (some ⟨B, 0, none⟩), undef, undef, .bool true, .bool true, .bool false, NV t.d (.slice aa t.d.ats.length ac) (.slice ka t.ks.length kc), .bool false, .bool false, undef, NV t.d (.slice aa t.d.ats.length ac) (.slice ka t.ks.length kc), .slice (some ⟨g4, 0, none⟩) N cap4, NV t.d (.slice aa t.d.ats.length ac) (.slice ka t.ks.length kc), .func (.func 43) #[] #[.pointer (some ⟨w5.heap.size, 0, none⟩)], .func (.func 43) #[] #[.pointer (some ⟨w5.heap.size, 0, none⟩)], .bool false, .func (.func 43) #[] #[.pointer (some ⟨w5.heap.size, 0, none⟩)], NV x.val.1.d x.val.2.1 x.val.2.2, undef, undef, undef, undef, undef, undef, undef, undef, undef, undef, undef, undef, undef, undef, undef, undef, undef, undef, undef, undef, undef, undef, undef, undef, undef, undef, undef, undef, undef, undef, undef, undef, undef, undef, undef, undef, undef, undef, undef, undef, undef, undef, undef, undef, undef, undef, undef, undef, undef, undef, undef, undef, undef, undef, undef, undef, undef, undef, undef, undef, undef, undef, undef, undef, undef, undef, undef, undef, undef, undef, undef, undef, undef, undef, undef, undef, undef, undef, undef, undef, undef, undef, undef, undef, undef, undef, undef], defers := [] } ∧ Box W B x.val.1.d x.val.2.1 x.val.2.2)
      (fun x a' s W W' row hs hg hr => hs.elim fun B hB => ⟨B, hB.1, cells_hold hg (fun r e => (hr r e).2) hB.2⟩) ?assign ?body ?done ?stop
    case assign =>
      rintro l pre ⟨⟨T, tv, sv⟩, hT, hTw⟩ W K ⟨hI1, hI2⟩ hK
      obtain ⟨⟨xo, xc, rfl⟩, yo, yc, rfl⟩ := (⟨(hT.eta).1.length, (hT.eta).2.length⟩ : (∃ ao c, tv = .slice ao T.d.ats.length c) ∧ ∃ ko c, sv = .slice ko T.ks.length c)
      unfold encE
      gi_wp2
      exact hK _ _ ((KeepsOthers.alloc _ _).from _) ((KeepT.refl _ W).alloc (Nat.le_trans hkc.below.size hI2.size) _) ⟨hI1.alloc _, hI2.alloc _⟩ ⟨W.heap.size, rfl, Box.new W T.d _ _⟩
    case body =>
      rintro l pre ⟨⟨T, tv, sv⟩, hT, hTw⟩ a' W hl ⟨r, hlr⟩ ⟨hI1, hI2⟩ ⟨B, rfl, hBx⟩ hpl
      obtain ⟨⟨xo, xc, rfl⟩, yo, yc, rfl⟩ := (⟨(hT.eta).1.length, (hT.eta).2.length⟩ : (∃ ao c, tv = .slice ao T.d.ats.length c) ∧ ∃ ko c, sv = .slice ko T.ks.length c)
      obtain ⟨d0, d1, d2, d3, d4, d5, d6, d7⟩ := hBx.cells
      simp only at d0 d1 d2 d3 d4 d5 d6 d7
      obtain ⟨u, hu⟩ : ∃ u, t.all[pre.length]? = some u := ⟨_, List.getElem?_eq_getElem hpl⟩
      obtain ⟨p, hp⟩ : ∃ p, us[pre.length]? = some p := ⟨_, List.getElem?_eq_getElem (by rw [← HRL.out.1]; exact hpl)⟩
      obtain ⟨⟨uo, uc, hu1⟩, vo, vc, hu2⟩ := HRL.out.forms _ _ _ hu hp
      have hrow := owns_of_block HOWC.out fun g e => hI2.2 g (HOWC.out.lt g e).2 (by have h := HG.out g e; omega)
      obtain ⟨g, hg, hat⟩ := AtN.of_own hrow hN hu hp
      obtain rfl : g4 = g := by injection hg with hg; injection hg
      obtain ⟨n0, n1, n2, n3, n4, n5, n6, n7⟩ := hat
      have hmis : T.d.kd ≠ u.d.kd ∨ T.d.tx ≠ u.d.tx ∨ T.d.nm ≠ u.d.nm ∨ T.ks.length ≠ u.ks.length → ¬ ∃ r, tr (pre ++ [(⟨(T, .slice xo T.d.ats.length xc, .slice yo T.ks.length yc), hT, hTw⟩ : El w)]) ++ r = t.all := fun h => alls_miss (x := ⟨(T, .slice xo T.d.ats.length xc, .slice yo T.ks.length yc), hT, hTw⟩) hu h
      have ck := hI1.cell
      have cw := (hI2.boxed HXC.out (by omega)).cell
      have cr := hI2.boxed HRC.out (by omega)
      have hpN : (pre.length : Int) < N := by omega
      rw [hu2] at n7
      clear hg hp hu hu1 hu2 n1 n3 n5 n6 hrow
      obtain ⟨k, hk⟩ : ∃ k, pre.length = k := ⟨_, rfl⟩
      rw [hk] at ck hpN n0 n2 n4 n7 hI1
      simp only [Nat.zero_add] at n0 n2 n4 n7
      have HMIS := hide hmis
      clear hmis
      have cr4 := cr.cell
      have cf4 := cr.frozen
      have hge1 : decide ((N : Int) ≤ (k : Int)) = false := by simp; omega
      have hge2 : decide (N ≤ k) = false := by simp; omega
      gi_wp2_with fail
      by_cases e0 : T.d.kd = u.d.kd
      rotate_left
      · have q0 : ((T.d.kd : Int) != (u.d.kd : Int)) = true := by rw [bne_iff_ne]; omega
        have p0 : ((T.d.kd : Int) == (u.d.kd : Int)) = false := by rw [beq_eq_false_iff_ne]; omega
        have HM := hide (HMIS.out (.inl e0))
        clear HMIS e0
        refine region_quiet_round (by kernel_rfl) (by kernel_rfl) (by kernel_rfl) ?_
        repeat (gi_big_quiet_step (fail))
        refine wpQuietIn_nil ?_
        rintro _ ⟨nq, rfl⟩
        gi_wp2_with fail
        exact ⟨(from_below (below_drewN (Below.refl _ W) _)).trans ((KeepsOthers.setCell _ _ _).from _), .inl ⟨rfl, HM.out⟩⟩
      have q0 : ((T.d.kd : Int) != (u.d.kd : Int)) = false := by rw [bne_eq_false_iff_eq]; omega
      have p0 : ((T.d.kd : Int) == (u.d.kd : Int)) = true := by rw [beq_iff_eq]; omega
      clear e0
      by_cases e1 : T.d.tx = u.d.tx
      rotate_left
      · have q1 : (T.d.tx != u.d.tx) = true := by rw [bne_iff_ne]; exact e1
        have p1 : (T.d.tx == u.d.tx) = false := by rw [beq_eq_false_iff_ne]; exact e1
        have HM := hide (HMIS.out (.inr (.inl e1)))
        clear HMIS e1
        refine region_quiet_round (by kernel_rfl) (by kernel_rfl) (by kernel_rfl) ?_
        repeat (gi_big_quiet_step (fail))
        refine wpQuietIn_nil ?_
        rintro _ ⟨nq, rfl⟩
        gi_wp2_with fail
        exact ⟨(from_below (below_drewN (Below.refl _ W) _)).trans ((KeepsOthers.setCell _ _ _).from _), .inl ⟨rfl, HM.out⟩⟩
      have q1 : (T.d.tx != u.d.tx) = false := by rw [bne_eq_false_iff_eq]; exact e1
      have p1 : (T.d.tx == u.d.tx) = true := by rw [beq_iff_eq]; exact e1
      clear e1
      by_cases e2 : T.d.nm = u.d.nm
      rotate_left
      · have q2 : (T.d.nm != u.d.nm) = true := by rw [bne_iff_ne]; exact e2
        have p2 : (T.d.nm == u.d.nm) = false := by rw [beq_eq_false_iff_ne]; exact e2
        have HM := hide (HMIS.out (.inr (.inr (.inl e2))))
        clear HMIS e2
        refine region_quiet_round (by kernel_rfl) (by kernel_rfl) (by kernel_rfl) ?_
        repeat (gi_big_quiet_step (fail))
        refine wpQuietIn_nil ?_
        rintro _ ⟨nq, rfl⟩
        gi_wp2_with fail
        exact ⟨(from_below (below_drewN (Below.refl _ W) _)).trans ((KeepsOthers.setCell _ _ _).from _), .inl ⟨rfl, HM.out⟩⟩
      have q2 : (T.d.nm != u.d.nm) = false := by rw [bne_eq_false_iff_eq]; exact e2
      have p2 : (T.d.nm == u.d.nm) = true := by rw [beq_iff_eq]; exact e2
      clear e2
      by_cases e3 : T.ks.length = u.ks.length
      rotate_left
      · have q3 : ((T.ks.length : Int) != (u.ks.length : Int)) = true := by rw [bne_iff_ne]; omega
        have p3 : ((T.ks.length : Int) == (u.ks.length : Int)) = false := by rw [beq_eq_false_iff_ne]; omega
        have HM := hide (HMIS.out (.inr (.inr (.inr e3))))
        clear HMIS e3
        refine region_quiet_round (by kernel_rfl) (by kernel_rfl) (by kernel_rfl) ?_
        repeat (gi_big_quiet_step (fail))
        refine wpQuietIn_nil ?_
        rintro _ ⟨nq, rfl⟩
        gi_wp2_with fail
        exact ⟨(from_below (below_drewN (Below.refl _ W) _)).trans ((KeepsOthers.setCell _ _ _).from _), .inl ⟨rfl, HM.out⟩⟩
      have q3 : ((T.ks.length : Int) != (u.ks.length : Int)) = false := by rw [bne_eq_false_iff_eq]; omega
      have p3 : ((T.ks.length : Int) == (u.ks.length : Int)) = true := by rw [beq_iff_eq]; omega
      clear e3
      clear HMIS
      refine region_quiet_round (by kernel_rfl) (by kernel_rfl) (by kernel_rfl) ?_
      repeat (gi_big_quiet_step (fail))
      refine wpQuietIn_nil ?_
      rintro _ ⟨nq, rfl⟩
      have hb1 : Below W.heap.size W (W.drewN nq) := below_drewN (Below.refl _ W) _
      have hI1' := (show Boxed (W.drewN nq) w7.heap.size 3 (.int .i64 k) from hI1)
      have hup1 := hI2.trans (Upto.of_below hb1)
      have hlr1 : (W.drewN nq).heap[l]? = some (.loop r) := hlr
      generalize hgen : W.drewN nq = W1 at hb1 hI1' hup1 hlr1 ⊢
      have hB1 := hide hb1
      have hK1 := hide hI1'
      have hU1 := hide hup1
      have ck1 := hI1'.cell
      have fk1 := hI1'.frozen
      have cm1 := (hup1.boxed HMC.out (by omega)).cell
      have ci1 := (hup1.boxed HIC.out (by omega)).cell
      have cw1 := (hup1.boxed HXC.out (by omega)).cell
      have hsW := hup1.size
      have hsb := hb1.size
      clear hgen hb1 hI1' hup1 d0 d1 d2 d3 d4 d5 d6 d7 n0 n2 n4 n7 cr4 cf4 cr ck cw hge1 hge2 q0 q1 q2 q3 p0 p1 p2 p3 hBx
      by_cases km : (k : Int) = mo
      · have qm : ((k : Int) == mo) = true := by rw [beq_iff_eq]; exact km
        have KM := hide km
        clear km
        gi_wp2_with fail
        exact ⟨from_below hB1.out, .inr ⟨rfl, by rw [← KM.out]; exact hK1.out, hU1.out⟩⟩
      · have qm : ((k : Int) == mo) = false := by rw [beq_eq_false_iff_ne]; exact km
        clear km
        gi_upto_region 18 with (fail)
        have bm := Boxed.new W1 3 (.int .i64 0)
        have hal := (Below.refl W1.heap.size W1).alloc (Nat.le_refl _) (.cells #[.int .i64 0] 3)
        generalize hgen : W1.alloc (.cells #[.int .i64 0] 3) = Wi at bm hal ⊢
        clear hgen
        have HBM := hide bm
        have hsi := hal.size
        have hUi := hide (hU1.out.trans (Upto.of_below hal))
        have hWi := hide (hB1.out.trans (hal.mono hsb))
        have hlri : Wi.heap[l]? = some (.loop r) := (hal.block _ (heap_lt hlr1)).trans hlr1
        have cii := (hUi.out.boxed HIC.out (by omega)).cell
        have hbxi := hide (p := Box Wi w5.heap.size t.d (.slice aa t.d.ats.length ac) (.slice ka t.ks.length kc)) ((hUi.out.2 _ HBXC.out.lt (by omega)).trans HBXC.out)
        have hKi := hide (p := Boxed Wi w7.heap.size 3 (.int .i64 k)) ((hal.block _ hK1.out.lt).trans hK1.out)
        clear bm hal hlr1 ck1 fk1 cm1 ci1 cw1 qm
        gi_wp2_with fail
        have hki : KeepT w.heap.size w Wi := KeepT.of_below (Nat.le_refl _) ((hkc.below).trans (hUi.out.below (by omega) hkc.below.size))
        generalize hact : ({ tmps := _, defers := _ } : Act) = a0
        refine wpIn_rangeFunc_ownN (l₀ := l) (r₀ := r) rfl hlri (by omega) (gf := 43) (lb := #[.pointer (some ⟨w5.heap.size, 0, none⟩)]) (by rw [← hact]; rfl) trivial (enters_of Tryz.func43 (by kernel_rfl) rfl)
          ((all_stopsT Fence.wide rfl _ trivial trivial rfl w5.heap.size w Wi t _ _ hbxi.out HS.out hki hlim (by omega)).inRound l) (fun h k => h.trans k) (KeepT.put hki.below.size) (Below.refl _ _) (fun _ => rfl)
          (fun pre' W' => Boxed W' W1.heap.size 3 (.int .i64 pre'.length) ∧ Upto W1.heap.size Wi W')
          (fun c _ W' => c = .exit 2 ∧ 2 < k ∧ (∃ z, Boxed W' W1.heap.size 3 (.int .i64 z)) ∧ Upto W1.heap.size Wi W')
          (OwnFrom.and (Own.from (boxed_own _ _ _) _) (upto_own _ _ _ (Nat.le_refl _))) (own_inner Wi W1.heap.size k) ⟨HBM.out, Upto.refl _ _⟩
          (fun y a'' _ => a'' = { tmps := a0.tmps.setIfInBounds 78 (NV y.val.1.d y.val.2.1 y.val.2.2), defers := [] })
          (fun _ _ _ _ _ _ hs _ _ => hs) ?assign2 ?body2 ?done2 ?stop2
        case assign2 =>
          rintro l2 pre' y W' K hi hK
          subst hact
          unfold encE
          gi_wp2
          refine hK _ _ (KeepsFrom.refl _ _) (KeepT.refl _ _) hi ?_
          simp only [List.setIfInBounds_toArray, List.set_cons_succ, List.set_cons_zero]
        case body2 =>
          rintro l2 pre' y a'' W' hl2 _ ⟨hb2, hu2⟩ rfl hlen
          subst hact
          simp only [List.setIfInBounds_toArray, List.set_cons_succ, List.set_cons_zero]
          obtain ⟨m, hm⟩ : ∃ m, pre'.length = m := ⟨_, rfl⟩
          rw [hm] at hb2
          have cm2 := hb2.cell
          have fm2 := hb2.frozen
          have hset := hb2.set (.int .i64 (wrap64 ((m : Int) + 1)))
          have hu4 := hu2.setCell (.int .i64 (wrap64 ((m : Int) + 1)))
          have hkf := (KeepsOthers.setCell W' ⟨W1.heap.size, 0, none⟩ (.int .i64 (wrap64 ((m : Int) + 1)))).from Wi.heap.size
          have hkt := (KeepT.refl w.heap.size W').setCell (p := ⟨W1.heap.size, 0, none⟩) (by show w.heap.size ≤ W1.heap.size; omega) hb2 (by decide) (.int .i64 (wrap64 ((m : Int) + 1)))
          have ck4 := (hu4.boxed hKi.out (by omega)).cell
          have HSET := hide hset
          have HU4 := hide hu4
          have HKF := hide hkf
          have HKT := hide hkt
          have HM8 := hide (p := m < 8192 ∧ pre'.length = m) ⟨by omega, hm⟩
          clear hset hu4 hkf hkt hb2 hu2 hki hlri cii hlen hm
          gi_upto_region 20 with (fail)
          generalize hgen : W'.setCell ⟨W1.heap.size, 0, none⟩ (.int .i64 (wrap64 ((m : Int) + 1))) = W3 at HSET HU4 HKF HKT ck4 ⊢
          clear hgen cm2 fm2
          by_cases h2 : 2 < k
          · have hd2 : decide ((2 : Int) < (k : Int)) = true := by simp; omega
            gi_wp2_with fail
            exact ⟨HKF.out, rfl, h2, ⟨_, HSET.out⟩, HU4.out⟩
          · have hd2 : decide ((2 : Int) < (k : Int)) = false := by simp; omega
            gi_wp2_with fail
            refine ⟨HKF.out, HKT.out, ?_, HU4.out⟩
            have hwr := wrap_small (m + 1) (by have := HM8.out.1; omega)
            rw [Int.natCast_add, show ((1 : Nat) : Int) = 1 from rfl] at hwr
            have := HSET.out
            rw [hwr] at this
            rw [List.length_append, HM8.out.2]
            exact this
        case done2 =>
          rintro ys W2 hys ⟨hb2, hu2⟩
          have hlm : ys.length = N := by rw [← hN, ← hys]; simp [tr]
          rw [hlm] at hb2
          have hWU := hide (hUi.out.fresh hu2 (by omega))
          have hWb := hide (p := Upto w7.heap.size W W2) ((Upto.of_below hWi.out).fresh hu2 (by omega))
          have hK2 := hu2.boxed hKi.out (by omega)
          have hb2' := hb2
          have ck2 := hK2.cell
          have fk2 := hK2.frozen
          have cw2 := (hWU.out.boxed HXC.out (by omega)).cell
          have cm2 := hb2.cell
          have HK2 := hide hK2
          clear hK2 hb2 hb2' hki hlri cii hu2
          subst hact
          by_cases h2 : k ≤ 2
          · have hd2 : decide ((k : Int) ≤ 2) = true := by simp; omega
            have hd3 : decide (k ≤ 2) = true := by simp; omega
            gi_wp2_with fail
            have hset := HK2.out.set (.int .i64 ((k : Int) + 1))
            have hsI := hI2.size
            refine ⟨(hWb.out.setCell _).from hI1 _, (hWb.out.setCell _).keepT hI1 (by decide) (by omega) (by omega), ?_, hWU.out.setCell _⟩
            rw [List.length_append, hk, show ∀ y : El w, ((k + [y].length : Nat) : Int) = (k : Int) + 1 from fun _ => rfl]
            exact hset
          · have hd2 : decide ((k : Int) ≤ 2) = false := by simp; omega
            have hd3 : decide (k ≤ 2) = false := by simp; omega
            gi_wp2_with fail
            have hset := HK2.out.set (.int .i64 ((k : Int) + 1))
            have hsI := hI2.size
            refine ⟨(hWb.out.setCell _).from hI1 _, (hWb.out.setCell _).keepT hI1 (by decide) (by omega) (by omega), ?_, hWU.out.setCell _⟩
            rw [List.length_append, hk, show ∀ y : El w, ((k + [y].length : Nat) : Int) = (k : Int) + 1 from fun _ => rfl]
            exact hset
        case stop2 =>
          rintro c pre' W2 _ ⟨rfl, hk2, ⟨z, hb2⟩, hu2⟩
          have hWU := hide (hUi.out.fresh hu2 (by omega))
          have hWb := hide (p := Upto w7.heap.size W W2) ((Upto.of_below hWi.out).fresh hu2 (by omega))
          have hK2 := hu2.boxed hKi.out (by omega)
          have hb2' := hb2
          have ck2 := hK2.cell
          have fk2 := hK2.frozen
          have cw2 := (hWU.out.boxed HXC.out (by omega)).cell
          have cm2 := hb2.cell
          have HK2 := hide hK2
          clear hK2 hb2 hb2' hki hlri cii hu2
          subst hact
          have hd2 : decide ((k : Int) ≤ 2) = false := by simp; omega
          have hd3 : decide (k ≤ 2) = false := by simp; omega
          gi_wp2_with fail
          have hset := HK2.out.set (.int .i64 ((k : Int) + 1))
          have hsI := hI2.size
          refine ⟨(hWb.out.setCell _).from hI1 _, (hWb.out.setCell _).keepT hI1 (by decide) (by omega) (by omega), ?_, hWU.out.setCell _⟩
          rw [List.length_append, hk, show ∀ y : El w, ((k + [y].length : Nat) : Int) = (k : Int) + 1 from fun _ => rfl]
          exact hset
    case done =>
      rintro D ys W hD hys ⟨hI1, hI2⟩ hK
      have hln : ys.length = N := by rw [← hN, ← hys]; simp [tr]
      rw [hln] at hI1
      obtain ⟨kk, hq⟩ : ∃ kk : Int, kk = (N : Int) := ⟨_, rfl⟩
      rw [← hq] at hI1
      have hkk := hide (p := kk = (N : Int) ∨ kk = mo) (.inl hq)
      clear hq
      have hsI := hI2.size
      have hDW : D < W.heap.size := heap_lt hK
      go_upto_region 25 with (fail)
      have bm := Boxed.new W 3 (.int .i64 0)
      have hal := (Below.refl W.heap.size W).alloc (Nat.le_refl _) (.cells #[.int .i64 0] 3)
      generalize hgen : W.alloc (.cells #[.int .i64 0] 3) = W3 at bm hal ⊢
      clear hgen
      have HBM := hide bm
      have hs3 := hal.size
      have hU3 := hide (hI2.trans (Upto.of_below hal))
      have hK3 := hide ((hal.block _ (heap_lt hK)).trans hK)
      have hkb := hide (p := Boxed W3 w7.heap.size 3 (.int .i64 kk)) ((hal.block _ hI1.lt).trans hI1)
      have cii := (hU3.out.boxed HIC.out (by omega)).cell
      have hbx3 := hide (p := Box W3 w5.heap.size t.d (.slice aa t.d.ats.length ac) (.slice ka t.ks.length kc)) ((hU3.out.2 _ HBXC.out.lt (by omega)).trans HBXC.out)
      clear bm hal hI1 hI2 hK
      go_wp2_with fail
      have hk3 : KeepT w.heap.size w W3 := KeepT.of_below (Nat.le_refl _) ((hkc.below).trans (hU3.out.below (by omega) hkc.below.size))
      generalize hact : ({ tmps := _, defers := _ } : Act) = a0
      refine (wpIn_wide (n := 9)).1 ?_
      refine wpIn_rangeFunc_ownH rfl (by omega) (gf := 43) (lb := #[.pointer (some ⟨w5.heap.size, 0, none⟩)]) (by rw [← hact]; rfl) trivial (enters_of Tryz.func43 (by kernel_rfl) rfl)
        (all_stopsT Fence.wide rfl (9 - 1) trivial trivial rfl w5.heap.size w W3 t _ _ hbx3.out HS.out hk3 hlim (by omega)) (fun h k => h.trans k) (KeepT.put hk3.below.size) (Below.refl _ _) (fun _ => rfl)
        (fun pre' W' => Boxed W' W.heap.size 3 (.int .i64 pre'.length) ∧ Upto W.heap.size W3 W')
        (fun _ _ _ => False)
        (OwnFrom.and (Own.from (boxed_own _ _ _) _) (upto_own _ _ _ (Nat.le_refl _))) (fun _ _ _ _ _ hs _ _ => hs) ⟨HBM.out, Upto.refl _ _⟩
        (fun y a'' _ => a'' = { tmps := a0.tmps.setIfInBounds 94 (NV y.val.1.d y.val.2.1 y.val.2.2), defers := [] })
        (fun _ _ _ _ _ _ hs _ _ => hs) ?assign3 ?body3 ?done3 ?stop3
      case assign3 =>
        rintro l2 pre' y W' K hi hK
        subst hact
        unfold encE
        gi_wp2
        refine hK _ _ (KeepsFrom.refl _ _) (KeepT.refl _ _) hi ?_
        simp only [List.setIfInBounds_toArray, List.set_cons_succ, List.set_cons_zero]
      case body3 =>
        rintro l2 pre' y a'' W' hl2 _ ⟨hb2, hu2⟩ rfl hlen
        subst hact
        simp only [List.setIfInBounds_toArray, List.set_cons_succ, List.set_cons_zero]
        obtain ⟨m, hm⟩ : ∃ m, pre'.length = m := ⟨_, rfl⟩
        rw [hm] at hb2
        have cm2 := hb2.cell
        have fm2 := hb2.frozen
        have hset := hb2.set (.int .i64 (wrap64 ((m : Int) + 1)))
        have hu4 := hu2.setCell (.int .i64 (wrap64 ((m : Int) + 1)))
        have hkf := (KeepsOthers.setCell W' ⟨W.heap.size, 0, none⟩ (.int .i64 (wrap64 ((m : Int) + 1)))).from W3.heap.size
        have hkt := (KeepT.refl w.heap.size W').setCell (p := ⟨W.heap.size, 0, none⟩) (by show w.heap.size ≤ W.heap.size; omega) hb2 (by decide) (.int .i64 (wrap64 ((m : Int) + 1)))
        have HSET := hide hset
        have HU4 := hide hu4
        have HKF := hide hkf
        have HKT := hide hkt
        have HM8 := hide (p := m < 8192 ∧ pre'.length = m) ⟨by omega, hm⟩
        clear hset hu4 hkf hkt hb2 hu2 hk3 cii hlen hm
        gi_wp2_with fail
        refine ⟨HKF.out, HKT.out, ?_, HU4.out⟩
        have hwr := wrap_small (m + 1) (by have := HM8.out.1; omega)
        rw [Int.natCast_add, show ((1 : Nat) : Int) = 1 from rfl] at hwr
        have := HSET.out
        rw [hwr] at this
        rw [hwr, List.length_append, HM8.out.2]
        exact this
      case stop3 =>
        rintro D2 c pre' W' _ _ h _
        exact h.elim
      case done3 =>
        rintro D2 zs W4 hD2 hzs ⟨hb4, hu4⟩ hK4
        have hlm : zs.length = N := by rw [← hN, ← hzs]; simp [tr]
        rw [hlm] at hb4
        have cm4 := hb4.cell
        have hU5 := hide (hU3.out.fresh hu4 (by omega))
        have hK5 := hide (hu4.2 _ (heap_lt hK3.out) (by omega) |>.trans hK3.out)
        have hK6 := hide hK4
        have ck4 := ((hu4.boxed hkb.out (by omega))).cell
        have cw4 := (hU5.out.boxed HXC.out (by omega)).cell
        have cn4 := (hU5.out.boxed HMC.out (by omega)).cell
        have hr4 := hU5.out.boxed HRC.out (by omega)
        have cr4 := hr4.cell
        have fr4 := hr4.frozen
        have HR4 := hide hr4
        have hEND := hide (p := ∃ W7, (∃ W6, (Instr.takeDeferred D2).run Tryz.prog (W4.setCell ⟨w.heap.size + 1 + 1, 0, none⟩ (.bool true)) = .ok [] W6 ∧ (Instr.takeDeferred D).run Tryz.prog W6 = .ok [] W7) ∧ Boxed W7 (w.heap.size + 1 + 1) 4 (.bool true) ∧ Below w.heap.size w W7)
          (alls_end (kb := w7.heap.size) hr4 hK5.out hK6.out (by omega) (by omega) (by omega) (by omega) (hkc.below.trans (hU5.out.below (by omega) hkc.below.size)))
        clear hb4 hu4 hK4 hr4 cii hk3
        subst hact
        rcases hkk.out with h | h
        · have e1 : (kk == (N : Int)) = true := by rw [beq_iff_eq]; exact h
          clear h
          go_wp2_with fail
          obtain ⟨W7, ⟨W6, ht1, ht2⟩, hb7, hbel⟩ := hEND.out
          have g7 := hb7.cell
          exact ⟨by simp, .inl ⟨_, _, rfl, ht1, by simp, .inl ⟨_, _, rfl, ht2, _, by simp [results, Tryz.results5, go_sem, g7], rfl, hbel⟩⟩⟩
        · by_cases h1 : kk = (N : Int)
          · have e1 : (kk == (N : Int)) = true := by rw [beq_iff_eq]; exact h1
            clear h h1
            go_wp2_with fail
            obtain ⟨W7, ⟨W6, ht1, ht2⟩, hb7, hbel⟩ := hEND.out
            have g7 := hb7.cell
            exact ⟨by simp, .inl ⟨_, _, rfl, ht1, by simp, .inl ⟨_, _, rfl, ht2, _, by simp [results, Tryz.results5, go_sem, g7], rfl, hbel⟩⟩⟩
          · have e1 : (kk == (N : Int)) = false := by rw [beq_eq_false_iff_ne]; exact h1
            have e2 : (kk == mo) = true := by rw [beq_iff_eq]; exact h
            clear h h1
            go_wp2_with fail
            obtain ⟨W7, ⟨W6, ht1, ht2⟩, hb7, hbel⟩ := hEND.out
            have g7 := hb7.cell
            exact ⟨by simp, .inl ⟨_, _, rfl, ht1, by simp, .inl ⟨_, _, rfl, ht2, _, by simp [results, Tryz.results5, go_sem, g7], rfl, hbel⟩⟩⟩
    case stop =>
      rintro D c pre W hD hsp hix hK
      rcases hix with ⟨-, h⟩ | ⟨rfl, hI1, hI2⟩
      · exact absurd hsp h
      obtain ⟨kk, hq⟩ : ∃ kk : Int, kk = mo := ⟨_, rfl⟩
      rw [← hq] at hI1
      have hkk := hide (p := kk = (N : Int) ∨ kk = mo) (.inr hq)
      clear hq
      refine wpIn_wide.2 ?_
      have hsI := hI2.size
      have hDW : D < W.heap.size := heap_lt hK
      go_upto_region 25 with (fail)
      have bm := Boxed.new W 3 (.int .i64 0)
      have hal := (Below.refl W.heap.size W).alloc (Nat.le_refl _) (.cells #[.int .i64 0] 3)
      generalize hgen : W.alloc (.cells #[.int .i64 0] 3) = W3 at bm hal ⊢
      clear hgen
      have HBM := hide bm
      have hs3 := hal.size
      have hU3 := hide (hI2.trans (Upto.of_below hal))
      have hK3 := hide ((hal.block _ (heap_lt hK)).trans hK)
      have hkb := hide (p := Boxed W3 w7.heap.size 3 (.int .i64 kk)) ((hal.block _ hI1.lt).trans hI1)
      have cii := (hU3.out.boxed HIC.out (by omega)).cell
      have hbx3 := hide (p := Box W3 w5.heap.size t.d (.slice aa t.d.ats.length ac) (.slice ka t.ks.length kc)) ((hU3.out.2 _ HBXC.out.lt (by omega)).trans HBXC.out)
      clear bm hal hI1 hI2 hK
      go_wp2_with fail
      have hk3 : KeepT w.heap.size w W3 := KeepT.of_below (Nat.le_refl _) ((hkc.below).trans (hU3.out.below (by omega) hkc.below.size))
      generalize hact : ({ tmps := _, defers := _ } : Act) = a0
      refine (wpIn_wide (n := 9)).1 ?_
      refine wpIn_rangeFunc_ownH rfl (by omega) (gf := 43) (lb := #[.pointer (some ⟨w5.heap.size, 0, none⟩)]) (by rw [← hact]; rfl) trivial (enters_of Tryz.func43 (by kernel_rfl) rfl)
        (all_stopsT Fence.wide rfl (9 - 1) trivial trivial rfl w5.heap.size w W3 t _ _ hbx3.out HS.out hk3 hlim (by omega)) (fun h k => h.trans k) (KeepT.put hk3.below.size) (Below.refl _ _) (fun _ => rfl)
        (fun pre' W' => Boxed W' W.heap.size 3 (.int .i64 pre'.length) ∧ Upto W.heap.size W3 W')
        (fun _ _ _ => False)
        (OwnFrom.and (Own.from (boxed_own _ _ _) _) (upto_own _ _ _ (Nat.le_refl _))) (fun _ _ _ _ _ hs _ _ => hs) ⟨HBM.out, Upto.refl _ _⟩
        (fun y a'' _ => a'' = { tmps := a0.tmps.setIfInBounds 94 (NV y.val.1.d y.val.2.1 y.val.2.2), defers := [] })
        (fun _ _ _ _ _ _ hs _ _ => hs) ?assign4 ?body4 ?done4 ?stop4
      case assign4 =>
        rintro l2 pre' y W' K hi hK
        subst hact
        unfold encE
        gi_wp2
        refine hK _ _ (KeepsFrom.refl _ _) (KeepT.refl _ _) hi ?_
        simp only [List.setIfInBounds_toArray, List.set_cons_succ, List.set_cons_zero]
      case body4 =>
        rintro l2 pre' y a'' W' hl2 _ ⟨hb2, hu2⟩ rfl hlen
        subst hact
        simp only [List.setIfInBounds_toArray, List.set_cons_succ, List.set_cons_zero]
        obtain ⟨m, hm⟩ : ∃ m, pre'.length = m := ⟨_, rfl⟩
        rw [hm] at hb2
        have cm2 := hb2.cell
        have fm2 := hb2.frozen
        have hset := hb2.set (.int .i64 (wrap64 ((m : Int) + 1)))
        have hu4 := hu2.setCell (.int .i64 (wrap64 ((m : Int) + 1)))
        have hkf := (KeepsOthers.setCell W' ⟨W.heap.size, 0, none⟩ (.int .i64 (wrap64 ((m : Int) + 1)))).from W3.heap.size
        have hkt := (KeepT.refl w.heap.size W').setCell (p := ⟨W.heap.size, 0, none⟩) (by show w.heap.size ≤ W.heap.size; omega) hb2 (by decide) (.int .i64 (wrap64 ((m : Int) + 1)))
        have HSET := hide hset
        have HU4 := hide hu4
        have HKF := hide hkf
        have HKT := hide hkt
        have HM8 := hide (p := m < 8192 ∧ pre'.length = m) ⟨by omega, hm⟩
        clear hset hu4 hkf hkt hb2 hu2 hk3 cii hlen hm
        gi_wp2_with fail
        refine ⟨HKF.out, HKT.out, ?_, HU4.out⟩
        have hwr := wrap_small (m + 1) (by have := HM8.out.1; omega)
        rw [Int.natCast_add, show ((1 : Nat) : Int) = 1 from rfl] at hwr
        have := HSET.out
        rw [hwr] at this
        rw [hwr, List.length_append, HM8.out.2]
        exact this
      case stop4 =>
        rintro D2 c pre' W' _ _ h _
        exact h.elim
      case done4 =>
        rintro D2 zs W4 hD2 hzs ⟨hb4, hu4⟩ hK4
        have hlm : zs.length = N := by rw [← hN, ← hzs]; simp [tr]
        rw [hlm] at hb4
        have cm4 := hb4.cell
        have hU5 := hide (hU3.out.fresh hu4 (by omega))
        have hK5 := hide (hu4.2 _ (heap_lt hK3.out) (by omega) |>.trans hK3.out)
        have hK6 := hide hK4
        have ck4 := ((hu4.boxed hkb.out (by omega))).cell
        have cw4 := (hU5.out.boxed HXC.out (by omega)).cell
        have cn4 := (hU5.out.boxed HMC.out (by omega)).cell
        have hr4 := hU5.out.boxed HRC.out (by omega)
        have cr4 := hr4.cell
        have fr4 := hr4.frozen
        have HR4 := hide hr4
        have hEND := hide (p := ∃ W7, (∃ W6, (Instr.takeDeferred D2).run Tryz.prog (W4.setCell ⟨w.heap.size + 1 + 1, 0, none⟩ (.bool true)) = .ok [] W6 ∧ (Instr.takeDeferred D).run Tryz.prog W6 = .ok [] W7) ∧ Boxed W7 (w.heap.size + 1 + 1) 4 (.bool true) ∧ Below w.heap.size w W7)
          (alls_end (kb := w7.heap.size) hr4 hK5.out hK6.out (by omega) (by omega) (by omega) (by omega) (hkc.below.trans (hU5.out.below (by omega) hkc.below.size)))
        clear hb4 hu4 hK4 hr4 cii hk3
        subst hact
        rcases hkk.out with h | h
        · have e1 : (kk == (N : Int)) = true := by rw [beq_iff_eq]; exact h
          clear h
          go_wp2_with fail
          obtain ⟨W7, ⟨W6, ht1, ht2⟩, hb7, hbel⟩ := hEND.out
          have g7 := hb7.cell
          exact ⟨by simp, .inl ⟨_, _, rfl, ht1, by simp, .inl ⟨_, _, rfl, ht2, _, by simp [results, Tryz.results5, go_sem, g7], rfl, hbel⟩⟩⟩
        · by_cases h1 : kk = (N : Int)
          · have e1 : (kk == (N : Int)) = true := by rw [beq_iff_eq]; exact h1
            clear h h1
            go_wp2_with fail
            obtain ⟨W7, ⟨W6, ht1, ht2⟩, hb7, hbel⟩ := hEND.out
            have g7 := hb7.cell
            exact ⟨by simp, .inl ⟨_, _, rfl, ht1, by simp, .inl ⟨_, _, rfl, ht2, _, by simp [results, Tryz.results5, go_sem, g7], rfl, hbel⟩⟩⟩
          · have e1 : (kk == (N : Int)) = false := by rw [beq_eq_false_iff_ne]; exact h1
            have e2 : (kk == mo) = true := by rw [beq_iff_eq]; exact h
            clear h h1
            go_wp2_with fail
            obtain ⟨W7, ⟨W6, ht1, ht2⟩, hb7, hbel⟩ := hEND.out
            have g7 := hb7.cell
            exact ⟨by simp, .inl ⟨_, _, rfl, ht1, by simp, .inl ⟨_, _, rfl, ht2, _, by simp [results, Tryz.results5, go_sem, g7], rfl, hbel⟩⟩⟩
end Go.Proofs.YtagkdmolgmhmdaaGreatDoor
