/- Builder.WriteString: what is no row of cells stays, too. -/
import Derived.Test.YtagkdmolgmhmdaaGreatDoorUb
import Derived.RangeFuncOwn
import Derived.Test.YtagkdmolgmhmdaaGreatDoorRw
import Derived.Lib.Builder
import Derived.Lib.AppendStr
import Derived.Deep.RegionWith
import Derived.Test.YtagkdmolgmhmdaaGreatDoorShelf
import Derived.Test.YtagkdmolgmhmdaaGreatDoorSm
import Derived.Test.YtagkdmolgmhmdaaGreatDoorDe
namespace Go.Proofs.YtagkdmolgmhmdaaGreatDoor
open Go.RowKit

theorem copyCheckO (B b : Nat) (bs : List UInt8) (w : World) (h : Bld B b bs w) :
    Calls Tryz.prog 64 #[.pointer (some ⟨b, 0, none⟩)] w fun e w' => e = .returned (.tuple #[]) ∧ BldAt B b bs w' ∧ Keep B w w' ∧ KeepsOthers w w' := by
  rcases h with h | h
  · have h' := h
    obtain ⟨hB, v, hb, hown, hne⟩ := h
    refine (copyCheck_fresh b w h'.cell0 h'.shape (by simp [World.frozen?, hb])).mono ?_
    rintro e w' ⟨rfl, rfl⟩
    refine ⟨rfl, ⟨hB, v, by simp [World.setCell, Array.getElem?_modify, hb], hown.kept (set0_kept _) (.inr hne), hne⟩, (Keep.refl B w).setCell (p := ⟨b, 0, none⟩) hB hb (.inl rfl) _, KeepsOthers.setCell _ _ _⟩
  · refine (copyCheck_used b w h.cell0).mono ?_
    rintro e w' ⟨rfl, rfl⟩
    exact ⟨rfl, h, Keep.refl _ _, KeepsOthers.refl _⟩


set_option maxHeartbeats 2000000 in
set_option maxRecDepth 100000 in
theorem writeStringO (B b : Nat) (bs s : List UInt8) (w : World) (h : Bld B b bs w) (hBw : B ≤ w.heap.size) (hlen : bs.length + s.length ≤ 140737488355328) :
    Calls Tryz.prog 46 #[.pointer (some ⟨b, 0, none⟩), S s] w fun e w' => e = .returned (.tuple #[.int .i64 s.length, .nilIface]) ∧ BldAt B b (bs ++ s) w' ∧ Keep B w w' ∧ KeepsOthers w w' := by
  obtain ⟨i0, hi, hz0, hz1, hz2⟩ := info_parts info_byte
  have hcl : (Lib.byteCells bs).length = bs.length := by simp [Lib.byteCells]
  go_enter Tryz.func46, Tryz.ntmps46
  go_wp2_with fail
  refine (copyCheckO B b bs _ h).mono ?_
  rintro e w1 ⟨rfl, h1, hk1, ho1⟩
  obtain ⟨hB, v, hbk, hown, hne⟩ := h1
  have c1 : w1.cell? ⟨b, 1, none⟩ = some v := by rw [Lib.cell_of_heap hbk]; rfl
  have hsz1 := hk1.below.size
  have hlt : b < w1.heap.size := heap_lt hbk
  go_wp2_with (at_builtin; refine Lib.wpList_append_own_string _ rfl _ _ 52 9 rfl B 5 i0 Tryz.underlying52 Tryz.underlying9 hi hz0 hz1 hz2 _ _ _ rfl hown ⟨s.toArray⟩ rfl ?c3 ?c4 ?c5 ?_)
  case c3 => rw [bl_size]; unfold maxLen; omega
  case c4 => rw [bl_size]; omega
  case c5 => omega
  intro v' w2 hown' hgrow _
  have hb2 : w2.heap[b]? = some (Obj.cells #[.pointer (some ⟨b, 0, none⟩), v] 54 (0, 0)) := by
    rw [hgrow.block b hlt (fun e => hne e.symm)]; exact hbk
  have d1 : w2.cell? ⟨b, 1, none⟩ = some v := by rw [Lib.cell_of_heap hb2]; rfl
  have f1 : w2.frozen? ⟨b, 1, none⟩ = false := by simp [World.frozen?, hb2]
  have hk2 : Keep B w w2 := hk1.grown hown hgrow (by omega) (.inr rfl)
  have ho2 : KeepsOthers w w2 := ho1.trans (KeepsOthers.of_grownBy hgrow fun j o e hj => by
    obtain ⟨c, hc⟩ := ownsRow_kind hown j e
    rw [hc] at hj
    injection hj with hj
    rw [← hj]; rfl)
  have hne' : v'.ownBlock ≠ some b := fun e => by
    obtain ⟨x, hx⟩ := ownsRow_kind hown' b e
    rw [hb2] at hx
    injection hx with hx
    injection hx with _ hx _
    exact absurd hx (by decide)
  have hcells : Lib.byteCells bs ++ Lib.strCells ⟨s.toArray⟩ = Lib.byteCells (bs ++ s) := by simp [Lib.byteCells, Lib.strCells]
  rw [hcells] at hown'
  have hcl2 : bs.length + s.length = (Lib.byteCells (bs ++ s)).length := by simp [Lib.byteCells]
  rw [hcl2] at hown'
  obtain ⟨ao, n', cap, rfl⟩ : ∃ ao n' cap, v' = .slice ao n' cap := by
    rcases hown'.2 with ⟨hv, _⟩ | ⟨g, cap, cur, hv, _⟩
    · exact ⟨_, _, _, hv⟩
    · exact ⟨_, _, _, hv⟩
  clear hown hgrow hk1 h hbk
  go_wp2_with fail
  go_ret2
  exact ⟨rfl, ⟨hB, _, by simp [World.setCell, Array.getElem?_modify, hb2], hown'.kept (set1_kept _) (.inr hne'), hne'⟩, hk2.setCell (p := ⟨b, 1, none⟩) hB hb2 (.inl rfl) _, ho2.trans (KeepsOthers.setCell _ _ _)⟩


end Go.Proofs.YtagkdmolgmhmdaaGreatDoor
namespace Go.Proofs.YtagkdmolgmhmdaaGreatDoor
open Go.RowKit

theorem others_of_below {w w' : World} (h : Below w.heap.size w w') : KeepsOthers w w' := ⟨h.size, fun k _ hk _ => (h.block k (heap_lt hk)).trans hk⟩
theorem freeze_others {w : World} {g : Nat} {cs : Array Value} {ty : TypeId} {f : Nat × Nat} (hg : w.heap[g]? = some (.cells cs ty f)) (n : Nat) : KeepsOthers w (w.freeze ⟨g, 0, none⟩ n) := by
  unfold World.freeze
  split
  · exact KeepsOthers.refl w
  · refine ⟨by simp, fun k o hk ho => ?_⟩
    simp only [Array.getElem?_modify]
    rw [if_neg]
    · exact hk
    · intro e
      subst e
      rw [hg] at hk
      injection hk with hk
      rw [← hk] at ho
      cases ho
set_option maxRecDepth 100000 in
set_option maxHeartbeats 4000000 in
theorem stringO (B b : Nat) (l : List UInt8) (w : World) (h : Bld B b l w) (hBw : B ≤ w.heap.size) :
    Calls Tryz.prog 42 #[.pointer (some ⟨b, 0, none⟩)] w fun e w' => e = .returned (S l) ∧ Below B w w' ∧ KeepsOthers w w' := by
  obtain ⟨p, hB, v, hbk, hown, hne⟩ : ∃ p, Lib.BuilderAt 54 5 B b p (Lib.byteCells l) w := by
    rcases h with h | h
    · exact ⟨_, h⟩
    · exact ⟨_, h⟩
  rw [Lib.byteCells_length] at hown
  by_cases h0 : l = []
  · subst h0
    rcases hown.2 with ⟨rfl, _⟩ | ⟨g, cap, cur, rfl, hbg, hg, _, _, _, _⟩
    · exact (Any.Builder_String_nil Tryz.lays169 Tryz.Builder_Extra_169 w.heap.size b p w hbk).mono fun e w' ⟨h1, h2⟩ => ⟨h1, h2.mono hBw, others_of_below h2⟩
    · by_cases hc0 : cap = 0
      · subst hc0
        exact (Any.Builder_String_noroom Tryz.lays169 Tryz.Builder_Extra_169 w.heap.size b g p cur w (Nat.le_refl _) hbk hg).mono fun e w' ⟨h1, h2⟩ => ⟨h1, h2.mono hBw, others_of_below h2⟩
      · exact (Any.Builder_String_room Tryz.lays169 Tryz.Builder_Extra_169 w.heap.size b g cap p w hc0 hbk).mono fun e w' ⟨h1, h2⟩ => ⟨h1, h2.mono hBw, others_of_below h2⟩
  · have hl0 : l.length ≠ 0 := by simpa using h0
    obtain ⟨g, cap, cur, rfl, hbg, hg, hnc, hcm, hcs, htake⟩ : ∃ g cap cur, v = .slice (some ⟨g, 0, none⟩) l.length cap ∧ B ≤ g ∧ w.heap[g]? = some (.cells cur 5 (0, 0)) ∧ l.length ≤ cap ∧ cap ≤ maxLen ∧ cur.size = cap * 1 ∧ cur.toList.take (l.length * 1) = Lib.byteCells l := by
      rcases hown.2 with ⟨_, hz⟩ | ⟨g, cap, cur, hv, r⟩
      · exact absurd hz hl0
      · exact ⟨g, cap, cur, hv, r⟩
    have c1 : w.drew.cell? ⟨b, 1, none⟩ = some (.slice (some ⟨g, 0, none⟩) l.length cap) := by
      have : w.drew.heap[b]? = some (.cells #[p, .slice (some ⟨g, 0, none⟩) l.length cap] 54 (0, 0)) := hbk
      rw [Lib.cell_of_heap this]; rfl
    have hSD : (Builtin.unsafeSliceData_ #[52] 75 #[.slice (some ⟨g, 0, none⟩) l.length cap]).run Tryz.prog w.drew = .ok (.pointer (some ⟨g, 0, none⟩)) w.drew :=
      Lib.run_unsafeSliceData_row _ _ _ _ _ _ (by omega)
    have hUS : (Builtin.unsafeString_ #[75, 3] 9 #[.pointer (some ⟨g, 0, none⟩), .int .i64 l.length]).run Tryz.prog w.drew = .ok (.string ⟨l.toArray⟩) (w.drew.freeze ⟨g, 0, none⟩ l.length) := by
      refine Lib.run_unsafeString_row w.drew 75 3 9 5 Tryz.underlying75 (by kernel_rfl) g cur.size (by have hg' : w.drew.heap[g]? = some (.cells cur 5 (0, 0)) := hg; simp [World.shape?, hg']) l h0 (by omega) (by unfold maxLen at hcm; omega) ?_
      intro j x hx
      have := hown.cells (g := g) rfl j (.int .u8 x.toNat) (by simp [Lib.byteCells, hx])
      exact this
    have HFR := hide (freeze_others (w := w.drew) hg l.length)
    have HBG := hide hbg
    clear hown htake hg hcs hbk h hne
    go_enter Tryz.func42, Tryz.ntmps42
    go_wp2_with fail
    go_region
    all_goals
      go_wp2_with fail
      go_ret
      exact ⟨rfl, Lib.below_freeze (Below.drew (Below.refl B w)) (p := ⟨g, 0, none⟩) HBG.out _, (others_of_below (Below.refl _ w).drew).trans HFR.out⟩
end Go.Proofs.YtagkdmolgmhmdaaGreatDoor
namespace Go.Proofs.YtagkdmolgmhmdaaGreatDoor
open Go.RowKit Go.Shelf
attribute [local go_sem] Oper.semAt_some

def ownTx (t : Dm.T) : List UInt8 := if t.d.kd = 4 then t.d.tx else []
def txs {w0 : World} (l : List (El w0)) : List UInt8 := (tr l).flatMap ownTx
theorem txs_snoc {w0 : World} (l : List (El w0)) (x : El w0) : txs (l ++ [x]) = txs l ++ ownTx x.val.1 := by simp [txs, tr]
theorem tx_wt (t : Dm.T) : (ownTx t).length ≤ t.wt := by
  cases t with
  | mk d ks =>
    unfold ownTx
    simp only [Dm.T.wt, Dm.D.own]
    split
    · show d.tx.length ≤ _; omega
    · simp
theorem txs_len {w0 : World} (l : List (El w0)) : (txs l).length ≤ l.length * 1048576 := by
  induction l with
  | nil => simp [txs, tr]
  | cons a r ih =>
    have e : txs (a :: r) = ownTx a.val.1 ++ txs r := by simp [txs, tr]
    rw [e, List.length_append, List.length_cons]
    have h1 := tx_wt a.val.1
    have h2 := a.property.2
    omega
theorem texts_all (t : Dm.T) : t.all.flatMap ownTx = t.texts := by
  refine Dm.T.induct (C := fun t => t.all.flatMap ownTx = t.texts) (fun d ks ih => ?_) t
  have key : ∀ l : List Dm.T, (∀ t ∈ l, t ∈ ks) → (Dm.allK l).flatMap ownTx = Dm.textsK l := by
    intro l
    induction l with
    | nil => intro _; rfl
    | cons a r ihr =>
      intro hl
      rw [Dm.allK, Dm.textsK, List.flatMap_append, ih a (hl a (by simp)), ihr fun t ht => hl t (by simp [ht])]
  rw [Dm.T.all, Dm.T.texts, List.flatMap_cons, key ks fun _ h => h]
  rfl
theorem all_len (t : Dm.T) : t.all.length ≤ t.wt := by
  refine Dm.T.induct (C := fun t => t.all.length ≤ t.wt) (fun d ks ih => ?_) t
  have key : ∀ l : List Dm.T, (∀ t ∈ l, t ∈ ks) → (Dm.allK l).length ≤ Dm.wtK l := by
    intro l
    induction l with
    | nil => intro _; simp [Dm.allK]
    | cons a r ihr =>
      intro hl
      have h1 := ih a (hl a (by simp))
      have h2 := ihr fun t ht => hl t (by simp [ht])
      simp only [Dm.allK, Dm.wtK, List.length_append]
      omega
  have := key ks fun _ h => h
  simp only [Dm.T.all, Dm.T.wt, Dm.D.own, List.length_cons]
  omega
theorem cells_stay {W W' : World} {row : Option Nat} (hg : W.grownBy W' row) (hr : ∀ r, row = some r → ∃ o : Obj, W.heap[r]? = some o ∧ o.isCells = false) {k : Nat} {cs : Array Value} {ty : TypeId} {f : Nat × Nat} (h : W.heap[k]? = some (.cells cs ty f)) : W'.heap[k]? = some (.cells cs ty f) :=
  (hg.block k (heap_lt h) (fun e => by
    obtain ⟨o, ho, hc⟩ := hr k e.symm
    rw [h] at ho
    injection ho with ho
    rw [← ho] at hc
    cases hc)).trans h
theorem bld_own {β : Type} (K B b : Nat) (f : β → List UInt8) : OwnFrom K (fun (s : β) W => Bld B b (f s) W) := fun s W W' row hs hg hr => by
  have hr' := fun r e => (hr r e).2
  rcases hs with ⟨hB, v, hb, hown, hne⟩ | ⟨hB, v, hb, hown, hne⟩
  · refine .inl ⟨hB, v, cells_stay hg hr' hb, owns_of_block hown fun g e => ?_, hne⟩
    obtain ⟨c, hc⟩ := ownsRow_kind hown g e
    rw [cells_stay hg hr' hc, hc]
  · refine .inr ⟨hB, v, cells_stay hg hr' hb, owns_of_block hown fun g e => ?_, hne⟩
    obtain ⟨c, hc⟩ := ownsRow_kind hown g e
    rw [cells_stay hg hr' hc, hc]
theorem keep_put {B : Nat} {w : World} (hB : B ≤ w.heap.size) (W : World) (l : Nat) (o o' : Obj) (hl : w.heap.size ≤ l) (h : W.heap[l]? = some o) (hc : o.isCells = false) (hw : o.isWalk = false) : Keep B W (W.putObj l o') :=
  ⟨belowK_b hB W l o o' hl h hc hw, fun k cs ty f hk _ _ => by
    rw [World.putObj_heap_other (fun e => by
      subst e
      rw [hk] at h
      injection h with h
      rw [← h] at hc
      cases hc)]
    exact hk⟩
set_option maxRecDepth 100000 in
set_option maxHeartbeats 4000000 in
theorem texts_ (t : Dm.T) (av kv : Value) (w : World) (hs : RdT w t av kv) (hlim : t.Lim 140737488355328) (hwt : t.wt ≤ 1048576) :
    Calls Tryz.prog 24 #[NV t.d av kv] w (Fresh (S t.texts) w) := by
  obtain ⟨⟨aa, ac, rfl⟩, ka, kc, rfl⟩ := (⟨(hs.eta).1.length, (hs.eta).2.length⟩ : (∃ ao c, av = .slice ao t.d.ats.length c) ∧ ∃ ko c, kv = .slice ko t.ks.length c)
  obtain ⟨w1, hw1⟩ : ∃ x, x = w.alloc (.cells #[.int .u8 t.d.kd, S t.d.sp, S t.d.nm, .slice aa t.d.ats.length ac, S t.d.tx, S t.d.pb, S t.d.sy, .slice ka t.ks.length kc] 26) := ⟨_, rfl⟩
  have hb1 : Below w.heap.size w w1 := by rw [hw1]; exact (Below.refl _ w).alloc (Nat.le_refl _) _
  have b1 : Box w1 w.heap.size t.d (.slice aa t.d.ats.length ac) (.slice ka t.ks.length kc) := by rw [hw1]; exact Box.new w t.d _ _
  have hB := bld_new w1
  have hb2 : Below w1.heap.size w1 (w1.alloc (.cells #[.pointer none, .slice none 0 0] 54)) := (Below.refl _ w1).alloc (Nat.le_refl _) _
  have hr2 := (hs.below hb1).below hb2
  obtain ⟨d0, d1, d2, d3, d4, d5, d6, d7⟩ := (b1.alloc (.cells #[.pointer none, .slice none 0 0] 54)).cells
  have HS1 := hide (hs.below hb1)
  refine (callsIn_wide (n := 5)).1 ?_
  refine callsIn_of_wp_marks Tryz.func24 rfl trivial ?_ rfl
  refine wpIn_wide.2 ?_
  simp only [Tryz.ntmps24, List.size_toArray, List.length_cons, List.length_nil, Nat.reduceAdd, Nat.reduceSub, Array.replicate_succ, Array.replicate_zero, List.push_toArray, List.append_toArray, List.nil_append, List.cons_append]
  go_upto_region 1 with (fail)
  rw [← hw1]
  clear hw1
  go_upto_region 2 with (fail)
  generalize w1.alloc (.cells #[.pointer none, .slice none 0 0] 54) = w2 at hB hb2 hr2 d0 d1 d2 d3 d4 d5 d6 d7 ⊢
  have hcall := hide (all_ t _ _ w2 hr2)
  have HB := hide hB
  have HB2 := hide hb2
  have HB1 := hide hb1
  clear hB hb1 hb2 b1 hs hr2
  go_wp2_with fail
  refine hcall.out.mono ?_
  rintro e wc ⟨rfl, hbx, hbc⟩
  go_wp2_with fail
  have hkc : Keep w1.heap.size w1 wc := Keep.of_below (Nat.le_refl _) (HB2.out.trans (hbc.mono HB2.out.size))
  have hbl : Bld w1.heap.size w1.heap.size [] wc := bld_below HB.out hbc
  refine (wpIn_wide (n := 5)).1 ?_
  refine wpIn_rangeFunc_ownH rfl (by omega) (gf := 43) (lb := #[.pointer (some ⟨w2.heap.size, 0, none⟩)]) rfl trivial (enters_of Tryz.func43 (by kernel_rfl) rfl)
    (all_stops Fence.wide rfl (5 - 1) trivial trivial rfl w2.heap.size w1 wc t _ _ hbx HS1.out hkc hlim hwt) (fun h k => h.trans k) (keep_put hkc.below.size) (Below.refl _ _) (fun _ => rfl)
    (fun pre W => Bld w1.heap.size w1.heap.size (txs pre) W ∧ Below w1.heap.size w1 W) (fun _ _ _ => False)
    (OwnFrom.and (bld_own _ _ _ _) (ownFrom_below (Nat.le_refl _) hkc.below.size)) (fun _ _ _ _ _ hs _ _ => hs) ⟨hbl, hkc.below⟩
    (fun x a' W => ∃ B, a' = { tmps := #[NV t.d (.slice aa t.d.ats.length ac) (.slice ka t.ks.length kc), .pointer (some ⟨w.heap.size, 0, none⟩), .string { data := #[] }, .pointer (some ⟨w1.heap.size, 0, none⟩), .pointer (some ⟨B, 0, none⟩),
      NV t.d (.slice aa t.d.ats.length ac) (.slice ka t.ks.length kc), .func (.func 43) #[] #[.pointer (some ⟨w2.heap.size, 0, none⟩)], NV x.val.1.d x.val.2.1 x.val.2.2, undef, undef, undef, undef, undef, undef, undef], defers := [] } ∧ Box W B x.val.1.d x.val.2.1 x.val.2.2)
    (fun x a' s W W' row hs hg hr => hs.elim fun B hB => ⟨B, hB.1, cells_stay hg (fun r e => (hr r e).2) hB.2⟩) ?assign ?body ?done ?stop
  case assign =>
    rintro l pre ⟨⟨T, tv, sv⟩, hT, hTw⟩ W K ⟨hI1, hI2⟩ hK
    obtain ⟨⟨xo, xc, rfl⟩, yo, yc, rfl⟩ := (⟨(hT.eta).1.length, (hT.eta).2.length⟩ : (∃ ao c, tv = .slice ao T.d.ats.length c) ∧ ∃ ko c, sv = .slice ko T.ks.length c)
    unfold encE
    gi_wp2
    exact hK _ _ ((KeepsOthers.alloc _ _).from _) ((Keep.refl _ W).alloc hI2.size _) ⟨bld_below hI1 ((Below.refl _ W).alloc (Nat.le_refl _) _), hI2.alloc hI2.size _⟩ ⟨W.heap.size, rfl, Box.new W T.d _ _⟩
  case body =>
    rintro l pre ⟨⟨T, tv, sv⟩, hT, hTw⟩ a' W hl ⟨r, hlr⟩ ⟨hI1, hI2⟩ ⟨B, rfl, hBx⟩ hpl
    obtain ⟨⟨xo, xc, rfl⟩, yo, yc, rfl⟩ := (⟨(hT.eta).1.length, (hT.eta).2.length⟩ : (∃ ao c, tv = .slice ao T.d.ats.length c) ∧ ∃ ko c, sv = .slice ko T.ks.length c)
    obtain ⟨d0, d1, d2, d3, d4, d5, d6, d7⟩ := hBx.cells
    have hsn := txs_snoc pre ⟨(T, .slice xo T.d.ats.length xc, .slice yo T.ks.length yc), hT, hTw⟩
    simp only at d0 d1 d2 d3 d4 d5 d6 d7 hsn
    by_cases k4 : T.d.kd = 4
    · have q4 : ((T.d.kd : Int) == 4) = true := by simp [k4]
      have hown : ownTx T = T.d.tx := by unfold ownTx; rw [if_pos k4]
      rw [hown] at hsn
      have hlen : (txs pre).length + T.d.tx.length ≤ 140737488355328 := by
        have h1 := txs_len pre
        have h2 := tx_wt T
        have h3 := all_len t
        rw [hown] at h2
        have h4 : pre.length * 1048576 ≤ 1048576 * 1048576 := Nat.mul_le_mul_right _ (by omega)
        simp only at hTw
        omega
      clear k4
      gi_wp2
      refine ⟨trivial, CallsIn.inRound l (callsIn_wide.2 ?_)⟩
      refine (writeStringO w1.heap.size w1.heap.size (txs pre) T.d.tx W hI1 hI2.size hlen).mono ?_
      rintro e w5 ⟨rfl, hb5, hk5, ho5⟩
      gi_wp2
      exact ⟨ho5.from _, hk5, by rw [hsn]; exact .inr hb5, hI2.trans hk5.below⟩
    · have q4 : ((T.d.kd : Int) == 4) = false := by simp; omega
      have hown : ownTx T = [] := by unfold ownTx; rw [if_neg k4]
      rw [hown, List.append_nil] at hsn
      gi_wp2
      exact ⟨KeepsFrom.refl _ _, Keep.refl _ _, by rw [hsn]; exact hI1, hI2⟩
  case done =>
    rintro D ys W hD hys ⟨hI1, hI2⟩ hK
    have htx : txs ys = t.texts := by unfold txs; rw [hys, texts_all]
    rw [htx] at hI1
    go_wp2_with fail
    refine (stringO w1.heap.size w1.heap.size t.texts _ hI1 hI2.size).mono ?_
    rintro e w3 ⟨rfl, hb3, ho3⟩
    go_wp2_with fail
    have hK3 : w3.heap[D]? = some (.deferred (some [])) := ho3.same D _ hK rfl
    refine ⟨by simp, .inl ⟨_, _, rfl, run_takeDeferred hK3, ?_⟩⟩
    refine ⟨_, results_tmp rfl _ _ _, rfl, ?_⟩
    exact belowK_b (w := wc) (Nat.le_trans HB1.out.size hkc.below.size) _ _ _ _ hD hK3 rfl rfl |> (HB1.out.trans ((hI2.trans hb3).mono HB1.out.size)).trans
  case stop =>
    rintro D c pre W _ _ h _
    exact h.elim
end Go.Proofs.YtagkdmolgmhmdaaGreatDoor
