/- The witness's world; the close of a law's row; what the rows' premises say of the variables. -/
import Derived.Test.YtojgcangnkjmjaaGreatDoorPd
import Derived.Test.YtojgcangnkjmjaaGreatDoorShelfV
import Derived.Test.YtojgcangnkjmjaaGreatDoorCards
import Derived.Test.YtojgcangnkjmjaaGreatDoorTie
import Derived.WalkKit
import Derived.ProofKit
import Derived.OpenShut
import Derived.Deep.DeepHandedRow
import Derived.Lib.LaidTab
import Derived.Lib.LaidU8T
import Derived.Lay
import Derived.LaidSub
import Derived.MakeChecks
import Derived.Deep.DeepWitnessRowRef
namespace Go.Proofs.YtojgcangnkjmjaaGreatDoor
open Go.ChangeShapes Go.WideShapes Go.ChangeAt Go.RowKit

theorem own : ownKnob Tryz.prog.godebug = none := by kernel_rfl
theorem laidOut : laidOutB Tryz.prog = true := by kernel_rfl

/-- every argument reads behind the call as it did, where nothing below the heap's old end has turned -/
theorem Below.trodAll {H : Type} {enc : TypeId × Value → H} {P : Program} (hl : laidOutB P = true) {W W' : World} (hb : Below W.heap.size W W') :
    ∀ {ts : List TypeId} {vs : List Value} {ds : List (DataW H)} {p : List MemPlace}, (ts.all fun t => P.readableRec t && decide (t < P.types.size)) = true → (∀ x ∈ p, x.block < W.heap.size) → DataW.TrodAll enc P W 0 (fun _ => true) true ts vs ds p →
      DataW.TrodAll enc P W' 0 (fun b => decide (b < W.heap.size)) true ts vs ds p
  | [], vs, ds, p, _, _, h => by
    obtain ⟨rfl, rfl, rfl⟩ := trodAll_nil h
    exact trodAll_mk0
  | t :: ts, vs, ds, p, hr, hlt, h => by
    obtain ⟨v0, vs0, d0, ds0, p0, q0, rfl, rfl, rfl, h0, r0⟩ := trodAll_cons h
    simp only [List.all_cons, Bool.and_eq_true, decide_eq_true_eq] at hr
    exact trodAll_cons_mk (Below.trod hl hr.1.1 hr.1.2 h0 hb (fun x hx => hlt x (List.mem_append_left _ hx))) (Below.trodAll hl hb (by simpa using hr.2) (fun x hx => hlt x (List.mem_append_right _ hx)) r0)

/-- A LAW's POST: true came back, and nothing below the heap's old end has turned. -/
theorem law_post {H : Type} {enc : TypeId × Value → H} {f : Func} {s : ChangeSpec} {W W' : World} {args : Array Value} {ds gs : List (DataW H)} {before : List MemPlace} {b : Value} {t : TypeId}
    (hW : DataW.Whole enc Tryz.prog f.params.toList s.vars false W args.toList ds gs before) (hv : s.vars = []) (bel : Below W.heap.size W W')
    (ht : f.resultTypes = #[t]) (hb : Tryz.prog.underlying t = some .bool) (he : b = .bool true)
    (hr : (f.params.toList.all fun t => Tryz.prog.readableRec t && decide (t < Tryz.prog.types.size)) = true)
    (hfn : s.fn H (ds ++ gs) = { results := [.lit (.bool true)], args := ds }) :
    s.post enc Tryz.prog f false true false false W args b W' := by
  subst he
  have hW' := hW
  obtain ⟨p, q, hA0, hV, rfl, hfz, hnd⟩ := hW
  rw [hv] at hV
  obtain ⟨rfl, rfl⟩ := trodVars_none hV
  refine ⟨_, _, _, [], p, [], hW', ?_, ?_, ?_, bel.frame _, fun h => by cases h⟩
  · rw [hfn, ht]; exact trodAll_cons_mk (shut_bool hb _) trodAll_mk0
  · rw [hfn]; exact Below.trodAll laidOut bel hr (fun x hx => by simpa using hW'.lt x (by simpa using hx)) hA0
  · rw [hfn, hv]; exact hV

/-- a world that holds what the listed variables' initialisers lay -/
noncomputable def laidWorld (os : Os) : World := World.laidAll Tryz.prog os Rows.cssQuotedRow.laid
theorem laidWorld_os (os : Os) : (laidWorld os).os = os := World.laidAll_os _ _ _
set_option maxRecDepth 100000 in
theorem laid_met (os : Os) (args : Array Value) : laidMet Tryz.prog Rows.cssQuotedRow.laid ((laidWorld os).forCall (fun _ _ => 0) ⟨#[], args, []⟩).memory :=
  laidMet_laidAll args (by kernel_rfl) (by kernel_rfl)

/-! ### what the rows' premises say of the variables -/
theorem tab_of {W : World} (hl : laidMetH Tryz.prog Rows.cssQuotedRow.laid W) (hs : W.ShapedOpen Tryz.prog) : Tab W := by
  rw [MakeChecks.laidMetH_plain _ _ _ (by kernel_rfl)] at hl
  have h1 := hl.filter fun x => x.1 == "unicode/utf8.acceptRanges" || x.1 == "unicode/utf8.first"
  have h2 : laidMet Tryz.prog [("unicode/utf8.acceptRanges", Lib.acceptData), ("unicode/utf8.first", Lib.firstData)] W := by
    have e : Rows.cssQuotedRow.laid.filter (fun x => x.1 == "unicode/utf8.acceptRanges" || x.1 == "unicode/utf8.first") = [("unicode/utf8.acceptRanges", Lib.acceptData), ("unicode/utf8.first", Lib.firstData)] := by kernel_rfl
    rwa [e] at h1
  exact ⟨utf8Tabs_of_readsT (U8Types.of196 Tryz.lays196) ⟨by kernel_rfl, by kernel_rfl, by kernel_rfl, by kernel_rfl, by kernel_rfl, by kernel_rfl, by kernel_rfl⟩ (Lib.laidMet.reads h2 (.tail _ (.head _))) (Lib.laidMet.reads h2 (.head _)), Tryz.laysM143.s1_3 W hs⟩
end Go.Proofs.YtojgcangnkjmjaaGreatDoor
