/- The witness's world; the close of a law's row; what the rows' premises say of the variables. -/
import Derived.Test.YtngccmlcopcghaaGreatDoorRd
import Derived.Test.YtngccmlcopcghaaGreatDoorCards
import Derived.Test.YtngccmlcopcghaaGreatDoorTie
import Derived.Stop.LaidErr
import Derived.WalkKit
import Derived.ProofKit
import Derived.OpenShut
import Derived.Deep.DeepHandedRow
import Derived.Lib.LaidTab
import Derived.Lib.LaidU8T
import Derived.Lay
import Derived.LaidSub
import Derived.MakeChecks
import Derived.Deep.DeepWitnessRowRef
set_option maxRecDepth 100000
set_option maxHeartbeats 8000000
namespace Go.Proofs.YtngccmlcopcghaaGreatDoor
open Go.ChangeShapes Go.WideShapes Go.ChangeAt Go.RowKit
theorem own : ownKnob Tryz.prog.godebug = none := by kernel_rfl
theorem laidOut : laidOutB Tryz.prog = true := by kernel_rfl
theorem Below.trodAll {H : Type} {enc : TypeId × Value -> H} {P : Program} (hl : laidOutB P = true) {W W' : World} (hb : Below W.heap.size W W') :
  ∀ {ts : List TypeId} {vs : List Value} {ds : List (DataW H)} {p : List MemPlace}, (ts.all fun t => P.readableRec t && decide (t < P.types.size)) = true -> (∀ x ∈ p, x.block < W.heap.size) -> DataW.TrodAll enc P W 0 (fun _ => true) true ts vs ds p ->
   DataW.TrodAll enc P W' 0 (fun b => decide (b < W.heap.size)) true ts vs ds p
 | [], vs, ds, p, _, _, h => by
  obtain ⟨rfl, rfl, rfl⟩ := trodAll_nil h
  exact trodAll_mk0
 | t :: ts, vs, ds, p, hr, hlt, h => by
  obtain ⟨v0, vs0, d0, ds0, p0, q0, rfl, rfl, rfl, h0, r0⟩ := trodAll_cons h
  simp only [List.all_cons, Bool.and_eq_true, decide_eq_true_eq] at hr
  exact trodAll_cons_mk (Below.trod hl hr.1.1 hr.1.2 h0 hb (fun x hx => hlt x (List.mem_append_left _ hx))) (Below.trodAll hl hb (by simpa using hr.2) (fun x hx => hlt x (List.mem_append_right _ hx)) r0)
theorem law_post {H : Type} {enc : TypeId × Value -> H} {f : Func} {s : ChangeSpec} {W W' : World} {args : Array Value} {ds gs : List (DataW H)} {before : List MemPlace} {b : Value} {t : TypeId}
  (hW : DataW.Whole enc Tryz.prog f.params.toList s.vars false W args.toList ds gs before) (hv : s.vars = []) (bel : Below W.heap.size W W')
  (ht : f.resultTypes = #[t]) (hb : Tryz.prog.underlying t = some .bool) (he : b = .bool true)
  (hr : (f.params.toList.all fun t => Tryz.prog.readableRec t && decide (t < Tryz.prog.types.size)) = true)
  (hfn : s.fn H (ds ++ gs) = { results := [.lit (.bool true)], args := ds }) :
  s.post enc Tryz.prog f false true false false W args b W' := by
 subst he
 have hW' := hW
 obtain ⟨p, q, hA0, hV, rfl, hfz, hnd⟩ := hW
 rw [hv] at hV
 obtain ⟨rfl, rfl⟩ := trodVars_none hV
 refine ⟨_, _, _, [], p, [], hW', ?_, ?_, ?_, bel.frame _, fun h => by cases h⟩
 ·rw [hfn, ht]; exact trodAll_cons_mk (shut_bool hb _) trodAll_mk0
 ·rw [hfn]; exact Below.trodAll laidOut bel hr (fun x hx => by simpa using hW'.lt x (by simpa using hx)) hA0
 ·rw [hfn, hv]; exact hV
noncomputable def laidWorld (os : Os) : World := World.laidAll Tryz.prog os Rows.jsTokensRow.laid
theorem laidWorld_os (os : Os) : (laidWorld os).os = os := World.laidAll_os _ _ _
theorem laid_met (os : Os) (args : Array Value) : laidMet Tryz.prog Rows.jsTokensRow.laid ((laidWorld os).forCall (fun _ _ => 0) ⟨#[], args, []⟩).memory :=
 laidMet_laidAll args (by kernel_rfl) (by kernel_rfl)
def renU : Go.Shelf.Ren := ⟨fun n => n, fun | 5 => 5 | 119 => 102 | 138 => 143 | 139 => 144 | n => n, fun | 3 => 3 | 4 => 4 | n => n⟩
theorem u8types : U8Types Tryz.prog renU := ⟨Tryz.underlying5, Tryz.underlying102, Tryz.underlying143, Tryz.underlying144⟩
theorem errRow (u : TypeId) (h : Tryz.prog.typeName? 3 u = some "*errors.errorString") : u = 193 :=
 typeName_ptr_named (nm := "errors.errorString") (by kernel_rfl) (by kernel_rfl) (by decide) u h
theorem one_of {W : World} (n : String) (d : DataW Unit) (hl : laidMet Tryz.prog Rows.jsTokensRow.laid W) (e : Rows.jsTokensRow.laid.filter (fun x => x.1 == n) = [(n, d)]) : laidMet Tryz.prog [(n, d)] W := by
 have h := hl.filter fun x => x.1 == n
 rwa [e] at h
theorem tab_of {W : World} (hl : laidMetH Tryz.prog Rows.jsTokensRow.laid W) (hs : W.ShapedOpen Tryz.prog) : Tab W := by
 rw [MakeChecks.laidMetH_plain _ _ _ (by kernel_rfl)] at hl
 have h1 := hl.filter fun x => x.1 == "unicode/utf8.acceptRanges" || x.1 == "unicode/utf8.first"
 have h2 : laidMet Tryz.prog [("unicode/utf8.acceptRanges", Lib.acceptData), ("unicode/utf8.first", Lib.firstData)] W := by
  have e : Rows.jsTokensRow.laid.filter (fun x => x.1 == "unicode/utf8.acceptRanges" || x.1 == "unicode/utf8.first") = [("unicode/utf8.acceptRanges", Lib.acceptData), ("unicode/utf8.first", Lib.firstData)] := by kernel_rfl
  rwa [e] at h1
 have h3 := one_of "strconv.ErrRange" Rows.laid_strconv_ErrRange hl (by kernel_rfl)
 have h4 := one_of "strconv.ErrSyntax" Rows.laid_strconv_ErrSyntax hl (by kernel_rfl)
 have h5 := one_of "strings.asciiSpace" (Lib.tabData .u8 Lib.asciiSpaceTab) hl (by kernel_rfl)
 obtain ⟨a1, s1, hv1, _⟩ := laid_sentinel h3 (g := 6) (tp := 193) (by kernel_rfl) (by kernel_rfl) Tryz.underlying65 errRow Tryz.underlying193 Tryz.underlying195 rfl rfl Tryz.underlying9 (by kernel_rfl) (by kernel_rfl)
 obtain ⟨a2, s2, hv2, _⟩ := laid_sentinel h4 (g := 5) (tp := 193) (by kernel_rfl) (by kernel_rfl) Tryz.underlying65 errRow Tryz.underlying193 Tryz.underlying195 rfl rfl Tryz.underlying9 (by kernel_rfl) (by kernel_rfl)
 have e2 := World.var?_cell (g := 5) (by kernel_rfl) hv2 0
 have e1 := World.var?_cell (g := 6) (by kernel_rfl) hv1 0
 exact ⟨utf8Tabs_of_readsT u8types ⟨by kernel_rfl, by kernel_rfl, by kernel_rfl, by kernel_rfl, by kernel_rfl, by kernel_rfl, by kernel_rfl⟩ (Lib.laidMet.reads h2 (.tail _ (.head _))) (Lib.laidMet.reads h2 (.head _)),
  Tryz.laysM143.s1_3 W hs,
  Lib.tabIs_of_head (P := Tryz.prog) (g := 0) (by kernel_rfl) (by kernel_rfl) Tryz.underlying102 Tryz.underlying5 (by kernel_rfl) (by kernel_rfl) h5,
  ⟨193, .pointer (some a2), e2⟩, ⟨193, .pointer (some a1), e1⟩⟩
end Go.Proofs.YtngccmlcopcghaaGreatDoor
