/- Proved here: for every address of four and every address of eight numbers the law HostNumbers returns true. Conditions: the package-level variables that the row lists hold what the program's text lays in them (the card ties this to the text). (Printed by lawgen.py.) -/
import Derived.Test.YtahjndignkhmoaaGreatDoorWit
import Derived.ChangeMaps5
namespace Go.Proofs.YtahjndignkhmoaaGreatDoor.numbers
open Go.ChangeShapes Go.WideShapes Go.ChangeAt Go.RowKit Go.ChangeMaps
set_option maxRecDepth 100000 in
theorem open_v6 {H : Type} {enc : TypeId × Value → H} {w : World} {r : Reach} {b0 base : Nat} {spare : Nat → Bool} {held : Bool} {v : Value} {d : DataW H} {p : List MemPlace} (hv : Value.okWide Tryz.prog w r b0 25 v) (h : DataW.Trod enc Tryz.prog w base spare held 25 v d p) :
    ∃ n0 n1 n2 n3 n4 n5 n6 n7, v = .agg (U8 n0 n1 n2 n3 n4 n5 n6 n7) ∧ p = [] ∧ ∀ n ∈ [n0, n1, n2, n3, n4, n5, n6, n7], 0 ≤ n ∧ n < 65536 := by
  have hsz : ∃ cs, v = .agg cs := by
    simp only [Value.okWide, Tryz.underlying25] at hv
    obtain ⟨cs, h1, _⟩ := hv
    exact ⟨cs, h1⟩
  obtain ⟨cs, rfl⟩ := hsz
  obtain ⟨fuel, hf⟩ := h
  obtain ⟨xs, m, _, hx, hl, hxl, hall⟩ := DataW.trod_array Tryz.underlying25 hf
  have hc8 : Tryz.prog.cellsOf 25 = 8 := by kernel_rfl
  have hc1 : Tryz.prog.cellsOf 24 = 1 := by kernel_rfl
  rw [hc8] at hl
  rw [hc1] at hall
  obtain ⟨a0, a1, a2, a3, a4, a5, a6, a7, hcs⟩ := list8 hl
  obtain ⟨x0, x1, x2, x3, x4, x5, x6, x7, rfl⟩ := list8 hxl
  have hcs2 : cs = #[a0, a1, a2, a3, a4, a5, a6, a7] := by
    have : cs.toList = [a0, a1, a2, a3, a4, a5, a6, a7] := hcs
    exact Array.ext' (by rw [this])
  subst hcs2
  simp only [Prod.mk.injEq] at hx
  obtain ⟨n0, e0, q0, w0⟩ := DataW.trod_int Tryz.underlying24 (show DataW.trod enc Tryz.prog w base spare held m 24 [a0] = some x0 from hall 0 (by decide))
  obtain rfl : a0 = .int .u16 n0 := by simpa using e0
  obtain ⟨n1, e1, q1, w1⟩ := DataW.trod_int Tryz.underlying24 (show DataW.trod enc Tryz.prog w base spare held m 24 [a1] = some x1 from hall 1 (by decide))
  obtain rfl : a1 = .int .u16 n1 := by simpa using e1
  obtain ⟨n2, e2, q2, w2⟩ := DataW.trod_int Tryz.underlying24 (show DataW.trod enc Tryz.prog w base spare held m 24 [a2] = some x2 from hall 2 (by decide))
  obtain rfl : a2 = .int .u16 n2 := by simpa using e2
  obtain ⟨n3, e3, q3, w3⟩ := DataW.trod_int Tryz.underlying24 (show DataW.trod enc Tryz.prog w base spare held m 24 [a3] = some x3 from hall 3 (by decide))
  obtain rfl : a3 = .int .u16 n3 := by simpa using e3
  obtain ⟨n4, e4, q4, w4⟩ := DataW.trod_int Tryz.underlying24 (show DataW.trod enc Tryz.prog w base spare held m 24 [a4] = some x4 from hall 4 (by decide))
  obtain rfl : a4 = .int .u16 n4 := by simpa using e4
  obtain ⟨n5, e5, q5, w5⟩ := DataW.trod_int Tryz.underlying24 (show DataW.trod enc Tryz.prog w base spare held m 24 [a5] = some x5 from hall 5 (by decide))
  obtain rfl : a5 = .int .u16 n5 := by simpa using e5
  obtain ⟨n6, e6, q6, w6⟩ := DataW.trod_int Tryz.underlying24 (show DataW.trod enc Tryz.prog w base spare held m 24 [a6] = some x6 from hall 6 (by decide))
  obtain rfl : a6 = .int .u16 n6 := by simpa using e6
  obtain ⟨n7, e7, q7, w7⟩ := DataW.trod_int Tryz.underlying24 (show DataW.trod enc Tryz.prog w base spare held m 24 [a7] = some x7 from hall 7 (by decide))
  obtain rfl : a7 = .int .u16 n7 := by simpa using e7
  have hp : p = [] := by
    rw [hx.2]
    simp [q0, q1, q2, q3, q4, q5, q6, q7]
  refine ⟨n0, n1, n2, n3, n4, n5, n6, n7, rfl, hp, ?_⟩
  have hw : ∀ n : Int, (Lit.int .u16 n).wf = true → 0 ≤ n ∧ n < 65536 := fun n h => by
    rw [Lit.wf, Bool.and_eq_true, decide_eq_true_eq, decide_eq_true_eq] at h
    have h1 : IntKind.u16.min = 0 := rfl
    have h2 : IntKind.u16.max = 65535 := rfl
    omega
  intro n hn
  simp only [List.mem_cons, List.not_mem_nil, or_false] at hn
  rcases hn with rfl | rfl | rfl | rfl | rfl | rfl | rfl | rfl
  · exact hw _ w0
  · exact hw _ w1
  · exact hw _ w2
  · exact hw _ w3
  · exact hw _ w4
  · exact hw _ w5
  · exact hw _ w6
  · exact hw _ w7

set_option maxRecDepth 100000 in
theorem contract (H : Type) (enc : TypeId × Value → H) (W : World) (base : Nat) (args : Array Value) (ds gs : List (DataW H)) (before : List MemPlace)
    (hval : ∀ (j : Nat) t v, Tryz.f5.params[j]? = some t → args[j]? = some v → Value.okWide Tryz.prog W .any base t v)
    (hW : DataW.Whole enc Tryz.prog Tryz.f5.params.toList Rows.hostNumbersSpec.vars false W args.toList ds gs before)
    (ht : Tab2 W) :
    Calls Tryz.prog 5 args W fun e W' => ∃ v, e = .returned v ∧ Rows.hostNumbersSpec.post enc Tryz.prog Tryz.f5 false true false false W args v W' := by
  have hW' := hW
  obtain ⟨p, q, hA0, hV, rfl, hfz, hnd⟩ := hW
  have hA : DataW.TrodAll enc Tryz.prog W 0 (fun _ => true) true Tryz.f5.params.toList args.toList ds p := hA0
  rw [Tryz.params5] at hA hval
  obtain ⟨v0, vs0, d0, ds0, p0, q0, hargs, rfl, rfl, h0, r0⟩ := trodAll_cons hA
  obtain ⟨v1, vs1, d1, ds1, p1, q1, rfl, rfl, rfl, h1, r1⟩ := trodAll_cons r0
  obtain ⟨rfl, rfl, rfl⟩ := trodAll_nil r1
  obtain rfl : args = #[v0, v1] := by cases args; simp_all
  obtain ⟨rfl, rfl⟩ := trodVars_none hV
  obtain ⟨n, rfl, rfl, rfl, hn⟩ := open_int Tryz.underlying23 (hval 0 23 v0 rfl rfl) h0
  obtain ⟨n0, n1, n2, n3, n4, n5, n6, n7, rfl, rfl, hv⟩ := open_v6 (hval 1 25 v1 rfl rfl) h1
  rw [Lit.wf, Bool.and_eq_true, decide_eq_true_eq, decide_eq_true_eq] at hn
  have hk1 : IntKind.u32.min = 0 := rfl
  have hk2 : IntKind.u32.max = 4294967295 := rfl
  have hn0 : 0 ≤ n := by omega
  have hn1 : n < 4294967296 := by omega
  refine (law_numbers n n0 n1 n2 n3 n4 n5 n6 n7 W hn0 hn1 hv ht).mono fun e W' ⟨he, hb⟩ => ?_
  subst he
  exact ⟨_, rfl, law_post hW' rfl hb rfl Tryz.underlying4 rfl (by kernel_rfl) rfl⟩

theorem reads (os : Os) {H : Type} (enc : TypeId × Value → H) : ∃ places, DataW.whole enc Tryz.prog ((laidWorld os).forCall (fun _ _ => 0) ⟨#[], #[Value.int .u32 0, .agg (U8 0 0 0 0 0 0 0 0)], []⟩).memory Tryz.f5.params.toList Rows.hostNumbersSpec.vars false (#[Value.int .u32 0, .agg (U8 0 0 0 0 0 0 0 0)] : Array Value).toList 8 = some ([.lit (.int .u32 0), .agg [.lit (.int .u16 0), .lit (.int .u16 0), .lit (.int .u16 0), .lit (.int .u16 0), .lit (.int .u16 0), .lit (.int .u16 0), .lit (.int .u16 0), .lit (.int .u16 0)]], [], places) :=
  ⟨[], by kernel_rfl⟩

set_option maxRecDepth 100000 in
theorem lifted (os : Os) (started : os.Started) (H : Type) (enc : TypeId × Value → H) (F : Stop.Interp) :
    ReturnsInHanded {} Tryz.checked os 5 .any ((OpenSpec.ofChange Rows.hostNumbersSpec).preRow enc Tryz.prog Tryz.f5 Rows.hostNumbersRow.domain false Rows.hostNumbersRow.laid) (((OpenSpec.ofChange Rows.hostNumbersSpec).at F).post enc Tryz.prog Tryz.f5 false true false false) := by
  obtain ⟨places, hx⟩ := reads os enc
  refine returnsInHanded_of_row (C := Tryz.checked) (s := OpenSpec.ofChange Rows.hostNumbersSpec) own started (by kernel_rfl) Tryz.func5
    (witness_row_atRef (enc := enc) (C := Tryz.checked) false (laidWorld os) #[Value.int .u32 0, .agg (U8 0 0 0 0 0 0 0 0)] (laidWorld_os os) (by kernel_rfl) (by kernel_rfl) (by kernel_rfl)
      (OpenSpec.preRow_of_cond 8 hx (by kernel_rfl) (fun k hk => by cases hk) (by kernel_rfl) (laid_met os _))) ?_
  intro W base args ds gs before hval hW _ hcond _ hlaid hshape _
  exact contract H enc W base args ds gs before hval hW (tab_of hlaid hshape)

theorem said : Rows.HostNumbersSaid :=
  OpenClaim.holds_of_cond 5 Tryz.f5 rfl rfl rfl rfl rfl rfl rfl ⟨rfl, rfl, rfl, rfl, rfl⟩ rfl rfl rfl rfl rfl (by kernel_rfl) Tryz.func5 (by kernel_rfl)
    (of_decide_eq_true (by kernel_rfl)) (by unfold Func.isWrapper; first | (rw [if_pos (by decide +kernel)]; kernel_rfl) | (rw [if_neg (by decide +kernel)]; exact ⟨rfl, rfl⟩))
    (fun os started H enc _ F => by rw [OpenClaim.pre_eq_preRow]; exact lifted os started H enc F)

theorem plain (f : FuncId) (fn : Func) (hf : Tryz.pinned.checked.prog.funcNamed "lacuna/lacunalaw11.HostNumbers" = some f) (hfn : Tryz.pinned.checked.prog.funcs[f]? = some fn) :
    true = Tryz.pinned.checked.prog.looks [] ∧ ∀ (j : Nat) t, fn.params[j]? = some t → Tryz.pinned.checked.prog.wantsStandIn t = false := by
  obtain rfl : f = 5 := Option.some.inj ((show Tryz.prog.funcNamed "lacuna/lacunalaw11.HostNumbers" = some 5 by kernel_rfl).symm.trans hf) |>.symm
  obtain rfl : fn = Tryz.f5 := (Option.some.inj (Tryz.func5.symm.trans hfn)).symm
  refine ⟨by kernel_rfl, fun j t ht => ?_⟩
  have hall : (Tryz.f5.params.toList.all fun t => !Tryz.prog.wantsStandIn t) = true := by kernel_rfl
  have := List.all_eq_true.1 hall t (by rw [Array.mem_toList_iff]; exact Array.mem_of_getElem? ht)
  exact (show Tryz.prog.wantsStandIn t = false by simpa using this)

theorem card : Rows.HostNumbersCardSaid :=
  Claim7.holds_tied_plain_at .later [] _ _ _ _ said (fun _ h => by cases h) (by kernel_rfl) (fun _ h => by cases h) hostNumbers_row_tie rfl ⟨rfl, rfl⟩ (by kernel_rfl) rfl plain (by kernel_rfl)
end Go.Proofs.YtahjndignkhmoaaGreatDoor.numbers
