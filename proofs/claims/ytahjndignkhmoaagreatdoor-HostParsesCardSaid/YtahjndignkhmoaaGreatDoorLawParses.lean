/- Proved here: for every text s, of a special scheme or another, and every host h the law HostParses returns true, and what was handed in reads behind the call as it did before. Conditions: the package-level variables that the row lists hold what the program's text lays in them (the card ties this to the text). (Printed by lawgen.py.) -/
import Derived.Test.YtahjndignkhmoaaGreatDoorWit
import Derived.ChangeMaps5
import Derived.Test.YtahjndignkhmoaaGreatDoorLawsD
namespace Go.Proofs.YtahjndignkhmoaaGreatDoor.parses
open Go.ChangeShapes Go.WideShapes Go.ChangeAt Go.RowKit Go.ChangeMaps
set_option maxRecDepth 100000 in
theorem trod_v6 {H : Type} {enc : TypeId × Value → H} {w : World} {base fuel : Nat} {spare : Nat → Bool} {held : Bool} {x : DataW H × List MemPlace} {a0 a1 a2 a3 a4 a5 a6 a7 : Value} (hf : DataW.trod enc Tryz.prog w base spare held fuel 25 [a0, a1, a2, a3, a4, a5, a6, a7] = some x) :
    ∃ n0 n1 n2 n3 n4 n5 n6 n7, a0 = U16 n0 ∧ a1 = U16 n1 ∧ a2 = U16 n2 ∧ a3 = U16 n3 ∧ a4 = U16 n4 ∧ a5 = U16 n5 ∧ a6 = U16 n6 ∧ a7 = U16 n7 ∧ x.2 = [] ∧ ∀ n ∈ [n0, n1, n2, n3, n4, n5, n6, n7], 0 ≤ n ∧ n < 65536 := by
  obtain ⟨xs, m, _, hx, hl, hxl, hall⟩ := DataW.trod_array Tryz.underlying25 hf
  have hc1 : Tryz.prog.cellsOf 24 = 1 := by kernel_rfl
  rw [hc1] at hall
  obtain ⟨x0, x1, x2, x3, x4, x5, x6, x7, rfl⟩ := list8 hxl
  obtain ⟨n0, e0, q0, w0⟩ := DataW.trod_int Tryz.underlying24 (show DataW.trod enc Tryz.prog w base spare held m 24 [a0] = some x0 from hall 0 (by decide))
  obtain rfl : a0 = .int .u16 n0 := by simpa using e0
  obtain ⟨n1, e1, q1, w1⟩ := DataW.trod_int Tryz.underlying24 (show DataW.trod enc Tryz.prog w base spare held m 24 [a1] = some x1 from hall 1 (by decide))
  obtain rfl : a1 = .int .u16 n1 := by simpa using e1
  obtain ⟨n2, e2, q2, w2⟩ := DataW.trod_int Tryz.underlying24 (show DataW.trod enc Tryz.prog w base spare held m 24 [a2] = some x2 from hall 2 (by decide))
  obtain rfl : a2 = .int .u16 n2 := by simpa using e2
  obtain ⟨n3, e3, q3, w3⟩ := DataW.trod_int Tryz.underlying24 (show DataW.trod enc Tryz.prog w base spare held m 24 [a3] = some x3 from hall 3 (by decide))
  obtain rfl : a3 = .int .u16 n3 := by simpa using e3
  obtain ⟨n4, e4, q4, w4⟩ := DataW.trod_int Tryz.underlying24 (show DataW.trod enc Tryz.prog w base spare held m 24 [a4] = some x4 from hall 4 (by decide))
  obtain rfl : a4 = .int .u16 n4 := by simpa using e4
  obtain ⟨n5, e5, q5, w5⟩ := DataW.trod_int Tryz.underlying24 (show DataW.trod enc Tryz.prog w base spare held m 24 [a5] = some x5 from hall 5 (by decide))
  obtain rfl : a5 = .int .u16 n5 := by simpa using e5
  obtain ⟨n6, e6, q6, w6⟩ := DataW.trod_int Tryz.underlying24 (show DataW.trod enc Tryz.prog w base spare held m 24 [a6] = some x6 from hall 6 (by decide))
  obtain rfl : a6 = .int .u16 n6 := by simpa using e6
  obtain ⟨n7, e7, q7, w7⟩ := DataW.trod_int Tryz.underlying24 (show DataW.trod enc Tryz.prog w base spare held m 24 [a7] = some x7 from hall 7 (by decide))
  obtain rfl : a7 = .int .u16 n7 := by simpa using e7
  have hp : x.2 = [] := by
    rw [hx]
    simp [q0, q1, q2, q3, q4, q5, q6, q7]
  refine ⟨n0, n1, n2, n3, n4, n5, n6, n7, rfl, rfl, rfl, rfl, rfl, rfl, rfl, rfl, hp, ?_⟩
  have hw : ∀ n : Int, (Lit.int .u16 n).wf = true → 0 ≤ n ∧ n < 65536 := fun n h => by
    rw [Lit.wf, Bool.and_eq_true, decide_eq_true_eq, decide_eq_true_eq] at h
    have h1 : IntKind.u16.min = 0 := rfl
    have h2 : IntKind.u16.max = 65535 := rfl
    omega
  intro n hn
  simp only [List.mem_cons, List.not_mem_nil, or_false] at hn
  rcases hn with rfl | rfl | rfl | rfl | rfl | rfl | rfl | rfl
  · exact hw _ w0
  · exact hw _ w1
  · exact hw _ w2
  · exact hw _ w3
  · exact hw _ w4
  · exact hw _ w5
  · exact hw _ w6
  · exact hw _ w7
theorem host_fields : ∃ f0 f1 f2 f3 : Field, Tryz.prog.underlying 27 = some (.struct #[f0, f1, f2, f3]) ∧ f0.offset = 0 ∧ f1.offset = 1 ∧ f2.offset = 2 ∧ f3.offset = 3 ∧ f0.type = 22 ∧ f1.type = 9 ∧ f2.type = 23 ∧ f3.type = 25 :=
  ⟨_, _, _, _, Tryz.underlying27, rfl, rfl, rfl, rfl, rfl, rfl, rfl, rfl⟩
theorem list11 {l : List Value} (h : l.length = 11) : ∃ a0 a1 a2 a3 a4 a5 a6 a7 a8 a9 a10, l = [a0, a1, a2, a3, a4, a5, a6, a7, a8, a9, a10] := by
  match l, h with
  | [a0, a1, a2, a3, a4, a5, a6, a7, a8, a9, a10], _ => exact ⟨a0, a1, a2, a3, a4, a5, a6, a7, a8, a9, a10, rfl⟩
set_option maxRecDepth 100000 in
theorem open_host {H : Type} {enc : TypeId × Value → H} {w : World} {r : Reach} {b0 base : Nat} {spare : Nat → Bool} {held : Bool} {v : Value} {d : DataW H} {p : List MemPlace} (hv : Value.okWide Tryz.prog w r b0 27 v) (h : DataW.Trod enc Tryz.prog w base spare held 27 v d p) :
    ∃ k s n n0 n1 n2 n3 n4 n5 n6 n7, v = H11 k s n n0 n1 n2 n3 n4 n5 n6 n7 ∧ p = [] ∧ s.length ≤ maxLen ∧ 0 ≤ n ∧ n < 4294967296 ∧ ∀ n ∈ [n0, n1, n2, n3, n4, n5, n6, n7], 0 ≤ n ∧ n < 65536 := by
  obtain ⟨cs, rfl, hsz⟩ := okWide_struct Tryz.underlying27 hv
  have hc11 : Tryz.prog.cellsOf 27 = 11 := by kernel_rfl
  rw [hc11] at hsz
  obtain ⟨f0, f1, f2, f3, he, o0, o1, o2, o3, t0, t1, t2, t3⟩ := host_fields
  obtain ⟨fuel, hf⟩ := h
  obtain ⟨a0, a1, a2, a3, a4, a5, a6, a7, a8, a9, a10, hcs⟩ := list11 (l := cs.toList) (by simpa using hsz)
  have hcs2 : cs = #[a0, a1, a2, a3, a4, a5, a6, a7, a8, a9, a10] := Array.ext' (by rw [hcs])
  subst hcs2
  obtain ⟨xs, m, _, hx, hl, hxl, hfs⟩ := DataW.trod_struct he hf
  have c0 : Tryz.prog.cellsOf 22 = 1 := by kernel_rfl
  have c1 : Tryz.prog.cellsOf 9 = 1 := by kernel_rfl
  have c2 : Tryz.prog.cellsOf 23 = 1 := by kernel_rfl
  have c3 : Tryz.prog.cellsOf 25 = 8 := by kernel_rfl
  match xs, hxl with
  | [y0, y1, y2, y3], _ =>
    have g0 := hfs 0 f0 rfl
    have g1 := hfs 1 f1 rfl
    have g2 := hfs 2 f2 rfl
    have g3 := hfs 3 f3 rfl
    rw [o0, t0, c0] at g0
    rw [o1, t1, c1] at g1
    rw [o2, t2, c2] at g2
    rw [o3, t3, c3] at g3
    obtain ⟨k, e0, z0, w0⟩ := DataW.trod_int Tryz.underlying22 (show DataW.trod enc Tryz.prog w base spare held m 22 [a0] = some y0 from g0)
    obtain ⟨s, e1, z1, w1⟩ := DataW.trod_string Tryz.underlying9 (show DataW.trod enc Tryz.prog w base spare held m 9 [a1] = some y1 from g1)
    obtain ⟨n, e2, z2, w2⟩ := DataW.trod_int Tryz.underlying23 (show DataW.trod enc Tryz.prog w base spare held m 23 [a2] = some y2 from g2)
    obtain ⟨n0, n1, n2, n3, n4, n5, n6, n7, rfl, rfl, rfl, rfl, rfl, rfl, rfl, rfl, z3, w3⟩ := trod_v6 (show DataW.trod enc Tryz.prog w base spare held m 25 [a3, a4, a5, a6, a7, a8, a9, a10] = some y3 from g3)
    obtain rfl : a0 = .int .u8 k := by simpa using e0
    obtain rfl : a1 = .string s := by simpa using e1
    obtain rfl : a2 = .int .u32 n := by simpa using e2
    have hn : 0 ≤ n ∧ n < 4294967296 := by
      rw [Lit.wf, Bool.and_eq_true, decide_eq_true_eq, decide_eq_true_eq] at w2
      have h1 : IntKind.u32.min = 0 := rfl
      have h2 : IntKind.u32.max = 4294967295 := rfl
      omega
    have hp : p = [] := by
      have := congrArg Prod.snd hx
      simpa [z0, z1, z2, z3] using this
    exact ⟨k, s.data.toList, n, n0, n1, n2, n3, n4, n5, n6, n7, rfl, hp, by rw [← Lib.size_eq]; exact w1, hn.1, hn.2, w3⟩

set_option maxRecDepth 100000 in
theorem contract (H : Type) (enc : TypeId × Value → H) (W : World) (base : Nat) (args : Array Value) (ds gs : List (DataW H)) (before : List MemPlace)
    (hval : ∀ (j : Nat) t v, Tryz.f3.params[j]? = some t → args[j]? = some v → Value.okWide Tryz.prog W .any base t v)
    (hW : DataW.Whole enc Tryz.prog Tryz.f3.params.toList Rows.hostParsesSpec.vars false W args.toList ds gs before)
    (ht : Tab2 W) :
    Calls Tryz.prog 3 args W fun e W' => ∃ v, e = .returned v ∧ Rows.hostParsesSpec.post enc Tryz.prog Tryz.f3 false true false false W args v W' := by
  have hW' := hW
  obtain ⟨p, q, hA0, hV, rfl, hfz, hnd⟩ := hW
  have hA : DataW.TrodAll enc Tryz.prog W 0 (fun _ => true) true Tryz.f3.params.toList args.toList ds p := hA0
  rw [Tryz.params3] at hA hval
  obtain ⟨v0, vs0, d0, ds0, p0, q0, hargs, rfl, rfl, h0, r0⟩ := trodAll_cons hA
  obtain ⟨v1, vs1, d1, ds1, p1, q1, rfl, rfl, rfl, h1, r1⟩ := trodAll_cons r0
  obtain ⟨v2, vs2, d2, ds2, p2, q2, rfl, rfl, rfl, h2, r2⟩ := trodAll_cons r1
  obtain ⟨rfl, rfl, rfl⟩ := trodAll_nil r2
  obtain rfl : args = #[v0, v1, v2] := by cases args; simp_all
  obtain ⟨rfl, rfl⟩ := trodVars_none hV
  obtain ⟨s, rfl, rfl, rfl, hs⟩ := open_string Tryz.underlying9 (hval 0 9 v0 rfl rfl) h0
  obtain ⟨b, rfl, rfl, rfl⟩ := open_bool Tryz.underlying4 (hval 1 4 v1 rfl rfl) h1
  obtain ⟨k, u, n, n0, n1, n2, n3, n4, n5, n6, n7, rfl, rfl, hu, hn0, hn1, hv⟩ := open_host (hval 2 27 v2 rfl rfl) h2
  refine (law_parses s.data.toList b k u n n0 n1 n2 n3 n4 n5 n6 n7 W (by simpa [maxLen] using hs) (by simpa [maxLen] using hu) hn0 hn1 hv ht).mono fun e W' ⟨he, hb⟩ => ?_
  subst he
  exact ⟨_, rfl, law_post hW' rfl hb rfl Tryz.underlying4 rfl (by kernel_rfl) rfl⟩

theorem reads (os : Os) {H : Type} (enc : TypeId × Value → H) : ∃ places, DataW.whole enc Tryz.prog ((laidWorld os).forCall (fun _ _ => 0) ⟨#[], #[Value.string .empty, Value.bool false, H11 0 [] 0 0 0 0 0 0 0 0 0], []⟩).memory Tryz.f3.params.toList Rows.hostParsesSpec.vars false (#[Value.string .empty, Value.bool false, H11 0 [] 0 0 0 0 0 0 0 0 0] : Array Value).toList 8 = some ([.lit (.string []), .lit (.bool false), .agg [.lit (.int .u8 0), .lit (.string []), .lit (.int .u32 0), .agg [.lit (.int .u16 0), .lit (.int .u16 0), .lit (.int .u16 0), .lit (.int .u16 0), .lit (.int .u16 0), .lit (.int .u16 0), .lit (.int .u16 0), .lit (.int .u16 0)]]], [], places) :=
  ⟨[], by kernel_rfl⟩

set_option maxRecDepth 100000 in
theorem lifted (os : Os) (started : os.Started) (H : Type) (enc : TypeId × Value → H) (F : Stop.Interp) :
    ReturnsInHanded {} Tryz.checked os 3 .any ((OpenSpec.ofChange Rows.hostParsesSpec).preRow enc Tryz.prog Tryz.f3 Rows.hostParsesRow.domain false Rows.hostParsesRow.laid) (((OpenSpec.ofChange Rows.hostParsesSpec).at F).post enc Tryz.prog Tryz.f3 false true false false) := by
  obtain ⟨places, hx⟩ := reads os enc
  refine returnsInHanded_of_row (C := Tryz.checked) (s := OpenSpec.ofChange Rows.hostParsesSpec) own started (by kernel_rfl) Tryz.func3
    (witness_row_atRef (enc := enc) (C := Tryz.checked) false (laidWorld os) #[Value.string .empty, Value.bool false, H11 0 [] 0 0 0 0 0 0 0 0 0] (laidWorld_os os) (by kernel_rfl) (by kernel_rfl) (by kernel_rfl)
      (OpenSpec.preRow_of_cond 8 hx (by kernel_rfl) (fun k hk => by cases hk) (by kernel_rfl) (laid_met os _))) ?_
  intro W base args ds gs before hval hW _ hcond _ hlaid hshape _
  exact contract H enc W base args ds gs before hval hW (tab_of hlaid hshape)

theorem said : Rows.HostParsesSaid :=
  OpenClaim.holds_of_cond 3 Tryz.f3 rfl rfl rfl rfl rfl rfl rfl ⟨rfl, rfl, rfl, rfl, rfl⟩ rfl rfl rfl rfl rfl (by kernel_rfl) Tryz.func3 (by kernel_rfl)
    (of_decide_eq_true (by kernel_rfl)) (by unfold Func.isWrapper; first | (rw [if_pos (by decide +kernel)]; kernel_rfl) | (rw [if_neg (by decide +kernel)]; exact ⟨rfl, rfl⟩))
    (fun os started H enc _ F => by rw [OpenClaim.pre_eq_preRow]; exact lifted os started H enc F)

theorem plain (f : FuncId) (fn : Func) (hf : Tryz.pinned.checked.prog.funcNamed "lacuna/lacunalaw11.HostParses" = some f) (hfn : Tryz.pinned.checked.prog.funcs[f]? = some fn) :
    true = Tryz.pinned.checked.prog.looks [] ∧ ∀ (j : Nat) t, fn.params[j]? = some t → Tryz.pinned.checked.prog.wantsStandIn t = false := by
  obtain rfl : f = 3 := Option.some.inj ((show Tryz.prog.funcNamed "lacuna/lacunalaw11.HostParses" = some 3 by kernel_rfl).symm.trans hf) |>.symm
  obtain rfl : fn = Tryz.f3 := (Option.some.inj (Tryz.func3.symm.trans hfn)).symm
  refine ⟨by kernel_rfl, fun j t ht => ?_⟩
  have hall : (Tryz.f3.params.toList.all fun t => !Tryz.prog.wantsStandIn t) = true := by kernel_rfl
  have := List.all_eq_true.1 hall t (by rw [Array.mem_toList_iff]; exact Array.mem_of_getElem? ht)
  exact (show Tryz.prog.wantsStandIn t = false by simpa using this)

theorem card : Rows.HostParsesCardSaid :=
  Claim7.holds_tied_plain_at .later [] _ _ _ _ said (fun _ h => by cases h) (by kernel_rfl) (fun _ h => by cases h) hostParses_row_tie rfl ⟨rfl, rfl⟩ (by kernel_rfl) rfl plain (by kernel_rfl)
end Go.Proofs.YtahjndignkhmoaaGreatDoor.parses
