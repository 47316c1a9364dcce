/- next. -/
import Derived.Test.YtngccmlcopcghaaGreatDoorWp
import Derived.Test.YtngccmlcopcghaaGreatDoorVa
import Derived.Deep.Cut
import Derived.Deep.CutRange
import Derived.Deep.CutBlock
namespace Go.Proofs.YtngccmlcopcghaaGreatDoor
open Go.RowKit

/-- what next leaves -/
def NxP (F : List UInt8) (B b a : Nat) (st : Jsp.St) (ln : Bool) (w : World) (e : Ending) (w' : World) : Prop := match Jsp.next st (F.drop a) with
  | .ok x k st2 => Lf (tokV (x.kind : Int) x.t x.v) w B b F (a + k) st2 ln e w' ∧ x.kind < 11
  | .no er o => Pk er (a + o) (ErrX st (F.drop a)) B w e w'
theorem NxP.ok {F : List UInt8} {B b a : Nat} {st : Jsp.St} {ln : Bool} {w : World} {e : Ending} {w' : World} {x : Jsp.Tk} {k : Nat} {st2 : Jsp.St} (hn : Jsp.next st (F.drop a) = .ok x k st2) (h : Lf (tokV (x.kind : Int) x.t x.v) w B b F (a + k) st2 ln e w') (hk : x.kind < 11) : NxP F B b a st ln w e w' := by unfold NxP; rw [hn]; exact ⟨h, hk⟩
theorem NxP.no {F : List UInt8} {B b a : Nat} {st : Jsp.St} {ln : Bool} {w : World} {e : Ending} {w' : World} {er o : Nat} (hn : Jsp.next st (F.drop a) = .no er o) (h : Pk er (a + o) (ErrX st (F.drop a)) B w e w') : NxP F B b a st ln w e w' := by unfold NxP; rw [hn]; exact h

/-- of words behind which a value may come -/
def txV : List UInt8 := [97, 119, 97, 105, 116, 32, 99, 97, 115, 101, 32, 100, 101, 108, 101, 116, 101, 32, 100, 111, 32, 101, 108, 115, 101, 32, 105, 110, 32, 105, 110, 115, 116, 97, 110, 99, 101, 111, 102, 32, 110, 101, 119, 32, 111, 102, 32, 114, 101, 116, 117, 114, 110, 32, 116, 104, 114, 111, 119, 32, 116, 121, 112, 101, 111, 102, 32, 118, 111, 105, 100, 32, 121, 105, 101, 108, 100]
theorem fldV : Lib.fields txV = Jsp.aheadV := by decide
theorem tok_at {W : World} {M : Nat} {x y z : Value} (h : W.heap[M]? = some (.cells #[x, y, z] 29 (0, 0))) : W.cell? ⟨M, 0, none⟩ = some x ∧ W.cell? ⟨M, 1, none⟩ = some y ∧ W.cell? ⟨M, 2, none⟩ = some z := by
  refine ⟨?_, ?_, ?_⟩ <;> (rw [Lib.cell_of_heap h]; rfl)
set_option maxRecDepth 100000 in
set_option maxHeartbeats 4000000 in
theorem jNext (F : List UInt8) (B b a : Nat) (st : Jsp.St) (ln : Bool) (w : World) (h : Lx w B b F a st ln) (h200 : st.stk.length ≤ 200) (ha : a < F.length) (hv : Cssp.valid (F.drop a) = true) (hl : F.length ≤ 4190000) :
    Calls Tryz.prog 20 #[.pointer (some ⟨b, 0, none⟩)] w (NxP F B b a st ln w) := by
  have hB := h.leB
  obtain ⟨n1, n2, n3⟩ := tok_new h
  unfold tokC at n1 n2 n3
  have hP0 : ∀ W, Lx W B b F a st ln → Hid (Calls Tryz.prog 35 #[.pointer (some ⟨b, 0, none⟩), .int .i64 0] W (Fresh (.int .i32 ((Jsp.pt (F.drop a) : Nat) : Int)) W)) := fun W hW => by
    refine (jPoint F B b a 0 st ln W hW (by omega) (by omega) (by omega)).mono fun e w' ⟨r, _, h2, h3⟩ => ?_
    rw [h2 hv] at h3
    exact h3
  have hP1 : ∀ W, Lx W B b F a st ln → Hid (Calls Tryz.prog 35 #[.pointer (some ⟨b, 0, none⟩), .int .i64 1] W fun e w' => ∃ r : Nat, (Jsp.pt (F.drop a) = 46 → r = Jsp.pt ((F.drop a).drop 1)) ∧ Fresh (.int .i32 (r : Int)) W e w') := fun W hW => by
    refine (jPoint F B b a 1 st ln W hW (by omega) (by omega) (by omega)).mono fun e w' ⟨r, _, h2, h3⟩ => ⟨r, fun h46 => ?_, h3⟩
    rw [List.drop_drop]
    apply h2
    obtain ⟨T, hT, hvT⟩ := cons_of_pt (c := 46) hv (fun e => by
      have := congrArg List.length e
      rw [List.length_drop, List.length_nil] at this
      omega) h46 (by decide)
    rw [← List.drop_drop, hT]
    exact hvT
  have hpl := Jsp.pt_le (F.drop a)
  have HP0 := hide hP0
  have HP1 := hide hP1
  have HX := hide n1
  have HK := hide n2
  have HR := hide n3
  have HV := hide hv
  clear h n1 n2 n3 hP0 hP1 hv
  go_enter Tryz.func20, Tryz.ntmps20
  go_wp2_with fail
  generalize (w.alloc (.cells #[.int .u8 0, S [], S []] 29)) = W1 at HX HK HR ⊢
  refine (HP0.out _ HX.out).out.mono ?_
  rintro e w1 ⟨rfl, hb1⟩
  have HX1 := hide (HX.out.below hb1)
  have HK1 := hide (HK.out.fresh hB hb1)
  have HR1 := hide ((hb1.block _ (heap_lt HR.out)).trans HR.out)
  clear hb1
  go_wp2_with fail
  refine (HP1.out _ HX1.out).out.mono ?_
  rintro e w2 ⟨r2, hr2, rfl, hb2⟩
  have HX2 := hide (HX1.out.below hb2)
  have HK2 := hide (HK1.out.fresh hB hb2)
  have HR2 := hide ((hb2.block _ (heap_lt HR1.out)).trans HR1.out)
  have HR46 := hide hr2
  clear hb2 hr2 HX HK HR HX1 HK1 HR1 HP0 HP1
  obtain ⟨r, hr⟩ : ∃ r, Jsp.pt (F.drop a) = r := ⟨_, rfl⟩
  rw [hr] at hpl
  rw [hr]
  have HRr := hide hr
  clear hr
  go_upto_block 0 with fail
  go_cut [5] from 13 to 63 (fun s5 wx => ∃ f : Nat, s5 = .func (.func f) #[.pointer (some ⟨b, 0, none⟩)] #[] ∧ Hid (TkOk F B b a st ln f) ∧ Hid (Lx wx B b F a st ln) ∧ Hid (Kp B w wx) ∧ Hid (wx.heap[w.heap.size]? = some (.cells tokC 29 (0, 0))))
  case first =>
    have hmf : ∀ (fn : Fn) (first cap : Array Value) (w : World), (Instr.makeFunc fn first cap).run Tryz.prog w = .ok (.func fn first cap) w := fun _ _ _ _ => rfl
    cases hbg : Jsp.begins r with
    | true =>
      have hBg := fun W => hide (jBegins r W hpl)
      rw [show Jsp.begins r = true from hbg] at hBg
      have HB1 := hide hbg
      clear hbg
      go_wp2_with fail
      refine (hBg _).out.mono ?_
      rintro e w3 ⟨rfl, rfl⟩
      go_wp2_with fail
      go_meet
      exact ⟨_, rfl, tkWord F B b a st ln ha HV.out hl (by rw [HRr.out]; exact HB1.out), HX2.out, HK2.out, HR2.out⟩
    | false =>
      by_cases hc : r = 35
      · have hn : True := trivial
        have hbg : Jsp.begins r = false := by rw [hc]; decide
        have hdg : Jsp.digit r = false := by rw [hc]; decide
        have hBg := fun W => hide (jBegins r W hpl)
        rw [show Jsp.begins r = false from hbg] at hBg
        have hDg := fun W => hide (jDigit r W)
        rw [show Jsp.digit r = false from hdg] at hDg
        have q35 : ((r : Int) == 35) = true := by rw [hc]; rfl
        have q46 : ((r : Int) == 46) = false := by rw [beq_eq_false_iff_ne]; omega
        have q34 : ((r : Int) == 34) = false := by rw [beq_eq_false_iff_ne]; omega
        have q39 : ((r : Int) == 39) = false := by rw [beq_eq_false_iff_ne]; omega
        have q96 : ((r : Int) == 96) = false := by rw [beq_eq_false_iff_ne]; omega
        have q125 : ((r : Int) == 125) = false := by rw [beq_eq_false_iff_ne]; omega
        have q47 : ((r : Int) == 47) = false := by rw [beq_eq_false_iff_ne]; omega
        have HC := hide hc
        clear hbg hdg hc
        go_wp2_with fail
        refine (hBg _).out.mono ?_
        rintro e w3 ⟨rfl, rfl⟩
        go_wp2_with fail
        go_meet
        exact ⟨_, rfl, tkPrivate F B b a st ln ha HV.out hl (by rw [HRr.out, HC.out]), HX2.out, HK2.out, HR2.out⟩
      have q35 : ((r : Int) == 35) = false := by rw [beq_eq_false_iff_ne]; omega
      have HN35 := hide hc
      clear hc
      cases hdg : Jsp.digit r with
      | true =>
        have hBg := fun W => hide (jBegins r W hpl)
        rw [show Jsp.begins r = false from hbg] at hBg
        have hDg := fun W => hide (jDigit r W)
        rw [show Jsp.digit r = true from hdg] at hDg
        have HB1 := hide hbg
        have HD1 := hide hdg
        clear hbg hdg
        go_wp2_with fail
        refine (hBg _).out.mono ?_
        rintro e w3 ⟨rfl, rfl⟩
        go_wp2_with fail
        refine (hDg _).out.mono ?_
        rintro e w3 ⟨rfl, rfl⟩
        go_wp2_with fail
        go_meet
        exact ⟨_, rfl, tkNumber F B b a st ln ha HV.out hl (by rw [HRr.out]; exact HB1.out) (by rw [HRr.out]; exact HN35.out) (.inl (by rw [HRr.out]; exact HD1.out)), HX2.out, HK2.out, HR2.out⟩
      | false =>
        have HB1 := hide hbg
        have HD1 := hide hdg
        by_cases hc46 : r = 46
        · have hc := hc46
          clear hbg hdg hc46
          have hr2 := HR46.out (by rw [HRr.out]; exact hc)
          have hD2 := fun W => hide (jDigit r2 W)
          have HR2E := hide hr2
          clear hr2
          have hbg : Jsp.begins r = false := by rw [hc]; decide
          have hdg : Jsp.digit r = false := by rw [hc]; decide
          have hBg := fun W => hide (jBegins r W hpl)
          rw [show Jsp.begins r = false from hbg] at hBg
          have hDg := fun W => hide (jDigit r W)
          rw [show Jsp.digit r = false from hdg] at hDg
          skip
          have q46 : ((r : Int) == 46) = true := by rw [hc]; rfl
          have q34 : ((r : Int) == 34) = false := by rw [beq_eq_false_iff_ne]; omega
          have q39 : ((r : Int) == 39) = false := by rw [beq_eq_false_iff_ne]; omega
          have q96 : ((r : Int) == 96) = false := by rw [beq_eq_false_iff_ne]; omega
          have q125 : ((r : Int) == 125) = false := by rw [beq_eq_false_iff_ne]; omega
          have q47 : ((r : Int) == 47) = false := by rw [beq_eq_false_iff_ne]; omega
          have HC := hide hc
          clear hbg hdg hc
          cases hd2 : Jsp.digit r2 with
          | true =>
            rw [hd2] at hD2
            have HD2 := hide hd2
            clear hd2
            go_wp2_with fail
            refine (hBg _).out.mono ?_
            rintro e w3 ⟨rfl, rfl⟩
            go_wp2_with fail
            refine (hDg _).out.mono ?_
            rintro e w3 ⟨rfl, rfl⟩
            go_wp2_with fail
            refine (hD2 _).out.mono ?_
            rintro e w3 ⟨rfl, rfl⟩
            go_wp2_with fail
            go_meet
            exact ⟨_, rfl, tkNumber F B b a st ln ha HV.out hl (by rw [HRr.out]; exact HB1.out) (by rw [HRr.out]; exact HN35.out) (.inr ⟨by rw [HRr.out]; exact HC.out, by rw [← HR2E.out]; exact HD2.out⟩), HX2.out, HK2.out, HR2.out⟩
          | false =>
            rw [hd2] at hD2
            have HD2 := hide hd2
            clear hd2
            have hl1 : Jsp.begins (Jsp.pt (F.drop a)) = false := by rw [HRr.out, HC.out]; decide
            have hl2 : Jsp.pt (F.drop a) ≠ 35 := by rw [HRr.out, HC.out]; decide
            have hl3 : ¬ (Jsp.digit (Jsp.pt (F.drop a)) = true ∨ (Jsp.pt (F.drop a) = 46 ∧ Jsp.digit (Jsp.pt ((F.drop a).drop 1)) = true)) := by
                          rintro (h | ⟨_, h⟩)
                          · rw [HRr.out, HD1.out] at h; cases h
                          · rw [← HR2E.out, HD2.out] at h; cases h
            have hl4 : ¬ (Jsp.pt (F.drop a) = 34 ∨ Jsp.pt (F.drop a) = 39) := by rw [HRr.out, HC.out]; decide
            have hl5 : ¬ (Jsp.pt (F.drop a) = 96 ∨ (Jsp.pt (F.drop a) = 125 ∧ Jsp.top st = 36)) := by rw [HRr.out, HC.out]; rintro (h | ⟨h, _⟩) <;> exact absurd h (by decide)
            have hl6 : ¬ (Jsp.pt (F.drop a) = 47 ∧ st.goal = true) := by rw [HRr.out, HC.out]; rintro ⟨h, _⟩; exact absurd h (by decide)
            have HLM := hide (tkMark F B b a st ln h200 ha HV.out hl hl1 hl2 hl3 hl4 hl5 hl6)
            clear hl1 hl2 hl3 hl4 hl5 hl6
            go_wp2_with fail
            refine (hBg _).out.mono ?_
            rintro e w3 ⟨rfl, rfl⟩
            go_wp2_with fail
            refine (hDg _).out.mono ?_
            rintro e w3 ⟨rfl, rfl⟩
            go_wp2_with fail
            refine (hD2 _).out.mono ?_
            rintro e w3 ⟨rfl, rfl⟩
            go_wp2_with fail
            go_meet
            exact ⟨_, rfl, HLM.out, HX2.out, HK2.out, HR2.out⟩
        have HN46 := hide hc46
        by_cases hc : r = 34
        · clear hbg hdg
          have hbg : Jsp.begins r = false := by rw [hc]; decide
          have hdg : Jsp.digit r = false := by rw [hc]; decide
          have hBg := fun W => hide (jBegins r W hpl)
          rw [show Jsp.begins r = false from hbg] at hBg
          have hDg := fun W => hide (jDigit r W)
          rw [show Jsp.digit r = false from hdg] at hDg
          have q35 : ((r : Int) == 35) = false := by rw [beq_eq_false_iff_ne]; omega
          have q46 : ((r : Int) == 46) = false := by rw [beq_eq_false_iff_ne]; omega
          have q34 : ((r : Int) == 34) = true := by rw [hc]; rfl
          have q39 : ((r : Int) == 39) = false := by rw [beq_eq_false_iff_ne]; omega
          have q96 : ((r : Int) == 96) = false := by rw [beq_eq_false_iff_ne]; omega
          have q125 : ((r : Int) == 125) = false := by rw [beq_eq_false_iff_ne]; omega
          have q47 : ((r : Int) == 47) = false := by rw [beq_eq_false_iff_ne]; omega
          have HC := hide hc
          clear hbg hdg hc
          go_wp2_with fail
          refine (hBg _).out.mono ?_
          rintro e w3 ⟨rfl, rfl⟩
          go_wp2_with fail
          refine (hDg _).out.mono ?_
          rintro e w3 ⟨rfl, rfl⟩
          go_wp2_with fail
          go_meet
          exact ⟨_, rfl, tkText F B b a st ln ha HV.out hl (by rw [HRr.out]; exact .inl HC.out), HX2.out, HK2.out, HR2.out⟩
        have HN34 := hide hc
        have hnc34 := hc
        clear hc
        by_cases hc : r = 39
        · clear hbg hdg
          have hbg : Jsp.begins r = false := by rw [hc]; decide
          have hdg : Jsp.digit r = false := by rw [hc]; decide
          have hBg := fun W => hide (jBegins r W hpl)
          rw [show Jsp.begins r = false from hbg] at hBg
          have hDg := fun W => hide (jDigit r W)
          rw [show Jsp.digit r = false from hdg] at hDg
          have q35 : ((r : Int) == 35) = false := by rw [beq_eq_false_iff_ne]; omega
          have q46 : ((r : Int) == 46) = false := by rw [beq_eq_false_iff_ne]; omega
          have q34 : ((r : Int) == 34) = false := by rw [beq_eq_false_iff_ne]; omega
          have q39 : ((r : Int) == 39) = true := by rw [hc]; rfl
          have q96 : ((r : Int) == 96) = false := by rw [beq_eq_false_iff_ne]; omega
          have q125 : ((r : Int) == 125) = false := by rw [beq_eq_false_iff_ne]; omega
          have q47 : ((r : Int) == 47) = false := by rw [beq_eq_false_iff_ne]; omega
          have HC := hide hc
          clear hbg hdg hc
          go_wp2_with fail
          refine (hBg _).out.mono ?_
          rintro e w3 ⟨rfl, rfl⟩
          go_wp2_with fail
          refine (hDg _).out.mono ?_
          rintro e w3 ⟨rfl, rfl⟩
          go_wp2_with fail
          go_meet
          exact ⟨_, rfl, tkText F B b a st ln ha HV.out hl (by rw [HRr.out]; exact .inr HC.out), HX2.out, HK2.out, HR2.out⟩
        have HN39 := hide hc
        have hnc39 := hc
        clear hc
        by_cases hc : r = 96
        · clear hbg hdg
          have hbg : Jsp.begins r = false := by rw [hc]; decide
          have hdg : Jsp.digit r = false := by rw [hc]; decide
          have hBg := fun W => hide (jBegins r W hpl)
          rw [show Jsp.begins r = false from hbg] at hBg
          have hDg := fun W => hide (jDigit r W)
          rw [show Jsp.digit r = false from hdg] at hDg
          have q35 : ((r : Int) == 35) = false := by rw [beq_eq_false_iff_ne]; omega
          have q46 : ((r : Int) == 46) = false := by rw [beq_eq_false_iff_ne]; omega
          have q34 : ((r : Int) == 34) = false := by rw [beq_eq_false_iff_ne]; omega
          have q39 : ((r : Int) == 39) = false := by rw [beq_eq_false_iff_ne]; omega
          have q96 : ((r : Int) == 96) = true := by rw [hc]; rfl
          have q125 : ((r : Int) == 125) = false := by rw [beq_eq_false_iff_ne]; omega
          have q47 : ((r : Int) == 47) = false := by rw [beq_eq_false_iff_ne]; omega
          have HC := hide hc
          clear hbg hdg hc
          go_wp2_with fail
          refine (hBg _).out.mono ?_
          rintro e w3 ⟨rfl, rfl⟩
          go_wp2_with fail
          refine (hDg _).out.mono ?_
          rintro e w3 ⟨rfl, rfl⟩
          go_wp2_with fail
          go_meet
          exact ⟨_, rfl, tkTmplA F B b a st ln h200 ha HV.out hl (by rw [HRr.out]; exact HC.out), HX2.out, HK2.out, HR2.out⟩
        have HN96 := hide hc
        have hnc96 := hc
        clear hc
        by_cases hc : r = 125
        · clear hbg hdg
          have hbg : Jsp.begins r = false := by rw [hc]; decide
          have hdg : Jsp.digit r = false := by rw [hc]; decide
          have hBg := fun W => hide (jBegins r W hpl)
          rw [show Jsp.begins r = false from hbg] at hBg
          have hDg := fun W => hide (jDigit r W)
          rw [show Jsp.digit r = false from hdg] at hDg
          have q35 : ((r : Int) == 35) = false := by rw [beq_eq_false_iff_ne]; omega
          have q46 : ((r : Int) == 46) = false := by rw [beq_eq_false_iff_ne]; omega
          have q34 : ((r : Int) == 34) = false := by rw [beq_eq_false_iff_ne]; omega
          have q39 : ((r : Int) == 39) = false := by rw [beq_eq_false_iff_ne]; omega
          have q96 : ((r : Int) == 96) = false := by rw [beq_eq_false_iff_ne]; omega
          have q125 : ((r : Int) == 125) = true := by rw [hc]; rfl
          have q47 : ((r : Int) == 47) = false := by rw [beq_eq_false_iff_ne]; omega
          have HC := hide hc
          clear hbg hdg hc
          have hTp := fun W hW => hide (jTop F B b a st ln W hW (by omega))
          by_cases h36 : Jsp.top st = 36
          · rw [h36] at hTp
            have HTP := hide h36
            clear h36
            go_wp2_with fail
            refine (hBg _).out.mono ?_
            rintro e w3 ⟨rfl, rfl⟩
            go_wp2_with fail
            refine (hDg _).out.mono ?_
            rintro e w3 ⟨rfl, rfl⟩
            go_wp2_with fail
            refine (hTp _ HX2.out).out.mono ?_
            rintro e w3 ⟨rfl, nt, rfl⟩
            go_wp2_with fail
            go_meet
            exact ⟨_, rfl, tkTmplB F B b a st ln h200 ha HV.out hl (by rw [HRr.out]; exact HC.out) HTP.out, HX2.out.drewN nt, HK2.out.drewN nt, HR2.out⟩
          · have q36 : (((Jsp.top st).toNat : Int) == 36) = false := by
              rw [beq_eq_false_iff_ne]
              intro e
              exact h36 (UInt8.toNat_inj.1 (by have : (36 : UInt8).toNat = 36 := rfl; omega))
            have HTP := hide h36
            clear h36
            have hl1 : Jsp.begins (Jsp.pt (F.drop a)) = false := by rw [HRr.out, HC.out]; decide
            have hl2 : Jsp.pt (F.drop a) ≠ 35 := by rw [HRr.out, HC.out]; decide
            have hl3 : ¬ (Jsp.digit (Jsp.pt (F.drop a)) = true ∨ (Jsp.pt (F.drop a) = 46 ∧ Jsp.digit (Jsp.pt ((F.drop a).drop 1)) = true)) := by rw [HRr.out, HC.out]; exact no_dig (by decide) (by decide)
            have hl4 : ¬ (Jsp.pt (F.drop a) = 34 ∨ Jsp.pt (F.drop a) = 39) := by rw [HRr.out, HC.out]; decide
            have hl5 : ¬ (Jsp.pt (F.drop a) = 96 ∨ (Jsp.pt (F.drop a) = 125 ∧ Jsp.top st = 36)) := by rintro (h | ⟨_, h⟩) <;> first | exact HTP.out h | (rw [HRr.out, HC.out] at h; exact absurd h (by decide))
            have hl6 : ¬ (Jsp.pt (F.drop a) = 47 ∧ st.goal = true) := by rw [HRr.out, HC.out]; rintro ⟨h, _⟩; exact absurd h (by decide)
            have HLM := hide (tkMark F B b a st ln h200 ha HV.out hl hl1 hl2 hl3 hl4 hl5 hl6)
            clear hl1 hl2 hl3 hl4 hl5 hl6
            go_wp2_with fail
            refine (hBg _).out.mono ?_
            rintro e w3 ⟨rfl, rfl⟩
            go_wp2_with fail
            refine (hDg _).out.mono ?_
            rintro e w3 ⟨rfl, rfl⟩
            go_wp2_with fail
            refine (hTp _ HX2.out).out.mono ?_
            rintro e w3 ⟨rfl, nt, rfl⟩
            go_wp2_with fail
            go_meet
            exact ⟨_, rfl, HLM.out, HX2.out.drewN nt, HK2.out.drewN nt, HR2.out⟩
        have HN125 := hide hc
        have hnc125 := hc
        clear hc
        by_cases hc : r = 47
        · clear hbg hdg
          have hbg : Jsp.begins r = false := by rw [hc]; decide
          have hdg : Jsp.digit r = false := by rw [hc]; decide
          have hBg := fun W => hide (jBegins r W hpl)
          rw [show Jsp.begins r = false from hbg] at hBg
          have hDg := fun W => hide (jDigit r W)
          rw [show Jsp.digit r = false from hdg] at hDg
          have q35 : ((r : Int) == 35) = false := by rw [beq_eq_false_iff_ne]; omega
          have q46 : ((r : Int) == 46) = false := by rw [beq_eq_false_iff_ne]; omega
          have q34 : ((r : Int) == 34) = false := by rw [beq_eq_false_iff_ne]; omega
          have q39 : ((r : Int) == 39) = false := by rw [beq_eq_false_iff_ne]; omega
          have q96 : ((r : Int) == 96) = false := by rw [beq_eq_false_iff_ne]; omega
          have q125 : ((r : Int) == 125) = false := by rw [beq_eq_false_iff_ne]; omega
          have q47 : ((r : Int) == 47) = true := by rw [hc]; rfl
          have HC := hide hc
          clear hbg hdg hc
          obtain ⟨_, _, _, hx⟩ := HX2.out
          obtain ⟨-, -, -, c3, -⟩ := hx.cells
          clear hx
          cases hg : st.goal with
          | true =>
            rw [hg] at c3
            have HG := hide hg
            clear hg
            go_wp2_with fail
            refine (hBg _).out.mono ?_
            rintro e w3 ⟨rfl, rfl⟩
            go_wp2_with fail
            refine (hDg _).out.mono ?_
            rintro e w3 ⟨rfl, rfl⟩
            go_wp2_with fail
            go_meet
            exact ⟨_, rfl, tkRegex F B b a st ln ha HV.out hl (by rw [HRr.out]; exact HC.out) HG.out, HX2.out, HK2.out, HR2.out⟩
          | false =>
            rw [hg] at c3
            have HG := hide hg
            clear hg
            have hl1 : Jsp.begins (Jsp.pt (F.drop a)) = false := by rw [HRr.out, HC.out]; decide
            have hl2 : Jsp.pt (F.drop a) ≠ 35 := by rw [HRr.out, HC.out]; decide
            have hl3 : ¬ (Jsp.digit (Jsp.pt (F.drop a)) = true ∨ (Jsp.pt (F.drop a) = 46 ∧ Jsp.digit (Jsp.pt ((F.drop a).drop 1)) = true)) := by rw [HRr.out, HC.out]; exact no_dig (by decide) (by decide)
            have hl4 : ¬ (Jsp.pt (F.drop a) = 34 ∨ Jsp.pt (F.drop a) = 39) := by rw [HRr.out, HC.out]; decide
            have hl5 : ¬ (Jsp.pt (F.drop a) = 96 ∨ (Jsp.pt (F.drop a) = 125 ∧ Jsp.top st = 36)) := by rw [HRr.out, HC.out]; rintro (h | ⟨h, _⟩) <;> exact absurd h (by decide)
            have hl6 : ¬ (Jsp.pt (F.drop a) = 47 ∧ st.goal = true) := by rintro ⟨_, h⟩; rw [HG.out] at h; cases h
            have HLM := hide (tkMark F B b a st ln h200 ha HV.out hl hl1 hl2 hl3 hl4 hl5 hl6)
            clear hl1 hl2 hl3 hl4 hl5 hl6
            go_wp2_with fail
            refine (hBg _).out.mono ?_
            rintro e w3 ⟨rfl, rfl⟩
            go_wp2_with fail
            refine (hDg _).out.mono ?_
            rintro e w3 ⟨rfl, rfl⟩
            go_wp2_with fail
            go_meet
            exact ⟨_, rfl, HLM.out, HX2.out, HK2.out, HR2.out⟩
        have hnc46 := hc46
        have hnc35 := HN35.out
        have hBg := fun W => hide (jBegins r W hpl)
        rw [show Jsp.begins r = false from hbg] at hBg
        have hDg := fun W => hide (jDigit r W)
        rw [show Jsp.digit r = false from hdg] at hDg
        have q35 : ((r : Int) == 35) = false := by rw [beq_eq_false_iff_ne]; omega
        have q46 : ((r : Int) == 46) = false := by rw [beq_eq_false_iff_ne]; omega
        have q34 : ((r : Int) == 34) = false := by rw [beq_eq_false_iff_ne]; omega
        have q39 : ((r : Int) == 39) = false := by rw [beq_eq_false_iff_ne]; omega
        have q96 : ((r : Int) == 96) = false := by rw [beq_eq_false_iff_ne]; omega
        have q125 : ((r : Int) == 125) = false := by rw [beq_eq_false_iff_ne]; omega
        have q47 : ((r : Int) == 47) = false := by rw [beq_eq_false_iff_ne]; omega
        have hl3 : ¬ (Jsp.digit (Jsp.pt (F.drop a)) = true ∨ (Jsp.pt (F.drop a) = 46 ∧ Jsp.digit (Jsp.pt ((F.drop a).drop 1)) = true)) := by rw [HRr.out]; exact no_dig hdg hc46
        have hl4 : ¬ (Jsp.pt (F.drop a) = 34 ∨ Jsp.pt (F.drop a) = 39) := by rw [HRr.out]; omega
        have hl5 : ¬ (Jsp.pt (F.drop a) = 96 ∨ (Jsp.pt (F.drop a) = 125 ∧ Jsp.top st = 36)) := by rw [HRr.out]; rintro (h | ⟨h, _⟩); exact hnc96 h; exact hnc125 h
        have hl6 : ¬ (Jsp.pt (F.drop a) = 47 ∧ st.goal = true) := by rw [HRr.out]; rintro ⟨h, _⟩; exact hc h
        have HLM := hide (tkMark F B b a st ln h200 ha HV.out hl (by rw [HRr.out]; exact HB1.out) (by rw [HRr.out]; exact HN35.out) hl3 hl4 hl5 hl6)
        clear hl3 hl4 hl5 hl6 hbg hdg hnc34 hnc39 hnc96 hnc125 hc hc46 hnc46 hnc35
        go_wp2_with fail
        refine (hBg _).out.mono ?_
        rintro e w3 ⟨rfl, rfl⟩
        go_wp2_with fail
        refine (hDg _).out.mono ?_
        rintro e w3 ⟨rfl, rfl⟩
        go_wp2_with fail
        go_meet
        exact ⟨_, rfl, HLM.out, HX2.out, HK2.out, HR2.out⟩
  case rest =>
    obtain ⟨f, rfl, htk, hx3, hk3, hr3⟩ := hcut
    have hen : ∀ (args : Array Value) (W : World), (callFunc f args).run Tryz.prog W = .ok (.enter f args) W := htk.out.1
    have HTK := hide (htk.out.2 _ hx3.out)
    clear htk hx3 HX2 HK2 HR2 HV HR46 HRr hpl
    go_wp2_with fail
    refine HTK.out.mono ?_
    rintro e w3 (⟨K, t, v, k, st3, rfl, hx4, hk4, hK, hnx⟩ | ⟨er, o, x, rfl, hk4, hnx, hex⟩)
    case inr =>
      go_wp2_with fail
      exact ⟨rfl, NxP.no hnx ⟨x, rfl, hex, hk3.out.trans hk4⟩⟩
    case inl =>
      have HNX := hide hnx
      have HKK := hide hK
      have hr4 := hk4.kept _ _ _ _ hr3.out (by decide) (by decide)
      have hal := (Below.refl w3.heap.size w3).alloc (Nat.le_refl _) (.cells #[.int .u8 (K : Int), S t, S v] 29)
      have HX5 := hide (hx4.below hal)
      have HM5 := hide (heap_alloc_last w3 (.cells #[.int .u8 (K : Int), S t, S v] 29))
      have HR5 := hide ((hal.block _ (heap_lt hr4)).trans hr4)
      have HK5 := hide (hk3.out.trans (hk4.trans (Kp.of_below hx4.leB hal)))
      have hML := hide (show w.heap.size < w3.heap.size from heap_lt hr4)
      clear hnx hK hr4 hal hk3 hr3 hx4 hk4 HTK hen
      go_upto_region 19 with (fail)
      generalize w3.alloc (.cells #[.int .u8 (K : Int), S t, S v] 29) = W5 at HX5 HM5 HR5 HK5 ⊢
      generalize w3.heap.size = M at HM5 HX5 HR5 HK5 hML ⊢
      obtain ⟨u0, u1, u2⟩ := tok_at HM5.out
      obtain ⟨G, hG⟩ : ∃ G, (aft st3 K t).goal = G := ⟨_, rfl⟩
      have HGG := hide hG
      have HLX := hide (show Lx W5 B b F (a + k) st3 ln from HX5.out)
      clear hG
      go_upto_block 1 with fail
      go_cut [] from 68 to 89 (fun wx => Hid (Lx wx B b F (a + k) { st3 with goal := G } ln) ∧ Hid (Kp B w wx) ∧ Hid (wx.heap[M]? = some (.cells #[.int .u8 (K : Int), S t, S v] 29 (0, 0))) ∧ Hid (wx.heap[w.heap.size]? = some (.cells tokC 29 (0, 0))))
      case first =>
        have htab := HX5.out
        obtain ⟨ao, cap, lo, hx⟩ := HX5.out
        obtain ⟨c0, c1, -, c3, -⟩ := hx.cells
        have f3 := hx.frozen 3
        have HXV := hide hx
        have hneM : M ≠ b := fun e => by
          have := hx.at'
          rw [← e, HM5.out] at this
          injection this with this
          injection this with _ this _
          exact absurd this (by decide)
        have hneR : w.heap.size ≠ b := fun e => by
          have := hx.at'
          rw [← e, HR5.out] at this
          injection this with this
          injection this with _ this _
          exact absurd this (by decide)
        have HNE := hide (And.intro hneM hneR)
        clear hx htab hneM hneR
        by_cases h3 : K = 3
        · have q3 : ((K : Int) == 3) = true := by rw [h3]; rfl
          have HG3 := hide (show st3.goal = G by rw [← HGG.out]; unfold aft; rw [if_pos h3])
          clear h3
          go_wp2_with fail
          go_meet
          refine ⟨?_, HK5.out, HM5.out, HR5.out⟩
          show Lx W5 B b F (a + k) _ ln
          rw [← HG3.out]
          exact HLX.out
        · have q3 : ((K : Int) == 3) = false := by rw [beq_eq_false_iff_ne]; omega
          by_cases h1 : K = 1
          · have q1 : ((K : Int) == 1) = true := by rw [h1]; rfl
            have HG1 := hide (show Jsp.wordsOf Jsp.aheadV t = G by rw [← HGG.out]; unfold aft; rw [if_neg h3, if_pos h1])
            clear h3 h1
            have hS : ∀ W, Below W5.heap.size W5 W → W.cell? ⟨M, 1, none⟩ = some (S t) ∧ W.cell? ⟨b, 3, none⟩ = some (.bool st3.goal) ∧ W.frozen? ⟨b, 3, none⟩ = false := fun W hW => ⟨cell_below u1 hW, cell_below c3 hW, (HXV.out.below hW).frozen 3⟩
            have HT := fun W (hW : Below W5.heap.size W5 W) => hide (HXV.out.below hW).tab
            have hF := fun W (hT : Tab W) => hide (sFields txV Jsp.aheadV W hT (by decide) (by decide) fldV)
            have hC := fun g W hc => hide (sContains Jsp.aheadV t g W (by decide) hc)
            go_wp2_with fail
            have hSet : ∀ W, Below W5.heap.size W5 W → ∀ x, (W.setCell ⟨b, 3, none⟩ x).cell? ⟨M, 1, none⟩ = some (S t) := fun W hW x => (World.cell?_of_block (a := ⟨M, 1, none⟩) (Below.heap_setCell W ⟨b, 3, none⟩ x M HNE.out.1)).trans (hS W hW).1
            go_region_held3 (fun W => W.cell? ⟨M, 1, none⟩ = some (S t)) (first | exact u1 | exact (hS _ (((Below.refl W5.heap.size W5).drew).trans hb)).1 | exact (hS _ ((((Below.refl W5.heap.size W5).drew).trans hb).drew)).1 | exact hSet _ (((Below.refl W5.heap.size W5).drew).trans hb) _ | exact hSet _ ((((Below.refl W5.heap.size W5).drew).trans hb).drew) _) ((first | (go_at_call 47; refine ((hF _ (HT _ ((Below.refl W5.heap.size W5).drew)).out).out).mono ?_; rintro e w1 ⟨rfl, hb, hcells⟩; have x3 := (hS _ (((Below.refl W5.heap.size W5).drew).trans hb)).2.1; have xf := (hS _ (((Below.refl W5.heap.size W5).drew).trans hb)).2.2) | (go_at_call 46; refine ((hC _ _ hcells).out).mono ?_; rintro e w2 ⟨rfl, rfl⟩)))
            all_goals
              have hbl := ((Below.refl W5.heap.size W5).drew).trans hb
              have hx1 := hide (HXV.out.below hbl)
              have hk1 := hide (HK5.out.fresh hB hbl)
              have hm1 := hide ((hbl.block M (heap_lt HM5.out)).trans HM5.out)
              have hr1 := hide ((hbl.block w.heap.size (heap_lt HR5.out)).trans HR5.out)
              clear hbl hb hcells x3 xf
              go_wp2_with fail
              go_meet
              refine ⟨?_, hx1.out.kp hk1.out 3 _, (Below.heap_setCell _ _ _ _ HNE.out.1).trans hm1.out, (Below.heap_setCell _ _ _ _ HNE.out.2).trans hr1.out⟩
              have hg : G = decide (t ∈ Jsp.aheadV) := by rw [← HG1.out]; unfold Jsp.wordsOf; simp
              rw [hg]
              exact (hx1.out.set3 _).lx
          · have q1 : ((K : Int) == 1) = false := by rw [beq_eq_false_iff_ne]; omega
            by_cases h7 : K = 7
            · have q7 : ((K : Int) == 7) = true := by rw [h7]; rfl
              have HGX := hide (show true = G by rw [← HGG.out]; unfold aft; rw [if_neg h3, if_neg h1, h7]; rfl)
              clear h3 h1 h7
              go_wp2_with fail
              go_meet
              refine ⟨?_, HXV.out.kp HK5.out 3 _, (Below.heap_setCell _ _ _ _ HNE.out.1).trans HM5.out, (Below.heap_setCell _ _ _ _ HNE.out.2).trans HR5.out⟩
              rw [← HGX.out]
              exact (HXV.out.set3 true).lx
            · have q7 : ((K : Int) == 7) = false := by rw [beq_eq_false_iff_ne]; omega
              by_cases h8 : K = 8
              · have q8 : ((K : Int) == 8) = true := by rw [h8]; rfl
                have HGX := hide (show true = G by rw [← HGG.out]; unfold aft; rw [if_neg h3, if_neg h1, h8]; rfl)
                clear h3 h1 h7 h8
                go_wp2_with fail
                go_meet
                refine ⟨?_, HXV.out.kp HK5.out 3 _, (Below.heap_setCell _ _ _ _ HNE.out.1).trans HM5.out, (Below.heap_setCell _ _ _ _ HNE.out.2).trans HR5.out⟩
                rw [← HGX.out]
                exact (HXV.out.set3 true).lx
              · have q8 : ((K : Int) == 8) = false := by rw [beq_eq_false_iff_ne]; omega
                have HGX := hide (show false = G by
                  rw [← HGG.out]; unfold aft; rw [if_neg h3, if_neg h1]
                  show false = (K == 7 || K == 8)
                  rw [beq_eq_false_iff_ne.2 h7, beq_eq_false_iff_ne.2 h8]; rfl)
                clear h3 h1 h7 h8
                go_wp2_with fail
                go_meet
                refine ⟨?_, HXV.out.kp HK5.out 3 _, (Below.heap_setCell _ _ _ _ HNE.out.1).trans HM5.out, (Below.heap_setCell _ _ _ _ HNE.out.2).trans HR5.out⟩
                rw [← HGX.out]
                exact (HXV.out.set3 false).lx
      case rest =>
        obtain ⟨hx6, hk6, hm6, hr6⟩ := hcut
        clear u0 u1 u2 HX5 HK5 HM5 HR5 HLX
        obtain ⟨u0, u1, u2⟩ := tok_at hm6.out
        obtain ⟨_, _, _, hxt⟩ := hx6.out
        have hSh := hide (jShut K HKK.out t v _ hxt.tab)
        clear hxt
        go_wp2_with fail
        refine hSh.out.mono ?_
        rintro e w7 ⟨vb, rfl, hb7⟩
        have HX7 := hide (hx6.out.below hb7)
        have HK7 := hide (hk6.out.fresh hB hb7)
        have HM7 := hide ((hb7.block M (heap_lt hm6.out)).trans hm6.out)
        have HR7 := hide ((hb7.block w.heap.size (heap_lt hr6.out)).trans hr6.out)
        clear hx6 hk6 hm6 hr6 hb7 u0 u1 u2 hSh
        obtain ⟨u0, u1, u2⟩ := tok_at HM7.out
        obtain ⟨ao, cap, lo, hx⟩ := HX7.out
        obtain ⟨-, c1, -, -, c4, c5, -, c7⟩ := hx.cells
        have f7 := hx.frozen 7
        have f4 := hx.frozen 4
        have f5 := hx.frozen 5
        have HXV := hide hx
        clear hx
        cases vb with
        | true =>
          by_cases h1 : K = 1
          · skip
            have q1 : ((K : Int) == 1) = true := by rw [h1]; rfl
            have HA := hide (show ({ ({ ({ st3 with goal := G } : Jsp.St) with last := t } : Jsp.St) with some := true } : Jsp.St) = aft st3 K t by rw [← HGG.out]; unfold aft; rw [if_neg (by omega), if_pos h1])
            clear h1
            have HX8 := hide (((((HXV.out).set7 ((a : Int) + (k : Int))).set4 []).set4 t).set5 true)
            have HK8 := hide (((((HXV.out).set7 ((a : Int) + (k : Int))).set4 []).set4 t).kp ((((HXV.out).set7 ((a : Int) + (k : Int))).set4 []).kp (((HXV.out).set7 ((a : Int) + (k : Int))).kp ((HXV.out).kp (Kp.refl B w7) 7 (.int .i64 ((a : Int) + (k : Int)))) 4 (S [])) 4 (S t)) 5 (.bool true))
            go_upto_region 30 with (fail)
            generalize ((((w7.setCell ⟨b, 7, none⟩ (.int .i64 ((a : Int) + (k : Int)))).setCell ⟨b, 4, none⟩ (S [])).setCell ⟨b, 4, none⟩ (S t)).setCell ⟨b, 5, none⟩ (.bool true)) = W8 at HX8 HK8 ⊢
            have hm8 := HK8.out.kept _ _ _ _ HM7.out (by decide) (by decide)
            have hr8 := HK8.out.kept _ _ _ _ HR7.out (by decide) (by decide)
            have HR8 := hide hr8
            obtain ⟨v0, v1, v2⟩ := tok_at hm8
            obtain ⟨t0, t1, t2, tf0, tf1, tf2⟩ := tok_cells hr8
            clear hm8 hr8 u0 u1 u2 c1 c4 c5 c7 f7 f4 f5
            go_wp2_with fail
            obtain ⟨E1, E2⟩ := tok_end HX8.out.lx (HK7.out.trans HK8.out) hB (Nat.le_refl _) HR8.out (K : Int) t v
            refine bodyPost_ret (v := tokV (K : Int) t v) (tok_ret Tryz.results20 _ W8 _ HR8.out (K : Int) t v rfl) rfl ?_
            rw [HA.out] at E1
            exact NxP.ok HNX.out ⟨rfl, E1, E2⟩ HKK.out
          by_cases h3 : K = 3
          · skip
            have q1 : ((K : Int) == 1) = false := by rw [beq_eq_false_iff_ne]; omega
            have q3 : ((K : Int) == 3) = true := by rw [h3]; rfl
            have HA := hide (show ({ ({ ({ st3 with goal := G } : Jsp.St) with last := t } : Jsp.St) with some := true } : Jsp.St) = aft st3 K t by rw [← HGG.out]; unfold aft; rw [if_pos h3])
            clear h1 h3
            have HX8 := hide (((((HXV.out).set7 ((a : Int) + (k : Int))).set4 []).set4 t).set5 true)
            have HK8 := hide (((((HXV.out).set7 ((a : Int) + (k : Int))).set4 []).set4 t).kp ((((HXV.out).set7 ((a : Int) + (k : Int))).set4 []).kp (((HXV.out).set7 ((a : Int) + (k : Int))).kp ((HXV.out).kp (Kp.refl B w7) 7 (.int .i64 ((a : Int) + (k : Int)))) 4 (S [])) 4 (S t)) 5 (.bool true))
            go_upto_region 30 with (fail)
            generalize ((((w7.setCell ⟨b, 7, none⟩ (.int .i64 ((a : Int) + (k : Int)))).setCell ⟨b, 4, none⟩ (S [])).setCell ⟨b, 4, none⟩ (S t)).setCell ⟨b, 5, none⟩ (.bool true)) = W8 at HX8 HK8 ⊢
            have hm8 := HK8.out.kept _ _ _ _ HM7.out (by decide) (by decide)
            have hr8 := HK8.out.kept _ _ _ _ HR7.out (by decide) (by decide)
            have HR8 := hide hr8
            obtain ⟨v0, v1, v2⟩ := tok_at hm8
            obtain ⟨t0, t1, t2, tf0, tf1, tf2⟩ := tok_cells hr8
            clear hm8 hr8 u0 u1 u2 c1 c4 c5 c7 f7 f4 f5
            go_wp2_with fail
            obtain ⟨E1, E2⟩ := tok_end HX8.out.lx (HK7.out.trans HK8.out) hB (Nat.le_refl _) HR8.out (K : Int) t v
            refine bodyPost_ret (v := tokV (K : Int) t v) (tok_ret Tryz.results20 _ W8 _ HR8.out (K : Int) t v rfl) rfl ?_
            rw [HA.out] at E1
            exact NxP.ok HNX.out ⟨rfl, E1, E2⟩ HKK.out
          have q1 : ((K : Int) == 1) = false := by rw [beq_eq_false_iff_ne]; omega
          have q3 : ((K : Int) == 3) = false := by rw [beq_eq_false_iff_ne]; omega
          have HA := hide (show ({ ({ ({ st3 with goal := G } : Jsp.St) with last := [] } : Jsp.St) with some := true } : Jsp.St) = aft st3 K t by rw [← HGG.out]; unfold aft; rw [if_neg h3, if_neg h1])
          clear h1 h3
          have HX8 := hide ((((HXV.out).set7 ((a : Int) + (k : Int))).set4 []).set5 true)
          have HK8 := hide ((((HXV.out).set7 ((a : Int) + (k : Int))).set4 []).kp (((HXV.out).set7 ((a : Int) + (k : Int))).kp ((HXV.out).kp (Kp.refl B w7) 7 (.int .i64 ((a : Int) + (k : Int)))) 4 (S [])) 5 (.bool true))
          go_upto_region 30 with (fail)
          generalize (((w7.setCell ⟨b, 7, none⟩ (.int .i64 ((a : Int) + (k : Int)))).setCell ⟨b, 4, none⟩ (S [])).setCell ⟨b, 5, none⟩ (.bool true)) = W8 at HX8 HK8 ⊢
          have hm8 := HK8.out.kept _ _ _ _ HM7.out (by decide) (by decide)
          have hr8 := HK8.out.kept _ _ _ _ HR7.out (by decide) (by decide)
          have HR8 := hide hr8
          obtain ⟨v0, v1, v2⟩ := tok_at hm8
          obtain ⟨t0, t1, t2, tf0, tf1, tf2⟩ := tok_cells hr8
          clear hm8 hr8 u0 u1 u2 c1 c4 c5 c7 f7 f4 f5
          go_wp2_with fail
          obtain ⟨E1, E2⟩ := tok_end HX8.out.lx (HK7.out.trans HK8.out) hB (Nat.le_refl _) HR8.out (K : Int) t v
          refine bodyPost_ret (v := tokV (K : Int) t v) (tok_ret Tryz.results20 _ W8 _ HR8.out (K : Int) t v rfl) rfl ?_
          rw [HA.out] at E1
          exact NxP.ok HNX.out ⟨rfl, E1, E2⟩ HKK.out
        
        | false =>
          by_cases h1 : K = 1
          · skip
            have q1 : ((K : Int) == 1) = true := by rw [h1]; rfl
            have HA := hide (show ({ ({ ({ st3 with goal := G } : Jsp.St) with last := t } : Jsp.St) with some := true } : Jsp.St) = aft st3 K t by rw [← HGG.out]; unfold aft; rw [if_neg (by omega), if_pos h1])
            clear h1
            have HX8 := hide ((((HXV.out).set4 []).set4 t).set5 true)
            have HK8 := hide ((((HXV.out).set4 []).set4 t).kp (((HXV.out).set4 []).kp ((HXV.out).kp (Kp.refl B w7) 4 (S [])) 4 (S t)) 5 (.bool true))
            go_upto_region 30 with (fail)
            generalize (((w7.setCell ⟨b, 4, none⟩ (S [])).setCell ⟨b, 4, none⟩ (S t)).setCell ⟨b, 5, none⟩ (.bool true)) = W8 at HX8 HK8 ⊢
            have hm8 := HK8.out.kept _ _ _ _ HM7.out (by decide) (by decide)
            have hr8 := HK8.out.kept _ _ _ _ HR7.out (by decide) (by decide)
            have HR8 := hide hr8
            obtain ⟨v0, v1, v2⟩ := tok_at hm8
            obtain ⟨t0, t1, t2, tf0, tf1, tf2⟩ := tok_cells hr8
            clear hm8 hr8 u0 u1 u2 c1 c4 c5 c7 f7 f4 f5
            go_wp2_with fail
            obtain ⟨E1, E2⟩ := tok_end HX8.out.lx (HK7.out.trans HK8.out) hB (Nat.le_refl _) HR8.out (K : Int) t v
            refine bodyPost_ret (v := tokV (K : Int) t v) (tok_ret Tryz.results20 _ W8 _ HR8.out (K : Int) t v rfl) rfl ?_
            rw [HA.out] at E1
            exact NxP.ok HNX.out ⟨rfl, E1, E2⟩ HKK.out
          by_cases h3 : K = 3
          · skip
            have q1 : ((K : Int) == 1) = false := by rw [beq_eq_false_iff_ne]; omega
            have q3 : ((K : Int) == 3) = true := by rw [h3]; rfl
            have HA := hide (show ({ ({ ({ st3 with goal := G } : Jsp.St) with last := t } : Jsp.St) with some := true } : Jsp.St) = aft st3 K t by rw [← HGG.out]; unfold aft; rw [if_pos h3])
            clear h1 h3
            have HX8 := hide ((((HXV.out).set4 []).set4 t).set5 true)
            have HK8 := hide ((((HXV.out).set4 []).set4 t).kp (((HXV.out).set4 []).kp ((HXV.out).kp (Kp.refl B w7) 4 (S [])) 4 (S t)) 5 (.bool true))
            go_upto_region 30 with (fail)
            generalize (((w7.setCell ⟨b, 4, none⟩ (S [])).setCell ⟨b, 4, none⟩ (S t)).setCell ⟨b, 5, none⟩ (.bool true)) = W8 at HX8 HK8 ⊢
            have hm8 := HK8.out.kept _ _ _ _ HM7.out (by decide) (by decide)
            have hr8 := HK8.out.kept _ _ _ _ HR7.out (by decide) (by decide)
            have HR8 := hide hr8
            obtain ⟨v0, v1, v2⟩ := tok_at hm8
            obtain ⟨t0, t1, t2, tf0, tf1, tf2⟩ := tok_cells hr8
            clear hm8 hr8 u0 u1 u2 c1 c4 c5 c7 f7 f4 f5
            go_wp2_with fail
            obtain ⟨E1, E2⟩ := tok_end HX8.out.lx (HK7.out.trans HK8.out) hB (Nat.le_refl _) HR8.out (K : Int) t v
            refine bodyPost_ret (v := tokV (K : Int) t v) (tok_ret Tryz.results20 _ W8 _ HR8.out (K : Int) t v rfl) rfl ?_
            rw [HA.out] at E1
            exact NxP.ok HNX.out ⟨rfl, E1, E2⟩ HKK.out
          have q1 : ((K : Int) == 1) = false := by rw [beq_eq_false_iff_ne]; omega
          have q3 : ((K : Int) == 3) = false := by rw [beq_eq_false_iff_ne]; omega
          have HA := hide (show ({ ({ ({ st3 with goal := G } : Jsp.St) with last := [] } : Jsp.St) with some := true } : Jsp.St) = aft st3 K t by rw [← HGG.out]; unfold aft; rw [if_neg h3, if_neg h1])
          clear h1 h3
          have HX8 := hide (((HXV.out).set4 []).set5 true)
          have HK8 := hide (((HXV.out).set4 []).kp ((HXV.out).kp (Kp.refl B w7) 4 (S [])) 5 (.bool true))
          go_upto_region 30 with (fail)
          generalize ((w7.setCell ⟨b, 4, none⟩ (S [])).setCell ⟨b, 5, none⟩ (.bool true)) = W8 at HX8 HK8 ⊢
          have hm8 := HK8.out.kept _ _ _ _ HM7.out (by decide) (by decide)
          have hr8 := HK8.out.kept _ _ _ _ HR7.out (by decide) (by decide)
          have HR8 := hide hr8
          obtain ⟨v0, v1, v2⟩ := tok_at hm8
          obtain ⟨t0, t1, t2, tf0, tf1, tf2⟩ := tok_cells hr8
          clear hm8 hr8 u0 u1 u2 c1 c4 c5 c7 f7 f4 f5
          go_wp2_with fail
          obtain ⟨E1, E2⟩ := tok_end HX8.out.lx (HK7.out.trans HK8.out) hB (Nat.le_refl _) HR8.out (K : Int) t v
          refine bodyPost_ret (v := tokV (K : Int) t v) (tok_ret Tryz.results20 _ W8 _ HR8.out (K : Int) t v rfl) rfl ?_
          rw [HA.out] at E1
          exact NxP.ok HNX.out ⟨rfl, E1, E2⟩ HKK.out
end Go.Proofs.YtngccmlcopcghaaGreatDoor
