/- The law JsJoins, walked. -/
import Derived.Test.YtngccmlcopcghaaGreatDoorWv
import Derived.Test.YtngccmlcopcghaaGreatDoorPo
import Derived.Deep.RegionHeld3
namespace Go.Proofs.YtngccmlcopcghaaGreatDoor
open Go.RowKit

/-- a script that ends plainly -/
theorem wh_plain {F : List UInt8} {x : Wx} (h : WhQ F x) (h1 : x.s = 1) : ∃ l st, Jsp.lex F = .ok l st false false ∧ x = ⟨1, 0, false, st.goal, st.stk⟩ := by
  unfold WhQ at h
  cases hl : Jsp.lex F with
  | no e p =>
    rw [hl] at h
    obtain ⟨x0, rfl, h2, _⟩ := h
    unfold shown at h1
    split at h1
    · exact absurd h1 (by decide)
    · exact absurd h1 h2
  | ok l st ln wd =>
    rw [hl] at h
    subst h
    refine ⟨l, st, ?_⟩
    cases ln with
    | true => exact absurd h1 (by show (6 : Nat) ≠ 1; decide)
    | false =>
      cases wd with
      | true => exact absurd h1 (by show (2 : Nat) ≠ 1; decide)
      | false => exact ⟨rfl, rfl⟩
theorem wh_of {F : List UInt8} {x : Wx} {l : List Jsp.Tk} {st : Jsp.St} (h : WhQ F x) (hl : Jsp.lex F = .ok l st false false) : x = ⟨1, 0, false, st.goal, st.stk⟩ := by
  unfold WhQ at h
  rw [hl] at h
  exact h
theorem tokens_of {s : List UInt8} {l : List Jsp.Tk} {st : Jsp.St} {ln wd : Bool} (hl : Jsp.lex (Cssp.decode s) = .ok l st ln wd) : Jsp.tokens s = if st.stk = [] then (l, 0, 0) else ([], 177, (Cssp.decode s).length) := by
  unfold Jsp.tokens; rw [hl]
/-- what stands behind does not turn the tokens, nor whether there is an error -/
theorem joins_tok {s : List UInt8} {l : List Jsp.Tk} {st : Jsp.St} (h : Jsp.lex (Cssp.decode s) = .ok l st false false) :
    ∃ L e pa pb, Jsp.tokens s = (L, e, pa) ∧ Jsp.tokens (s ++ 32 :: Jsp.behind) = (L, e, pb) ∧ Jsp.lex (Cssp.decode (s ++ 32 :: Jsp.behind)) = .ok l st false false := by
  have h2 : Jsp.lex (Cssp.decode (s ++ 32 :: Jsp.behind)) = .ok l st false false := Jsp.read_joins s h
  by_cases h0 : st.stk = []
  · exact ⟨l, 0, 0, 0, by rw [tokens_of h, if_pos h0], by rw [tokens_of h2, if_pos h0], h2⟩
  · exact ⟨[], 177, _, _, by rw [tokens_of h, if_neg h0], by rw [tokens_of h2, if_neg h0], h2⟩
set_option maxRecDepth 100000 in
set_option maxHeartbeats 4000000 in
theorem law_joins (s : List UInt8) (w : World) (hs : s.length ≤ 9223372036854775807) (ht : Tab w) : Calls Tryz.prog 4 #[S s] w (Fresh (.bool true) w) := by
  have hlt := ht.lt
  have HW := hide (works_ w ht)
  go_enter Tryz.func4, Tryz.ntmps4
  go_wp2_with fail
  refine HW.out.mono ?_
  rintro e w1 ⟨rfl, hb1⟩
  have HB1 := hide hb1
  have HT1 := hide (ht.below hlt hb1)
  clear HW hb1 ht
  by_cases hlen : 4096 < s.length
  · have d1 : (4096 : Int) < (s.length : Int) := by omega
    go_wp2_with fail
    go_ret
    exact ⟨rfl, HB1.out⟩
  have d1 : decide ((4096 : Int) < (s.length : Int)) = false := by rw [decide_eq_false_iff_not]; omega
  have HWh := hide (where_ s w1 HT1.out (by omega))
  go_wp2_with fail
  refine HWh.out.mono ?_
  rintro e w2 ⟨x, rfl, hb2, hq⟩
  obtain ⟨xs, xq, xc, xg, xk⟩ := x
  have hal := (Below.refl w2.heap.size w2).alloc (Nat.le_refl _) (.cells #[.int .u8 (xs : Int), .int .u8 (xq : Int), .bool xc, .bool xg, S xk] 36)
  have hn := heap_alloc_last w2 (.cells #[.int .u8 (xs : Int), .int .u8 (xq : Int), .bool xc, .bool xg, S xk] 36)
  have hb3 := hb2.trans (hal.mono hb2.size)
  have HB3 := hide (HB1.out.trans (hb3.mono HB1.out.size))
  have HT3 := hide (HT1.out.below (Nat.le_trans hlt HB1.out.size) hb3)
  have HQ := hide hq
  clear HWh hb2 hal hb3 hq HB1 HT1
  go_upto_region 7 with (fail)
  change Code.wp _ _ _ _ (w2.alloc (.cells #[.int .u8 (xs : Int), .int .u8 (xq : Int), .bool xc, .bool xg, S xk] 36))
  generalize w2.alloc (.cells #[.int .u8 (xs : Int), .int .u8 (xq : Int), .bool xc, .bool xg, S xk] 36) = w3 at hn HB3 HT3 ⊢
  generalize w2.heap.size = M at hn ⊢
  obtain ⟨⟨y0, y1, y2, y3, y4⟩, -⟩ := five hn
  have HN := hide hn
  clear hn
  by_cases h1 : xs = 1
  · have q1 : ((xs : Int) != 1) = false := by rw [h1]; rfl
    obtain ⟨l, st, hl, hx⟩ := wh_plain HQ.out h1
    obtain ⟨L, er, pa, pb, ta, tb, hl2⟩ := joins_tok hl
    have HX := hide hx
    have HL2 := hide hl2
    have KA := fun W (hT : Tab W) => hide (tokens_ s W hT (by omega))
    rw [ta] at KA
    have hbl : (s ++ 32 :: Jsp.behind).length = s.length + 9 := by rw [List.length_append]; rfl
    have KB := fun W (hT : Tab W) => hide (tokens_ (s ++ 32 :: Jsp.behind) W hT (by omega))
    rw [tb] at KB
    have KC := fun W (hT : Tab W) => hide (where_ (s ++ 32 :: Jsp.behind) W hT (by omega))
    rw [show (32 :: Jsp.behind) = [32, 47, 42, 32, 39, 32, 42, 47, 10] from rfl] at KB KC
    have hn3 : ¬ 9223372036854775807 < s.length + 9 := by omega
    have KA1 := KA w3 HT3.out
    have HKB := hide KB
    have HKC := hide KC
    clear KA KB KC hl hx ta tb hl2 h1 HQ hbl
    go_wp2_with fail
    refine KA1.out.mono ?_
    rintro e w4 ⟨va, rfl, hoa, hba, hLn⟩
    have HRA := hide (RT.of_own hoa)
    have HB4 := hide (HB3.out.trans (hba.mono HB3.out.size))
    have HT4 := hide (HT3.out.below (Nat.le_trans hlt HB3.out.size) hba)
    have HN4 := hide ((hba.block _ (heap_lt HN.out)).trans HN.out)
    have HLn := hide (show L.length ≤ maxLen by unfold maxLen; exact Nat.le_trans hLn (by omega))
    have KB1 := HKB.out w4 HT4.out
    clear hoa hba hLn KA1 HKB HB3 HT3 HN y0 y1 y2 y3 y4
    go_wp2_with fail
    refine KB1.out.mono ?_
    rintro e w5 ⟨vb, rfl, hob, hbb, -⟩
    have HRB := hide (RT.of_own hob)
    have HRA5 := hide (HRA.out.below hbb)
    have HB5 := hide (HB4.out.trans (hbb.mono HB4.out.size))
    have HT5 := hide (HT4.out.below (Nat.le_trans hlt HB4.out.size) hbb)
    have hn5 := (hbb.block _ (heap_lt HN4.out)).trans HN4.out
    obtain ⟨⟨y0, y1, y2, y3, y4⟩, -⟩ := five hn5
    have HN5 := hide hn5
    clear hob hbb hn5 KB1 HRA HB4 HT4 HN4
    have hD : Below w5.heap.size w5 w5.drew := (Below.refl _ w5).drew
    have hSm : Hid (Calls Tryz.prog 12 #[va, vb] w5.drew (Quiet (.bool true) w5.drew)) := by
      have := same_any va vb L L w5.drew (HRA5.out.below hD) (HRB.out.below hD) HLn.out HLn.out
      rw [show decide (L = L) = true from decide_eq_true rfl] at this
      exact this
    have hcells : ∀ W, Below w5.heap.size w5 W → W.cell? ⟨M, 0, none⟩ = some (.int .u8 (xs : Int)) ∧ W.cell? ⟨M, 1, none⟩ = some (.int .u8 (xq : Int)) ∧ W.cell? ⟨M, 2, none⟩ = some (.bool xc) ∧ W.cell? ⟨M, 3, none⟩ = some (.bool xg) ∧ W.cell? ⟨M, 4, none⟩ = some (S xk) := fun W hW => (five ((hW.block _ (heap_lt HN5.out)).trans HN5.out)).1
    have HCL := hide hcells
    have hKC := fun W (hW : Below w5.heap.size w5 W) => HKC.out W (HT5.out.below (Nat.le_trans hlt HB5.out.size) hW)
    have HXE := fun (z : Wx) (hz : WhQ (Cssp.decode (s ++ 32 :: Jsp.behind)) z) => (wh_of hz HL2.out).trans HX.out.symm
    have HXE2 := hide HXE
    have hwe : ∀ W, Sem.run Tryz.prog (binOp .eql 36 (.agg #[.int .u8 (xs : Int), .int .u8 (xq : Int), .bool xc, .bool xg, S xk]) (.agg #[.int .u8 (xs : Int), .int .u8 (xq : Int), .bool xc, .bool xg, S xk])) W = .ok (.bool true) W := fun W => by rw [wh_eql]; simp
    clear hcells hD HN5 HXE HKC HX HL2 HRA5 HRB
    go_wp2_with fail
    go_region_held3 (fun W => W.cell? ⟨M, 0, none⟩ = some (.int .u8 (xs : Int)) ∧ W.cell? ⟨M, 1, none⟩ = some (.int .u8 (xq : Int)) ∧ W.cell? ⟨M, 2, none⟩ = some (.bool xc) ∧ W.cell? ⟨M, 3, none⟩ = some (.bool xg) ∧ W.cell? ⟨M, 4, none⟩ = some (S xk)) (first | exact HCL.out _ ((Below.refl _ w5).drew) | exact HCL.out _ hb9 | exact HCL.out _ hb10) ((first | (go_at_call 12; refine hSm.out.mono ?_; rintro e w9 ⟨rfl, hd9⟩; have hb9 : Below w5.heap.size w5 w9 := ((Below.refl _ w5).drew).trans (below_drawn hd9)) | (go_at_call 13; refine (hKC _ hb9).out.mono ?_; rintro e w10 ⟨x10, rfl, hb10', hq10⟩; obtain rfl := HXE2.out _ hq10; have hb10 : Below w5.heap.size w5 w10 := hb9.trans (hb10'.mono hb9.size))))
    all_goals
      go_wp2_with fail
      go_ret
      exact ⟨by simp, HB5.out.trans (hb10.mono HB5.out.size)⟩
  · have q1 : ((xs : Int) != 1) = true := by rw [bne_iff_ne]; omega
    clear h1
    go_wp2_with fail
    go_ret
    exact ⟨rfl, HB3.out⟩
end Go.Proofs.YtngccmlcopcghaaGreatDoor
