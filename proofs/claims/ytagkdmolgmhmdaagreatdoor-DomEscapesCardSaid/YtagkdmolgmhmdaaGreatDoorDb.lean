/- Attributes compared. -/
import Derived.Test.YtagkdmolgmhmdaaGreatDoorDa
import Derived.BigQuiet
import Derived.Deep.QuietTactic
import Derived.LoopN
namespace Go.Proofs.YtagkdmolgmhmdaaGreatDoor
open Go.RowKit

abbrev AV (a : Dm.A) : Value := .agg #[S a.sp, S a.nm, S a.vl]
theorem fields_attr : Tryz.prog.underlying 43 = some (.struct (Tryz.prog.fieldsOf 43)) := by kernel_rfl
theorem held_attr : Tryz.prog.stoodInHeld 43 = false := by kernel_rfl
theorem eq_attr (d : Nat) (a b c a' b' c' : List UInt8) (w : World) :
    Sem.run Tryz.prog (Op.equalIn (d + 2) 43 (.agg #[S a, S b, S c]) (.agg #[S a', S b', S c'])) w = .ok ((a == a') && (b == b') && (c == c')) w := by
  rw [run_equalIn_struct w (d + 1) 43 _ _ fields_attr held_attr]
  simp [go_sem, Tryz.underlying43]
  by_cases h1 : a = a' <;> by_cases h2 : b = b' <;> by_cases h3 : c = c' <;> simp [h1, h2, h3]
theorem attr_neq (a b c a' b' c' : List UInt8) (w : World) :
    Sem.run Tryz.prog (binOp .neq 43 (.agg #[S a, S b, S c]) (.agg #[S a', S b', S c'])) w = .ok (.bool !((a == a') && (b == b') && (c == c'))) w := by
  simp only [binOp]
  simp only [Op.equal, Op.maxDepth, Sem.run_bind, eq_attr 9998, Result.andThen_ok, Sem.run_pure]
theorem attr_eql (a b c a' b' c' : List UInt8) (w : World) :
    Sem.run Tryz.prog (binOp .eql 43 (.agg #[S a, S b, S c]) (.agg #[S a', S b', S c'])) w = .ok (.bool ((a == a') && (b == b') && (c == c'))) w := by
  simp only [binOp]
  simp only [Op.equal, Op.maxDepth, Sem.run_bind, eq_attr 9998, Result.andThen_ok, Sem.run_pure]
def Quiet (v : Value) (w : World) (e : Ending) (w' : World) : Prop := e = .returned v ∧ ∃ n, w' = w.drewN n

set_option maxHeartbeats 1000000 in
theorem sameAttrs (va vb : Value) (l m : List Dm.A) (w : World) (h1 : RdA w va l) (h2 : RdA w vb m) (hl : l.length ≤ 9223372036854775807) :
    Calls Tryz.prog 37 #[va, vb] w (Quiet (.bool (decide (l = m))) w) := by
  obtain ⟨aa, ca, rfl⟩ := h1.length
  obtain ⟨ab, cb, rfl⟩ := h2.length
  by_cases hlm : l.length = m.length
  · have hn : ((l.length : Int) != (m.length : Int)) = false := by rw [bne_eq_false_iff_eq]; omega
    have HLM := hide hlm
    clear hlm
    go_enter Tryz.func37, Tryz.ntmps37
    go_wp2_with fail
    go_loopg [5] l.length (fun g s5 wx => ∃ (i q : Nat), i + g = l.length ∧ s5 = .int .i64 i ∧ wx = w.drewN q ∧ Hid (l.take i = m.take i))
    case atStart => exact ⟨0, 0, by omega, rfl, rfl, by unfold Hid; simp⟩
    case round =>
      obtain ⟨i, q, hi, rfl, rfl, ht⟩ := hrel
      by_cases hlt : i < l.length
      · have hltm : i < m.length := by have := HLM.out; omega
        obtain ⟨x, hx⟩ : ∃ x, l[i] = x := ⟨_, rfl⟩
        obtain ⟨y, hy⟩ : ∃ y, m[i] = y := ⟨_, rfl⟩
        have hx' : l[i]? = some x := by rw [List.getElem?_eq_getElem hlt, hx]
        have hy' : m[i]? = some y := by rw [List.getElem?_eq_getElem hltm, hy]
        obtain ⟨b, o, rfl, c0, c1, c2⟩ := h1.at hx'
        obtain ⟨b', o', rfl, d0, d1, d2⟩ := h2.at hy'
        have HX := hide hx'
        have HY := hide hy'
        clear h1 h2 hx hy hx' hy'
        by_cases hxy : x = y
        · have HE := hide hxy
          subst hxy
          have hne := attr_neq x.sp x.nm x.vl x.sp x.nm x.vl
          simp only [beq_self_eq_true, Bool.and_self, Bool.not_true] at hne
          go_wp2_with fail
          go_quiet (fail)
          go_wp2_with fail
          go_roundg (gk - 1)
          case measure => omega
          case rel =>
            refine ⟨i + 1, _, by omega, by go_num, by first | rfl | exact World.drewN_drewN _ _ _, ?_⟩
            unfold Hid
            rw [List.take_add_one, List.take_add_one, ht.out, HX.out, HY.out]
        · have HE : Hid (l ≠ m) := fun e => by
            have h1 := HX.out
            rw [e, HY.out] at h1
            injection h1 with h1
            exact hxy h1.symm
          have hne := attr_neq x.sp x.nm x.vl y.sp y.nm y.vl
          have hf : ((x.sp == y.sp) && (x.nm == y.nm) && (x.vl == y.vl)) = false := by
            rw [Bool.eq_false_iff]
            intro h
            simp only [Bool.and_eq_true, beq_iff_eq] at h
            apply hxy
            cases x; cases y
            simp only at h
            obtain ⟨⟨rfl, rfl⟩, rfl⟩ := h
            rfl
          rw [hf] at hne
          simp only [Bool.not_false] at hne
          clear hf
          go_wp2_with fail
          go_quiet (fail)
          go_wp2_with fail
          go_ret
          exact ⟨by rw [decide_eq_false HE.out]; rfl, _, World.drewN_drewN _ _ _⟩
      · have HE : Hid (l = m) := by
          unfold Hid
          have := ht.out
          rwa [List.take_of_length_le (by omega), List.take_of_length_le (by have := HLM.out; omega)] at this
        clear h1 h2
        go_wp2_with fail
        go_ret
        exact ⟨by rw [decide_eq_true HE.out]; rfl, q, rfl⟩
  · have hn : ((l.length : Int) != (m.length : Int)) = true := by rw [bne_iff_ne]; omega
    have HE : Hid (l ≠ m) := fun e => hlm (by rw [e])
    clear hlm
    go_enter Tryz.func37, Tryz.ntmps37
    go_wp2_with fail
    go_ret
    exact ⟨by rw [decide_eq_false HE.out]; rfl, 0, rfl⟩
end Go.Proofs.YtagkdmolgmhmdaaGreatDoor
