/- Lists of candidates compared; written. -/
import Derived.Test.YtepimjljkkkejaaDoorN
import Derived.BigRegion
namespace Go.Proofs.YtepimjljkkkejaaDoor
open Go.RowKit

/-- a slice that reads as a list of candidates -/
def RC (w : World) (v : Value) (l : List Srcp.Cand) : Prop :=
  (l = [] ∧ ∃ a c, v = .slice a 0 c) ∨
  ∃ b o cap, v = .slice (some ⟨b, o, none⟩) l.length cap ∧ b < w.heap.size ∧ ∀ (i : Nat) (c : Srcp.Cand), l[i]? = some c →
    w.cell? ⟨b, o + i * 3, none⟩ = some (S c.url) ∧ w.cell? ⟨b, o + i * 3 + 1, none⟩ = some (B8 c.kind) ∧ w.cell? ⟨b, o + i * 3 + 2, none⟩ = some (S c.text)

theorem fields_cand : Tryd.prog.underlying 26 = some (.struct (Tryd.prog.fieldsOf 26)) := by kernel_rfl
theorem held_cand : Tryd.prog.stoodInHeld 26 = false := by kernel_rfl
theorem eq_cand (d : Nat) (a a' t t' : List UInt8) (k k' : Int) (w : World) :
    Sem.run Tryd.prog (Op.equalIn (d + 2) 26 (.agg #[S a, .int .u8 k, S t]) (.agg #[S a', .int .u8 k', S t'])) w = .ok ((a == a') && (k == k') && (t == t')) w := by
  rw [run_equalIn_struct w (d + 1) 26 _ _ fields_cand held_cand]
  simp [go_sem, Tryd.underlying26]
  by_cases h1 : a = a' <;> by_cases h2 : k = k' <;> by_cases h3 : t = t' <;> simp [h1, h2, h3]
theorem cand_neq (a a' t t' : List UInt8) (k k' : Int) (w : World) :
    Sem.run Tryd.prog (binOp .neq 26 (.agg #[S a, .int .u8 k, S t]) (.agg #[S a', .int .u8 k', S t'])) w = .ok (.bool !((a == a') && (k == k') && (t == t'))) w := by
  simp only [binOp]
  simp only [Op.equal, Op.maxDepth, Sem.run_bind, eq_cand 9998, Result.andThen_ok, Sem.run_pure]
theorem cand_eql (a a' t t' : List UInt8) (k k' : Int) (w : World) :
    Sem.run Tryd.prog (binOp .eql 26 (.agg #[S a, .int .u8 k, S t]) (.agg #[S a', .int .u8 k', S t'])) w = .ok (.bool ((a == a') && (k == k') && (t == t'))) w := by
  simp only [binOp]
  simp only [Op.equal, Op.maxDepth, Sem.run_bind, eq_cand 9998, Result.andThen_ok, Sem.run_pure]
theorem cand_dec (x y : Srcp.Cand) : ((x.url == y.url) && ((x.kind.toNat : Int) == (y.kind.toNat : Int)) && (x.text == y.text)) = decide (x = y) := by
  rw [u8_beq]
  cases x with
  | mk a k t => cases y with
    | mk a' k' t' =>
      rw [Bool.eq_iff_iff]
      simp only [Bool.and_eq_true, beq_iff_eq, decide_eq_true_eq, Srcp.Cand.mk.injEq]
      constructor
      · rintro ⟨⟨h1, h2⟩, h3⟩; exact ⟨h1, h2, h3⟩
      · rintro ⟨h1, h2, h3⟩; exact ⟨⟨h1, h2⟩, h3⟩
def Quiet (v : Value) (w : World) (e : Ending) (w' : World) : Prop := e = .returned v ∧ ∃ n, w' = w.drewN n

set_option maxHeartbeats 1000000 in
theorem same_lit (b o cap b' o' cap' : Nat) (l m : List Srcp.Cand) (w : World) (hlm : l.length = m.length) (hl : l.length ≤ maxLen)
    (h1 : ∀ (i : Nat) (c : Srcp.Cand), l[i]? = some c → w.cell? ⟨b, o + i * 3, none⟩ = some (S c.url) ∧ w.cell? ⟨b, o + i * 3 + 1, none⟩ = some (B8 c.kind) ∧ w.cell? ⟨b, o + i * 3 + 2, none⟩ = some (S c.text))
    (h2 : ∀ (i : Nat) (c : Srcp.Cand), m[i]? = some c → w.cell? ⟨b', o' + i * 3, none⟩ = some (S c.url) ∧ w.cell? ⟨b', o' + i * 3 + 1, none⟩ = some (B8 c.kind) ∧ w.cell? ⟨b', o' + i * 3 + 2, none⟩ = some (S c.text)) :
    Calls Tryd.prog 9 #[.slice (some ⟨b, o, none⟩) l.length cap, .slice (some ⟨b', o', none⟩) m.length cap'] w (Quiet (.bool (decide (l = m))) w) := by
  unfold maxLen at hl
  have hn : ((l.length : Int) != (m.length : Int)) = false := by rw [bne_eq_false_iff_eq]; omega
  have HLM := hide hlm
  clear hlm
  go_enter Tryd.func9, Tryd.ntmps9
  go_wp2_with fail
  go_loopg [5] l.length (fun g s5 wx => ∃ (i q : Nat), i + g = l.length ∧ s5 = .int .i64 i ∧ wx = w.drewN q ∧ Hid (l.take i = m.take i))
  case atStart => exact ⟨0, 0, by omega, rfl, rfl, by unfold Hid; simp⟩
  case round =>
    obtain ⟨i, q, hi, rfl, rfl, ht⟩ := hrel
    by_cases hlt : i < l.length
    · have hltm : i < m.length := by have := HLM.out; omega
      obtain ⟨x, hx⟩ : ∃ x, l[i] = x := ⟨_, rfl⟩
      obtain ⟨y, hy⟩ : ∃ y, m[i] = y := ⟨_, rfl⟩
      have hx' : l[i]? = some x := by rw [List.getElem?_eq_getElem hlt, hx]
      have hy' : m[i]? = some y := by rw [List.getElem?_eq_getElem hltm, hy]
      obtain ⟨c0, c1, c2⟩ := h1 i x hx'
      obtain ⟨d0, d1, d2⟩ := h2 i y hy'
      have HX := hide hx'
      have HY := hide hy'
      clear h1 h2 hx hy hx' hy'
      by_cases hxy : x = y
      · have HE := hide hxy
        subst hxy
        go_wp2_with fail
        go_quiet (fail)
        go_wp2_with fail
        go_roundg (gk - 1)
        case measure => omega
        case rel =>
          refine ⟨i + 1, _, by omega, by go_num, by first | rfl | exact World.drewN_drewN _ _ _, ?_⟩
          unfold Hid
          rw [List.take_add_one, List.take_add_one, ht.out, HX.out, HY.out]
      · have HE : Hid (l ≠ m) := fun e => by
          have h1 := HX.out
          rw [e, HY.out] at h1
          injection h1 with h1
          exact hxy h1.symm
        have hne : ¬ x.url = y.url ∨ (x.url = y.url ∧ ¬ ((x.kind.toNat : Int) = (y.kind.toNat : Int))) ∨ (x.url = y.url ∧ (x.kind.toNat : Int) = (y.kind.toNat : Int) ∧ ¬ x.text = y.text) := by
          by_cases e1 : x.url = y.url
          · by_cases e2 : (x.kind.toNat : Int) = (y.kind.toNat : Int)
            · refine .inr (.inr ⟨e1, e2, fun e3 => hxy ?_⟩)
              have := u8_inj e2
              cases x; cases y
              simp only at e1 this e3
              subst e1; subst this; subst e3
              rfl
            · exact .inr (.inl ⟨e1, e2⟩)
          · exact .inl e1
        clear hxy
        rcases hne with e1 | ⟨e1, e2⟩ | ⟨e1, e2, e3⟩
        all_goals
          go_wp2_with fail
          go_quiet (fail)
          go_wp2_with fail
          go_ret
          exact ⟨by rw [decide_eq_false HE.out]; rfl, _, World.drewN_drewN _ _ _⟩
    · have HE : Hid (l = m) := by
        unfold Hid
        have := ht.out
        rwa [List.take_of_length_le (by omega), List.take_of_length_le (by have := HLM.out; omega)] at this
      clear h1 h2
      go_wp2_with fail
      go_ret
      exact ⟨by rw [decide_eq_true HE.out]; rfl, q, rfl⟩

theorem same_any (va vb : Value) (l m : List Srcp.Cand) (w : World) (h1 : RC w va l) (h2 : RC w vb m) (hl : l.length ≤ maxLen) (hm : m.length ≤ maxLen) :
    Calls Tryd.prog 9 #[va, vb] w (Quiet (.bool (decide (l = m))) w) := by
  have len : ∀ {v : Value} {l : List Srcp.Cand}, RC w v l → ∃ a c, v = .slice a l.length c := fun h => by
    rcases h with ⟨rfl, a, c, rfl⟩ | ⟨b, o, cap, rfl, _⟩
    · exact ⟨a, c, rfl⟩
    · exact ⟨_, _, rfl⟩
  by_cases hlm : l.length = m.length
  · rcases h1 with ⟨rfl, a, c, rfl⟩ | ⟨b, o, cap, rfl, _, h1⟩
    · have : m = [] := List.eq_nil_of_length_eq_zero hlm.symm
      subst this
      obtain ⟨a', c', rfl⟩ := len h2
      clear h2 hl hm hlm
      go_enter Tryd.func9, Tryd.ntmps9
      go_wp2_with fail
      go_loopg [5] 0 (fun g s5 wx => s5 = .int .i64 0 ∧ wx = w)
      case atStart => exact ⟨rfl, rfl⟩
      case round =>
        obtain ⟨rfl, rfl⟩ := hrel
        go_wp2_with fail
        go_ret
        exact ⟨rfl, 0, rfl⟩
    · rcases h2 with ⟨rfl, a, c, rfl⟩ | ⟨b', o', cap', rfl, _, h2⟩
      · have : l = [] := List.eq_nil_of_length_eq_zero hlm
        subst this
        clear h1 hl hm hlm
        go_enter Tryd.func9, Tryd.ntmps9
        go_wp2_with fail
        go_loopg [5] 0 (fun g s5 wx => s5 = .int .i64 0 ∧ wx = w)
        case atStart => exact ⟨rfl, rfl⟩
        case round =>
          obtain ⟨rfl, rfl⟩ := hrel
          go_wp2_with fail
          go_ret
          exact ⟨rfl, 0, rfl⟩
      · exact same_lit b o cap b' o' cap' l m w hlm hl h1 h2
  · obtain ⟨a, c, rfl⟩ := len h1
    obtain ⟨a', c', rfl⟩ := len h2
    have hn : ((l.length : Int) != (m.length : Int)) = true := by rw [bne_iff_ne]; omega
    have HE : Hid (l ≠ m) := fun e => hlm (by rw [e])
    clear h1 h2 hlm len
    go_enter Tryd.func9, Tryd.ntmps9
    go_wp2_with fail
    go_ret
    exact ⟨by rw [decide_eq_false HE.out]; rfl, 0, rfl⟩

theorem RC.of_own {w : World} {base : Nat} {v : Value} {l : List Srcp.Cand} (h : w.ownsRow base 26 3 v l.length (candCells l)) : RC w v l := by
  rcases h.2 with ⟨rfl, h0⟩ | ⟨g, cap, cur, rfl, hb, hh, hn, hcap, hsz, htake⟩
  · exact .inl ⟨List.eq_nil_of_length_eq_zero h0, none, 0, rfl⟩
  · refine .inr ⟨g, 0, cap, rfl, heap_lt hh, fun i c hc => ?_⟩
    have hi : i < l.length := by
      rcases Nat.lt_or_ge i l.length with h | h
      · exact h
      · rw [List.getElem?_eq_none h] at hc; cases hc
    have key : ∀ (m : List Srcp.Cand) (i : Nat) (c : Srcp.Cand) (j : Nat), m[i]? = some c → j < 3 → (candCells m)[i * 3 + j]? = [S c.url, B8 c.kind, S c.text][j]? := by
      intro m
      induction m with
      | nil => intro i c j hc; simp at hc
      | cons x m ih =>
        intro i c j hc hj
        have e : candCells (x :: m) = [S x.url, B8 x.kind, S x.text] ++ candCells m := rfl
        rw [e]
        cases i with
        | zero =>
          simp at hc; subst hc
          rw [List.getElem?_append_left (by simp; omega)]; simp
        | succ i =>
          rw [List.getElem?_append_right (by simp; omega)]
          have := ih i c j (by simpa using hc) hj
          rw [← this]
          congr 1
          simp; omega
    have cell : ∀ j, j < 3 → w.cell? ⟨g, 0 + i * 3 + j, none⟩ = [S c.url, B8 c.kind, S c.text][j]? := fun j hj => by
      rw [h.cellAt _ (by omega), Nat.zero_add, key l i c j hc hj]
    exact ⟨by simpa using cell 0 (by omega), by simpa using cell 1 (by omega), by simpa using cell 2 (by omega)⟩
theorem RC.below {w w' : World} {v : Value} {l : List Srcp.Cand} (h : RC w v l) (hb : Below w.heap.size w w') : RC w' v l := by
  rcases h with h | ⟨b, o, cap, rfl, hlt, hc⟩
  · exact .inl h
  · refine .inr ⟨b, o, cap, rfl, Nat.lt_of_lt_of_le hlt hb.size, fun i c hi => ?_⟩
    obtain ⟨h0, h1, h2⟩ := hc i c hi
    exact ⟨(hb.cell hlt).trans h0, (hb.cell hlt).trans h1, (hb.cell hlt).trans h2⟩
end Go.Proofs.YtepimjljkkkejaaDoor
