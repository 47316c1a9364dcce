/- slices.Backward over eight numbers: what comes, in which order. -/
import Derived.Test.YtahjndignkhmoaaGreatDoorR
import Derived.RangeFuncNested
import Derived.RangeFuncBound
import Derived.RangeFuncCalls
import Derived.RangeFuncLeaves
import Derived.Shelf.Abstract
import Derived.Shelf.RegionOpen
import Derived.OwnWalkIn
import Derived.TacticsInMore
import Derived.LoopNIn
import Derived.LoopIn
namespace Go.Proofs.YtahjndignkhmoaaGreatDoor
open Go.RowKit Go.Shelf
attribute [local go_sem] Oper.semAt_some

abbrev Pair := Fin 8 × Int
/-- what has come when k rounds are over -/
def back (v : List Int) (k : Nat) : List Pair := (List.range k).map fun j => (⟨7 - j, by omega⟩, v[7 - j]?.getD 0)
theorem back_succ (v : List Int) (k : Nat) : back v (k + 1) = back v k ++ [(⟨7 - k, by omega⟩, v[7 - k]?.getD 0)] := by simp [back, List.range_succ]
theorem back_len (v : List Int) (k : Nat) : (back v k).length = k := by simp [back]
def encP (x : Pair) : Array Value := #[.int .i64 (x.1.val : Int), .int .u16 x.2]
/-- two blocks stand -/
def Two (B Bs : Nat) (A C : World) : Prop := C.heap[B]? = A.heap[B]? ∧ C.heap[Bs]? = A.heap[Bs]?
theorem Two.cell {B Bs : Nat} {A C : World} (h : Two B Bs A C) {j : Nat} : C.cell? ⟨B, j, none⟩ = A.cell? ⟨B, j, none⟩ ∧ C.cell? ⟨Bs, j, none⟩ = A.cell? ⟨Bs, j, none⟩ :=
  ⟨World.cell?_of_block (a := ⟨B, j, none⟩) h.1, World.cell?_of_block (a := ⟨Bs, j, none⟩) h.2⟩
theorem Two.trans {B Bs : Nat} {A C D : World} (h : Two B Bs A C) (k : Two B Bs C D) : Two B Bs A D := ⟨k.1.trans h.1, k.2.trans h.2⟩

set_option maxRecDepth 100000 in
set_option maxHeartbeats 2000000 in
theorem back_in (F : Fence) (n : Nat) (hf : F.fn 91) (hro : F.round = none) (hn : 1 ≤ n) (l Bs B : Nat) (v : List Int) (J Jx : List Pair → World → Prop)
    (hY : ∀ pre x W, J pre W → pre.length < 8 → YieldAt F (n - 1) Tryz.prog l (encP x) W fun e W' =>
      (e = .returned (.bool true) ∧ J (pre ++ [x]) W' ∧ Two B Bs W W') ∨ (e = .returned (.bool false) ∧ Jx (pre ++ [x]) W'))
    (W : World) (hBs : W.cell? ⟨Bs, 0, none⟩ = some (.slice (some ⟨B, 0, none⟩) 8 8)) (hc : ∀ j, j < 8 → W.cell? ⟨B, j, none⟩ = some (U16 (v[j]?.getD 0))) (h0 : J [] W) :
    CallsIn F n Tryz.prog 91 #[.func (.yield l) #[] #[], .pointer (some ⟨Bs, 0, none⟩)] W fun e W' => (∃ v, e = .returned v) ∧
      ((∃ ys, ys = back v 8 ∧ J ys W') ∨ (∃ pre, (∃ k, k ≤ 8 ∧ pre = back v k) ∧ Jx pre W')) := by
  refine callsIn_of_wp Tryz.func91 rfl hf ?_ hro
  simp only [Tryz.ntmps91, List.size_toArray, List.length_cons, List.length_nil, Nat.reduceAdd, Nat.reduceSub, Array.replicate_succ, Array.replicate_zero, List.push_toArray, List.append_toArray, List.nil_append, List.cons_append]
  gi_wp2
  gi_loopw [3] (fun i wr => ∃ k : Nat, k ≤ 8 ∧ i = .int .i64 (7 - (k : Int)) ∧ J (back v k) wr ∧ Two B Bs W wr)
    (fun i _ => (intOf i + 1).toNat)
  case atStart => exact ⟨0, Nat.zero_le _, rfl, h0, rfl, rfl⟩
  case round =>
    obtain ⟨k, hk, rfl, hJs, hnx⟩ := hrel
    have hbx : wr.cell? ⟨Bs, 0, none⟩ = some (.slice (some ⟨B, 0, none⟩) 8 8) := hnx.cell.2.trans hBs
    by_cases hlt : k < 8
    · have hcx : wr.cell? ⟨B, 7 - k, none⟩ = some (U16 (v[7 - k]?.getD 0)) := hnx.cell.1.trans (hc (7 - k) (by omega))
      obtain ⟨fn, tmps, assign, body, hy, hR⟩ := hY _ (⟨7 - k, by omega⟩, v[7 - k]?.getD 0) wr hJs (by rw [back_len]; exact hlt)
      unfold encP at hy
      dsimp only at hy
      have hi0 : (0 : Int) ≤ 7 - (k : Int) := by omega
      have hi1 : (7 - (k : Int)).toNat = 7 - k := by omega
      have hi2 : ((7 - k : Nat) : Int) = 7 - (k : Int) := by omega
      rw [hi2] at hy
      gi_wp2
      refine hR.mono ?_
      rintro e W3 (⟨rfl, hJ3, hk3⟩ | ⟨rfl, hJx3⟩)
      · gi_wp2
        go_roundw
        case rel => exact ⟨k + 1, by omega, by go_num, by rw [back_succ]; exact hJ3, hnx.trans hk3⟩
        case measure => simp [intOf]; omega
      · gi_wp2
        refine bodyPost_ret (results_none rfl _ _ _) rfl ?_
        exact ⟨⟨_, rfl⟩, .inr ⟨_, ⟨k + 1, by omega, (back_succ _ _).symm⟩, hJx3⟩⟩
    · obtain rfl : k = 8 := by omega
      gi_wp2
      go_end0
      exact ⟨⟨_, rfl⟩, .inl ⟨_, rfl, hJs⟩⟩

theorem back_stops (F : Fence) (n : Nat) (hf : F.fn 91) (hro : F.round = none) (hn : 1 ≤ n) (Bs B : Nat) (v : List Int) (w : World) (hBs : Bs < w.heap.size) (hB : B < w.heap.size)
    (hb : w.cell? ⟨Bs, 0, none⟩ = some (.slice (some ⟨B, 0, none⟩) 8 8)) (hc : ∀ j, j < 8 → w.cell? ⟨B, j, none⟩ = some (U16 (v[j]?.getD 0))) :
    SeqStopsK F n Tryz.prog 91 #[.pointer (some ⟨Bs, 0, none⟩)] encP (Two B Bs) (fun ys => ys = back v 8) (fun pre => ∃ k, k ≤ 8 ∧ pre = back v k) 8 w := fun l J Jx W hW _ _ hY h0 =>
  back_in F n hf hro hn l Bs B v J Jx hY W ((hW.cell (p := ⟨Bs, 0, none⟩) hBs).trans hb) (fun j hj => (hW.cell (p := ⟨B, j, none⟩) hB).trans (hc j hj)) h0
theorem two_b {B Bs : Nat} {w : World} (hBs : Bs < w.heap.size) (hB : B < w.heap.size) (W : World) (l : Nat) (o o' : Obj) (hl : w.heap.size ≤ l) (_ : W.heap[l]? = some o) (_ : o.isCells = false) (_ : o.isWalk = false) : Two B Bs W (W.putObj l o') :=
  ⟨World.putObj_heap_other (by omega), World.putObj_heap_other (by omega)⟩
set_option maxHeartbeats 1000000 in
theorem sBackward (a : Option Addr) (len cap : Nat) (w : World) :
    Calls Tryz.prog 66 #[.slice a len cap] w fun e w' => e = .returned (.func (.func 91) #[] #[.pointer (some ⟨w.heap.size, 0, none⟩)]) ∧ w.alloc (.cells #[.slice a len cap] 66) = w' := by
  have hmf : ∀ (fn : Fn) (first cap : Array Value) (w : World), (Instr.makeFunc fn first cap).run Tryz.prog w = .ok (.func fn first cap) w := fun _ _ _ _ => rfl
  go_enter Tryz.func66, Tryz.ntmps66
  go_wp2
  go_ret
  exact ⟨rfl, rfl⟩

/-! ### how many noughts stand from a place on -/
def stepP (L : List Int) (x : Pair) : List Int := if x.2 = 0 then L.set x.1.val (L[x.1.val + 1]?.getD 0 + 1) else L
def foldP (pre : List Pair) : List Int := pre.foldl stepP (List.replicate 9 0)
theorem foldP_snoc (pre : List Pair) (x : Pair) : foldP (pre ++ [x]) = stepP (foldP pre) x := by simp [foldP]
theorem stepP_len (L : List Int) (x : Pair) : (stepP L x).length = L.length := by
  unfold stepP; split <;> simp
theorem stepP_le (L : List Int) (x : Pair) (m : Int) (h0 : 0 ≤ m) (h : ∀ j : Nat, 0 ≤ L[j]?.getD 0 ∧ L[j]?.getD 0 ≤ m) : ∀ j : Nat, 0 ≤ (stepP L x)[j]?.getD 0 ∧ (stepP L x)[j]?.getD 0 ≤ m + 1 := by
  intro j
  have hj := h j
  unfold stepP
  split
  · rw [List.getElem?_set]
    split
    · split
      · have := h (x.1.val + 1)
        simp only [Option.getD_some]; omega
      · simp; omega
    · omega
  · omega
theorem foldP_ok : ∀ (n : Nat) (pre : List Pair), pre.length = n → (foldP pre).length = 9 ∧ ∀ j : Nat, 0 ≤ (foldP pre)[j]?.getD 0 ∧ (foldP pre)[j]?.getD 0 ≤ (n : Int) := by
  intro n
  induction n with
  | zero =>
    intro pre h
    have : pre = [] := List.eq_nil_of_length_eq_zero h
    subst this
    refine ⟨rfl, fun j => ?_⟩
    have : (foldP [])[j]?.getD 0 = 0 := by
      show (List.replicate 9 (0 : Int))[j]?.getD 0 = 0
      rw [List.getElem?_replicate]; split <;> rfl
    rw [this]; decide
  | succ n ih =>
    intro pre h
    have hne : pre ≠ [] := fun e => by rw [e] at h; cases h
    obtain ⟨q, x, rfl⟩ : ∃ q x, pre = q ++ [x] := ⟨pre.dropLast, pre.getLast hne, (List.dropLast_concat_getLast hne).symm⟩
    obtain ⟨h1, h2⟩ := ih q (by simpa using h)
    rw [foldP_snoc]
    refine ⟨by rw [stepP_len]; exact h1, fun j => ?_⟩
    have := stepP_le (foldP q) x n (by omega) h2 j
    push_cast
    exact this
theorem noughts_drop (v : List Int) (i : Nat) (hi : i < v.length) : Hostp.noughts (v.drop i) = if v[i]?.getD 0 = 0 then Hostp.noughts (v.drop (i + 1)) + 1 else 0 := by
  rw [List.drop_eq_getElem_cons hi, Hostp.noughts, List.getElem?_eq_getElem hi]; rfl
theorem foldP_back (v : List Int) (hv : v.length = 8) : ∀ k, k ≤ 8 → ∀ j, j < 9 → (foldP (back v k))[j]? = some (if 8 - k ≤ j then (Hostp.noughts (v.drop j) : Int) else 0) := by
  intro k
  induction k with
  | zero =>
    intro _ j hj
    show (List.replicate 9 (0 : Int))[j]? = _
    rw [List.getElem?_replicate, if_pos hj]
    split
    · rename_i h
      have : j = 8 := by omega
      subst this
      rw [List.drop_eq_nil_of_le (by omega)]; rfl
    · rfl
  | succ k ih =>
    intro hk j hj
    have ih' := ih (by omega)
    have hlen : (foldP (back v k)).length = 9 := (foldP_ok k (back v k) (back_len v k)).1
    rw [back_succ, foldP_snoc]
    unfold stepP
    simp only
    have hnd := noughts_drop v (7 - k) (by omega)
    rw [show 7 - k + 1 = 8 - k by omega] at hnd
    have h8 := ih' (8 - k) (by omega)
    rw [if_pos (Nat.le_refl _)] at h8
    by_cases hz : v[7 - k]?.getD 0 = 0
    · rw [if_pos hz] at hnd
      rw [if_pos hz, List.getElem?_set, show 7 - k + 1 = 8 - k by omega, h8]
      by_cases e : 7 - k = j
      · subst e
        rw [if_pos rfl, if_pos (by omega), if_pos (by omega), hnd]
        simp
      · rw [if_neg e, ih' j hj]
        by_cases h : 8 - k ≤ j
        · rw [if_pos h, if_pos (by omega)]
        · rw [if_neg h, if_neg (by omega)]
    · rw [if_neg hz] at hnd
      rw [if_neg hz, ih' j hj]
      by_cases h : 8 - k ≤ j
      · rw [if_pos h, if_pos (by omega)]
      · rw [if_neg h]
        by_cases e : 7 - k = j
        · subst e
          rw [if_pos (by omega), hnd]; rfl
        · rw [if_neg (by omega)]
theorem foldP_longs (v : List Int) (hv : v.length = 8) : foldP (back v 8) = (Hostp.longs v).map (fun n : Nat => (n : Int)) := by
  apply List.ext_getElem?
  intro j
  have hlen : (foldP (back v 8)).length = 9 := (foldP_ok 8 (back v 8) (back_len v 8)).1
  by_cases hj : j < 9
  · rw [foldP_back v hv 8 (Nat.le_refl _) j hj, if_pos (by omega)]
    simp [Hostp.longs, hj]
  · rw [List.getElem?_eq_none (by omega), List.getElem?_eq_none (by simp [Hostp.longs]; omega)]
theorem max_cast : ∀ (l : List Nat) (a : Nat), (l.map (fun n : Nat => (n : Int))).foldl max (a : Int) = ((l.foldl max a : Nat) : Int)
  | [], a => rfl
  | b :: l, a => by
    show (l.map _).foldl max (max (a : Int) (b : Int)) = ((l.foldl max (max a b) : Nat) : Int)
    rw [← max_cast l (max a b)]
    congr 1
    omega
theorem maxOf_longs (v : List Int) : Lib.maxOf ((Hostp.longs v).map (fun n : Nat => (n : Int))) = (Hostp.mostOf v : Int) := by
  unfold Lib.maxOf Hostp.mostOf
  have hl : Hostp.longs v = Hostp.noughts (v.drop 0) :: (Hostp.longs v).tail := by simp [Hostp.longs, List.range_succ_eq_map]
  rw [hl]
  show ((_ :: _ : List Int)).foldl max _ = _
  rw [List.map_cons, List.headD_cons, List.foldl_cons, Int.max_self, max_cast, List.foldl_cons, Nat.max_eq_right (Nat.zero_le _)]
theorem idxOf_longs (v : List Int) (h : 0 < Hostp.mostOf v) : Lib.idxOf ((Hostp.longs v).map (fun n : Nat => (n : Int))) (Hostp.mostOf v : Int) = (Hostp.atOf v : Int) := by
  obtain ⟨h1, h2⟩ := Hostp.at_ok v h
  have hlen : (Hostp.longs v).length = 9 := by simp [Hostp.longs]
  have hg : ∀ j, j < 9 → ((Hostp.longs v).map (fun n : Nat => (n : Int))).getD j 0 = (Hostp.noughts (v.drop j) : Int) := fun j hj => by simp [Hostp.longs, hj]
  unfold Lib.idxOf
  rw [Lib.idxFrom_hit (Hostp.mostOf v : Int) _ (Hostp.atOf v) 0 (by simp [hlen]; exact h1) (by rw [hg _ h1, h2]) (fun j hj => ?_)]
  · simp
  · rw [hg j (by omega)]
    have hnf := List.not_of_lt_findIdx (p := (· == Hostp.mostOf v)) (xs := Hostp.longs v) (i := j) hj
    have he : (Hostp.longs v)[j]'(by rw [hlen]; omega) = Hostp.noughts (v.drop j) := by simp [Hostp.longs]
    simp only [he] at hnf
    intro e
    simp at hnf
    omega
end Go.Proofs.YtahjndignkhmoaaGreatDoor
