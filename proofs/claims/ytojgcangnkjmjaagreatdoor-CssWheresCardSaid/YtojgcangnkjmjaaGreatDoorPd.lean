/- text.Points: what comes, in which order. -/
import Derived.Test.YtojgcangnkjmjaaGreatDoorPc
namespace Go.Proofs.YtojgcangnkjmjaaGreatDoor
namespace Cssp
open Go
/-- the code point that a text begins with -/
def runeN (s : List UInt8) : Nat := if (piece s).2 = true then (Lib.decodeL s).1 else 65533
def ptsF : Nat → Nat → List UInt8 → List (Nat × Nat)
  | 0, _, _ => []
  | f + 1, k, s => if s = [] then [] else (k, runeN s) :: ptsF f (k + (piece s).1) (s.drop (piece s).1)
def pts (k : Nat) (s : List UInt8) : List (Nat × Nat) := ptsF s.length k s
/-- a code point is no greater -/
def capR (n : Nat) : Nat := if n ≤ 1114111 then n else 0
theorem capR_le (n : Nat) : capR n ≤ 1114111 := by unfold capR; split <;> omega
theorem capR_eq {n : Nat} (h : n ≤ 1114111) : capR n = n := if_pos h
def txR (l : List (Nat × Nat)) : List UInt8 := l.flatMap fun x => Lib.encodeRune (capR x.2 : Int)
theorem ptsF_fuel : ∀ (f g k : Nat) (s : List UInt8), s.length ≤ f → s.length ≤ g → ptsF f k s = ptsF g k s
  | 0, g, k, s, hf, _ => by
    have : s = [] := List.eq_nil_of_length_eq_zero (by omega)
    subst this
    cases g <;> rfl
  | f + 1, 0, k, s, _, hg => by
    have : s = [] := List.eq_nil_of_length_eq_zero (by omega)
    subst this; rfl
  | f + 1, g + 1, k, s, hf, hg => by
    rw [ptsF, ptsF]
    split
    · rfl
    · have := piece_pos s
      rw [ptsF_fuel f g _ _ (by rw [List.length_drop]; omega) (by rw [List.length_drop]; omega)]
theorem pts_nil (k : Nat) : pts k [] = [] := rfl
theorem pts_step (k : Nat) (s : List UInt8) (h : s ≠ []) : pts k s = (k, runeN s) :: pts (k + (piece s).1) (s.drop (piece s).1) := by
  obtain ⟨c, r, rfl⟩ := List.exists_cons_of_ne_nil h
  have := piece_pos (c :: r)
  unfold pts
  rw [List.length_cons, ptsF, if_neg h, ptsF_fuel r.length ((c :: r).drop (piece (c :: r)).1).length _ _ (by rw [List.length_drop, List.length_cons]; omega) (Nat.le_refl _)]
theorem code_rune (s : List UInt8) (h : s ≠ []) : Lib.encodeRune (runeN s : Int) = code s := by
  unfold runeN
  cases hp : (piece s).2 with
  | true => rw [if_pos rfl, code_lib s h hp]
  | false =>
    rw [if_neg (by decide), code, if_neg (by rw [hp]; decide)]
    exact (by decide : Lib.encodeRune ((65533 : Nat) : Int) = fffd)
theorem runeN_le (s : List UInt8) : runeN s ≤ 1114111 := by
  unfold runeN
  split
  · exact Lib.decodeL_rune s
  · decide
theorem txR_pts : ∀ (f k : Nat) (s : List UInt8), s.length ≤ f → txR (pts k s) = decode s
  | 0, k, s, h => by
    have : s = [] := List.eq_nil_of_length_eq_zero (by omega)
    subst this; rfl
  | f + 1, k, s, h => by
    by_cases hn : s = []
    · subst hn; rfl
    · have hp := piece_pos s
      rw [pts_step k s hn, decode_step s hn, ← code_rune s hn, ← txR_pts f (k + (piece s).1) (s.drop (piece s).1) (by rw [List.length_drop]; omega)]
      show Lib.encodeRune (capR (runeN s) : Int) ++ _ = _
      rw [capR_eq (runeN_le s)]
      rfl
theorem decodeGo_L (s : List UInt8) (h : s ≠ []) : Lib.decodeGo ⟨s.toArray⟩ = Lib.decodeL s := by
  unfold Lib.decodeGo
  rw [if_neg]
  · rfl
  · rw [Lib.size_eq]
    exact fun e => h (List.eq_nil_of_length_eq_zero e)
end Cssp
open Go.RowKit Go.Shelf
attribute [local go_sem] Oper.semAt_some

/-- what lies in package variables -/
structure Tab (w : World) : Prop where
  utf : Lib.Utf8Tabs 0 1 w
  mx : ∃ m : Int, w.cell? ⟨2, 0, none⟩ = some (.int .i64 m)
theorem Tab.of_cells {w w' : World} (h : Tab w) (hb : ∀ k, k < 3 → w'.heap[k]? = w.heap[k]?) : Tab w' := by
  have hc : ∀ k j, k < 3 → w'.cell? ⟨k, j, none⟩ = w.cell? ⟨k, j, none⟩ := fun k j hk => World.cell?_of_block (a := ⟨k, j, none⟩) (hb k hk)
  refine ⟨⟨fun c hc' => ?_, fun i hi => ?_⟩, ?_⟩
  · rw [hc 0 c (by omega)]; exact h.utf.1 c hc'
  · rw [hc 1 _ (by omega), hc 1 _ (by omega)]; exact h.utf.2 i hi
  · obtain ⟨m, hm⟩ := h.mx
    exact ⟨m, by rw [hc 2 0 (by omega)]; exact hm⟩
theorem Tab.lt {w : World} (h : Tab w) : 2 < w.heap.size := by
  obtain ⟨m, hm⟩ := h.mx
  rcases Nat.lt_or_ge 2 w.heap.size with h2 | h2
  · exact h2
  · rw [World.cell?] at hm
    simp [Array.getElem?_eq_none h2] at hm
theorem Tab.below {w w' : World} (h : Tab w) {B : Nat} (hB : 3 ≤ B) (hb : Below B w w') : Tab w' := h.of_cells fun k hk => hb.block k (by omega)
abbrev encR (x : Nat × Nat) : Array Value := #[.int .i64 (x.1 : Int), .int .i32 (Cssp.capR x.2 : Int)]

set_option maxRecDepth 100000 in
set_option maxHeartbeats 4000000 in
theorem points_in (n : Nat) (hn : 1 ≤ n) (l Bs B : Nat) (s : List UInt8) (J Jx : List (Nat × Nat) → World → Prop) (W : World) (hB : 3 ≤ B) (hlen : s.length ≤ 140737488355328)
    (hJ : AbidesFrom W.heap.size J)
    (hY : ∀ pre x W, J pre W → pre.length < s.length → YieldAt Fence.wide (n - 1) Tryz.prog l (encR x) W fun e W' =>
      (e = .returned (.bool true) ∧ J (pre ++ [x]) W' ∧ Keep B W W') ∨ (e = .returned (.bool false) ∧ Jx (pre ++ [x]) W'))
    (hW : B ≤ W.heap.size) (hb : W.heap[Bs]? = some (.cells #[S s] 9 (0, 0))) (ht : Tab W) (h0 : J [] W) :
    CallsIn Fence.wide n Tryz.prog 92 #[.func (.yield l) #[] #[], .pointer (some ⟨Bs, 0, none⟩)] W fun e W' => (∃ v, e = .returned v) ∧
      ((∃ ys, ys = Cssp.pts 0 s ∧ J ys W') ∨ (∃ pre, True ∧ Jx pre W')) := by
  refine callsIn_of_wp Tryz.func92 rfl trivial ?_ rfl
  simp only [Tryz.ntmps92, List.size_toArray, List.length_cons, List.length_nil, Nat.reduceAdd, Nat.reduceSub, Array.replicate_succ, Array.replicate_zero, List.push_toArray, List.append_toArray, List.nil_append, List.cons_append]
  gi_wp2
  gi_loopw [3] (fun i wr => ∃ (k : Nat) (pre : List (Nat × Nat)), k ≤ s.length ∧ i = .int .i64 k ∧ J pre wr ∧ pre.length ≤ k ∧ Hid (Cssp.pts 0 s = pre ++ Cssp.pts k (s.drop k)) ∧ Keep B W wr)
    (fun i _ => (s.length - intOf i).toNat)
  case atStart => exact ⟨0, [], Nat.zero_le _, rfl, h0, Nat.le_refl _, by unfold Hid; simp, Keep.refl _ _⟩
  case round =>
    obtain ⟨k, pre, hk, rfl, hJs, hpl, hSt, hBw⟩ := hrel
    have hbx : wr.cell? ⟨Bs, 0, none⟩ = some (S s) := by rw [Lib.cell_of_heap (hBw.2 _ _ _ _ hb (by decide) (by decide))]; rfl
    have hBz := hBw.below.size
    by_cases hlt : k < s.length
    · have b0 : (0 : Int) ≤ (k : Int) := by omega
      have b1 : (k : Int) ≤ (s.length : Int) := by omega
      have b2 : (k : Int) < (s.length : Int) := by omega
      have hne : s.drop k ≠ [] := fun e => by
        have := congrArg List.length e
        rw [List.length_drop, List.length_nil] at this
        omega
      obtain ⟨r, hr⟩ : ∃ r, s.drop k = r := ⟨_, rfl⟩
      have hPc := tPiece (s.drop k) wr hne (by rw [List.length_drop]; omega)
      have hstep := Cssp.pts_step k (s.drop k) hne
      have hple := Cssp.piece_le (s.drop k) hne
      have hrn := Cssp.runeN_le (s.drop k)
      have hgo := Cssp.decodeGo_L (s.drop k) hne
      have hst := hSt.out
      rw [hstep, List.drop_drop] at hst
      have hrl : r.length + k = s.length := by rw [← hr, List.length_drop]; omega
      unfold Cssp.runeN at hst hrn
      rw [hr] at hPc hst hple hrn hgo
      obtain ⟨p, hp⟩ : ∃ p, Cssp.piece r = p := ⟨_, rfl⟩
      rw [hp] at hPc hst hple hrn
      obtain ⟨pn, pk⟩ := p
      simp only at hPc hst hple hrn
      have HST := hide hst
      have HPC := hide hPc
      have HGO := hide hgo
      have HRN := hide hrn
      clear hst hPc hgo hrn hp hSt hstep hne
      have htk : List.take (s.length - k) r = r := List.take_of_length_le (by omega)
      gi_wp2
      refine ⟨trivial, callsIn_wide.2 (HPC.out.mono ?_)⟩
      rintro e w1 ⟨rfl, hb1⟩
      have hbw1 : Keep B W w1 := hBw.trans (Keep.of_below (Nat.le_trans hW hBz) hb1)
      have hJ1 : J pre w1 := hJ pre wr w1 none hJs ⟨hb1.os, hb1.tape, hb1.output, hb1.size, fun k hk _ => hb1.block k hk⟩ (fun r e => by cases e)
      have hbx1 : w1.cell? ⟨Bs, 0, none⟩ = some (S s) := by rw [Lib.cell_of_heap (hbw1.2 _ _ _ _ hb (by decide) (by decide))]; rfl
      have hBz1 := hbw1.below.size
      clear HPC hJs hbx
      cases pk with
      | false =>
        have hst := HST.out
        rw [if_neg (by decide)] at hst
        have HST2 := hide hst
        clear HST HRN HGO hst
        obtain ⟨fn, tmps, assign, body, hy, hR⟩ := hY pre (k, 65533) w1 hJ1 (by omega)
        unfold encR at hy
        dsimp only at hy
        rw [show ((Cssp.capR 65533 : Nat) : Int) = 65533 from rfl] at hy
        gi_wp2
        refine hR.mono ?_
        rintro e W3 (⟨rfl, hJ3, hk3⟩ | ⟨rfl, hJx3⟩)
        · gi_wp2
          go_roundw
          case rel => exact ⟨k + pn, pre ++ [(k, 65533)], by omega, by go_num, hJ3, by simp; omega, by unfold Hid; rw [HST2.out, List.append_assoc]; rfl, hbw1.trans hk3⟩
          case measure => simp [intOf]; omega
        · gi_wp2
          refine bodyPost_ret (results_none rfl _ _ _) rfl ?_
          exact ⟨⟨_, rfl⟩, .inr ⟨_, trivial, hJx3⟩⟩
      | true =>
        have hst := HST.out
        rw [if_pos rfl] at hst
        have HST2 := hide hst
        have hD := Tryz.utf8_DecodeRuneInString ⟨r.toArray⟩ w1 (ht.below hB hbw1.below).utf
        rw [HGO.out] at hD
        have hrn := HRN.out
        rw [if_pos rfl] at hrn
        obtain ⟨D, hDD⟩ : ∃ D, Lib.decodeL r = D := ⟨_, rfl⟩
        rw [hDD] at hD hrn
        have HST3 : Hid (Cssp.pts 0 s = pre ++ (k, D.1) :: Cssp.pts (k + pn) (List.drop (k + pn) s)) := by
          have := HST2.out
          rw [hDD] at this
          exact this
        obtain ⟨rn, rw_⟩ := D
        simp only at hD hrn
        have HD := hide hD
        clear HST HRN HGO hst HST2 hDD hD
        gi_wp2
        refine ⟨trivial, callsIn_wide.2 (HD.out.mono ?_)⟩
        rintro e w2 ⟨rfl, hb2⟩
        have hbw2 : Keep B W w2 := hbw1.trans (Keep.of_below (Nat.le_trans hW hBz1) hb2)
        have hJ2 : J pre w2 := hJ pre w1 w2 none hJ1 ⟨hb2.os, hb2.tape, hb2.output, hb2.size, fun k hk _ => hb2.block k hk⟩ (fun r e => by cases e)
        clear HD hJ1 hbx1
        obtain ⟨fn, tmps, assign, body, hy, hR⟩ := hY pre (k, rn) w2 hJ2 (by omega)
        unfold encR at hy
        dsimp only at hy
        rw [Cssp.capR_eq hrn] at hy
        gi_wp2
        refine hR.mono ?_
        rintro e W3 (⟨rfl, hJ3, hk3⟩ | ⟨rfl, hJx3⟩)
        · gi_wp2
          go_roundw
          case rel => exact ⟨k + pn, pre ++ [(k, rn)], by omega, by go_num, hJ3, by simp; omega, by unfold Hid; rw [HST3.out, List.append_assoc]; rfl, hbw2.trans hk3⟩
          case measure => simp [intOf]; omega
        · gi_wp2
          refine bodyPost_ret (results_none rfl _ _ _) rfl ?_
          exact ⟨⟨_, rfl⟩, .inr ⟨_, trivial, hJx3⟩⟩
    · obtain rfl : k = s.length := by omega
      gi_wp2
      go_end0
      have := hSt.out
      rw [List.drop_length, Cssp.pts_nil, List.append_nil] at this
      exact ⟨⟨_, rfl⟩, .inl ⟨_, this.symm, hJs⟩⟩

theorem points_stops (n : Nat) (hn : 1 ≤ n) (Bs B : Nat) (s : List UInt8) (w : World) (hB : 3 ≤ B) (hBw : B ≤ w.heap.size) (hlen : s.length ≤ 140737488355328) (hb : w.heap[Bs]? = some (.cells #[S s] 9 (0, 0))) (ht : Tab w) :
    SeqStopsK Fence.wide n Tryz.prog 92 #[.pointer (some ⟨Bs, 0, none⟩)] encR (Keep B) (fun ys => ys = Cssp.pts 0 s) (fun _ => True) s.length w := fun l J Jx W hW hJ _ hY h0 =>
  points_in n hn l Bs B s J Jx W hB hlen hJ hY (Nat.le_trans hBw hW.size) ((hW.block Bs (heap_lt hb)).trans hb) (ht.below (Nat.le_trans hB hBw) hW) h0
set_option maxHeartbeats 1000000 in
theorem tPoints (s : List UInt8) (w : World) : Calls Tryz.prog 60 #[S s] w fun e w' => e = .returned (.func (.func 92) #[] #[.pointer (some ⟨w.heap.size, 0, none⟩)]) ∧ w.alloc (.cells #[S s] 9) = w' := by
  have hmf : ∀ (fn : Fn) (first cap : Array Value) (w : World), (Instr.makeFunc fn first cap).run Tryz.prog w = .ok (.func fn first cap) w := fun _ _ _ _ => rfl
  go_enter Tryz.func60, Tryz.ntmps60
  go_wp2
  go_ret
  exact ⟨rfl, rfl⟩
end Go.Proofs.YtojgcangnkjmjaaGreatDoor
