/- An address of eight numbers, read: the walk. -/
import Derived.Test.YtahjndignkhmoaaGreatDoorO
import Derived.Laws.CopyOwn
namespace Go.Proofs.YtahjndignkhmoaaGreatDoor
open Go.RowKit

namespace Hostp
theorem pre2 (c d : UInt8) (r : List UInt8) : [58, 58].isPrefixOf (c :: d :: r) = (decide (c = 58 ∧ d = 58)) := by
  rw [Bool.eq_iff_iff, decide_eq_true_eq]
  simp [List.isPrefixOf]
  constructor
  · rintro ⟨h1, h2⟩; exact ⟨h1.symm, h2.symm⟩
  · rintro ⟨h1, h2⟩; exact ⟨h1.symm, h2.symm⟩
theorem index2 : ∀ s : List UInt8, (cut2 s = none → Lib.index s [58, 58] = -1) ∧ ∀ a b, cut2 s = some (a, b) → s = a ++ 58 :: 58 :: b ∧ Lib.index s [58, 58] = (a.length : Int)
  | [] => ⟨fun _ => rfl, fun a b h => (by cases h)⟩
  | [c] => ⟨fun _ => by
      have : [58, 58].isPrefixOf [c] = false := by simp [List.isPrefixOf]
      rw [Lib.index, this]; rfl, fun a b h => (by cases h)⟩
  | c :: d :: r => by
    obtain ⟨h1, h2⟩ := index2 (d :: r)
    rw [cut2]
    by_cases hc : c = 58 ∧ d = 58
    · rw [if_pos hc]
      refine ⟨fun h => (by cases h), fun a b h => ?_⟩
      injection h with h
      injection h with ha hb
      subst ha hb
      obtain ⟨rfl, rfl⟩ := hc
      refine ⟨rfl, ?_⟩
      rw [Lib.index, pre2]; rfl
    · rw [if_neg hc]
      have hp : [58, 58].isPrefixOf (c :: d :: r) = false := by rw [pre2, decide_eq_false hc]
      refine ⟨fun h => ?_, fun a b h => ?_⟩
      · have hn : cut2 (d :: r) = none := by
          cases e : cut2 (d :: r) with
          | none => rfl
          | some x => rw [e] at h; cases h
        rw [Lib.index, hp, h1 hn]; rfl
      · obtain ⟨x, hx, e⟩ := Option.map_eq_some_iff.1 h
        injection e with e1 e2
        subst e1 e2
        obtain ⟨q1, q2⟩ := h2 x.1 x.2 hx
        refine ⟨by rw [q1]; rfl, ?_⟩
        rw [Lib.index, hp, q2]
        have : ((x.1.length : Int) == -1) = false := by rw [beq_eq_false_iff_ne]; omega
        simp [this]
theorem cut2_len (s a b : List UInt8) (h : cut2 s = some (a, b)) : a.length + b.length + 2 = s.length := by
  have := (index2 s).2 a b h
  rw [this.1]; simp; omega
theorem cutTwo_no (s : List UInt8) (h : cut2 s = none) : Lib.cut s [58, 58] = (s, [], false) := by
  unfold Lib.cut
  rw [(index2 s).1 h, if_neg (by decide)]
theorem cutTwo_at (s a b : List UInt8) (h : cut2 s = some (a, b)) : Lib.cut s [58, 58] = (a, b, true) := by
  obtain ⟨h1, h2⟩ := (index2 s).2 a b h
  unfold Lib.cut
  rw [h2, if_pos (by omega), Int.toNat_natCast]
  have e1 : s.take a.length = a := by rw [h1, List.take_left]
  have e2 : s.drop (a.length + 2) = b := by rw [h1, ← List.drop_drop, List.drop_left]; rfl
  rw [e1]
  show (a, s.drop (a.length + 2), true) = _
  rw [e2]
theorem groupsF_len (last : Bool) : ∀ (ws : List (List UInt8)) (l : List Int), groupsF last ws = some l → l.length ≤ ws.length + 1
  | [], l, h => by
    rw [groupsF] at h
    injection h with h
    subst h; simp
  | w :: r, l, h => by
    rw [groupsF] at h
    split at h
    · rename_i q
      rw [q.2.1]
      unfold fourP at h
      split at h
      · split at h
        · injection h with h
          subst h; simp
        · cases h
      · cases h
    · split at h
      · obtain ⟨k, hk, rfl⟩ := Option.map_eq_some_iff.1 h
        have := groupsF_len last r k hk
        simp only [List.length_cons]; omega
      · cases h
theorem groups_len (s : List UInt8) (last : Bool) (l : List Int) (h : groups s last = some l) : l.length ≤ s.length + 2 := by
  unfold groups at h
  split at h
  · injection h with h
    subst h; simp
  · have := groupsF_len last _ l h
    have := (splitOn_len 58 s).2
    omega
/-- both ways in one -/
def v6two (sh : Bool) : Option (List Int) → Option (List Int) → Option (List Int)
  | some l, some m => if (if sh = true then 7 < l.length + m.length else l.length + m.length ≠ 8) then none else some (l ++ List.replicate (8 - l.length - m.length) 0 ++ m)
  | _, _ => none
theorem v6_two (s : List UInt8) : ∃ a b sh, Lib.cut s [58, 58] = (a, b, sh) ∧ a.length ≤ s.length ∧ b.length ≤ s.length ∧ v6 s = v6two sh (groups a (!sh)) (groups b true) := by
  cases hc : cut2 s with
  | none =>
    refine ⟨s, [], false, cutTwo_no s hc, Nat.le_refl _, by simp, ?_⟩
    rw [v6, hc]
    simp only [Bool.not_false]
    rw [show groups [] true = some [] from rfl]
    cases groups s true with
    | none => rfl
    | some l =>
      simp only [v6two, Bool.false_eq_true, if_false, List.length_nil, Nat.add_zero, Nat.sub_zero, List.append_nil]
      by_cases h : l.length = 8
      · rw [if_pos h, if_neg (by omega), h]; simp
      · rw [if_neg h, if_pos h]
  | some x =>
    obtain ⟨a, b⟩ := x
    have := cut2_len s a b hc
    refine ⟨a, b, true, cutTwo_at s a b hc, by omega, by omega, ?_⟩
    rw [v6, hc]
    simp only [Bool.not_true]
    cases groups a false with
    | none => rfl
    | some l =>
      cases groups b true with
      | none => rfl
      | some m =>
        simp only [v6two, if_true]
        by_cases h : l.length + m.length ≤ 7
        · rw [if_pos h, if_neg (by omega)]
        · rw [if_neg h, if_pos (by omega)]
end Hostp

def v6V : Option (List Int) → Value
  | some l => .tuple #[.agg (l.map U16).toArray, .int .i64 0]
  | none => .tuple #[.agg Z8, .int .i64 110]

/-- 'copy(dst, src)' into a row that is known whole: every other block stands -/
theorem wpList_copy_rest {P : Program} {w : World} {ops : Array Oper} {rest : List Oper} {o : Oper} {a : Act} {Q : Exit → Act → World → Prop} (hgd : o.guard = none) (d s : Operand) (dT sT : TypeId)
    (ho : o.op = .call { callee := .builtin .copy, args := #[d, s], argTypes := #[dT, sT] }) (elem : TypeId) (hu : P.underlying dT = some (.slice elem)) (hsz : (P.info? elem).map (·.size) = some 1)
    (dp sp : Option Addr) (dLen dCap sLen sCap : Nat) (hd : a.eval d = .slice dp dLen dCap) (hs : a.eval s = .slice sp sLen sCap)
    (g off : Nat) (cur : List Value) (t : TypeId) (hg : w.heap[g]? = some (.cells cur.toArray t (0, 0))) (cs : List Value) (hn : cs.length = Nat.min sLen dLen)
    (hpos : 0 < cs.length → dp = some ⟨g, off, none⟩ ∧ ∃ ad, sp = some ad ∧ ∀ j v, cs[j]? = some v → w.cell? (ad.add j) = some v)
    (hfit : off + cs.length ≤ cur.length) (h1 : ∀ v ∈ cs, v.oneCell' = true) (B : Nat) (w0 : World) (hb : Below B w0 w) (hBg : B ≤ g)
    (h : ∀ w', Hid (w'.heap[g]? = some (.cells (splice cur off cs).toArray t (0, 0))) → Hid (∀ k, k ≠ g → w'.heap[k]? = w.heap[k]?) → Below B w0 w' → wpList P ops Q rest (a.put o.dst (goInt cs.length)) w') :
    wpList P ops Q (o :: rest) a w := by
  by_cases h0 : cs.length = 0
  · obtain rfl : cs = [] := List.eq_nil_of_length_eq_zero h0
    refine wpList_copy_nothing hgd d s dT sT ho elem hu hsz dp sp dLen dCap sLen sCap hd hs (by simpa using hn.symm) ?_
    exact h w (show _ = _ by simpa [splice] using hg) (fun _ _ => rfl) hb
  · obtain ⟨rfl, ad, rfl, hsrc⟩ := hpos (by omega)
    refine wpList_copy_own hgd d s dT sT ho elem hu hsz g off dLen dCap ad sLen sCap hd hs cur.toArray t hg cs hn hsrc (by simpa using hfit) h1 ?_
    exact h _ (show _ = _ by simpa [splice] using setRow_heap w g _ _ t _ hg) (fun k hk => setRow_other w g k _ hk) (below_setRow hb hBg _)
theorem splice_two (l m : List Int) (h : l.length + m.length ≤ 8) :
    splice (splice (Z8.toList) 0 (l.map U16)) (8 - m.length) (m.map U16) = (l ++ List.replicate (8 - l.length - m.length) 0 ++ m).map U16 := by
  have e8 : Z8.toList = List.replicate 8 (U16 0) := rfl
  rw [e8]
  unfold splice
  simp only [List.take_zero, List.nil_append, Nat.zero_add, List.length_map, List.drop_replicate, List.map_append, List.map_replicate]
  rw [List.take_append, List.drop_append]
  simp only [List.length_map, List.take_replicate, List.drop_replicate]
  rw [List.take_of_length_le (by simp; omega), show 8 - m.length + m.length = 8 by omega, List.drop_eq_nil_of_le (by simp; omega)]
  rw [show min (8 - m.length - l.length) (8 - l.length) = 8 - l.length - m.length by omega, show 8 - l.length - (8 - l.length) = 0 by omega]
  simp

theorem ownsRow_form {w : World} {B : Nat} {v : Value} {n : Nat} {xs : List Value} (h : w.ownsRow B 24 1 v n xs) : ∃ sp cap, v = .slice sp n cap ∧ (0 < xs.length → ∃ ad : Addr, sp = some ad ∧ B ≤ ad.block ∧ ∀ j u, xs[j]? = some u → w.cell? (ad.add j) = some u) ∧ xs.length = n := by
  have hl := h.1
  rcases h.2 with ⟨rfl, rfl⟩ | ⟨g, cap, cur, rfl, hg, hgg, _⟩
  · have h0 : xs.length = 0 := by simpa using hl
    exact ⟨none, 0, rfl, fun h => absurd h (by omega), h0⟩
  · refine ⟨some ⟨g, 0, none⟩, cap, rfl, fun _ => ⟨⟨g, 0, none⟩, rfl, hg, ?_⟩, by omega⟩
    exact h.cells (g := g) rfl

theorem list8 {α : Type} {l : List α} (h : l.length = 8) : ∃ a b c d e f g i, l = [a, b, c, d, e, f, g, i] := by
  match l, h with
  | [a, b, c, d, e, f, g, i], _ => exact ⟨a, b, c, d, e, f, g, i, rfl⟩
theorem len8 : Tryz.prog.arrayLen 25 = 8 := by simp [Program.arrayLen, Tryz.underlying25]
theorem elem8 : Tryz.prog.elem 25 = 24 := by simp [Program.elem, Tryz.underlying25]
theorem size16 (w : World) : (sizeOf 24).run Tryz.prog w = .ok 1 w := by
  simp [sizeOf, go_sem]
  rfl
theorem slice8_l (B : Nat) (l : Int) (n : Nat) (h0 : 0 ≤ l) (h8 : l < 8) (hn : l + n = 8) (w : World) : (Instr.sliceAt 25 (.pointer (some ⟨B, 0, none⟩)) (some (.int .i64 l)) none none).run Tryz.prog w = .ok (.slice (some ⟨B, 8 - n, none⟩) n n) w := by
  rw [run_sliceAt_array_l w 25 ⟨B, 0, none⟩ (by simp [Program.arrayLen, Program.elem, Tryz.underlying25]) .i64 l h0 (by rw [len8]; omega), elem8, size16, len8]
  simp only [Result.andThen, slicedAt]
  rw [if_neg (by omega), show (8 : Nat) - l.toNat = n by omega, show l.toNat = 8 - n by omega]
  simp [Addr.add]
  omega
theorem slice8_h (B n : Nat) (h8 : n ≤ 8) (w : World) : (Instr.sliceAt 25 (.pointer (some ⟨B, 0, none⟩)) none (some (.int .i64 (n : Int))) none).run Tryz.prog w = .ok (.slice (some ⟨B, 0, none⟩) n 8) w := by
  rw [run_sliceAt_array_h w 25 ⟨B, 0, none⟩ (by simp [Program.arrayLen, Program.elem, Tryz.underlying25]) .i64 (n : Int) (by omega) (by rw [len8]; omega), elem8, size16, len8]
  simp [Result.andThen, slicedAt, Addr.add]
theorem cells81 {w : World} {B : Nat} {a0 a1 a2 a3 a4 a5 a6 a7 e : Value} {T U : TypeId} (h : w.heap[B]? = some (.cells #[a0, a1, a2, a3, a4, a5, a6, a7] T (0, 0))) (h1 : w.heap[B + 1]? = some (.cells #[e] U (0, 0))) :
    (w.cell? ⟨B, 0, none⟩ = some a0 ∧ w.cell? ⟨B, 1, none⟩ = some a1 ∧ w.cell? ⟨B, 2, none⟩ = some a2 ∧ w.cell? ⟨B, 3, none⟩ = some a3 ∧ w.cell? ⟨B, 4, none⟩ = some a4 ∧ w.cell? ⟨B, 5, none⟩ = some a5 ∧ w.cell? ⟨B, 6, none⟩ = some a6 ∧ w.cell? ⟨B, 7, none⟩ = some a7) ∧ w.cell? ⟨B + 1, 0, none⟩ = some e := by
  refine ⟨⟨?_, ?_, ?_, ?_, ?_, ?_, ?_, ?_⟩, by rw [Lib.cell_of_heap h1]; rfl⟩ <;> (rw [Lib.cell_of_heap h]; rfl)

set_option maxHeartbeats 8000000 in
set_option maxRecDepth 100000 in
theorem hV6 (s : List UInt8) (r : Option (List Int)) (w : World) (ht : Tab w) (hl : s.length ≤ 4194304) (hr : Hid (Hostp.v6 s = r)) :
    Calls Tryz.prog 12 #[S s] w fun e w' => e = .returned (v6V r) ∧ Below w.heap.size w w' := by
  have hmf : ∀ (fn : Fn) (first cap : Array Value) (w : World), (Instr.makeFunc fn first cap).run Tryz.prog w = .ok (.func fn first cap) w := fun _ _ _ _ => rfl
  have h8 : ((w.alloc (.cells Z8 25)).alloc (.cells #[.int .i64 0] 29)).heap[w.heap.size]? = some (.cells Z8 25 (0, 0)) := by
    rw [Below.heap_alloc _ _ _ (by simp)]; exact heap_alloc_last _ _
  have h1 : ((w.alloc (.cells Z8 25)).alloc (.cells #[.int .i64 0] 29)).heap[w.heap.size + 1]? = some (.cells #[.int .i64 0] 29 (0, 0)) := by
    have := heap_alloc_last (w.alloc (.cells Z8 25)) (.cells #[.int .i64 0] 29)
    simpa using this
  have hbl : Below w.heap.size w ((w.alloc (.cells Z8 25)).alloc (.cells #[.int .i64 0] 29)) := ((Below.refl _ _).alloc (Nat.le_refl _) _).alloc (by simp) _
  have hsz : ((w.alloc (.cells Z8 25)).alloc (.cells #[.int .i64 0] 29)).heap.size = w.heap.size + 2 := by simp
  obtain ⟨a, b, sh, hcut, hal, hbl2, hv6⟩ := Hostp.v6_two s
  obtain ⟨q1, hq1⟩ : ∃ q, Hostp.groups a (!sh) = q := ⟨_, rfl⟩
  obtain ⟨q2, hq2⟩ : ∃ q, Hostp.groups b true = q := ⟨_, rfl⟩
  have hr2 := hr.out
  rw [hv6, hq1, hq2] at hr2
  obtain ⟨m0, hm0⟩ := (ht.below hbl).max
  have htab := ht.below hbl
  have HC := hide hcut
  have HQ1 := hide hq1
  have HQ2 := hide hq2
  have HR := hide hr2
  clear hcut hq1 hq2 hr2 hr hv6
  go_enter_defers Tryz.func12, Tryz.ntmps12
  go_wp2_with fail
  obtain ⟨w1, hw1⟩ : ∃ x, x = (w.alloc (.cells Z8 25)).alloc (.cells #[.int .i64 0] 29) := ⟨_, rfl⟩
  rw [← hw1] at h8 h1 hbl hsz hm0 htab ⊢
  obtain ⟨B, hB⟩ : ∃ B, w.heap.size = B := ⟨_, rfl⟩
  rw [hB] at h8 h1 hbl hsz ⊢
  have HBB := hide hB
  clear hw1 hB ht
  refine (sCut s [58, 58] a b sh m0 _ (by omega) hm0 HC).mono ?_
  rintro e w2 ⟨rfl, nq, rfl⟩
  have htab2 : Tab (w1.drewN nq) := htab.below (belowN _ _)
  have hbl2 : Below B w (w1.drewN nq) := hbl.trans ((belowN w1 nq).mono (by omega))
  have h82 : (w1.drewN nq).heap[B]? = some (.cells Z8 25 (0, 0)) := h8
  have h12 : (w1.drewN nq).heap[B + 1]? = some (.cells #[.int .i64 0] 29 (0, 0)) := h1
  have hsz2 : (w1.drewN nq).heap.size = B + 2 := hsz
  obtain ⟨w2, hw2⟩ : ∃ x, x = w1.drewN nq := ⟨_, rfl⟩
  rw [← hw2] at htab2 hbl2 h82 h12 hsz2 ⊢
  clear hw2 hm0 h8 h1 hbl hsz htab
  go_wp2_with fail
  refine (hGroups a (!sh) q1 _ htab2 (by omega) HQ1).mono ?_
  rintro e w3 ⟨hE, hb3⟩
  have hs3 := hb3.size
  have hbw3 : Below B w w3 := hbl2.trans (hb3.mono (by omega))
  have h83 := (hb3.block B (by omega)).trans h82
  have h13 := (hb3.block (B + 1) (by omega)).trans h12
  have htab3 := htab2.below hb3
  rcases hE with ⟨l, v1, rfl, rfl, hown1⟩ | ⟨rfl, rfl⟩
  · go_wp2_with fail
    refine (hGroups b true q2 _ htab3 (by omega) HQ2).mono ?_
    rintro e w4 ⟨hE, hb4⟩
    have hs4 := hb4.size
    have hbw4 : Below B w w4 := hbw3.trans (hb4.mono (by omega))
    have h84 := (hb4.block B (by omega)).trans h83
    have h14 := (hb4.block (B + 1) (by omega)).trans h13
    have hown14 := owns_below hown1 hb4
    rcases hE with ⟨m, v2, rfl, rfl, hown2⟩ | ⟨rfl, rfl⟩
    · obtain ⟨sp1, cap1, rfl, hp1, hn1⟩ := ownsRow_form hown14
      obtain ⟨sp2, cap2, rfl, hp2, hn2⟩ := ownsRow_form hown2
      have HP1 := hide hp1
      have HP2 := hide hp2
      obtain ⟨nl, hnl⟩ : ∃ nl, l.length = nl := ⟨_, rfl⟩
      obtain ⟨nm, hnm⟩ : ∃ nm, m.length = nm := ⟨_, rfl⟩
      have hnl0 := Hostp.groups_len a (!sh) l HQ1.out
      have hnm0 := Hostp.groups_len b true m HQ2.out
      have hres := HR.out
      unfold Hostp.v6two at hres
      simp only [hnl, hnm] at hres
      rw [hnl] at hnl0 ⊢
      rw [hnm] at hnm0 ⊢
      have HNL := hide hnl
      have HNM := hide hnm
      clear hp1 hp2 hown1 hown14 hown2 hnl hnm hn1 hn2 HQ1 HQ2
      by_cases hbad : (if sh = true then 7 < nl + nm else nl + nm ≠ 8)
      · rw [if_pos hbad] at hres
        subst hres
        cases sh with
        | true =>
          have hbad' : 7 < nl + nm := by simpa using hbad
          clear hbad
          go_wp2_with fail
          refine leaves_cons (f := 34) (args := #[.pointer (some ⟨B, 0, none⟩), .pointer (some ⟨B + 1, 0, none⟩)]) (by simp) (by simp [go_sem]) ?_
          refine (v6_caught B Z8 0 _ rfl ⟨h84, h14⟩).mono ?_
          rintro e u' w9 ⟨rfl, rfl, ⟨k8, k1⟩, kb⟩
          obtain ⟨⟨c0, c1, c2, c3, c4, c5, c6, c7⟩, e0⟩ := cells81 k8 k1
          simp [Leaves, settle, results, Tryz.results12, go_sem, c0, c1, c2, c3, c4, c5, c6, c7, e0]
          exact ⟨rfl, by rw [HBB.out]; exact hbw4.trans kb⟩
        | false =>
          have hbad2 : nl + nm ≠ 8 := by simpa using hbad
          have hbad' : (((nl : Int) + (nm : Int)) != 8) = true := bne_iff_ne.2 (by omega)
          clear hbad
          go_wp2_with fail
          refine leaves_cons (f := 34) (args := #[.pointer (some ⟨B, 0, none⟩), .pointer (some ⟨B + 1, 0, none⟩)]) (by simp) (by simp [go_sem]) ?_
          refine (v6_caught B Z8 0 _ rfl ⟨h84, h14⟩).mono ?_
          rintro e u' w9 ⟨rfl, rfl, ⟨k8, k1⟩, kb⟩
          obtain ⟨⟨c0, c1, c2, c3, c4, c5, c6, c7⟩, e0⟩ := cells81 k8 k1
          simp [Leaves, settle, results, Tryz.results12, go_sem, c0, c1, c2, c3, c4, c5, c6, c7, e0]
          exact ⟨rfl, by rw [HBB.out]; exact hbw4.trans kb⟩
      · rw [if_neg hbad] at hres
        have hln : nl + nm ≤ 8 := by
          cases sh with
          | true =>
            have : ¬ 7 < nl + nm := by simpa using hbad
            omega
          | false =>
            have : nl + nm = 8 := by simpa using hbad
            omega
        have hsp := splice_two l m (by rw [HNL.out, HNM.out]; exact hln)
        rw [HNL.out, HNM.out] at hsp
        obtain ⟨X1, hX1⟩ : ∃ X, l.map U16 = X := ⟨_, rfl⟩
        obtain ⟨X2, hX2⟩ : ∃ X, m.map U16 = X := ⟨_, rfl⟩
        have hx1l : X1.length = nl := by rw [← hX1, List.length_map, HNL.out]
        have hx2l : X2.length = nm := by rw [← hX2, List.length_map, HNM.out]
        have ho1 : ∀ v ∈ X1, v.oneCell' = true := by rw [← hX1]; exact one16 l
        have ho2 : ∀ v ∈ X2, v.oneCell' = true := by rw [← hX2]; exact one16 m
        rw [hX1] at HP1 hsp
        rw [hX2] at HP2 hsp
        have HS := hide hsp
        have HO1 := hide ho1
        have HO2 := hide ho2
        have HX1L := hide hx1l
        have HX2L := hide hx2l
        have hall : ∀ n ∈ l ++ List.replicate (8 - nl - nm) 0 ++ m, True := fun _ _ => trivial
        have hway : (sh = true ∧ ¬ 7 < nl + nm) ∨ (sh = false ∧ (((nl : Int) + (nm : Int)) != 8) = false) := by
          cases sh with
          | true => exact .inl ⟨rfl, by simpa using hbad⟩
          | false => exact .inr ⟨rfl, by
              have : nl + nm = 8 := by simpa using hbad
              simp; omega⟩
        clear hbad hsp ho1 ho2 hx1l hx2l hX1 hX2 hall
        have HRES := hide hres
        clear hres
        have hm8 : Nat.min nl 8 = nl := by show min nl 8 = nl; omega
        have hmm : Nat.min nm nm = nm := by show min nm nm = nm; omega
        have HM8 := hide hm8
        have HMM := hide hmm
        clear hm8 hmm
        have hm0 : nm = 0 ∨ 0 < nm := by omega
        rcases hway with ⟨rfl, hb1⟩ | ⟨rfl, hb1⟩
        all_goals
          rcases hm0 with rfl | hm0
          ·
            go_wp2_with (refine wpList_copy_rest (o := ⟨some 45, _, _, _, _, _⟩) rfl (.tmp 43) (.tmp 44) 66 66 rfl 24 Tryz.underlying66 (by kernel_rfl) _ _ _ _ _ _ rfl rfl B 0 Z8.toList 25 h84 X1 (HX1L.out.trans HM8.out.symm) (fun h => ⟨rfl, (HP1.out h).imp fun ad h => ⟨h.1, h.2.2⟩⟩) (by rw [HX1L.out]; show 0 + nl ≤ 8; omega) HO1.out B w hbw4 (Nat.le_refl _) ?_)
            intro w5 H85 HO5 hb5
            have h15 := (HO5.out (B + 1) (by omega)).trans h14
            go_wp2_with (refine wpList_copy_rest (o := ⟨some 51, _, _, _, _, _⟩) rfl (.tmp 49) (.tmp 50) 66 66 rfl 24 Tryz.underlying66 (by kernel_rfl) _ _ _ _ _ _ rfl rfl B (8 - 0) (splice Z8.toList 0 X1) 25 H85.out X2 (HX2L.out.trans HMM.out.symm) (fun h => absurd h (by rw [HX2L.out]; decide)) (by rw [length_splice _ _ _ (by rw [HX1L.out]; show 0 + nl ≤ 8; omega), HX2L.out]; show 8 - 0 + 0 ≤ 8; omega) HO2.out B w hb5 (Nat.le_refl _) ?_)
            intro w6 H86 HO6 hb6
            have h16 := (HO6.out (B + 1) (by omega)).trans h15
            have hrow := H86.out
            rw [HS.out] at hrow
            obtain ⟨n0, n1, n2, n3, n4, n5, n6, n7, hC⟩ := list8 (l := l ++ List.replicate (8 - nl - 0) 0 ++ m) (by simp; rw [HNL.out, HNM.out]; omega)
            rw [hC] at hrow
            obtain ⟨⟨a0, a1, a2, a3, a4, a5, a6, a7, hCC, c0, c1, c2, c3, c4, c5, c6, c7⟩, hf⟩ := cells8 rfl hrow
            obtain ⟨rfl, rfl, rfl, rfl, rfl, rfl, rfl, rfl⟩ : a0 = U16 n0 ∧ a1 = U16 n1 ∧ a2 = U16 n2 ∧ a3 = U16 n3 ∧ a4 = U16 n4 ∧ a5 = U16 n5 ∧ a6 = U16 n6 ∧ a7 = U16 n7 := by
              simp at hCC
              obtain ⟨q0, q1, q2, q3, q4, q5, q6, q7⟩ := hCC
              exact ⟨q0.symm, q1.symm, q2.symm, q3.symm, q4.symm, q5.symm, q6.symm, q7.symm⟩
            clear hCC
            have e0 : w6.cell? ⟨B + 1, 0, none⟩ = some (.int .i64 0) := by rw [Lib.cell_of_heap h16]; rfl
            have ef : w6.frozen? ⟨B + 1, 0, none⟩ = false := by simp [World.frozen?, h16]
            have HCC := hide hC
            clear H86 HO6 hC h15
            go_wp2_with fail
            have k8 := put8_heap hrow (U16 n0) (U16 n1) (U16 n2) (U16 n3) (U16 n4) (U16 n5) (U16 n6) (U16 n7)
            have k1 := (put8_other (w := w6) (B := B) (k := B + 1) (by omega) (U16 n0) (U16 n1) (U16 n2) (U16 n3) (U16 n4) (U16 n5) (U16 n6) (U16 n7)).trans h16
            have kb := put8_below hb6 (Nat.le_refl _) (U16 n0) (U16 n1) (U16 n2) (U16 n3) (U16 n4) (U16 n5) (U16 n6) (U16 n7)
            change bodyPostD _ _ _ _ _ ((put8 w6 B (U16 n0) (U16 n1) (U16 n2) (U16 n3) (U16 n4) (U16 n5) (U16 n6) (U16 n7)).setCell ⟨B + 1, 0, none⟩ (.int .i64 0))
            obtain ⟨w7, hw7⟩ : ∃ x, x = put8 w6 B (U16 n0) (U16 n1) (U16 n2) (U16 n3) (U16 n4) (U16 n5) (U16 n6) (U16 n7) := ⟨_, rfl⟩
            rw [← hw7] at k8 k1 kb ⊢
            have j1 := row_set k1 0 (.int .i64 0)
            have j8 := (Below.heap_setCell w7 ⟨B + 1, 0, none⟩ (.int .i64 0) B (by show B ≠ B + 1; omega)).trans k8
            have jb := kb.setCell (p := ⟨B + 1, 0, none⟩) (by show B ≤ B + 1; omega) (.int .i64 0)
            generalize w7.setCell ⟨B + 1, 0, none⟩ (.int .i64 0) = w8 at *
            clear c0 c1 c2 c3 c4 c5 c6 c7 hf e0 ef
            refine leaves_cons (f := 34) (args := #[.pointer (some ⟨B, 0, none⟩), .pointer (some ⟨B + 1, 0, none⟩)]) (by simp) (by simp [go_sem]) ?_
            refine (v6_idle B _).mono ?_
            rintro e u' w9 ⟨rfl, rfl, rfl⟩
            obtain ⟨⟨c0, c1, c2, c3, c4, c5, c6, c7⟩, e0⟩ := cells81 j8 j1
            simp [Leaves, settle, results, Tryz.results12, go_sem, c0, c1, c2, c3, c4, c5, c6, c7, e0]
            refine ⟨?_, by rw [HBB.out]; exact jb⟩
            rw [← HRES.out]
            show _ = Value.tuple #[.agg (List.map U16 _).toArray, .int .i64 0]
            rw [HCC.out]
            rfl
          ·
            go_wp2_with (refine wpList_copy_rest (o := ⟨some 45, _, _, _, _, _⟩) rfl (.tmp 43) (.tmp 44) 66 66 rfl 24 Tryz.underlying66 (by kernel_rfl) _ _ _ _ _ _ rfl rfl B 0 Z8.toList 25 h84 X1 (HX1L.out.trans HM8.out.symm) (fun h => ⟨rfl, (HP1.out h).imp fun ad h => ⟨h.1, h.2.2⟩⟩) (by rw [HX1L.out]; show 0 + nl ≤ 8; omega) HO1.out B w hbw4 (Nat.le_refl _) ?_)
            intro w5 H85 HO5 hb5
            have h15 := (HO5.out (B + 1) (by omega)).trans h14
            have hp2 : 0 < X2.length → ∃ ad, sp2 = some ad ∧ ∀ (j : Nat) (u : Value), X2[j]? = some u → w5.cell? (ad.add j) = some u := fun h => by
              obtain ⟨ad, q1, q2, q3⟩ := HP2.out h
              refine ⟨ad, q1, fun j u hu => ?_⟩
              have hblk : (ad.add j).block = ad.block := by
                unfold Addr.add
                split <;> rfl
              rw [World.cell?_of_block (HO5.out (ad.add j).block (by rw [hblk]; omega))]
              exact q3 j u hu
            have HP25 := hide hp2
            have hsl := fun W => slice8_l B (8 - (nm : Int)) nm (by omega) (by omega) (by omega) W
            clear hp2
            go_wp2_with (refine wpList_copy_rest (o := ⟨some 51, _, _, _, _, _⟩) rfl (.tmp 49) (.tmp 50) 66 66 rfl 24 Tryz.underlying66 (by kernel_rfl) _ _ _ _ _ _ rfl rfl B (8 - nm) (splice Z8.toList 0 X1) 25 H85.out X2 (by rw [HX2L.out]; first | exact HMM.out.symm | (show nm = min nm _; omega)) (fun h => ⟨rfl, HP25.out h⟩) (by rw [length_splice _ _ _ (by rw [HX1L.out]; show 0 + nl ≤ 8; omega), HX2L.out]; show 8 - nm + nm ≤ 8; omega) HO2.out B w hb5 (Nat.le_refl _) ?_)
            intro w6 H86 HO6 hb6
            have h16 := (HO6.out (B + 1) (by omega)).trans h15
            have hrow := H86.out
            rw [HS.out] at hrow
            obtain ⟨n0, n1, n2, n3, n4, n5, n6, n7, hC⟩ := list8 (l := l ++ List.replicate (8 - nl - nm) 0 ++ m) (by simp; rw [HNL.out, HNM.out]; omega)
            rw [hC] at hrow
            obtain ⟨⟨a0, a1, a2, a3, a4, a5, a6, a7, hCC, c0, c1, c2, c3, c4, c5, c6, c7⟩, hf⟩ := cells8 rfl hrow
            obtain ⟨rfl, rfl, rfl, rfl, rfl, rfl, rfl, rfl⟩ : a0 = U16 n0 ∧ a1 = U16 n1 ∧ a2 = U16 n2 ∧ a3 = U16 n3 ∧ a4 = U16 n4 ∧ a5 = U16 n5 ∧ a6 = U16 n6 ∧ a7 = U16 n7 := by
              simp at hCC
              obtain ⟨q0, q1, q2, q3, q4, q5, q6, q7⟩ := hCC
              exact ⟨q0.symm, q1.symm, q2.symm, q3.symm, q4.symm, q5.symm, q6.symm, q7.symm⟩
            clear hCC
            have e0 : w6.cell? ⟨B + 1, 0, none⟩ = some (.int .i64 0) := by rw [Lib.cell_of_heap h16]; rfl
            have ef : w6.frozen? ⟨B + 1, 0, none⟩ = false := by simp [World.frozen?, h16]
            have HCC := hide hC
            clear H86 HO6 hC h15
            go_wp2_with fail
            have k8 := put8_heap hrow (U16 n0) (U16 n1) (U16 n2) (U16 n3) (U16 n4) (U16 n5) (U16 n6) (U16 n7)
            have k1 := (put8_other (w := w6) (B := B) (k := B + 1) (by omega) (U16 n0) (U16 n1) (U16 n2) (U16 n3) (U16 n4) (U16 n5) (U16 n6) (U16 n7)).trans h16
            have kb := put8_below hb6 (Nat.le_refl _) (U16 n0) (U16 n1) (U16 n2) (U16 n3) (U16 n4) (U16 n5) (U16 n6) (U16 n7)
            change bodyPostD _ _ _ _ _ ((put8 w6 B (U16 n0) (U16 n1) (U16 n2) (U16 n3) (U16 n4) (U16 n5) (U16 n6) (U16 n7)).setCell ⟨B + 1, 0, none⟩ (.int .i64 0))
            obtain ⟨w7, hw7⟩ : ∃ x, x = put8 w6 B (U16 n0) (U16 n1) (U16 n2) (U16 n3) (U16 n4) (U16 n5) (U16 n6) (U16 n7) := ⟨_, rfl⟩
            rw [← hw7] at k8 k1 kb ⊢
            have j1 := row_set k1 0 (.int .i64 0)
            have j8 := (Below.heap_setCell w7 ⟨B + 1, 0, none⟩ (.int .i64 0) B (by show B ≠ B + 1; omega)).trans k8
            have jb := kb.setCell (p := ⟨B + 1, 0, none⟩) (by show B ≤ B + 1; omega) (.int .i64 0)
            generalize w7.setCell ⟨B + 1, 0, none⟩ (.int .i64 0) = w8 at *
            clear c0 c1 c2 c3 c4 c5 c6 c7 hf e0 ef
            refine leaves_cons (f := 34) (args := #[.pointer (some ⟨B, 0, none⟩), .pointer (some ⟨B + 1, 0, none⟩)]) (by simp) (by simp [go_sem]) ?_
            refine (v6_idle B _).mono ?_
            rintro e u' w9 ⟨rfl, rfl, rfl⟩
            obtain ⟨⟨c0, c1, c2, c3, c4, c5, c6, c7⟩, e0⟩ := cells81 j8 j1
            simp [Leaves, settle, results, Tryz.results12, go_sem, c0, c1, c2, c3, c4, c5, c6, c7, e0]
            refine ⟨?_, by rw [HBB.out]; exact jb⟩
            rw [← HRES.out]
            show _ = Value.tuple #[.agg (List.map U16 _).toArray, .int .i64 0]
            rw [HCC.out]
            rfl
    · have hrn : r = none := by rw [← HR.out]; rfl
      subst hrn
      go_wp2_with fail
      refine leaves_cons (f := 34) (args := #[.pointer (some ⟨B, 0, none⟩), .pointer (some ⟨B + 1, 0, none⟩)]) (by simp) (by simp [go_sem]) ?_
      refine (v6_caught B Z8 0 _ rfl ⟨h84, h14⟩).mono ?_
      rintro e u' w9 ⟨rfl, rfl, ⟨k8, k1⟩, kb⟩
      obtain ⟨⟨c0, c1, c2, c3, c4, c5, c6, c7⟩, e0⟩ := cells81 k8 k1
      simp [Leaves, settle, results, Tryz.results12, go_sem, c0, c1, c2, c3, c4, c5, c6, c7, e0]
      exact ⟨rfl, by rw [HBB.out]; exact hbw4.trans kb⟩
  · have hrn : r = none := by rw [← HR.out]; rfl
    subst hrn
    go_wp2_with fail
    refine leaves_cons (f := 34) (args := #[.pointer (some ⟨B, 0, none⟩), .pointer (some ⟨B + 1, 0, none⟩)]) (by simp) (by simp [go_sem]) ?_
    refine (v6_caught B Z8 0 _ rfl ⟨h83, h13⟩).mono ?_
    rintro e u' w9 ⟨rfl, rfl, ⟨k8, k1⟩, kb⟩
    obtain ⟨⟨c0, c1, c2, c3, c4, c5, c6, c7⟩, e0⟩ := cells81 k8 k1
    simp [Leaves, settle, results, Tryz.results12, go_sem, c0, c1, c2, c3, c4, c5, c6, c7, e0]
    exact ⟨rfl, by rw [HBB.out]; exact hbw3.trans kb⟩
end Go.Proofs.YtahjndignkhmoaaGreatDoor
