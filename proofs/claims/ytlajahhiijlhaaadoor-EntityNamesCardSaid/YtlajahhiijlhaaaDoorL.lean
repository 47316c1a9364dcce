/- The document's answer: the digits' number; all entries. -/
import Derived.Test.YtlajahhiijlhaaaDoorK
import Derived.Test.YtlajahhiijlhaaaDoorEnt
namespace Go.Proofs.YtlajahhiijlhaaaDoor
open Go.RowKit

theorem val_dig (b : Int) (c : UInt8) (hb : 0 ≤ b) : (Entp.isDig b c = true → val b c = Entp.hex c ∧ 0 ≤ Entp.hex c) ∧ (Entp.isDig b c = false → val b c < 0) := by
  unfold Entp.isDig val
  have := hex_ge c
  constructor
  · intro h
    rw [Bool.and_eq_true, decide_eq_true_eq, decide_eq_true_eq] at h
    rw [if_neg (by omega)]; exact ⟨rfl, h.1⟩
  · intro h
    split
    · decide
    · rename_i h2
      have : ¬ (0 ≤ Entp.hex c) := fun h3 => by
        have : (decide (0 ≤ Entp.hex c) && decide (Entp.hex c < b)) = true := by simp [h3]; omega
        rw [this] at h; cases h
      omega

set_option maxRecDepth 100000 in
set_option maxHeartbeats 1000000 in
theorem rNum10 (s : List UInt8) (a : Nat) (n : Int) (k : Nat) (w : World) (hl : s.length ≤ 4611686018427387904) (ha : a ≤ s.length) (hk : Hid (Entp.many 10 (s.drop a) = k)) (hn : Hid (Entp.clip 2000000 10 0 ((s.drop a).take k) = n)) :
    Calls Tryd.prog 26 #[S s, .int .i64 a, .int .i64 10] w (Ret (.tuple #[.int .i64 k, .int .i64 n]) w) := by
  go_enter Tryd.func26, Tryd.ntmps26
  go_wp2_with fail
  go_loopg [8, 9] (s.length - a) (fun g s8 s9 wx => ∃ (i : Nat) (m : Int), a + i + g = s.length ∧ s8 = .int .i64 m ∧ s9 = .int .i64 i ∧ w = wx ∧ 0 ≤ m ∧ m ≤ 2000000 ∧ Hid (m = Entp.clip 2000000 10 0 ((s.drop a).take i)) ∧ Hid (k = i + Entp.many 10 (s.drop (a + i))))
  case atStart => exact ⟨0, 0, by omega, rfl, rfl, rfl, by omega, by omega, rfl, by unfold Hid; simpa using hk.out.symm⟩
  case round =>
    obtain ⟨i, m, hi, rfl, rfl, rfl, hm0, hm1, hm, hd⟩ := hrel
    by_cases hlt : a + i < s.length
    · obtain ⟨x, hx⟩ : ∃ x, s[a + i] = x := ⟨_, rfl⟩
      have hx? : Hid (s[a + i]? = some x) := by unfold Hid; rw [List.getElem?_eq_getElem hlt, hx]
      obtain ⟨y0, y1⟩ := hex_ge x
      have hc := u8_lt x
      obtain ⟨y, hy⟩ : ∃ y, val 10 x = y := ⟨_, rfl⟩
      have hvd := val_dig 10 x (by decide)
      have HY := hide hy
      cases hdig : Entp.isDig 10 x
      · have hy0 : y < 0 := by rw [← hy]; exact hvd.2 hdig
        have h1 := hd.out
        rw [many_drop hx?.out, hdig, if_neg (by decide)] at h1
        have hki : k = i := by omega
        subst hki
        clear hdig h1 hy hvd y0 y1
        go_wp2_with fail
        refine (rValue x 10 y _ HY (by decide)).mono ?_
        rintro e w' ⟨rfl, rfl⟩
        go_wp2_with fail
        refine bodyPost_ret (v := .tuple #[.int .i64 k, .int .i64 m]) (by simp [results, Tryd.results26, go_sem]) rfl ?_
        exact Ret.of (by rw [← hn.out, ← hm.out])
      · obtain ⟨hy2, hy3⟩ := hvd.1 hdig
        have hyh : Entp.hex x = y := by rw [← hy, hy2]
        rw [hyh] at y1 hy3
        have h1 : Hid (k = i + 1 + Entp.many 10 (s.drop (a + (i + 1)))) := by
          have h1 := hd.out
          rw [many_drop hx?.out, hdig, if_pos rfl] at h1
          unfold Hid; rw [← Nat.add_assoc]; omega
        have hm2 : Hid (min (m * 10 + y) 2000000 = Entp.clip 2000000 10 0 ((s.drop a).take (i + 1))) := by
          unfold Hid
          rw [List.take_add_one, List.getElem?_drop, hx?.out, Option.toList, clip_snoc, ← hm.out, hyh]
        clear hdig hy hvd y0 hy2 hyh
        by_cases hq : m * 10 + y ≤ 2000000
        · go_wp2_with fail
          refine (rValue x 10 y _ HY (by decide)).mono ?_
          rintro e w' ⟨rfl, rfl⟩
          go_wp2_with fail
          refine (rValue x 10 y _ HY (by decide)).mono ?_
          rintro e w' ⟨rfl, rfl⟩
          go_wp2_with fail
          go_roundg (gk - 1)
          case measure => omega
          case rel => exact ⟨i + 1, m * 10 + y, by omega, by go_num, by go_num, rfl, by omega, by omega, by unfold Hid; rw [← hm2.out]; omega, h1⟩
        · go_wp2_with fail
          refine (rValue x 10 y _ HY (by decide)).mono ?_
          rintro e w' ⟨rfl, rfl⟩
          go_wp2_with fail
          refine (rValue x 10 y _ HY (by decide)).mono ?_
          rintro e w' ⟨rfl, rfl⟩
          go_wp2_with fail
          go_roundg (gk - 1)
          case measure => omega
          case rel => exact ⟨i + 1, 2000000, by omega, by go_num, by go_num, rfl, by omega, by omega, by unfold Hid; rw [← hm2.out]; omega, h1⟩
    · have h1 := hd.out
      have hai : a + i = s.length := by omega
      rw [hai, List.drop_length, Entp.many, Nat.add_zero] at h1
      subst h1
      go_wp2_with fail
      refine bodyPost_ret (v := .tuple #[.int .i64 k, .int .i64 m]) (by simp [results, Tryd.results26, go_sem]) rfl ?_
      exact Ret.of (by rw [← hn.out, ← hm.out])


set_option maxRecDepth 100000 in
set_option maxHeartbeats 1000000 in
theorem rNum16 (s : List UInt8) (a : Nat) (n : Int) (k : Nat) (w : World) (hl : s.length ≤ 4611686018427387904) (ha : a ≤ s.length) (hk : Hid (Entp.many 16 (s.drop a) = k)) (hn : Hid (Entp.clip 2000000 16 0 ((s.drop a).take k) = n)) :
    Calls Tryd.prog 26 #[S s, .int .i64 a, .int .i64 16] w (Ret (.tuple #[.int .i64 k, .int .i64 n]) w) := by
  go_enter Tryd.func26, Tryd.ntmps26
  go_wp2_with fail
  go_loopg [8, 9] (s.length - a) (fun g s8 s9 wx => ∃ (i : Nat) (m : Int), a + i + g = s.length ∧ s8 = .int .i64 m ∧ s9 = .int .i64 i ∧ w = wx ∧ 0 ≤ m ∧ m ≤ 2000000 ∧ Hid (m = Entp.clip 2000000 16 0 ((s.drop a).take i)) ∧ Hid (k = i + Entp.many 16 (s.drop (a + i))))
  case atStart => exact ⟨0, 0, by omega, rfl, rfl, rfl, by omega, by omega, rfl, by unfold Hid; simpa using hk.out.symm⟩
  case round =>
    obtain ⟨i, m, hi, rfl, rfl, rfl, hm0, hm1, hm, hd⟩ := hrel
    by_cases hlt : a + i < s.length
    · obtain ⟨x, hx⟩ : ∃ x, s[a + i] = x := ⟨_, rfl⟩
      have hx? : Hid (s[a + i]? = some x) := by unfold Hid; rw [List.getElem?_eq_getElem hlt, hx]
      obtain ⟨y0, y1⟩ := hex_ge x
      have hc := u8_lt x
      obtain ⟨y, hy⟩ : ∃ y, val 16 x = y := ⟨_, rfl⟩
      have hvd := val_dig 16 x (by decide)
      have HY := hide hy
      cases hdig : Entp.isDig 16 x
      · have hy0 : y < 0 := by rw [← hy]; exact hvd.2 hdig
        have h1 := hd.out
        rw [many_drop hx?.out, hdig, if_neg (by decide)] at h1
        have hki : k = i := by omega
        subst hki
        clear hdig h1 hy hvd y0 y1
        go_wp2_with fail
        refine (rValue x 16 y _ HY (by decide)).mono ?_
        rintro e w' ⟨rfl, rfl⟩
        go_wp2_with fail
        refine bodyPost_ret (v := .tuple #[.int .i64 k, .int .i64 m]) (by simp [results, Tryd.results26, go_sem]) rfl ?_
        exact Ret.of (by rw [← hn.out, ← hm.out])
      · obtain ⟨hy2, hy3⟩ := hvd.1 hdig
        have hyh : Entp.hex x = y := by rw [← hy, hy2]
        rw [hyh] at y1 hy3
        have h1 : Hid (k = i + 1 + Entp.many 16 (s.drop (a + (i + 1)))) := by
          have h1 := hd.out
          rw [many_drop hx?.out, hdig, if_pos rfl] at h1
          unfold Hid; rw [← Nat.add_assoc]; omega
        have hm2 : Hid (min (m * 16 + y) 2000000 = Entp.clip 2000000 16 0 ((s.drop a).take (i + 1))) := by
          unfold Hid
          rw [List.take_add_one, List.getElem?_drop, hx?.out, Option.toList, clip_snoc, ← hm.out, hyh]
        clear hdig hy hvd y0 hy2 hyh
        by_cases hq : m * 16 + y ≤ 2000000
        · go_wp2_with fail
          refine (rValue x 16 y _ HY (by decide)).mono ?_
          rintro e w' ⟨rfl, rfl⟩
          go_wp2_with fail
          refine (rValue x 16 y _ HY (by decide)).mono ?_
          rintro e w' ⟨rfl, rfl⟩
          go_wp2_with fail
          go_roundg (gk - 1)
          case measure => omega
          case rel => exact ⟨i + 1, m * 16 + y, by omega, by go_num, by go_num, rfl, by omega, by omega, by unfold Hid; rw [← hm2.out]; omega, h1⟩
        · go_wp2_with fail
          refine (rValue x 16 y _ HY (by decide)).mono ?_
          rintro e w' ⟨rfl, rfl⟩
          go_wp2_with fail
          refine (rValue x 16 y _ HY (by decide)).mono ?_
          rintro e w' ⟨rfl, rfl⟩
          go_wp2_with fail
          go_roundg (gk - 1)
          case measure => omega
          case rel => exact ⟨i + 1, 2000000, by omega, by go_num, by go_num, rfl, by omega, by omega, by unfold Hid; rw [← hm2.out]; omega, h1⟩
    · have h1 := hd.out
      have hai : a + i = s.length := by omega
      rw [hai, List.drop_length, Entp.many, Nat.add_zero] at h1
      subst h1
      go_wp2_with fail
      refine bodyPost_ret (v := .tuple #[.int .i64 k, .int .i64 m]) (by simp [results, Tryd.results26, go_sem]) rfl ?_
      exact Ret.of (by rw [← hn.out, ← hm.out])


/-! ### the entries -/
theorem info_entry : (Tryd.prog.info? 34).map (fun i => (i.zero, i.size, i.bytes)) = some (some (.agg #[.string .empty, .string .empty]), 2, 32) := by kernel_rfl
def entCells (l : List Entp.Entry) : List Value := l.flatMap fun x => [S x.1, S x.2]
theorem entCells_append (l m : List Entp.Entry) : entCells (l ++ m) = entCells l ++ entCells m := by unfold entCells; rw [List.flatMap_append]
theorem entCells_len (l : List Entp.Entry) : (entCells l).length = l.length * 2 := by
  induction l with
  | nil => rfl
  | cons x l ih =>
    have e : entCells (x :: l) = [S x.1, S x.2] ++ entCells l := rfl
    rw [e, List.length_append, ih, List.length_cons]; simp; omega
/-- a slice that reads as a list of entries -/
def RE (w : World) (v : Value) (l : List Entp.Entry) : Prop :=
  (l = [] ∧ ∃ a c, v = .slice a 0 c) ∨
  ∃ b o cap, v = .slice (some ⟨b, o, none⟩) l.length cap ∧ b < w.heap.size ∧ ∀ (i : Nat) (c : Entp.Entry), l[i]? = some c →
    w.cell? ⟨b, o + i * 2, none⟩ = some (S c.1) ∧ w.cell? ⟨b, o + i * 2 + 1, none⟩ = some (S c.2)
theorem RE.of_own {w : World} {base : Nat} {v : Value} {l : List Entp.Entry} (h : w.ownsRow base 34 2 v l.length (entCells l)) : RE w v l := by
  rcases h.2 with ⟨rfl, h0⟩ | ⟨g, cap, cur, rfl, hb, hh, hn, hcap, hsz, htake⟩
  · exact .inl ⟨List.eq_nil_of_length_eq_zero h0, none, 0, rfl⟩
  · refine .inr ⟨g, 0, cap, rfl, heap_lt hh, fun i c hc => ?_⟩
    have hi : i < l.length := by
      rcases Nat.lt_or_ge i l.length with h | h
      · exact h
      · rw [List.getElem?_eq_none h] at hc; cases hc
    have key : ∀ (m : List Entp.Entry) (i : Nat) (c : Entp.Entry) (j : Nat), m[i]? = some c → j < 2 → (entCells m)[i * 2 + j]? = [S c.1, S c.2][j]? := by
      intro m
      induction m with
      | nil => intro i c j hc; simp at hc
      | cons x m ih =>
        intro i c j hc hj
        have e : entCells (x :: m) = [S x.1, S x.2] ++ entCells m := rfl
        rw [e]
        cases i with
        | zero =>
          simp at hc; subst hc
          rw [List.getElem?_append_left (by simp; omega)]; simp
        | succ i =>
          rw [List.getElem?_append_right (by simp; omega)]
          have := ih i c j (by simpa using hc) hj
          rw [← this]
          congr 1
          simp; omega
    have cell : ∀ j, j < 2 → w.cell? ⟨g, 0 + i * 2 + j, none⟩ = [S c.1, S c.2][j]? := fun j hj => by
      rw [h.cellAt _ (by omega), Nat.zero_add, key l i c j hc hj]
    exact ⟨by simpa using cell 0 (by omega), by simpa using cell 1 (by omega)⟩
theorem RE.below {w w' : World} {v : Value} {l : List Entp.Entry} (h : RE w v l) (hb : Below w.heap.size w w') : RE w' v l := by
  rcases h with h | ⟨b, o, cap, rfl, hlt, hc⟩
  · exact .inl h
  · refine .inr ⟨b, o, cap, rfl, Nat.lt_of_lt_of_le hlt hb.size, fun i c hi => ?_⟩
    obtain ⟨h0, h1⟩ := hc i c hi
    exact ⟨(hb.cell hlt).trans h0, (hb.cell hlt).trans h1⟩
theorem RE.length {w : World} {v : Value} {l : List Entp.Entry} (h : RE w v l) : ∃ a c, v = .slice a l.length c := by
  rcases h with ⟨rfl, a, c, rfl⟩ | ⟨b, o, cap, rfl, _⟩
  · exact ⟨a, c, rfl⟩
  · exact ⟨_, _, rfl⟩
theorem RE.at {w : World} {a : Option Addr} {n c : Nat} {l : List Entp.Entry} (h : RE w (.slice a n c) l) {i : Nat} {x : Entp.Entry} (hx : l[i]? = some x) :
    ∃ b o, a = some ⟨b, o, none⟩ ∧ b < w.heap.size ∧ w.cell? ⟨b, o + i * 2, none⟩ = some (S x.1) ∧ w.cell? ⟨b, o + i * 2 + 1, none⟩ = some (S x.2) := by
  rcases h with ⟨rfl, _⟩ | ⟨b, o, cap, h, hlt, hc⟩
  · simp at hx
  · injection h with h1 h2 h3
    exact ⟨b, o, h1, hlt, (hc i x hx).1, (hc i x hx).2⟩
theorem cell_two (w : World) (T : TypeId) (x y : Value) : ∀ (j : Nat) (u : Value), [x, y][j]? = some u → (w.alloc (.cells #[x, y] T)).cell? ((⟨w.heap.size, 0, none⟩ : Addr).add j) = some u := by
  intro j u hj
  match j, hj with
  | 0, hj => simp at hj; subst hj; rw [show (⟨w.heap.size, 0, none⟩ : Addr).add 0 = ⟨w.heap.size, 0, none⟩ by simp [Addr.add], World.cell?_alloc_at _ _ _ _ rfl]; rfl
  | 1, hj => simp at hj; subst hj; rw [show (⟨w.heap.size, 0, none⟩ : Addr).add 1 = ⟨w.heap.size, 1, none⟩ by simp [Addr.add], World.cell?_alloc_at _ _ _ _ rfl]; rfl

set_option maxRecDepth 1000000 in
set_option maxHeartbeats 4000000 in
theorem rEntries (w : World) :
    Calls Tryd.prog 19 #[] w fun e w' => ∃ v, e = .returned v ∧ RE w' v Entp.entries ∧ Below w.heap.size w w' := by
  obtain ⟨i0, hi0, hz0, hz1, hz2⟩ := info_parts info_entry
  have hEl : Entp.ents.length = 2499 := by decide +kernel
  have hok := hide Entp.ents_ok
  have hfo := hide Entp.ents_fold
  refine calls_of_wp Tryd.func19 rfl ?_
  rw [lit_eq]
  rotate_left
  · decide +kernel
  generalize Entp.ents = E at hEl hok hfo ⊢
  simp only [Tryd.ntmps19, List.size_toArray, List.length_cons, List.length_nil, Nat.reduceAdd, Nat.reduceSub, Array.replicate_succ,
    Array.replicate_zero, List.push_toArray, List.append_toArray, List.nil_append, List.cons_append]
  go_wp2_with fail
  go_loopg [1, 3, 4, 5, 6, 7] (E.length - 1) (fun g s1 s3 s4 s5 s6 s7 wx => ∃ (t : Entp.St) (i : Nat), i + g = E.length ∧ 1 ≤ i ∧ s3 = S t.name ∧ s4 = .int .i64 t.n ∧ s5 = S t.out ∧ s6 = .bool t.inn ∧ s7 = .int .i64 i ∧
    wx.ownsRow w.heap.size 34 2 s1 t.l.length (entCells t.l) ∧ t.l.length ≤ i ∧ t.name.length ≤ i ∧ t.out.length ≤ 4 * i ∧ Hid (Entp.okE t (E.drop i) = true) ∧ Hid (Entp.foldE t (E.drop i) = Entp.entries) ∧ Below w.heap.size w wx)
  case atStart => exact ⟨Entp.start, 1, by omega, Nat.le_refl _, rfl, rfl, rfl, rfl, rfl, ⟨rfl, .inl ⟨rfl, rfl⟩⟩, by simp [Entp.start], by simp [Entp.start], by simp [Entp.start], hok, hfo, Below.refl _ _⟩
  case round =>
    obtain ⟨t, i, hi, hi1, rfl, rfl, rfl, rfl, rfl, hown, hll, hnl, hol, hko, hf, hb⟩ := hrel
    obtain ⟨L, nme, n, out, inn⟩ := t
    simp only at hown hll hnl hol
    by_cases hlt : i < E.length
    · obtain ⟨c, hc⟩ : ∃ c, E[i] = c := ⟨_, rfl⟩
      have hcons : E.drop i = c :: E.drop (i + 1) := by rw [List.drop_eq_getElem_cons hlt, hc]
      have HCN : Hid (List.take 1 (E.drop i) = [c]) := by unfold Hid; rw [hcons]; rfl
      have hk := hko.out
      have hfd := hf.out
      rw [hcons, Entp.okE] at hk
      rw [hcons, Entp.foldE] at hfd
      simp only [Bool.and_eq_true, Bool.or_eq_true, decide_eq_true_eq, Bool.not_eq_true'] at hk
      obtain ⟨⟨⟨hn0, hn1⟩, hdig⟩, hk2⟩ := hk
      have hcb := u8_lt c
      clear hko hf hcons
      by_cases h32 : c = 32
      · rw [Entp.stepE, if_pos h32] at hk2 hfd
        have HK := hide hk2
        have HF := hide hfd
        have HDG := hide hdig
        have HOL := hide hol
        have HOWN := hide hown
        subst h32
        clear hk2 hfd hdig hown
        go_wp2_with fail
        refine (rBytesZ n _ hn0 (by omega) (by omega)).mono ?_
        rintro e w2 ⟨rfl, hb2⟩
        have hb3 := hb.trans (hb2.mono hb.size)
        have hown2 := owns_below HOWN.out hb2
        have hen := enc_le n
        have hlt2 : (L ++ [(nme, out ++ Lib.encodeRune n)]).length = L.length + 1 := by simp
        clear hb2 hb
        go_wp2_with (at_builtin; refine wpList_append_own _ rfl (.tmp 28) (.tmp 36) 31 rfl w.heap.size 34 i0 (.agg #[.string .empty, .string .empty]) 2 32 Tryd.underlying31 hi0 hz0 hz1 hz2 rfl (by decide) _ _ _ rfl (hown2.alloc _) ⟨w2.heap.size, 0, none⟩ 1 1 [S nme, S (out ++ Lib.encodeRune n)] rfl rfl ?c1 ?c2 ?c3 ?c4 ?c5 ?_)
        case c1 => exact cell_two w2 _ _ _
        case c2 => intro u hu; simp at hu; rcases hu with rfl | rfl <;> rfl
        case c3 => unfold maxLen; omega
        case c4 => omega
        case c5 => have := hb3.size; simp; omega
        intro v' w3 hown' hgrow _
        have hb4 : Below w.heap.size w w3 := (hb3.alloc hb3.size _).grown hgrow (by have := hb3.size; simp; omega) (fun k hk => (hown2.lt k hk).1)
        have hown4 : w3.ownsRow w.heap.size 34 2 v' (L ++ [(nme, out ++ Lib.encodeRune n)]).length (entCells (L ++ [(nme, out ++ Lib.encodeRune n)])) := by
          rw [entCells_append, hlt2]; exact hown'
        have HB4 := hide hb4
        have HOWN4 := hide hown4
        clear hown2 hown' hgrow hb3 hb4 hown4
        go_wp2_with fail
        go_roundg (gk - 1)
        case measure => omega
        case rel => exact ⟨_, i + 1, by omega, by omega, rfl, rfl, rfl, rfl, by go_num, HOWN4.out, by simp; omega, by simp, by simp, HK.out, HF.out, HB4.out⟩
      rw [Entp.stepE, if_neg h32] at hk2 hfd
      have hb32 : ((c.toNat : Int) == 32) = false := beq_eq_false_iff_ne.2 (fun e => h32 (u8_inj (b := 32) e))
      by_cases h61 : c = 61
      · rw [if_pos h61] at hk2 hfd
        have HK := hide hk2
        have HF := hide hfd
        have HDG := hide hdig
        have HOWN := hide hown
        subst h61
        clear hk2 hfd hdig hown hb32 h32
        go_wp2_with fail
        go_roundg (gk - 1)
        case measure => omega
        case rel => exact ⟨_, i + 1, by omega, by omega, rfl, rfl, rfl, rfl, by go_num, HOWN.out, by simp only; omega, by simp only; omega, by simp only; omega, HK.out, HF.out, hb⟩
      rw [if_neg h61] at hk2 hfd
      have hb61 : ((c.toNat : Int) == 61) = false := beq_eq_false_iff_ne.2 (fun e => h61 (u8_inj (b := 61) e))
      by_cases h44 : c = 44
      · rw [if_pos h44] at hk2 hfd
        have HK := hide hk2
        have HF := hide hfd
        have HDG := hide hdig
        have HOWN := hide hown
        subst h44
        clear hk2 hfd hdig hown hb32 h32 hb61 h61
        go_wp2_with fail
        refine (rBytesZ n _ hn0 (by omega) (by omega)).mono ?_
        rintro e w2 ⟨rfl, hb2⟩
        have hb3 := hb.trans (hb2.mono hb.size)
        have hown2 := owns_below HOWN.out hb2
        have hen := enc_le n
        have HOWN2 := hide hown2
        clear hb2 hb hown2
        go_wp2_with fail
        go_roundg (gk - 1)
        case measure => omega
        case rel => exact ⟨_, i + 1, by omega, by omega, rfl, rfl, rfl, rfl, by go_num, HOWN2.out, by simp only; omega, by simp only; omega, by simp only [List.length_append]; omega, HK.out, HF.out, hb3⟩
      rw [if_neg h44] at hk2 hfd
      have hb44 : ((c.toNat : Int) == 44) = false := beq_eq_false_iff_ne.2 (fun e => h44 (u8_inj (b := 44) e))
      cases inn
      · rw [if_neg (by simp)] at hk2 hfd
        have HK := hide hk2
        have HF := hide hfd
        have HDG := hide hdig
        have HOWN := hide hown
        clear hk2 hfd hdig hown h32 h61 h44
        go_wp2_with fail
        go_roundg (gk - 1)
        case measure => omega
        case rel => exact ⟨_, i + 1, by omega, by omega, v_s (by rw [HCN.out]), rfl, rfl, rfl, by go_num, HOWN.out, by simp only; omega, by simp only [List.length_append, List.length_cons, List.length_nil]; omega, by simp only; omega, HK.out, HF.out, hb⟩
      · rw [if_pos rfl] at hk2 hfd
        have hd48 : 48 ≤ c.toNat ∧ c.toNat ≤ 57 := by
          rcases hdig with h | h
          · rcases h with h | h
            · rcases h with h | h
              · rcases h with h | h
                · exact absurd h h32
                · exact absurd h h61
              · exact absurd h h44
            · cases h
          · exact h
        have hd1 : (48 : Int) ≤ c.toNat := by omega
        have hd2 : (c.toNat : Int) ≤ 57 := by omega
        have HK := hide hk2
        have HF := hide hfd
        have HOWN := hide hown
        clear hk2 hfd hdig hown h32 h61 h44 hd48
        go_wp2_with fail
        go_roundg (gk - 1)
        case measure => omega
        case rel => exact ⟨_, i + 1, by omega, by omega, rfl, rfl, rfl, rfl, by go_num, HOWN.out, by simp only; omega, by simp only; omega, by simp only; omega, HK.out, HF.out, hb⟩
    · obtain rfl : i = E.length := by omega
      have hfd := hf.out
      rw [List.drop_length, Entp.foldE] at hfd
      simp only at hfd
      subst hfd
      have HRE := hide (RE.of_own hown)
      clear hown hko hf
      go_wp2_with fail
      go_ret
      exact ⟨_, rfl, HRE.out, hb⟩
end Go.Proofs.YtlajahhiijlhaaaDoor
