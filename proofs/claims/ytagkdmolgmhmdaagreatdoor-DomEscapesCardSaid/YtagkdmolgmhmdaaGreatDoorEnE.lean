/- The number that a reference names; the base of its digits; a name's characters. -/
import Derived.Test.YtagkdmolgmhmdaaGreatDoorEnB
import Derived.Test.YtagkdmolgmhmdaaGreatDoorEnLaws
import Derived.Lib.ConvBytes
import Derived.Deep.CutBlock
namespace Go.Proofs.YtagkdmolgmhmdaaGreatDoor.En
open Go.RowKit

/-! ### what lies in the package's variables -/
structure Tab (w : World) : Prop where
  win : ∀ (i : Nat) (z : Int), Entp.windows[i]? = some z → w.cell? ⟨1, i, none⟩ = some (.int .i32 z)
  max : ∃ m : Int, w.cell? ⟨3, 0, none⟩ = some (.int .i64 m)
theorem Tab.below {w w' : World} (h : Tab w) (hb : Below w.heap.size w w') : Tab w' := by
  refine ⟨fun i z hz => ?_, ?_⟩
  · have := h.win i z hz
    exact (hb.cell (World.block_lt_of_cell? w _ this)).trans this
  · obtain ⟨m, hm⟩ := h.max
    exact ⟨m, (hb.cell (World.block_lt_of_cell? w _ hm)).trans hm⟩
theorem belowN (w : World) (n : Nat) : Below w.heap.size w (w.drewN n) := ⟨rfl, rfl, rfl, Nat.le_refl _, fun _ _ => rfl⟩
theorem belowBytes (w : World) (e : TypeId) (s : ByteArray) : Below w.heap.size w (Lib.bytesWorld w e s) :=
  ⟨rfl, rfl, rfl, by rw [Lib.bytesWorld_size]; omega, fun k hk => Lib.bytesWorld_at_old w e s k hk⟩

theorem windows_len : Entp.windows.length = 32 := rfl
set_option maxRecDepth 100000 in
theorem windows_le : ∀ i, i < 32 → 0 ≤ Entp.windows.getD i 0 ∧ Entp.windows.getD i 0 ≤ 8482 := by decide

set_option maxRecDepth 100000 in
theorem number (n : Int) (w : World) (ht : Tab w) (hn : -9223372036854775808 ≤ n ∧ n ≤ 9223372036854775807) :
    Calls Tryz.prog 73 #[.int .i64 n] w (Ret (.int .i32 (Entp.number n)) w) := by
  obtain ⟨z, hz⟩ : ∃ z, Entp.number n = z := ⟨_, rfl⟩
  have HZ := hide hz
  rw [hz]
  clear hz
  by_cases h0 : n ≤ 0
  · have HT := hide ht
    clear ht
    go_enter Tryz.func73, Tryz.ntmps73
    go_wp2_with fail
    go_ret
    exact Ret.of (v_i (by rw [← HZ.out, Entp.number, if_pos (Or.inl h0)]))
  by_cases h1 : 1114111 < n
  · have HT := hide ht
    clear ht
    go_enter Tryz.func73, Tryz.ntmps73
    go_wp2_with fail
    go_ret
    exact Ret.of (v_i (by rw [← HZ.out, Entp.number, if_pos (Or.inr (Or.inl h1))]))
  have hv : Lib.validRune n = decide ¬ (55296 ≤ n ∧ n ≤ 57343) := by
    unfold Lib.validRune
    rw [decide_eq_decide]
    omega
  by_cases h2 : 55296 ≤ n ∧ n ≤ 57343
  · have HT := hide ht
    have hv' : Lib.validRune n = false := by rw [hv]; simp [h2]
    have H2 := hide h2
    clear ht hv h2
    go_enter Tryz.func73, Tryz.ntmps73
    go_wp2_with fail
    refine (Tryz.utf8_ValidRune n _).mono ?_
    rintro e w' ⟨rfl, rfl⟩
    rw [hv']
    go_wp2_with fail
    go_ret
    exact Ret.of (v_i (by rw [← HZ.out, Entp.number, if_pos (Or.inr (Or.inr H2.out))]))
  have hv' : Lib.validRune n = true := by rw [hv]; simp only [decide_eq_true_eq]; exact h2
  have hno : ¬ (n ≤ 0 ∨ 1114111 < n ∨ (55296 ≤ n ∧ n ≤ 57343)) := by omega
  have HNO := hide hno
  clear hno hv
  by_cases h3 : 128 ≤ n ∧ n ≤ 159
  · have hk : (n - 128).toNat < 32 := by omega
    obtain ⟨x, hx⟩ : ∃ x, Entp.windows[(n - 128).toNat]? = some x := ⟨Entp.windows[(n - 128).toNat], List.getElem?_eq_getElem hk⟩
    have hc := ht.win _ x hx
    have hxd : Entp.windows.getD (n - 128).toNat 0 = x := by rw [List.getD_eq_getElem?_getD, hx]; rfl
    have HX := hide hxd
    have hb := windows_le _ hk
    rw [hxd] at hb
    obtain ⟨hb0, hb1⟩ := hb
    have H3 := hide h3
    obtain ⟨h4, h5⟩ := h3
    clear ht hx hxd h2 h0 h1 hk
    by_cases hx0 : 0 < x
    · go_enter Tryz.func73, Tryz.ntmps73
      go_wp2_with fail
      refine (Tryz.utf8_ValidRune _ _).mono ?_
      rintro e w' ⟨rfl, rfl⟩
      rw [hv']
      go_wp2_with fail
      go_ret
      exact Ret.of (v_i (by rw [← HZ.out, Entp.number, if_neg HNO.out, HX.out, if_pos ⟨H3.out.1, H3.out.2, hx0⟩]))
    · go_enter Tryz.func73, Tryz.ntmps73
      go_wp2_with fail
      refine (Tryz.utf8_ValidRune _ _).mono ?_
      rintro e w' ⟨rfl, rfl⟩
      rw [hv']
      go_wp2_with fail
      go_ret
      exact Ret.of (v_i (by rw [← HZ.out, Entp.number, if_neg HNO.out, HX.out, if_neg (fun h => absurd h.2.2 (by omega))]))
  · have HT := hide ht
    have H3 := hide h3
    clear ht h2
    have h3' : n < 128 ∨ 159 < n := by omega
    clear h3
    rcases h3' with h3' | h3'
    all_goals
      go_enter Tryz.func73, Tryz.ntmps73
      go_wp2_with fail
      refine (Tryz.utf8_ValidRune n _).mono ?_
      rintro e w' ⟨rfl, rfl⟩
      rw [hv']
      go_wp2_with fail
      go_ret
      exact Ret.of (v_i (by rw [← HZ.out, Entp.number, if_neg HNO.out, if_neg (fun h => H3.out ⟨h.1, h.2.1⟩)]))

/-! ### the base -/
theorem or8_all : ∀ n : Fin 256, bits BinOp.or .u8 (n.val : Int) 32 = 120 ↔ (n.val = 120 ∨ n.val = 88) := by decide +kernel
theorem u8_eq_iff (c : UInt8) (k : Nat) (hk : k < 256) : c = UInt8.ofNat k ↔ c.toNat = k := by
  constructor
  · rintro rfl; simp; omega
  · intro h; rw [← h]; simp
theorem based (l : List UInt8) (w : World) (hl : l.length ≤ maxLen) :
    Calls Tryz.prog 70 #[S l] w (Ret (.tuple #[.int .i64 (Entp.based l).1, .int .i64 (Entp.based l).2]) w) := by
  unfold maxLen at hl
  cases l with
  | nil =>
    go_enter Tryz.func70, Tryz.ntmps70
    go_wp2_with fail
    refine bodyPost_ret (v := .tuple #[.int .i64 10, .int .i64 0]) (by simp [results, Tryz.results70, go_sem]) rfl ?_
    exact Ret.of rfl
  | cons c l =>
    have hor := or8_all ⟨c.toNat, c.toNat_lt⟩
    have hc := u8_lt c
    have hcc : (c = 120 ∨ c = 88) ↔ (c.toNat = 120 ∨ c.toNat = 88) := by
      rw [show (120 : UInt8) = UInt8.ofNat 120 from rfl, show (88 : UInt8) = UInt8.ofNat 88 from rfl, u8_eq_iff c 120 (by decide), u8_eq_iff c 88 (by decide)]
    by_cases hx : c.toNat = 120 ∨ c.toNat = 88
    · have e : Entp.based (c :: l) = (16, 1) := by rw [Entp.based, if_pos (hcc.2 hx)]
      rw [e]
      have hb : bits BinOp.or .u8 (c.toNat : Int) 32 = 120 := hor.2 hx
      have HX := hide hx
      clear hor hcc hx e
      go_enter Tryz.func70, Tryz.ntmps70
      go_wp2_with fail
      refine bodyPost_ret (v := .tuple #[.int .i64 16, .int .i64 1]) (by simp [results, Tryz.results70, go_sem]) rfl ?_
      exact Ret.of rfl
    · have e : Entp.based (c :: l) = (10, 0) := by rw [Entp.based, if_neg (fun h => hx (hcc.1 h))]
      rw [e]
      obtain ⟨m, hm⟩ : ∃ m, bits BinOp.or .u8 (c.toNat : Int) 32 = m := ⟨_, rfl⟩
      have hb : (m == 120) = false := beq_eq_false_iff_ne.2 (fun h => hx (hor.1 (hm.trans h)))
      have HX := hide hx
      clear hor hcc hx e
      go_enter Tryz.func70, Tryz.ntmps70
      go_wp2_with fail
      refine bodyPost_ret (v := .tuple #[.int .i64 10, .int .i64 0]) (by simp [results, Tryz.results70, go_sem]) rfl ?_
      exact Ret.of rfl
end Go.Proofs.YtagkdmolgmhmdaaGreatDoor.En
namespace Go.Proofs.YtagkdmolgmhmdaaGreatDoor.En
open Go.RowKit

theorem lit_eq (l m : List UInt8) (h : List.append l m = Entp.ents) : (⟨(List.append l m).toArray⟩ : ByteArray) = ⟨Entp.ents.toArray⟩ := by rw [h]

theorem owns_below {w w' : World} {B : Nat} {e : TypeId} {size : Nat} {v : Value} {n : Nat} {xs : List Value} (h : w.ownsRow B e size v n xs) (hb : Below w.heap.size w w') : w'.ownsRow B e size v n xs := by
  refine ⟨h.1, ?_⟩
  rcases h.2 with h0 | ⟨g, cap, cur, hv, hg, hh, r⟩
  · exact .inl h0
  · exact .inr ⟨g, cap, cur, hv, hg, (hb.block g (heap_lt hh)).trans hh, r⟩
theorem bld_below {B b : Nat} {bs : List UInt8} {w w' : World} (h : Bld B b bs w) (hb : Below w.heap.size w w') : Bld B b bs w' := by
  rcases h with ⟨hB, v, hh, ho, hn⟩ | ⟨hB, v, hh, ho, hn⟩
  · exact .inl ⟨hB, v, (hb.block b (heap_lt hh)).trans hh, owns_below ho hb, hn⟩
  · exact .inr ⟨hB, v, (hb.block b (heap_lt hh)).trans hh, owns_below ho hb, hn⟩
theorem cell_row {w : World} {g : Nat} {cs : Array Value} {t : TypeId} {f : Nat × Nat} {i : Nat} {u : Value} (h : w.heap[g]? = some (Obj.cells cs t f)) (hi : cs[i]? = some u) : w.cell? ⟨g, i, none⟩ = some u := by
  rw [Lib.cell_of_heap h]; exact hi
/-- the pieces of a name's codes -/
structure Cod (cs : List UInt8) (ps : List ByteArray) : Prop where
  data : ps.map (·.data.toList) = Entp.parts cs
  len : ps.length ≤ 2
  each : ∀ (i : Nat) p, ps[i]? = some p → p.size ≤ 18 ∧ ∃ n : Int, Lib.atoi p.data.toList = some n ∧ 0 ≤ n ∧ n ≤ 1114111
def pcs (cs : List UInt8) : List ByteArray := Lib.splitB ⟨#[44]⟩ 0 (Lib.countB ⟨cs.toArray⟩ ⟨#[44]⟩) ⟨cs.toArray⟩
theorem cod_of (cs : List UInt8) (h : Entp.good cs = true) : Cod cs (pcs cs) := by
  have hd : (pcs cs).map (·.data.toList) = Entp.parts cs := by
    unfold pcs
    rw [Lib.splitB_data]
    rfl
  rw [Entp.good, Bool.and_eq_true, decide_eq_true_eq, List.all_eq_true] at h
  refine ⟨hd, by rw [← hd, List.length_map] at h; exact h.1, fun i p hp => ?_⟩
  have hm : p.data.toList ∈ Entp.parts cs := by rw [← hd]; exact List.mem_map_of_mem (List.mem_of_getElem? hp)
  have h2 := h.2 _ hm
  rw [Bool.and_eq_true, decide_eq_true_eq] at h2
  refine ⟨by rw [Lib.size_eq]; exact h2.1, ?_⟩
  have h3 := h2.2
  split at h3
  · rename_i n hn
    rw [Bool.and_eq_true, decide_eq_true_eq, decide_eq_true_eq] at h3
    exact ⟨n, hn, h3.1, h3.2⟩
  · cases h3
theorem pcs_len (cs : List UInt8) : (pcs cs).length = Lib.countB ⟨cs.toArray⟩ ⟨#[44]⟩ + 1 := Lib.splitB_all ⟨#[44]⟩ (by decide) 0 _ _ rfl

def enc1 (p : ByteArray) : List UInt8 := Lib.encodeRune (Entp.num p.data.toList)
theorem text_pcs (cs : List UInt8) (h : (pcs cs).map (·.data.toList) = Entp.parts cs) : Entp.text cs = (pcs cs).flatMap enc1 := by
  rw [Entp.text, ← h, List.flatMap_map]
  rfl

/-- what a hit says -/
theorem find_some {name t : List UInt8} (hn : ∀ c ∈ name, c ≠ 32) (h : Entp.find name = some t) :
    ∃ (i : Nat) (b : List (List UInt8)), Lib.index Entp.ents (32 :: (name ++ [61])) = i ∧ Entp.ents.drop (i + (name.length + 2)) = t.drop (name.length + 1) ++ Entp.unsplit b ∧
      i + (name.length + 2) ≤ 2499 ∧ (∀ x ∈ t.drop (name.length + 1), x ≠ 32) ∧ Entp.good (t.drop (name.length + 1)) = true := by
  have hblank : ∀ t ∈ Entp.toks, ∀ c ∈ t, c ≠ 32 := fun t ht c hc => by
    have h1 := List.all_eq_true.1 (List.all_eq_true.1 Entp.toks_blank t ht) c hc
    simpa using h1
  obtain ⟨i, b, h1, h2⟩ := (Entp.index_toks (name ++ [61]) (fun c hc => by
    rcases List.mem_append.1 hc with hc | hc
    · exact hn c hc
    · simp at hc; subst hc; decide) (by simp) Entp.toks hblank).2 t h
  rw [Entp.ents_eq] at h1 h2
  rw [List.length_append, List.length_singleton] at h2
  have hmem := List.mem_of_find?_eq_some h
  have hpre : (name ++ [61]).isPrefixOf t = true := List.find?_some h
  obtain ⟨r, hr⟩ := List.isPrefixOf_iff_prefix.1 hpre
  refine ⟨i, b, h1, h2, ?_, fun x hx => hblank t hmem x (List.mem_of_mem_drop hx), ?_⟩
  · have := Lib.index_room Entp.ents (32 :: (name ++ [61])) (by omega)
    rw [h1, show Entp.ents.length = 2499 by decide +kernel] at this
    simp only [List.length_cons, List.length_append, List.length_nil] at this
    omega
  · have hg := List.all_eq_true.1 Entp.toks_good t hmem
    have h61 : t[name.length]? = some 61 := by rw [← hr, List.append_assoc, List.getElem?_append_right (Nat.le_refl _), Nat.sub_self]; rfl
    have hlt : name.length < t.length := by rw [← hr]; simp only [List.length_cons, List.length_append, List.length_nil]; omega
    have h3 := List.all_eq_true.1 hg name.length (List.mem_range.2 hlt)
    rw [h61] at h3
    simpa using h3
theorem find_none {name : List UInt8} (hn : ∀ c ∈ name, c ≠ 32) (h : Entp.find name = none) : Lib.index Entp.ents (32 :: (name ++ [61])) = -1 := by
  have hblank : ∀ t ∈ Entp.toks, ∀ c ∈ t, c ≠ 32 := fun t ht c hc => by
    have h1 := List.all_eq_true.1 (List.all_eq_true.1 Entp.toks_blank t ht) c hc
    simpa using h1
  have := (Entp.index_toks (name ++ [61]) (fun c hc => by
    rcases List.mem_append.1 hc with hc | hc
    · exact hn c hc
    · simp at hc; subst hc; decide) (by simp) Entp.toks hblank).1 h
  rwa [Entp.ents_eq] at this

theorem sIndex (l q : List UInt8) (n m : Int) (w : World) (hl : l.length < 4294967281) (hm : w.cell? ⟨3, 0, none⟩ = some (.int .i64 m)) (hn : Hid (Lib.index l q = n)) :
    Calls Tryz.prog 97 #[S l, S q] w (Ret (.int .i64 n) w) :=
  (Tryz.strings_Index ⟨l.toArray⟩ ⟨q.toArray⟩ m w (by rw [bl_size]; exact hl) hm).mono fun _ _ h => ⟨by rw [h.1, ← hn.out], h.2.symm⟩
theorem sCut (l q a r : List UInt8) (b : Bool) (m : Int) (w : World) (hl : l.length < 4294967281) (hm : w.cell? ⟨3, 0, none⟩ = some (.int .i64 m)) (hn : Hid (Lib.cut l q = (a, r, b))) :
    Calls Tryz.prog 98 #[S l, S q] w fun e w' => e = .returned (.tuple #[S a, S r, .bool b]) ∧ ∃ n, w.drewN n = w' :=
  (Tryz.strings_Cut ⟨l.toArray⟩ ⟨q.toArray⟩ m w (by rw [bl_size]; exact hl) hm).mono fun _ _ h => ⟨by
    have e : Lib.cut (⟨l.toArray⟩ : ByteArray).data.toList (⟨q.toArray⟩ : ByteArray).data.toList = (a, r, b) := hn.out
    rw [h.1, e], h.2.imp fun _ h => h.symm⟩
theorem sSplit (cs : List UInt8) (m : Int) (w : World) (hl : cs.length < 4294967281) (hm : w.cell? ⟨3, 0, none⟩ = some (.int .i64 m)) :
    Calls Tryz.prog 99 #[S cs, S [44]] w fun e w' => e = .returned (.slice (some ⟨w.heap.size, 0, none⟩) (pcs cs).length (pcs cs).length) ∧ w.alloc (.cells ((pcs cs).map Value.string).toArray 9) = w' :=
  (Tryz.strings_Split ⟨cs.toArray⟩ ⟨[44].toArray⟩ m w (by rw [bl_size]; exact hl) hm (by decide)).mono fun _ _ h => ⟨by rw [h.1, pcs_len], h.2.symm⟩
theorem cut_of (cs : List UInt8) (b : List (List UInt8)) (h : ∀ x ∈ cs, x ≠ 32) : ∃ r, Lib.cut (cs ++ Entp.unsplit b) [32] = (cs, r, true) := by
  have := Entp.cut_blank cs b h
  refine ⟨(cs ++ Entp.unsplit b).drop (cs.length + 1), ?_⟩
  unfold Lib.cut
  rw [this, if_pos (by omega), Int.toNat_natCast, List.take_left]
  rfl

set_option maxRecDepth 1000000 in
set_option maxHeartbeats 2000000 in
theorem points (name : List UInt8) (w : World) (hl : name.length ≤ 40) (hn : ∀ c ∈ name, c ≠ 32) (ht : Tab w) (u : List UInt8) (is : Bool) (hu : Hid ((Entp.points name).getD [] = u)) (his : Hid ((Entp.points name).isSome = is)) :
    Calls Tryz.prog 90 #[S name] w (Fresh (.tuple #[S u, .bool is]) w) := by
  obtain ⟨m, hm⟩ := ht.max
  have hEl : Entp.ents.length = 2499 := by decide +kernel
  cases hf : Entp.find name with
  | none =>
    have hi := hide (find_none hn hf)
    have hus : Hid (u = [] ∧ is = false) := ⟨by rw [← hu.out, Entp.points, hf]; rfl, by rw [← his.out, Entp.points, hf]; rfl⟩
    clear hu his hf ht hn
    refine calls_of_wp Tryz.func90 rfl ?_
    rw [lit_eq]
    rotate_left
    · decide +kernel
    generalize Entp.ents = E at hi hEl ⊢
    simp only [Tryz.ntmps90, List.size_toArray, List.length_cons, List.length_nil, Nat.reduceAdd, Nat.reduceSub, Array.replicate_succ,
      Array.replicate_zero, List.push_toArray, List.append_toArray, List.nil_append, List.cons_append]
    go_wp2_with fail
    refine (sIndex _ _ _ m _ (by omega) hm hi).mono ?_
    rintro e w' ⟨rfl, rfl⟩
    go_wp2_with fail
    refine bodyPost_ret (v := .tuple #[S [], .bool false]) (by simp [results, Tryz.results90, go_sem]) rfl ?_
    exact ⟨by rw [hus.out.1, hus.out.2], Below.refl _ _⟩
  | some t =>
    obtain ⟨i, b, h1, h2, h3, h4, h5⟩ := find_some hn hf
    have hus : Hid (u = Entp.text (t.drop (name.length + 1)) ∧ is = true) := ⟨by rw [← hu.out, Entp.points, hf]; rfl, by rw [← his.out, Entp.points, hf]; rfl⟩
    have hC := cod_of _ h5
    obtain ⟨cs, hcs⟩ : ∃ cs, t.drop (name.length + 1) = cs := ⟨_, rfl⟩
    rw [hcs] at h2 h4 hC hus
    obtain ⟨r, hr⟩ := cut_of cs b h4
    rw [← h2, ← List.take_of_length_le (l := List.drop (i + (name.length + 2)) Entp.ents) (i := 2497 - (i + name.length)) (by rw [List.length_drop, hEl]; omega), ← Nat.add_assoc] at hr
    have hcl : cs.length ≤ 2499 := by
      have := congrArg List.length h2
      rw [List.length_drop, List.length_append, hEl] at this
      omega
    have hi := hide h1
    have HR := hide hr
    have HC := hide hC
    clear hu his hf ht hn h1 h2 h4 h5 hcs hC hr
    refine calls_of_wp Tryz.func90 rfl ?_
    rw [lit_eq]
    rotate_left
    · decide +kernel
    generalize Entp.ents = E at hi hEl HR ⊢
    simp only [Tryz.ntmps90, List.size_toArray, List.length_cons, List.length_nil, Nat.reduceAdd, Nat.reduceSub, Array.replicate_succ,
      Array.replicate_zero, List.push_toArray, List.append_toArray, List.nil_append, List.cons_append]
    go_wp2_with fail
    refine (sIndex _ _ _ m _ (by omega) hm hi).mono ?_
    rintro e w' ⟨rfl, rfl⟩
    go_wp2_with fail
    refine (sCut _ _ _ _ _ m _ (by simp; omega) hm HR).mono ?_
    rintro e w1 ⟨rfl, nd, rfl⟩
    have hm1 : (w.drewN nd).cell? ⟨3, 0, none⟩ = some (.int .i64 m) := hm
    have hb1 := belowN w nd
    obtain ⟨w1, hw1⟩ : ∃ x, x = w.drewN nd := ⟨_, rfl⟩
    rw [← hw1] at hm1 hb1 ⊢
    clear hw1 hm HR hi
    have hg : 3 < w1.heap.size := World.block_lt_of_cell? w1 _ hm1
    have hm2 : ∀ o, (w1.alloc o).cell? ⟨3, 0, none⟩ = some (.int .i64 m) := fun o => (((Below.refl w1.heap.size w1).alloc (Nat.le_refl _) o).cell hg).trans hm1
    go_wp2_with fail
    refine (sSplit cs m _ (by omega) (hm2 _)).mono ?_
    rintro e w2 ⟨rfl, hw2⟩
    have hbl : Bld w1.heap.size w1.heap.size [] w2 := by rw [← hw2]; exact bld_below (bld_new w1) ((Below.refl _ _).alloc (Nat.le_refl _) _)
    have hrow : w2.heap[w1.heap.size + 1]? = some (Obj.cells ((pcs cs).map Value.string).toArray 9 (0, 0)) := by rw [← hw2]; exact heap_alloc2_new w1 _ _
    have hb2 : Below w1.heap.size w1 w2 := by rw [← hw2]; exact ((Below.refl w1.heap.size w1).alloc (Nat.le_refl _) _).alloc (by simp) _
    have hsz2 : w1.heap.size + 2 ≤ w2.heap.size := by rw [← hw2]; simp
    have huP : Hid (u = (pcs cs).flatMap enc1) := by unfold Hid; rw [hus.out.1, text_pcs cs HC.out.data]
    have his : Hid (is = true) := hus.out.2
    have hP2 := HC.out.len
    have hPe := hide HC.out.each
    obtain ⟨P, hP⟩ : ∃ P, pcs cs = P := ⟨_, rfl⟩
    rw [hP] at hrow huP hP2 hPe ⊢
    obtain ⟨B, hB⟩ : ∃ B, B = w1.heap.size := ⟨_, rfl⟩
    have hbw := hb1.trans (hb2.mono hb1.size)
    have hwB : w.heap.size ≤ B := by rw [hB]; exact hb1.size
    have hB1 : (w1.alloc (.cells #[.pointer none, .slice none 0 0] 54)).heap.size = B + 1 := by rw [hB]; simp
    rw [← hB] at hbl hrow hsz2 ⊢
    clear hw2 hm1 hm2 hg HC hus hP hEl hb1
    rw [hB1]
    clear hB1
    have Hrow := hide hrow
    clear hb2 hB hrow
    go_wp2_with fail
    go_loopg [33] P.length (fun g s33 wx => ∃ (i : Nat) (acc : List UInt8), i + g = P.length ∧ s33 = .int .i64 i ∧ acc.length ≤ 4 * i ∧ Hid (acc = (P.take i).flatMap enc1) ∧ Bld B B acc wx ∧ Keep B w2 wx)
    case atStart => exact ⟨0, [], by omega, rfl, by simp, rfl, hbl, Keep.refl _ _⟩
    case round =>
      obtain ⟨k, acc, hk, rfl, hal, hac, hbx, hkx⟩ := hrel
      have hrx := hkx.kept _ _ _ _ Hrow.out (by decide) (by decide)
      have hszx := hkx.below.size
      by_cases hlt : k < P.length
      · obtain ⟨p, hp⟩ : ∃ p, P[k]? = some p := ⟨P[k], List.getElem?_eq_getElem hlt⟩
        obtain ⟨h18, n, hat, hn0, hn1⟩ := hPe.out k p hp
        have hcell : wr.cell? ⟨B + 1, k, none⟩ = some (.string p) := cell_row hrx (by simp [hp])
        have HP := hide hp
        clear hp hrx
        have hn1' : n ≤ 2147483647 := by omega
        go_wp2_with fail
        refine (Tryz.strconv_Atoi p n h18 hat _).mono ?_
        rintro e w3 ⟨rfl, tb, rfl⟩
        have hb3 := belowBytes wr 5 tb
        have hbl3 := bld_below hbx hb3
        have hk3 : Keep B w2 (Lib.bytesWorld wr 5 tb) := hkx.trans (Keep.of_below (by omega) hb3)
        have hsz3 := hb3.size
        obtain ⟨w3, hw3⟩ : ∃ x, x = Lib.bytesWorld wr 5 tb := ⟨_, rfl⟩
        rw [← hw3] at hbl3 hk3 hsz3 ⊢
        have HAT := hide hat
        have HBX := hide hbx
        clear hw3 hb3 hcell hbx hat hkx
        go_wp2_with fail
        refine (writeRune B B acc n w3 hbl3 (by omega) (by omega) (by omega) (by omega)).mono ?_
        rintro e w4 ⟨⟨u0, rfl⟩, hbl4, hk4⟩
        go_wp2_with fail
        go_roundg (gk - 1)
        case measure => omega
        case rel =>
          refine ⟨k + 1, acc ++ Lib.encodeRune n, by omega, by go_num, ?_, ?_, .inr hbl4, hk3.trans hk4⟩
          · have := Lib.runeCells_le n
            rw [Lib.runeCells_length] at this
            rw [List.length_append]; omega
          · unfold Hid
            rw [List.take_add_one, HP.out, List.flatMap_append, ← hac.out]
            simp [enc1, Entp.num, HAT.out]
      · obtain rfl : k = P.length := by omega
        have hau : acc = u := by rw [huP.out, hac.out, List.take_length]
        subst hau
        clear hrx
        go_wp2_with fail
        refine (Tryz.Builder_String_any B B acc _ hbx (by omega)).mono ?_
        rintro e w4 ⟨rfl, hb4⟩
        go_wp2_with fail
        refine bodyPost_ret (v := .tuple #[S acc, .bool true]) (by simp [results, Tryz.results90, go_sem]) rfl ?_
        exact ⟨by rw [his.out], hbw.trans ((hkx.below.trans hb4).mono hwB)⟩
end Go.Proofs.YtagkdmolgmhmdaaGreatDoor.En
namespace Go.Proofs.YtagkdmolgmhmdaaGreatDoor.En
open Go.RowKit

theorem lets_all : ∀ (s : List UInt8), ∀ c ∈ s.take (Entp.lets s), Entp.alnum c = true
  | [], c, h => by simp at h
  | x :: s, c, h => by
    rw [Entp.lets] at h
    split at h
    · rename_i hx
      rw [List.take_succ_cons] at h
      rcases List.mem_cons.1 h with rfl | h
      · exact hx
      · exact lets_all s c h
    · simp at h
theorem take_top (s : List UInt8) (k : Nat) (hk : k ≤ Entp.top s) : k ≤ 33 ∧ ∀ c ∈ s.take k, c ≠ 32 := by
  rw [Entp.top_eq] at hk
  have h1 : ∀ c ∈ s.take (min 32 (Entp.lets s)), c ≠ 32 := fun c hc => by
    have : c ∈ s.take (Entp.lets s) := by
      have e : s.take (min 32 (Entp.lets s)) = (s.take (Entp.lets s)).take 32 := by rw [List.take_take]
      rw [e] at hc
      exact List.mem_of_mem_take hc
    have := lets_all s c this
    rintro rfl
    exact absurd this (by decide)
  refine ⟨by split at hk <;> omega, ?_⟩
  split at hk
  · rename_i h59
    intro c hc
    have : s.take k = (s.take (min 32 (Entp.lets s) + 1)).take k := by rw [List.take_take]; congr 1; omega
    rw [this] at hc
    have hc := List.mem_of_mem_take hc
    rw [List.take_add_one, h59] at hc
    rcases List.mem_append.1 hc with hc | hc
    · exact h1 c hc
    · simp at hc; subst hc; decide
  · intro c hc
    have : s.take k = (s.take (min 32 (Entp.lets s))).take k := by rw [List.take_take]; congr 1; omega
    rw [this] at hc
    exact h1 c (List.mem_of_mem_take hc)
theorem top_le (s : List UInt8) : Entp.top s ≤ s.length := by
  have := Entp.lets_le s
  rw [Entp.top_eq]
  split
  · rename_i h
    rcases Nat.lt_or_ge (min 32 (Entp.lets s)) s.length with h' | h'
    · omega
    · rw [List.getElem?_eq_none h'] at h; cases h
  · omega
theorem downFrom_succ (s : List UInt8) (k : Nat) : Entp.downFrom s (k + 1) = if (Entp.points (s.take (k + 1))).isSome = true then (k + 1, (Entp.points (s.take (k + 1))).getD []) else Entp.downFrom s k := by
  rw [Entp.downFrom]
  cases Entp.points (s.take (k + 1)) <;> rfl

/-- where the longest name may end -/
theorem top_cases (s : List UInt8) (k T : Nat) (hk : Entp.lets (s.take 32) = k) (hT : Entp.top s = T) :
    (k < s.length ∧ s[k]? = some 59 ∧ T = k + 1) ∨ (∃ x, k < s.length ∧ s[k]? = some x ∧ ((x.toNat : Int) == 59) = false ∧ T = k) ∨ (k = s.length ∧ T = k) := by
  have hks : k ≤ s.length := by have := Entp.lets_le (s.take 32); rw [hk, List.length_take] at this; omega
  rw [Entp.top, hk] at hT
  rcases Nat.lt_or_ge k s.length with h | h
  · rw [List.getElem?_eq_getElem h] at hT ⊢
    by_cases hx : s[k] = 59
    · rw [if_pos (by rw [hx])] at hT
      exact .inl ⟨h, by rw [hx], hT.symm⟩
    · rw [if_neg (fun e => hx (Option.some.inj e))] at hT
      refine .inr (.inl ⟨s[k], h, rfl, ?_, hT.symm⟩)
      exact (u8_eq s[k] 59 (by decide)).trans (beq_eq_false_iff_ne.2 hx)
  · rw [List.getElem?_eq_none h, if_neg (by simp)] at hT
    exact .inr (.inr ⟨by omega, hT.symm⟩)

set_option maxRecDepth 100000 in
set_option maxHeartbeats 1000000 in
theorem named (s : List UInt8) (n : Nat) (u : List UInt8) (w : World) (hl : s.length ≤ maxLen) (ht : Tab w) (hn : Hid (Entp.named s = (n, u))) :
    Calls Tryz.prog 74 #[S s] w (Fresh (.tuple #[.int .i64 n, S u]) w) := by
  unfold maxLen at hl
  obtain ⟨k, hk⟩ : ∃ k, Entp.lets (s.take 32) = k := ⟨_, rfl⟩
  have hk32 : k ≤ 32 := by rw [← hk, Entp.lets_take]; omega
  have hks : k ≤ s.length := by have := Entp.lets_le (s.take 32); rw [hk, List.length_take] at this; omega
  obtain ⟨T, hT⟩ : ∃ T, Entp.top s = T := ⟨_, rfl⟩
  have hTs : T ≤ s.length := by rw [← hT]; exact top_le s
  have HTT := hide hT
  have HD : Hid (Entp.downFrom s T = (n, u)) := by have := hn.out; rw [Entp.named, hT] at this; exact this
  have HK : Hid (Entp.lets (List.take (min 32 (s.length : Int)).toNat s) = k) := by
    unfold Hid
    rw [← hk]
    rcases Nat.le_total 32 s.length with h | h
    · rw [show (min 32 (s.length : Int)).toNat = 32 by omega]
    · rw [show (min 32 (s.length : Int)).toNat = s.length by omega, List.take_length, List.take_of_length_le h]
  have hcase := top_cases s k T hk hT
  have Ht := hide ht
  clear hk ht hT hn
  go_enter Tryz.func74, Tryz.ntmps74
  go_wp2_with fail
  refine (letters _ k _ (by simp [maxLen]; omega) HK).mono ?_
  rintro e w' ⟨rfl, rfl⟩
  rcases hcase with ⟨hc1, hc2, hc3⟩ | ⟨x, hc1, hc2, hcx, hc3⟩ | ⟨hc1, hc3⟩
  · obtain ⟨y, hy⟩ : ∃ y, s[k] = y := ⟨_, rfl⟩
    have hy5 : y = 59 := by rw [List.getElem?_eq_getElem hc1, hy] at hc2; exact Option.some.inj hc2
    clear hc2
    subst hy5
    go_wp2_with fail
    go_loopg [4] T (fun g s4 wx => g ≤ T ∧ s4 = .int .i64 g ∧ Below w.heap.size w wx ∧ Hid (Entp.downFrom s g = (n, u)))
    case atStart => exact ⟨Nat.le_refl _, by rw [hc3]; go_num, Below.refl _ _, HD⟩
    case round =>
      obtain ⟨hgT, rfl, hbw, hd⟩ := hrel
      have Htr := hide (Ht.out.below hbw)
      by_cases hg0 : gk = 0
      · subst hg0
        have e := hd.out
        rw [Entp.downFrom] at e
        injection e with e1 e2
        subst e1
        subst e2
        go_wp2_with fail
        refine bodyPost_ret (v := .tuple #[.int .i64 0, S []]) (by simp [results, Tryz.results74, go_sem]) rfl ?_
        exact ⟨rfl, hbw⟩
      · obtain ⟨j, rfl⟩ : ∃ j, gk = j + 1 := ⟨gk - 1, by omega⟩
        have htk := take_top s (j + 1) (by rw [HTT.out]; exact hgT)
        have e := hd.out
        rw [downFrom_succ] at e
        obtain ⟨is, his⟩ : ∃ is, (Entp.points (s.take (j + 1))).isSome = is := ⟨_, rfl⟩
        obtain ⟨t, hu⟩ : ∃ t, (Entp.points (s.take (j + 1))).getD [] = t := ⟨_, rfl⟩
        rw [his, hu] at e
        have HIS := hide his
        have HU := hide hu
        have HE := hide e
        have HTK := hide htk
        clear e his hu htk hg0
        go_wp2_with fail
        refine (points _ _ (by have := HTK.out.1; simp; omega) HTK.out.2 Htr.out t is HU HIS).mono ?_
        rintro e w2 ⟨rfl, hb2⟩
        have hb3 := hbw.trans (hb2.mono hbw.size)
        cases is
        · go_wp2_with fail
          go_roundg j
          case measure => omega
          case rel => exact ⟨by omega, by go_num, hb3, by have := HE.out; rw [if_neg (by decide)] at this; exact this⟩
        · have e := HE.out
          rw [if_pos rfl] at e
          injection e with e1 e2
          subst e1
          subst e2
          go_wp2_with fail
          refine bodyPost_ret (v := .tuple #[.int .i64 ((j + 1 : Nat) : Int), S t]) (by simp [results, Tryz.results74, go_sem]) rfl ?_
          exact ⟨rfl, hb3⟩
  · have hy : s[k] = x := by rw [List.getElem?_eq_getElem hc1] at hc2; exact Option.some.inj hc2
    clear hc2
    go_wp2_with fail
    go_loopg [4] T (fun g s4 wx => g ≤ T ∧ s4 = .int .i64 g ∧ Below w.heap.size w wx ∧ Hid (Entp.downFrom s g = (n, u)))
    case atStart => exact ⟨Nat.le_refl _, by rw [hc3], Below.refl _ _, HD⟩
    case round =>
      obtain ⟨hgT, rfl, hbw, hd⟩ := hrel
      have Htr := hide (Ht.out.below hbw)
      by_cases hg0 : gk = 0
      · subst hg0
        have e := hd.out
        rw [Entp.downFrom] at e
        injection e with e1 e2
        subst e1
        subst e2
        go_wp2_with fail
        refine bodyPost_ret (v := .tuple #[.int .i64 0, S []]) (by simp [results, Tryz.results74, go_sem]) rfl ?_
        exact ⟨rfl, hbw⟩
      · obtain ⟨j, rfl⟩ : ∃ j, gk = j + 1 := ⟨gk - 1, by omega⟩
        have htk := take_top s (j + 1) (by rw [HTT.out]; exact hgT)
        have e := hd.out
        rw [downFrom_succ] at e
        obtain ⟨is, his⟩ : ∃ is, (Entp.points (s.take (j + 1))).isSome = is := ⟨_, rfl⟩
        obtain ⟨t, hu⟩ : ∃ t, (Entp.points (s.take (j + 1))).getD [] = t := ⟨_, rfl⟩
        rw [his, hu] at e
        have HIS := hide his
        have HU := hide hu
        have HE := hide e
        have HTK := hide htk
        clear e his hu htk hg0
        go_wp2_with fail
        refine (points _ _ (by have := HTK.out.1; simp; omega) HTK.out.2 Htr.out t is HU HIS).mono ?_
        rintro e w2 ⟨rfl, hb2⟩
        have hb3 := hbw.trans (hb2.mono hbw.size)
        cases is
        · go_wp2_with fail
          go_roundg j
          case measure => omega
          case rel => exact ⟨by omega, by go_num, hb3, by have := HE.out; rw [if_neg (by decide)] at this; exact this⟩
        · have e := HE.out
          rw [if_pos rfl] at e
          injection e with e1 e2
          subst e1
          subst e2
          go_wp2_with fail
          refine bodyPost_ret (v := .tuple #[.int .i64 ((j + 1 : Nat) : Int), S t]) (by simp [results, Tryz.results74, go_sem]) rfl ?_
          exact ⟨rfl, hb3⟩
  · subst hc1
    go_wp2_with fail
    go_loopg [4] T (fun g s4 wx => g ≤ T ∧ s4 = .int .i64 g ∧ Below w.heap.size w wx ∧ Hid (Entp.downFrom s g = (n, u)))
    case atStart => exact ⟨Nat.le_refl _, by rw [hc3], Below.refl _ _, HD⟩
    case round =>
      obtain ⟨hgT, rfl, hbw, hd⟩ := hrel
      have Htr := hide (Ht.out.below hbw)
      by_cases hg0 : gk = 0
      · subst hg0
        have e := hd.out
        rw [Entp.downFrom] at e
        injection e with e1 e2
        subst e1
        subst e2
        go_wp2_with fail
        refine bodyPost_ret (v := .tuple #[.int .i64 0, S []]) (by simp [results, Tryz.results74, go_sem]) rfl ?_
        exact ⟨rfl, hbw⟩
      · obtain ⟨j, rfl⟩ : ∃ j, gk = j + 1 := ⟨gk - 1, by omega⟩
        have htk := take_top s (j + 1) (by rw [HTT.out]; exact hgT)
        have e := hd.out
        rw [downFrom_succ] at e
        obtain ⟨is, his⟩ : ∃ is, (Entp.points (s.take (j + 1))).isSome = is := ⟨_, rfl⟩
        obtain ⟨t, hu⟩ : ∃ t, (Entp.points (s.take (j + 1))).getD [] = t := ⟨_, rfl⟩
        rw [his, hu] at e
        have HIS := hide his
        have HU := hide hu
        have HE := hide e
        have HTK := hide htk
        clear e his hu htk hg0
        go_wp2_with fail
        refine (points _ _ (by have := HTK.out.1; simp; omega) HTK.out.2 Htr.out t is HU HIS).mono ?_
        rintro e w2 ⟨rfl, hb2⟩
        have hb3 := hbw.trans (hb2.mono hbw.size)
        cases is
        · go_wp2_with fail
          go_roundg j
          case measure => omega
          case rel => exact ⟨by omega, by go_num, hb3, by have := HE.out; rw [if_neg (by decide)] at this; exact this⟩
        · have e := HE.out
          rw [if_pos rfl] at e
          injection e with e1 e2
          subst e1
          subst e2
          go_wp2_with fail
          refine bodyPost_ret (v := .tuple #[.int .i64 ((j + 1 : Nat) : Int), S t]) (by simp [results, Tryz.results74, go_sem]) rfl ?_
          exact ⟨rfl, hb3⟩
end Go.Proofs.YtagkdmolgmhmdaaGreatDoor.En
