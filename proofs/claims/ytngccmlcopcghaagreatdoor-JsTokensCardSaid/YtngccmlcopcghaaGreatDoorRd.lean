/- Letters, digits, blanks, ends of lines, what a name holds, of code points. -/
import Derived.Test.YtngccmlcopcghaaGreatDoorBase
import Derived.Test.YtngccmlcopcghaaGreatDoorQb
import Derived.Test.YtngccmlcopcghaaGreatDoorShelf
import Derived.WalkSmall
import Derived.BigQuiet
import Derived.Lib.AppendStr
import Derived.Lib.Builder
import Derived.Deep.RegionWith
import Derived.Laws.Rows
import Derived.StillTailTactics
import Derived.Deep.RegionHeld3
set_option maxRecDepth 100000
set_option maxHeartbeats 8000000
namespace Go.Proofs.YtngccmlcopcghaaGreatDoor
open Go.RowKit
theorem or32_nat (n : Nat) (hn : n < 2147483648) : bits BinOp.or .i32 (n : Int) 32 = ((n ||| 32 : Nat) : Int) := by
 have hx : n ||| 32 < 2 ^ 31 := Nat.or_lt_two_pow (by omega) (by decide)
 have h1 : (BitVec.ofInt 32 (n : Int)).toNat = n := by
  rw [BitVec.ofInt_natCast, BitVec.toNat_ofNat]; exact Nat.mod_eq_of_lt (by omega)
 have h2 : (BitVec.ofInt 32 (32 : Int)).toNat = 32 := by decide
 show IntKind.i32.wrap ((BitVec.ofInt 32 (n : Int) ||| BitVec.ofInt 32 (32 : Int)).toNat : Int) = _
 rw [BitVec.toNat_or, h1, h2, IntKind.wrap_i32]
 omega
theorem or32_small : ∀ n : Fin 128, (97 <= (n.val ||| 32) /\ (n.val ||| 32) <= 122 ↔ (65 <= n.val /\ n.val <= 90) \/ (97 <= n.val /\ n.val <= 122)) /\ ((65 <= n.val /\ n.val <= 90) -> (n.val ||| 32) = n.val + 32) /\ ((97 <= n.val /\ n.val <= 122) -> (n.val ||| 32) = n.val) := by decide +kernel
theorem or32 (n : Nat) (hn : n < 2147483648) : ∃ m : Nat, bits BinOp.or .i32 (n : Int) 32 = (m : Int) /\ m < 2147483648 /\ (97 <= m /\ m <= 122 ↔ (65 <= n /\ n <= 90) \/ (97 <= n /\ n <= 122)) /\ ((65 <= n /\ n <= 90) -> m = n + 32) /\ ((97 <= n /\ n <= 122) -> m = n) := by
 refine ⟨n ||| 32, or32_nat n hn, Nat.or_lt_two_pow (n := 31) (by omega) (by decide), ?_⟩
 by_cases h : n < 128
 ·exact or32_small ⟨n, h⟩
 ·have : n <= n ||| 32 := Nat.left_le_or
  refine ⟨?_, fun h => by omega, fun h => by omega⟩
  constructor <;> intro h <;> omega
theorem ji_t {a : Nat} {n : Nat} (h : a = n) : ((a : Int) == (n : Int)) = true := by rw [h, beq_self_eq_true]
theorem ji_f {a : Nat} {n : Nat} (h : ¬ a = n) : ((a : Int) == (n : Int)) = false := by rw [beq_eq_false_iff_ne]; omega
theorem jDigit (r : Nat) (w : World) : Calls Tryz.prog 40 #[.int .i32 r] w (Ret (.bool (Jsp.digit r)) w) := by
 go_enter Tryz.func40, Tryz.ntmps40
 go_wp2
 all_goals go_ret
 all_goals exact Ret.of (v_b (by unfold Jsp.digit; rw [Bool.eq_iff_iff]; simp only [Bool.and_eq_true, decide_eq_true_eq, Bool.false_eq_true, false_iff]; omega))
theorem alpha_iff (r : Nat) : Jsp.alpha r = true ↔ (65 <= r /\ r <= 90) \/ (97 <= r /\ r <= 122) := by simp [Jsp.alpha]
theorem digit_iff (r : Nat) : Jsp.digit r = true ↔ (48 <= r /\ r <= 57) := by simp [Jsp.digit]
theorem jAlpha (r : Nat) (w : World) (hr : r <= 1114111) : Calls Tryz.prog 68 #[.int .i32 r] w (Ret (.bool (Jsp.alpha r)) w) := by
 obtain ⟨m, h1, _, h2, _, _⟩ := or32 r (by omega)
 go_enter Tryz.func68, Tryz.ntmps68
 go_wp2
 all_goals go_ret
 all_goals exact Ret.of (v_b (by rw [Bool.eq_iff_iff, alpha_iff]; simp only [decide_eq_true_eq, Bool.false_eq_true, false_iff]; omega))
def hexR (r : Nat) : Int := if 48 <= r /\ r <= 57 then (r : Int) - 48 else if 65 <= r /\ r <= 70 then (r : Int) - 55 else if 97 <= r /\ r <= 102 then (r : Int) - 87 else -1
theorem hexR_u8 (c : UInt8) : hexR c.toNat = Jsp.hexV c := rfl
theorem jHex (r : Nat) (w : World) (hr : r <= 1114111) : Calls Tryz.prog 106 #[.int .i32 r] w (Ret (.int .i64 (hexR r)) w) := by
 obtain ⟨m, h1, hm, h2, h3, h4⟩ := or32 r (by omega)
 go_enter Tryz.func106, Tryz.ntmps106
 go_wp2_with fail
 refine (jDigit r _).mono ?_
 rintro e w' ⟨rfl, rfl⟩
 cases hd : Jsp.digit r
 ·go_wp2_with fail
  refine (jAlpha r _ hr).mono ?_
  rintro e w' ⟨rfl, rfl⟩
  cases ha : Jsp.alpha r
  ·go_wp2_with fail
   go_ret
   refine Ret.of (v_i ?_)
   have a1 : ¬ ((65 <= r /\ r <= 90) \/ (97 <= r /\ r <= 122)) := fun h => by rw [(alpha_iff r).2 h] at ha; cases ha
   have a2 : ¬ (48 <= r /\ r <= 57) := fun h => by rw [(digit_iff r).2 h] at hd; cases hd
   unfold hexR
   rw [if_neg a2, if_neg (fun h => a1 (by omega)), if_neg (fun h => a1 (by omega))]
  ·have H3 := hide h3
   have H4 := hide h4
   clear h3 h4
   have a1 := (alpha_iff r).1 ha
   have a2 : ¬ (48 <= r /\ r <= 57) := fun h => by rw [(digit_iff r).2 h] at hd; cases hd
   have hm2 : 97 <= m /\ m <= 122 := h2.2 a1
   clear h2
   go_wp2_with fail
   all_goals go_ret
   all_goals refine Ret.of (v_i ?_)
   all_goals have h3 := H3.out
   all_goals have h4 := H4.out
   all_goals unfold hexR
   all_goals rw [if_neg a2]
   all_goals (split; (go_num <;> omega))
   all_goals (split; (go_num <;> omega))
   all_goals (go_num <;> omega)
 ·have a2 := (digit_iff r).1 hd
  go_wp2_with fail
  go_ret
  refine Ret.of (v_i ?_)
  unfold hexR
  rw [if_pos a2]
theorem jLineEnd (r : Nat) (w : World) : Calls Tryz.prog 30 #[.int .i32 r] w (Ret (.bool (Jsp.lineEnd r)) w) := by
 have h : Jsp.lineEnd r = (decide (r = 10) || decide (r = 13) || decide (r = 8232) || decide (r = 8233)) := by
  rw [Bool.eq_iff_iff]
  simp only [Jsp.lineEnd, Bool.or_eq_true, beq_iff_eq, decide_eq_true_eq]
 rw [h]
 clear h
 go_enter Tryz.func30, Tryz.ntmps30
 go_wp2
 all_goals go_ret
 all_goals exact Ret.of (v_b (by rw [Bool.eq_iff_iff]; simp <;> omega))
theorem blank_eq (r : Nat) : Jsp.blank r = (decide (r = 9) || decide (r = 11) || decide (r = 12) || decide (r = 32) || decide (r = 160) || decide (r = 5760) || (decide (8192 <= r) && decide (r <= 8202)) || decide (r = 8239) || decide (r = 8287) || decide (r = 12288) || decide (r = 65279)) := by
 rw [Bool.eq_iff_iff]
 simp only [Jsp.blank, Bool.or_eq_true, beq_iff_eq, decide_eq_true_eq, Bool.and_eq_true]
theorem jBlank (r : Nat) (w : World) : Calls Tryz.prog 29 #[.int .i32 r] w (Ret (.bool (Jsp.blank r)) w) := by
 rw [blank_eq]
 go_enter Tryz.func29, Tryz.ntmps29
 go_wp2
 all_goals go_ret
 all_goals refine Ret.of (v_b ?_)
 all_goals rw [Bool.eq_iff_iff]
 all_goals simp only [Bool.or_eq_true, Bool.and_eq_true, decide_eq_true_eq, Bool.false_eq_true]
 all_goals simp only [beq_iff_eq, beq_eq_false_iff_ne, ne_eq] at *
 all_goals first | omega | (simp only [true_iff]; omega) | (simp only [false_iff]; omega)
theorem jBegins (r : Nat) (w : World) (hr : r <= 1114111) : Calls Tryz.prog 37 #[.int .i32 r] w (Ret (.bool (Jsp.begins r)) w) := by
 obtain ⟨R, hR⟩ : ∃ R, Jsp.begins r = R := ⟨_, rfl⟩
 rw [hR]
 unfold Jsp.begins at hR
 go_enter Tryz.func37, Tryz.ntmps37
 have HR := hide hR
 clear hR
 go_wp2_with fail
 refine (jAlpha r _ hr).mono ?_
 rintro e w' ⟨rfl, rfl⟩
 cases ha : Jsp.alpha r
 ·by_cases h1 : r = 36
  ·have q1 : ((r : Int) == 36) = true := ji_t h1
   have H1 := hide h1
   clear h1
   go_wp2_with fail
   go_ret
   exact Ret.of (v_b (by rw [<- HR.out, ha, H1.out]; rfl))
  have q1 : ((r : Int) == 36) = false := ji_f h1
  have H1 := hide (show (r == 36) = false from by rw [beq_eq_false_iff_ne]; exact h1)
  clear h1
  by_cases h2 : r = 95
  ·have q2 : ((r : Int) == 95) = true := ji_t h2
   have H2 := hide h2
   clear h2
   go_wp2_with fail
   go_ret
   exact Ret.of (v_b (by rw [<- HR.out, ha, H2.out]; rfl))
  have q2 : ((r : Int) == 95) = false := ji_f h2
  have H2 := hide (show (r == 95) = false from by rw [beq_eq_false_iff_ne]; exact h2)
  clear h2
  by_cases h3 : 128 <= r
  ·have q3 : decide ((128 : Int) <= (r : Int)) = true := by simp; omega
   have H3 := hide h3
   clear h3
   go_wp2_with fail
   refine (jBlank r _).mono ?_
   rintro e w' ⟨rfl, rfl⟩
   cases hb : Jsp.blank r
   ·go_wp2_with fail
    refine (jLineEnd r _).mono ?_
    rintro e w' ⟨rfl, rfl⟩
    go_wp2_with fail
    go_ret
    exact Ret.of (v_b (by rw [<- HR.out, ha, H1.out, H2.out, hb, decide_eq_true H3.out]; simp))
   ·go_wp2_with fail
    go_ret
    exact Ret.of (v_b (by rw [<- HR.out, ha, H1.out, H2.out, hb]; simp))
  ·have q3 : decide ((128 : Int) <= (r : Int)) = false := by simp; omega
   have H3 := hide h3
   clear h3
   go_wp2_with fail
   go_ret
   exact Ret.of (v_b (by rw [<- HR.out, ha, H1.out, H2.out, decide_eq_false H3.out]; simp))
 ·go_wp2_with fail
  go_ret
  exact Ret.of (v_b (by rw [<- HR.out, ha]; rfl))
theorem jGoesOn (r : Nat) (w : World) (hr : r <= 1114111) : Calls Tryz.prog 116 #[.int .i32 r] w (Ret (.bool (Jsp.goesOn r)) w) := by
 go_enter Tryz.func116, Tryz.ntmps116
 go_wp2_with fail
 refine (jBegins r _ hr).mono ?_
 rintro e w' ⟨rfl, rfl⟩
 cases hb : Jsp.begins r
 ·go_wp2_with fail
  refine (jDigit r _).mono ?_
  rintro e w' ⟨rfl, rfl⟩
  go_wp2_with fail
  go_ret
  exact Ret.of (v_b (by unfold Jsp.goesOn; rw [hb]; rfl))
 ·go_wp2_with fail
  go_ret
  exact Ret.of (v_b (by unfold Jsp.goesOn; rw [hb]; rfl))
theorem jName1 (r : Nat) (w : World) (hr : r <= 1114111) : Calls Tryz.prog 115 #[.int .i32 r] w (Ret (.bool (!Jsp.goesOn r)) w) := by
 go_enter Tryz.func115, Tryz.ntmps115
 go_wp2_with fail
 refine (jGoesOn r _ hr).mono ?_
 rintro e w' ⟨rfl, rfl⟩
 go_wp2_with fail
 go_ret
 exact Ret.of rfl
theorem jBlanks1 (r : Nat) (w : World) : Calls Tryz.prog 28 #[.int .i32 r] w (Ret (.bool (!Jsp.bl r)) w) := by
 go_enter Tryz.func28, Tryz.ntmps28
 go_wp2_with fail
 refine (jBlank r _).mono ?_
 rintro e w' ⟨rfl, rfl⟩
 cases hb : Jsp.blank r
 ·go_wp2_with fail
  refine (jLineEnd r _).mono ?_
  rintro e w' ⟨rfl, rfl⟩
  go_wp2_with fail
  go_ret
  exact Ret.of (v_b (by unfold Jsp.bl; rw [hb]; rfl))
 ·go_wp2_with fail
  go_ret
  exact Ret.of (v_b (by unfold Jsp.bl; rw [hb]; rfl))
theorem info_byte : (Tryz.prog.info? 5).map (fun i => (i.zero, i.size, i.bytes)) = some (some (.int .u8 0), 1, 1) := by kernel_rfl
theorem heap_lt {w : World} {k : Nat} {o : Obj} (h : w.heap[k]? = some o) : k < w.heap.size := (Array.getElem?_eq_some_iff.1 h).1
theorem ownsRow_kind {w : World} {B : Nat} {e : TypeId} {size : Nat} {v : Value} {n : Nat} {xs : List Value} (h : w.ownsRow B e size v n xs) : ∀ g, v.ownBlock = some g -> ∃ c, w.heap[g]? = some (Obj.cells c e (0, 0)) := by
 intro g hg
 rcases h.2 with ⟨rfl, _⟩ | ⟨g', cap, cur, rfl, _, hgg, _⟩
 ·cases hg
 ·have : g' = g := by simpa [Value.ownBlock] using hg
  subst this
  exact ⟨_, hgg⟩
theorem belowN (w : World) (n : Nat) : Below w.heap.size w (w.drewN n) := ⟨rfl, rfl, rfl, Nat.le_refl _, fun _ _ => rfl⟩
theorem cell_below {w w' : World} {p : Addr} {v : Value} (h : w.cell? p = some v) (hb : Below w.heap.size w w') : w'.cell? p = some v := (hb.cell (World.block_lt_of_cell? w p h)).trans h
theorem owns_of_block {w w' : World} {base : Nat} {e : TypeId} {size : Nat} {v : Value} {n : Nat} {xs : List Value} (h : w.ownsRow base e size v n xs) (hg : ∀ g, v.ownBlock = some g -> w'.heap[g]? = w.heap[g]?) : w'.ownsRow base e size v n xs := by
 refine ⟨h.1, ?_⟩
 rcases h.2 with hn | ⟨g, cap, cur, rfl, hb, hh, r⟩
 ·exact .inl hn
 ·exact .inr ⟨g, cap, cur, rfl, hb, (hg g rfl).trans hh, r⟩
theorem setCell_kept {b o : Nat} {w : World} (q : Value) : w.grownBy (w.setCell ⟨b, o, none⟩ q) (some b) := ⟨rfl, rfl, rfl, by simp [World.setCell], fun k _ hk => Below.heap_setCell _ _ _ _ (fun e => hk (by simp [e]))⟩
structure Tab (w : World) : Prop where
 utf : Lib.Utf8Tabs 3 4 w
 mx : ∃ m : Int, w.cell? ⟨1, 0, none⟩ = some (.int .i64 m)
 asc : Lib.TabIs Tryz.prog w "strings.asciiSpace" .u8 Lib.asciiSpaceTab
 syn : ∃ t p, w.cell? ⟨5, 0, none⟩ = some (.iface t p)
 rng : ∃ t p, w.cell? ⟨6, 0, none⟩ = some (.iface t p)
theorem asc_named : Tryz.prog.globalNamed "strings.asciiSpace" = some 0 := by kernel_rfl
theorem Tab.of_blocks {w w' : World} (h : Tab w) (hb : ∀ k, k < 7 -> w'.heap[k]? = w.heap[k]?) : Tab w' := by
 have hc : ∀ k j, k < 7 -> w'.cell? ⟨k, j, none⟩ = w.cell? ⟨k, j, none⟩ := fun k j hk => World.cell?_of_block (a := ⟨k, j, none⟩) (hb k hk)
 refine ⟨⟨fun c hc' => ?_, fun i hi => ?_⟩, ?_, ?_, ?_, ?_⟩
 ·rw [hc _ c (by decide)]; exact h.utf.1 c hc'
 ·rw [hc _ _ (by decide), hc _ _ (by decide)]; exact h.utf.2 i hi
 ·obtain ⟨m, hm⟩ := h.mx
  exact ⟨m, by rw [hc _ 0 (by decide)]; exact hm⟩
 ·have h := h.asc
  unfold Lib.TabIs World.var? at h ⊢
  rw [asc_named] at h ⊢
  simp only [Option.bind_some] at h ⊢
  rw [hb _ (by decide)]
  exact h
 ·obtain ⟨t, q, hm⟩ := h.syn
  exact ⟨t, q, by rw [hc _ 0 (by decide)]; exact hm⟩
 ·obtain ⟨t, q, hm⟩ := h.rng
  exact ⟨t, q, by rw [hc _ 0 (by decide)]; exact hm⟩
theorem Tab.below {w w' : World} (h : Tab w) {B : Nat} (hB : 7 <= B) (hb : Below B w w') : Tab w' := h.of_blocks fun k hk => hb.block k (by omega)
theorem Tab.lt {w : World} (h : Tab w) : 7 <= w.heap.size := by
 obtain ⟨t, q, hm⟩ := h.rng
 have := World.block_lt_of_cell? w _ hm
 exact this
structure Kp (B : Nat) (w w' : World) : Prop where
 below : Below B w w'
 kept : ∀ (k : Nat) (cs : Array Value) (t : TypeId) (f : Nat × Nat), w.heap[k]? = some (Obj.cells cs t f) -> t ≠ 50 -> t ≠ 5 -> w'.heap[k]? = some (Obj.cells cs t f)
theorem Kp.refl (B : Nat) (w : World) : Kp B w w := ⟨Below.refl _ _, fun _ _ _ _ h _ _ => h⟩
theorem Kp.trans {B : Nat} {a b c : World} (h : Kp B a b) (k : Kp B b c) : Kp B a c :=
 ⟨h.below.trans k.below, fun i cs t f hi h1 h2 => k.kept i cs t f (h.kept i cs t f hi h1 h2) h1 h2⟩
theorem Kp.size {B : Nat} {w w' : World} (h : Kp B w w') : w.heap.size <= w'.heap.size := h.below.size
theorem Kp.of_below {B : Nat} {w w' : World} (hB : B <= w.heap.size) (h : Below w.heap.size w w') : Kp B w w' :=
 ⟨h.mono hB, fun k _ _ _ hk _ _ => (h.block k (heap_lt hk)).trans hk⟩
theorem Kp.fresh {B : Nat} {a w w' : World} (h : Kp B a w) (hB : B <= a.heap.size) (k : Below w.heap.size w w') : Kp B a w' := h.trans (Kp.of_below (Nat.le_trans hB h.size) k)
theorem Kp.alloc {B : Nat} {a w : World} (h : Kp B a w) (hB : B <= a.heap.size) (o : Obj) : Kp B a (w.alloc o) := h.fresh hB ((Below.refl _ w).alloc (Nat.le_refl _) o)
theorem Kp.drewN {B : Nat} {a w : World} (h : Kp B a w) (n : Nat) : Kp B a (w.drewN n) := ⟨h.below.trans ⟨rfl, rfl, rfl, Nat.le_refl _, fun _ _ => rfl⟩, h.kept⟩
theorem Kp.setCell {B : Nat} {a w : World} (h : Kp B a w) {p : Addr} (hp : B <= p.block) {cs : Array Value} {f : Nat × Nat} (hb : w.heap[p.block]? = some (Obj.cells cs 50 f)) (u : Value) : Kp B a (w.setCell p u) :=
 ⟨h.below.setCell hp u, fun k cs' t' f' hk h1 h2 => by
  have hk' := h.kept k cs' t' f' hk h1 h2
  have hne : k ≠ p.block := by
   rintro rfl
   rw [hb] at hk'
   injection hk' with e
   injection e with _ e _
   exact h1 e.symm
  rw [Below.heap_setCell _ _ _ _ hne]; exact hk'⟩
theorem Kp.grown {B : Nat} {a w w' : World} (h : Kp B a w) {v : Value} {n : Nat} {xs : List Value} (hown : w.ownsRow B 5 1 v n xs) (hg : w.grownBy w' v.ownBlock) (hB : B <= w.heap.size) : Kp B a w' :=
 ⟨h.below.grown hg hB (fun k hk => (hown.lt k hk).1), fun k cs' t' f' hk h1 h2 => by
  have hk' := h.kept k cs' t' f' hk h1 h2
  rw [hg.block k (heap_lt hk') ?_]; exact hk'
  intro e'
  obtain ⟨c, hc⟩ := ownsRow_kind hown k e'.symm
  rw [hk'] at hc
  injection hc with e2
  injection e2 with _ e2 _
  exact h2 e2⟩
abbrev LxC (F : List UInt8) (a : Nat) (v : Value) (st : Jsp.St) (ln : Bool) (lo : Int) : Array Value := #[S F, .int .i64 (a : Int), v, .bool st.goal, S st.last, .bool st.some, .bool ln, .int .i64 lo]
structure LxV (w : World) (B b : Nat) (F : List UInt8) (a : Nat) (v : Value) (st : Jsp.St) (ln : Bool) (lo : Int) : Prop where
 le : B <= b
 lo11 : 7 <= B
 tab : Tab w
 at' : w.heap[b]? = some (.cells (LxC F a v st ln lo) 50 (0, 0))
 own : w.ownsRow B 5 1 v st.stk.length (st.stk.map B8)
def Lx (w : World) (B b : Nat) (F : List UInt8) (a : Nat) (st : Jsp.St) (ln : Bool) : Prop := ∃ ao cap lo, LxV w B b F a (.slice ao st.stk.length cap) st ln lo
section
variable {w w' : World} {B b a : Nat} {F : List UInt8} {v : Value} {st : Jsp.St} {ln : Bool} {lo : Int}
theorem LxV.lt (h : LxV w B b F a v st ln lo) : b < w.heap.size := heap_lt h.at'
theorem LxV.leB (h : LxV w B b F a v st ln lo) : B <= w.heap.size := Nat.le_trans h.le (Nat.le_of_lt h.lt)
theorem LxV.cells (h : LxV w B b F a v st ln lo) :
  w.cell? ⟨b, 0, none⟩ = some (S F) /\ w.cell? ⟨b, 1, none⟩ = some (.int .i64 (a : Int)) /\ w.cell? ⟨b, 2, none⟩ = some v /\ w.cell? ⟨b, 3, none⟩ = some (.bool st.goal) /\ w.cell? ⟨b, 4, none⟩ = some (S st.last) /\
  w.cell? ⟨b, 5, none⟩ = some (.bool st.some) /\ w.cell? ⟨b, 6, none⟩ = some (.bool ln) /\ w.cell? ⟨b, 7, none⟩ = some (.int .i64 lo) := by
 have h' := h.at'
 refine ⟨?_, ?_, ?_, ?_, ?_, ?_, ?_, ?_⟩ <;> simp [World.cell?, h']
theorem LxV.frozen (h : LxV w B b F a v st ln lo) (k : Nat) : w.frozen? ⟨b, k, none⟩ = false := by
 have h' := h.at'
 simp [World.frozen?, h']
theorem LxV.ne (h : LxV w B b F a v st ln lo) : v.ownBlock ≠ some b := fun e => by
 obtain ⟨c, hc⟩ := ownsRow_kind h.own b e
 rw [h.at'] at hc
 injection hc with hc
 injection hc with _ hc _
 exact absurd hc (by decide)
theorem LxV.lx (h : LxV w B b F a v st ln lo) : Lx w B b F a st ln := by
 obtain ⟨ao, cap, rfl⟩ : ∃ ao cap, v = .slice ao st.stk.length cap := by
  rcases h.own.2 with ⟨hv, h0⟩ | ⟨g, cap, cur, hv, _⟩
  ·exact ⟨none, 0, by rw [hv, h0]⟩
  ·exact ⟨_, _, hv⟩
 exact ⟨ao, cap, lo, h⟩
theorem LxV.put (h : LxV w B b F a v st ln lo) (o : Nat) (u : Value) : (w.setCell ⟨b, o, none⟩ u).heap[b]? = some (.cells ((LxC F a v st ln lo).setIfInBounds o u) 50 (0, 0)) /\ (w.setCell ⟨b, o, none⟩ u).ownsRow B 5 1 v st.stk.length (st.stk.map B8) := by
 have h' := h.at'
 exact ⟨by simp [World.setCell, Array.getElem?_modify, h'], h.own.kept (setCell_kept u) (.inr h.ne)⟩
theorem LxV.tabSet (h : LxV w B b F a v st ln lo) (o : Nat) (u : Value) : Tab (w.setCell ⟨b, o, none⟩ u) := h.tab.below h.lo11 ((Below.refl B w).setCell (p := ⟨b, o, none⟩) h.le u)
theorem LxV.set1 (h : LxV w B b F a v st ln lo) (a' : Nat) : LxV (w.setCell ⟨b, 1, none⟩ (.int .i64 (a' : Int))) B b F a' v st ln lo := ⟨h.le, h.lo11, h.tabSet _ _, (h.put 1 _).1, (h.put 1 _).2⟩
theorem LxV.set3 (h : LxV w B b F a v st ln lo) (x : Bool) : LxV (w.setCell ⟨b, 3, none⟩ (.bool x)) B b F a v { st with goal := x } ln lo := ⟨h.le, h.lo11, h.tabSet _ _, (h.put 3 _).1, (h.put 3 _).2⟩
theorem LxV.set4 (h : LxV w B b F a v st ln lo) (x : List UInt8) : LxV (w.setCell ⟨b, 4, none⟩ (S x)) B b F a v { st with last := x } ln lo := ⟨h.le, h.lo11, h.tabSet _ _, (h.put 4 _).1, (h.put 4 _).2⟩
theorem LxV.set5 (h : LxV w B b F a v st ln lo) (x : Bool) : LxV (w.setCell ⟨b, 5, none⟩ (.bool x)) B b F a v { st with some := x } ln lo := ⟨h.le, h.lo11, h.tabSet _ _, (h.put 5 _).1, (h.put 5 _).2⟩
theorem LxV.set6 (h : LxV w B b F a v st ln lo) (x : Bool) : LxV (w.setCell ⟨b, 6, none⟩ (.bool x)) B b F a v st x lo := ⟨h.le, h.lo11, h.tabSet _ _, (h.put 6 _).1, (h.put 6 _).2⟩
theorem LxV.set7 (h : LxV w B b F a v st ln lo) (x : Int) : LxV (w.setCell ⟨b, 7, none⟩ (.int .i64 x)) B b F a v st ln x := ⟨h.le, h.lo11, h.tabSet _ _, (h.put 7 _).1, (h.put 7 _).2⟩
theorem LxV.set2 (h : LxV w B b F a v st ln lo) {v' : Value} {k : List UInt8} (ho : w.ownsRow B 5 1 v' k.length (k.map B8)) : LxV (w.setCell ⟨b, 2, none⟩ v') B b F a v' { st with stk := k } ln lo := by
 have hne : v'.ownBlock ≠ some b := fun e => by
  obtain ⟨c, hc⟩ := ownsRow_kind ho b e
  rw [h.at'] at hc
  injection hc with hc
  injection hc with _ hc _
  exact absurd hc (by decide)
 exact ⟨h.le, h.lo11, h.tabSet _ _, (h.put 2 _).1, ho.kept (setCell_kept _) (.inr hne)⟩
theorem LxV.kp (h : LxV w B b F a v st ln lo) {w0 : World} (k : Kp B w0 w) (o : Nat) (u : Value) : Kp B w0 (w.setCell ⟨b, o, none⟩ u) := k.setCell (p := ⟨b, o, none⟩) h.le h.at' u
theorem LxV.below (h : LxV w B b F a v st ln lo) (hb : Below w.heap.size w w') : LxV w' B b F a v st ln lo := ⟨h.le, h.lo11, h.tab.below (Nat.le_trans h.lo11 h.leB) hb, (hb.block b h.lt).trans h.at', owns_of_block h.own fun g e => hb.block g (h.own.lt g e).2⟩
theorem LxV.drewN (h : LxV w B b F a v st ln lo) (n : Nat) : LxV (w.drewN n) B b F a v st ln lo := ⟨h.le, h.lo11, h.tab.below (Nat.le_trans h.lo11 h.leB) (belowN w n), h.at', owns_of_block h.own fun _ _ => rfl⟩
theorem Lx.lt (h : Lx w B b F a st ln) : b < w.heap.size := by obtain ⟨_, _, _, h⟩ := h; exact h.lt
theorem Lx.leB (h : Lx w B b F a st ln) : B <= w.heap.size := by obtain ⟨_, _, _, h⟩ := h; exact h.leB
theorem Lx.below (h : Lx w B b F a st ln) (hb : Below w.heap.size w w') : Lx w' B b F a st ln := by obtain ⟨x, y, z, h⟩ := h; exact ⟨x, y, z, h.below hb⟩
theorem Lx.drewN (h : Lx w B b F a st ln) (n : Nat) : Lx (w.drewN n) B b F a st ln := by obtain ⟨x, y, z, h⟩ := h; exact ⟨x, y, z, h.drewN n⟩
end
def Quiet (v : Value) (w : World) (e : Ending) (w' : World) : Prop := e = .returned v /\ ∃ n, w' = w.drewN n
def Lf (v : Value) (w : World) (B b : Nat) (F : List UInt8) (a : Nat) (st : Jsp.St) (ln : Bool) (e : Ending) (w' : World) : Prop := e = .returned v /\ Lx w' B b F a st ln /\ Kp B w w'
structure Wx where
 s : Nat
 q : Nat
 c : Bool
 g : Bool
 k : List UInt8
abbrev WxL (x : Wx) : List Value := [.int .u8 (x.s : Int), .int .u8 (x.q : Int), .bool x.c, .bool x.g, S x.k]
abbrev wrongV (e at' : Nat) (x : Wx) : Value := .iface 52 (.agg #[.int .i64 (e : Int), .int .i64 (at' : Int), .int .u8 (x.s : Int), .int .u8 (x.q : Int), .bool x.c, .bool x.g, S x.k])
abbrev broke (e at' : Nat) (x : Wx) : Ending := .panicked [{ v := wrongV e at' x, recovered := false }]
def Pk (e at' : Nat) (P : Wx -> Prop) (B : Nat) (w : World) (en : Ending) (w' : World) : Prop := ∃ x, en = broke e at' x /\ P x /\ Kp B w w'
abbrev w0x : Wx := ⟨0, 0, false, false, []⟩
theorem jRest (F : List UInt8) (B b a : Nat) (st : Jsp.St) (ln : Bool) (w : World) (h : Lx w B b F a st ln) (ha : a <= F.length) :
  Calls Tryz.prog 32 #[.pointer (some ⟨b, 0, none⟩)] w (Quiet (S (F.drop a)) w) := by
 obtain ⟨ao, cap, lo, h⟩ := h
 obtain ⟨c0, c1, -⟩ := h.cells
 clear h
 have b0 : (0 : Int) <= (a : Int) := by omega
 have b1 : (a : Int) <= (F.length : Int) := by omega
 go_enter Tryz.func32, Tryz.ntmps32
 go_wp2_with fail
 go_quiet (fail)
 go_wp2_with fail
 go_ret
 exact ⟨rfl, _, rfl⟩
theorem tl_mk (l : List UInt8) : (⟨l.toArray⟩ : ByteArray).data.toList = l := rfl
theorem sHasPre (s p : List UInt8) (w : World) : Calls Tryz.prog 31 #[S s, S p] w (Ret (.bool (p.isPrefixOf s)) w) :=
 (Tryz.strings_HasPrefix ⟨s.toArray⟩ ⟨p.toArray⟩ w).mono fun _ _ h => ⟨h.1, h.2.symm⟩
theorem sHasPreV (s p : List UInt8) (v : Bool) (h : p.isPrefixOf s = v) (w : World) : Calls Tryz.prog 31 #[S s, S p] w (Ret (.bool v) w) := by rw [<- h]; exact sHasPre s p w
theorem sHasSuf (s p : List UInt8) (w : World) (hl : s.length <= 140737488355328) : Calls Tryz.prog 65 #[S s, S p] w (Ret (.bool (Lib.hasSuffix s p)) w) :=
 (Tryz.strings_HasSuffix ⟨s.toArray⟩ ⟨p.toArray⟩ w (by rw [bl_size]; omega)).mono fun _ _ h => ⟨h.1, h.2.symm⟩
theorem sTrimPre (s p : List UInt8) (w : World) : Calls Tryz.prog 142 #[S s, S p] w (Ret (S (Lib.trimPrefix s p)) w) :=
 (Tryz.strings_TrimPrefix ⟨s.toArray⟩ ⟨p.toArray⟩ w).mono fun _ _ h => ⟨h.1, h.2.symm⟩
theorem sCutPre (s p : List UInt8) (w : World) : Calls Tryz.prog 109 #[S s, S p] w (Ret (.tuple #[S (Lib.trimPrefix s p), .bool (p.isPrefixOf s)]) w) :=
 (Tryz.strings_CutPrefix ⟨s.toArray⟩ ⟨p.toArray⟩ w).mono fun _ _ h => ⟨h.1, h.2.symm⟩
theorem u8_toU (c : UInt8) : ((c.toNat : Int)).toNat.toUInt8 = c := by rw [Int.toNat_natCast]; exact UInt8.ofNat_toNat
theorem sIndexByte (s : List UInt8) (c : UInt8) (w : World) : Calls Tryz.prog 118 #[S s, .int .u8 c.toNat] w (Ret (.int .i64 (Lib.indexByte s c)) w) :=
 (Tryz.strings_IndexByte ⟨s.toArray⟩ (c.toNat : Int) w).mono fun _ _ h => ⟨by rw [h.1, u8_toU], h.2.symm⟩
theorem sIndex (s p : List UInt8) (w : World) (ht : Tab w) (hl : s.length <= 4194304) : Calls Tryz.prog 33 #[S s, S p] w (Ret (.int .i64 (Lib.index s p)) w) := by
 obtain ⟨m, hm⟩ := ht.mx
 exact (Tryz.strings_Index ⟨s.toArray⟩ ⟨p.toArray⟩ m w (by rw [bl_size]; omega) hm).mono fun _ _ h => ⟨h.1, h.2.symm⟩
theorem sCut (s p : List UInt8) (w : World) (ht : Tab w) (hl : s.length <= 4194304) : Calls Tryz.prog 111 #[S s, S p] w (Quiet (.tuple #[S (Lib.cut s p).1, S (Lib.cut s p).2.1, .bool (Lib.cut s p).2.2]) w) := by
 obtain ⟨m, hm⟩ := ht.mx
 exact (Tryz.strings_Cut ⟨s.toArray⟩ ⟨p.toArray⟩ m w (by rw [bl_size]; omega) hm).mono fun _ _ h => ⟨h.1, h.2⟩
theorem decodeGo_L (s : List UInt8) (h : s ≠ []) : Lib.decodeGo ⟨s.toArray⟩ = Lib.decodeL s := by
 unfold Lib.decodeGo
 rw [if_neg]
 ·rfl
 ·rw [Lib.size_eq]
  exact fun e => h (List.eq_nil_of_length_eq_zero e)
theorem sDecode (s : List UInt8) (w : World) (ht : Tab w) (hv : Cssp.valid s = true) (h0 : s ≠ []) : Calls Tryz.prog 56 #[S s] w (Fresh (.tuple #[.int .i32 (Jsp.pt s : Nat), .int .i64 (Jsp.pn s : Nat)]) w) := by
 have h := Tryz.utf8_DecodeRuneInString ⟨s.toArray⟩ w ht.utf
 rw [decodeGo_L s h0, Jsp.lib_pt s hv h0] at h
 exact h
theorem sDecode0 (w : World) (ht : Tab w) : Calls Tryz.prog 56 #[S []] w (Fresh (.tuple #[.int .i32 65533, .int .i64 0]) w) := Tryz.utf8_DecodeRuneInString ⟨#[]⟩ w ht.utf
abbrev tokV (k : Int) (t v : List UInt8) : Value := .agg #[.int .u8 k, S t, S v]
def tokC : Array Value := #[.int .u8 0, S [], S []]
theorem tok_cells {w : World} {r : Nat} (h : w.heap[r]? = some (.cells tokC 29 (0, 0))) : w.cell? ⟨r, 0, none⟩ = some (.int .u8 0) /\ w.cell? ⟨r, 1, none⟩ = some (S []) /\ w.cell? ⟨r, 2, none⟩ = some (S []) /\ w.frozen? ⟨r, 0, none⟩ = false /\ w.frozen? ⟨r, 1, none⟩ = false /\ w.frozen? ⟨r, 2, none⟩ = false := by
 refine ⟨?_, ?_, ?_, ?_, ?_, ?_⟩ <;> simp [World.cell?, World.frozen?, h, tokC]
def tokW (w : World) (r : Nat) (k : Int) (t v : List UInt8) : World := ((w.setCell ⟨r, 0, none⟩ (.int .u8 k)).setCell ⟨r, 1, none⟩ (S t)).setCell ⟨r, 2, none⟩ (S v)
theorem tokW_heap {w : World} {r : Nat} (h : w.heap[r]? = some (.cells tokC 29 (0, 0))) (k : Int) (t v : List UInt8) : (tokW w r k t v).heap[r]? = some (.cells #[.int .u8 k, S t, S v] 29 (0, 0)) := by
 simp [tokW, World.setCell, Array.getElem?_modify, h, tokC]
theorem LxV.other {w : World} {B b a : Nat} {F : List UInt8} {v : Value} {st : Jsp.St} {ln : Bool} {lo : Int} (h : LxV w B b F a v st ln lo) {r : Nat} (hB : B <= r) {cs : Array Value} {fr : Nat × Nat} (hr : w.heap[r]? = some (.cells cs 29 fr)) {w' : World} (hw : Below B w w') (ho : ∀ k, k ≠ r -> w'.heap[k]? = w.heap[k]?) : LxV w' B b F a v st ln lo := by
 have hne : b ≠ r := by
  rintro rfl
  rw [h.at'] at hr
  injection hr with hr
  injection hr with _ hr _
  exact absurd hr (by decide)
 refine ⟨h.le, h.lo11, h.tab.below h.lo11 hw, (ho b hne).trans h.at', owns_of_block h.own fun g e => ho g ?_⟩
 rintro rfl
 obtain ⟨c, hc⟩ := ownsRow_kind h.own g e
 rw [hc] at hr
 injection hr with hr
 injection hr with _ hr _
 exact absurd hr (by decide)
theorem tokW_other (w : World) (r : Nat) (k : Int) (t v : List UInt8) : ∀ j, j ≠ r -> (tokW w r k t v).heap[j]? = w.heap[j]? := fun j hj => by
 unfold tokW
 rw [Below.heap_setCell _ _ _ _ hj, Below.heap_setCell _ _ _ _ hj, Below.heap_setCell _ _ _ _ hj]
theorem tokW_below (w : World) (r : Nat) (k : Int) (t v : List UInt8) {B : Nat} (hB : B <= r) : Below B w (tokW w r k t v) :=
 (((Below.refl B w).setCell (p := ⟨r, 0, none⟩) hB _).setCell (p := ⟨r, 1, none⟩) hB _).setCell (p := ⟨r, 2, none⟩) hB _
theorem tok_end {w0 w : World} {B b a r : Nat} {F : List UInt8} {st : Jsp.St} {ln : Bool} (h : Lx w B b F a st ln) (hk : Kp B w0 w) (hB : B <= w0.heap.size) (hr0 : w0.heap.size <= r) (hr : w.heap[r]? = some (.cells tokC 29 (0, 0))) (k : Int) (t v : List UInt8) :
  Lx (tokW w r k t v) B b F a st ln /\ Kp B w0 (tokW w r k t v) := by
 obtain ⟨ao, cap, lo, h⟩ := h
 refine ⟨⟨ao, cap, lo, h.other (Nat.le_trans hB hr0) hr (tokW_below w r k t v (Nat.le_trans hB hr0)) (tokW_other w r k t v)⟩, ⟨hk.below.trans (tokW_below w r k t v (Nat.le_trans hB hr0)), fun i cs t' f hi h1 h2 => ?_⟩⟩
 rw [tokW_other w r k t v i (by have := heap_lt hi; omega)]
 exact hk.kept i cs t' f hi h1 h2
theorem tok_ret {fn : Func} {p : Tmp} (h : fn.results = #[.cell p 29]) (tmps : Array Value) (w : World) (r : Nat) (hr : w.heap[r]? = some (.cells tokC 29 (0, 0))) (k : Int) (t v : List UInt8) (hp : tmps.getD p undef = .pointer (some ⟨r, 0, none⟩)) :
  (results fn tmps).run Tryz.prog (tokW w r k t v) = .ok (tokV k t v) (tokW w r k t v) :=
 results_cell_row h tmps _ r _ _ _ _ hp (tokW_heap hr k t v) Tryz.underlying29 rfl (by kernel_rfl)
theorem tok_new {w : World} {B b a : Nat} {F : List UInt8} {st : Jsp.St} {ln : Bool} (h : Lx w B b F a st ln) : Lx (w.alloc (.cells tokC 29)) B b F a st ln /\ Kp B w (w.alloc (.cells tokC 29)) /\ (w.alloc (.cells tokC 29)).heap[w.heap.size]? = some (.cells tokC 29 (0, 0)) :=
 ⟨h.below ((Below.refl _ w).alloc (Nat.le_refl _) _), (Kp.refl B w).alloc h.leB _, heap_alloc_last _ _⟩
theorem jCut (F : List UInt8) (B b a p : Nat) (st : Jsp.St) (ln : Bool) (w : World) (h : Lx w B b F a st ln) (ha : a <= p) (hp : p <= F.length) :
  Calls Tryz.prog 67 #[.pointer (some ⟨b, 0, none⟩), .int .i64 (p : Int)] w (Lf (S ((F.drop a).take (p - a))) w B b F p st ln) := by
 obtain ⟨ao, cap, lo, h⟩ := h
 obtain ⟨c0, c1, -⟩ := h.cells
 have f1 := h.frozen 1
 have b0 : (0 : Int) <= (a : Int) := by omega
 have b1 : (a : Int) <= (p : Int) := by omega
 have b2 : (p : Int) <= (F.length : Int) := by omega
 have HL := fun n => hide (h.drewN n)
 clear h
 go_enter Tryz.func67, Tryz.ntmps67
 go_wp2_with fail
 go_quiet (fail)
 go_wp2_with fail
 go_ret
 exact ⟨rfl, ((HL _).out.set1 p).lx, (HL _).out.kp ((Kp.refl B w).drewN _) 1 _⟩
theorem top_get {st : Jsp.St} (h : st.stk ≠ []) : Jsp.top st = st.stk[st.stk.length - 1]'(by have := List.length_pos_iff.2 h; omega) := by
 unfold Jsp.top
 rw [List.getLast?_eq_some_getLast h, Option.getD_some, List.getLast_eq_getElem]
theorem jTop (F : List UInt8) (B b a : Nat) (st : Jsp.St) (ln : Bool) (w : World) (h : Lx w B b F a st ln) (hs : st.stk.length <= 1048576) :
  Calls Tryz.prog 43 #[.pointer (some ⟨b, 0, none⟩)] w (Quiet (.int .u8 (Jsp.top st).toNat) w) := by
 obtain ⟨ao, cap, lo, h⟩ := h
 obtain ⟨-, -, c2, -⟩ := h.cells
 have hown := h.own
 clear h
 go_enter Tryz.func43, Tryz.ntmps43
 by_cases h0 : st.stk = []
 ·have q : ((st.stk.length : Int) == 0) = true := by rw [h0]; rfl
  have hr : Jsp.top st = 0 := by unfold Jsp.top; rw [h0]; rfl
  rw [hr]
  clear hown hr h0 hs
  go_wp2_with fail
  go_ret
  exact ⟨rfl, 0, rfl⟩
 ·have hpos := List.length_pos_iff.2 h0
  have q : ((st.stk.length : Int) == 0) = false := by rw [beq_eq_false_iff_ne]; omega
  obtain ⟨g, hg, hcell⟩ : ∃ g, ao = some ⟨g, 0, none⟩ /\ w.cell? ⟨g, st.stk.length - 1, none⟩ = some (B8 (Jsp.top st)) := by
   rcases hown.2 with ⟨hv, hz⟩ | ⟨g, cap', cur, hv, _⟩
   ·omega
   ·injection hv with hv1 hv2 hv3
    subst hv1
    refine ⟨g, rfl, ?_⟩
    have := hown.cells (g := g) rfl (st.stk.length - 1) (B8 (Jsp.top st)) (by rw [List.getElem?_map, List.getElem?_eq_getElem (by omega), top_get h0]; rfl)
    rw [<- this]
    congr 1
    unfold Addr.add
    split <;> simp_all
  subst hg
  have b0 : (0 : Int) <= (st.stk.length : Int) - 1 := by omega
  have b1 : (st.stk.length : Int) - 1 < (st.stk.length : Int) := by omega
  have b2 : ((st.stk.length : Int) - 1).toNat = st.stk.length - 1 := by omega
  have hw : wrap64 ((st.stk.length : Int) - 1) = (st.stk.length : Int) - 1 := by unfold wrap64; omega
  clear hown h0 hpos
  go_wp2_with fail
  go_quiet (fail)
  go_wp2_with fail
  go_ret
  exact ⟨rfl, _, rfl⟩
theorem jFail (b e at' : Nat) (w : World) : Calls Tryz.prog 64 #[.pointer (some ⟨b, 0, none⟩), .int .i64 (e : Int), .int .i64 (at' : Int)] w (fun en w' => en = broke e at' w0x /\ w = w') := by
 go_enter Tryz.func64, Tryz.ntmps64
 go_wp2_with fail
 exact ⟨rfl, rfl, rfl⟩
theorem cell_one_new (w : World) (t : TypeId) (v : Value) : ∀ j u, [v][j]? = some u -> (w.alloc (.cells #[v] t)).cell? ((⟨w.heap.size, 0, none⟩ : Addr).add j) = some u := by
 intro j u hu
 have hadd : (⟨w.heap.size, 0, none⟩ : Addr).add j = ⟨w.heap.size, j, none⟩ := by unfold Addr.add; split <;> simp_all
 rw [hadd, World.cell?_alloc_at _ _ _ _ rfl]
 match j, hu with
 | 0, hu => simpa using hu
theorem one_b (l : List UInt8) : ∀ u ∈ l.map B8, u.oneCell' = true := by
 intro u hu
 obtain ⟨x, _, rfl⟩ := List.mem_map.1 hu
 rfl
theorem jPushOk (F : List UInt8) (B b a at' : Nat) (c : UInt8) (st : Jsp.St) (ln : Bool) (w : World) (h : Lx w B b F a st ln) (hs : st.stk.length <= 200) (hne : ¬ st.stk.length = 200) :
  Calls Tryz.prog 73 #[.pointer (some ⟨b, 0, none⟩), .int .u8 c.toNat, .int .i64 (at' : Int)] w (Lf (.tuple #[]) w B b F a { st with stk := st.stk ++ [c] } ln) := by
 obtain ⟨i0, hi, hz0, hz1, hz2⟩ := info_parts info_byte
 obtain ⟨ao, cap, lo, h⟩ := h
 obtain ⟨-, -, c2, -⟩ := h.cells
 have q : ((st.stk.length : Int) == 200) = false := by rw [beq_eq_false_iff_ne]; omega
 have hown := h.own
 have hlt := h.lt
 have hB := h.leB
 have HL := hide h
 have hal : Below w.heap.size w (w.alloc (.cells #[B8 c] 5)) := (Below.refl _ w).alloc (Nat.le_refl _) _
 have HL1 := hide (h.below hal)
 clear h hne
 go_enter Tryz.func73, Tryz.ntmps73
 go_wp2_with (at_builtin; refine wpList_append_own _ rfl _ _ 39 rfl B 5 i0 (.int .u8 0) 1 1 Tryz.underlying39 hi hz0 hz1 hz2 rfl (by decide) _ _ _ rfl (hown.alloc _) ⟨w.heap.size, 0, none⟩ 1 1 [B8 c] rfl rfl (cell_one_new _ _ _) (one_b [c]) ?c3 ?c4 ?c5 ?_)
 case c3 => unfold maxLen; omega
 case c4 => omega
 case c5 => simp; omega
 intro v' w2 hown2 hgrow _
 have hK : Kp B w w2 := ((Kp.refl B w).alloc hB (.cells #[B8 c] 5)).grown (hown.alloc _) hgrow (by simp; omega)
 have hb2 : w2.heap[b]? = some (.cells (LxC F a (.slice ao st.stk.length cap) st ln lo) 50 (0, 0)) := by
  rw [hgrow.block b (by simp; omega) (fun e => HL1.out.ne e.symm)]
  exact HL1.out.at'
 have ht2 : Tab w2 := HL.out.tab.below HL.out.lo11 hK.below
 have hown3 : w2.ownsRow B 5 1 v' (st.stk ++ [c]).length ((st.stk ++ [c]).map B8) := by rw [List.length_append, List.map_append]; exact hown2
 have hput : ∀ u, (w2.setCell ⟨b, 2, none⟩ u).heap[b]? = some (.cells (LxC F a u st ln lo) 50 (0, 0)) := fun u => by simp [World.setCell, Array.getElem?_modify, hb2]
 have f2 : w2.frozen? ⟨b, 2, none⟩ = false := by simp [World.frozen?, hb2]
 have hne2 : v'.ownBlock ≠ some b := fun e => by
  obtain ⟨x, hx⟩ := ownsRow_kind hown3 b e
  rw [hb2] at hx
  injection hx with hx
  injection hx with _ hx _
  exact absurd hx (by decide)
 obtain ⟨ao', cap', rfl⟩ : ∃ ao' cap', v' = .slice ao' (st.stk.length + 1) cap' := by
  rcases hown3.2 with ⟨hv, h0⟩ | ⟨g, cap, cur, hv, _⟩
  ·simp at h0
  ·exact ⟨_, _, by rw [hv, List.length_append]; rfl⟩
 have d2 : w2.cell? ⟨b, 2, none⟩ = some (.slice ao st.stk.length cap) := by rw [Lib.cell_of_heap hb2]; rfl
 have HLE := HL.out.le
 have HLO := HL.out.lo11
 clear hgrow hown hown2 c2 HL HL1
 go_wp2_with fail
 go_end0
 refine ⟨rfl, LxV.lx (v := .slice ao' (st.stk.length + 1) cap') (lo := lo) ⟨HLE, HLO, ht2.below HLO ((Below.refl B w2).setCell (p := ⟨b, 2, none⟩) HLE _), hput _, hown3.kept (setCell_kept _) (.inr hne2)⟩, hK.setCell (p := ⟨b, 2, none⟩) HLE hb2 _⟩
theorem jPushNo (F : List UInt8) (B b a at' : Nat) (c : UInt8) (st : Jsp.St) (ln : Bool) (w : World) (h : Lx w B b F a st ln) (hs : st.stk.length = 200) :
  Calls Tryz.prog 73 #[.pointer (some ⟨b, 0, none⟩), .int .u8 c.toNat, .int .i64 (at' : Int)] w (fun en w' => en = broke 177 at' w0x /\ w = w') := by
 obtain ⟨ao, cap, lo, h⟩ := h
 obtain ⟨-, -, c2, -⟩ := h.cells
 have q : ((st.stk.length : Int) == 200) = true := by rw [hs]; rfl
 clear h hs
 go_enter Tryz.func73, Tryz.ntmps73
 go_wp2_with fail
 refine (jFail b 177 at' _).mono ?_
 rintro e w' ⟨rfl, rfl⟩
 go_wp2_with fail
 exact ⟨rfl, rfl, rfl⟩
theorem goesOn_runes (w : World) : PredAtRunes Tryz.prog 115 #[] (fun r => !Jsp.goesOn r) w := fun W r hr _ => (jName1 r W hr).mono fun _ _ h => ⟨h.1, 0, h.2.symm⟩
theorem blanks_runes (w : World) : PredAtRunes Tryz.prog 28 #[] (fun r => !Jsp.bl r) w := fun W r _ _ => (jBlanks1 r W).mono fun _ _ h => ⟨h.1, 0, h.2.symm⟩
theorem lineEnd_runes (w : World) : PredAtRunes Tryz.prog 30 #[] (fun r => Jsp.lineEnd r) w := fun W r _ _ => (jLineEnd r W).mono fun _ _ h => ⟨h.1, 0, h.2.symm⟩
theorem jUpto (g : Nat) (p : Nat -> Bool) (eg : ∀ args w, (callFunc g args).run Tryz.prog w = .ok (.enter g args) w) (hp : ∀ w, PredAtRunes Tryz.prog g #[] p w) (F : List UInt8) (B b a k : Nat) (st : Jsp.St) (ln : Bool) (w : World) (h : Lx w B b F a st ln) (hk : k <= F.length) (hv : Cssp.valid (F.drop k) = true) (hl : F.length <= 4194304) :
  Calls Tryz.prog 27 #[.pointer (some ⟨b, 0, none⟩), .int .i64 (k : Int), .func (.func g) #[] #[]] w (Fresh (.int .i64 ((k + Jsp.run (fun r => !p r) (F.drop k) : Nat) : Int)) w) := by
 obtain ⟨ao, cap, lo, h⟩ := h
 obtain ⟨c0, -⟩ := h.cells
 have hrun := Jsp.idx_run p (F.drop k) hv
 have hC := hide (Tryz.strings_IndexFunc_runes g #[] eg p ⟨(F.drop k).toArray⟩ w (hp w))
 have HL := hide h
 have b0 : (0 : Int) <= (k : Int) := by omega
 have b1 : (k : Int) <= (F.length : Int) := by omega
 have hrl := Jsp.run_le (fun r => !p r) _ (F.drop k) (Nat.le_refl _)
 rw [List.length_drop] at hrun hrl
 obtain ⟨R, hR⟩ : ∃ R, Jsp.run (fun r => !p r) (F.drop k) = R := ⟨_, rfl⟩
 rw [hR] at hrun hrl ⊢
 clear hR h
 go_enter Tryz.func27, Tryz.ntmps27
 rcases hrun with ⟨h1, h2⟩ | ⟨h1, h2⟩
 ·rw [h1] at hC
  clear h1
  go_wp2_with fail
  refine hC.out.mono ?_
  rintro e w1 ⟨rfl, hb⟩
  have HL1 := HL.out.below hb
  obtain ⟨c0, -⟩ := HL1.cells
  have h3 : k + R = F.length := by omega
  clear hC HL HL1
  go_wp2_with fail
  go_ret
  refine ⟨?_, hb⟩
  rw [h3]; rfl
 ·rw [h1] at hC
  clear h1
  have hw : wrap64 ((k : Int) + (R : Int)) = (k : Int) + (R : Int) := by unfold wrap64; omega
  go_wp2_with fail
  refine hC.out.mono ?_
  rintro e w1 ⟨rfl, hb⟩
  clear hC HL c0
  go_wp2_with fail
  go_ret
  refine ⟨?_, hb⟩
  rw [Int.natCast_add]; rfl
theorem run_nn (p : Nat -> Bool) (s : List UInt8) : Jsp.run (fun r => !(!p r)) s = Jsp.run p s := by
 have : (fun r => !(!p r)) = p := by funext r; simp
 rw [this]
theorem jName (F : List UInt8) (B b a k : Nat) (st : Jsp.St) (ln : Bool) (w : World) (h : Lx w B b F a st ln) (hk : k <= F.length) (hv : Cssp.valid (F.drop k) = true) (hl : F.length <= 4194304) :
  Calls Tryz.prog 69 #[.pointer (some ⟨b, 0, none⟩), .int .i64 (k : Int)] w (Fresh (.int .i64 ((k + Jsp.name (F.drop k) : Nat) : Int)) w) := by
 have hU := hide (jUpto 115 (fun r => !Jsp.goesOn r) (enters_of Tryz.func115 (by kernel_rfl) rfl) goesOn_runes F B b a k st ln w h hk hv hl)
 rw [run_nn] at hU
 clear h hk hv hl
 go_enter Tryz.func69, Tryz.ntmps69
 go_wp2_with fail
 refine hU.out.mono ?_
 rintro e w1 ⟨rfl, hb⟩
 go_wp2_with fail
 go_ret
 exact ⟨rfl, hb⟩
theorem jPoint (F : List UInt8) (B b a k : Nat) (st : Jsp.St) (ln : Bool) (w : World) (h : Lx w B b F a st ln) (ha : a <= F.length) (hk : k <= 2) (hl : F.length <= 4194304) :
  Calls Tryz.prog 35 #[.pointer (some ⟨b, 0, none⟩), .int .i64 (k : Int)] w fun e w' => ∃ r : Nat, r <= 1114111 /\ (Cssp.valid (F.drop (a + k)) = true -> r = Jsp.pt (F.drop (a + k))) /\ Fresh (.int .i32 (r : Int)) w e w' := by
 obtain ⟨ao, cap, lo, h⟩ := h
 obtain ⟨c0, c1, -⟩ := h.cells
 have HT := fun W (hW : Below w.heap.size w W) => hide (h.below hW).tab
 have hw : wrap64 ((a : Int) + (k : Int)) = (a : Int) + (k : Int) := by unfold wrap64; omega
 clear h
 go_enter Tryz.func35, Tryz.ntmps35
 by_cases hlt : a + k < F.length
 ·have q : decide ((F.length : Int) <= (a : Int) + (k : Int)) = false := by simp; omega
  have b0 : (0 : Int) <= (a : Int) + (k : Int) := by omega
  have b1 : (a : Int) + (k : Int) <= (F.length : Int) := by omega
  have b2 : ((a : Int) + (k : Int)).toNat = a + k := by omega
  have h0 : F.drop (a + k) ≠ [] := fun e => by
   have := congrArg List.length e
   rw [List.length_drop, List.length_nil] at this
   omega
  obtain ⟨r, n, hr, hval, hD⟩ : ∃ r n : Nat, r <= 1114111 /\ (Cssp.valid (F.drop (a + k)) = true -> r = Jsp.pt (F.drop (a + k))) /\ ∀ W, Tab W -> Calls Tryz.prog 56 #[S (F.drop (a + k))] W (Fresh (.tuple #[.int .i32 (r : Int), .int .i64 (n : Int)]) W) := by
   refine ⟨(Lib.decodeL (F.drop (a + k))).1, (Lib.decodeL (F.drop (a + k))).2, (Jsp.decodeL_cp _).1, fun hv => by rw [Jsp.lib_pt _ hv h0], fun W hT => ?_⟩
   have h := Tryz.utf8_DecodeRuneInString ⟨(F.drop (a + k)).toArray⟩ W hT.utf
   rwa [decodeGo_L _ h0] at h
  have HD := fun W hT => hide (hD W hT)
  have HV := hide hval
  clear hD hval h0 hlt
  go_wp2_with fail
  go_quiet (fail)
  go_wp2_with fail
  have hw2 : IntKind.i64.wrap ((a : Int) + (k : Int)) = (a : Int) + (k : Int) := by rw [IntKind.wrap_i64]; omega
  have hw3 : ¬ (9223372036854775807 : Int) < (a : Int) + (k : Int) := by omega
  have hS : ∀ W, Below w.heap.size w W -> W.cell? ⟨b, 0, none⟩ = some (S F) /\ W.cell? ⟨b, 1, none⟩ = some (.int .i64 (a : Int)) := fun W hW => ⟨cell_below c0 hW, cell_below c1 hW⟩
  go_region_held3 (fun W => W.cell? ⟨b, 0, none⟩ = some (S F) /\ W.cell? ⟨b, 1, none⟩ = some (.int .i64 (a : Int))) (first | exact ⟨c0, c1⟩ | exact hS _ (((belowN w _).drew).trans hb)) ((go_at_call 56; refine ((HD _ (HT _ (belowN w _).drew).out).out).mono ?_; rintro e w1 ⟨rfl, hb⟩))
  all_goals
   go_wp2_with fail
   go_ret
   exact ⟨r, hr, HV.out, rfl, ((belowN w _).drew).trans hb⟩
 ·have q : decide ((F.length : Int) <= (a : Int) + (k : Int)) = true := by simp; omega
  have hd : F.drop (a + k) = [] := List.drop_eq_nil_of_le (by omega)
  go_wp2_with fail
  go_quiet (fail)
  go_wp2_with fail
  go_ret
  exact ⟨0, by omega, fun _ => by rw [hd]; rfl, rfl, belowN _ _⟩
end Go.Proofs.YtngccmlcopcghaaGreatDoor
