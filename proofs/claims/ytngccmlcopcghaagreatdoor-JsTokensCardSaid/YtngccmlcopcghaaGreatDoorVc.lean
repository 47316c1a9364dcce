/- A bracket is taken off. -/
import Derived.Test.YtngccmlcopcghaaGreatDoorRd
import Derived.Test.YtngccmlcopcghaaGreatDoorTb
import Derived.Test.YtngccmlcopcghaaGreatDoorQl
set_option maxRecDepth 100000
set_option maxHeartbeats 8000000
namespace Go.Proofs.YtngccmlcopcghaaGreatDoor
open Go.RowKit
theorem bytes_inj {a b : List UInt8} (h : (⟨a.toArray⟩ : ByteArray) = ⟨b.toArray⟩) : a = b := by
 have := congrArg (fun x : ByteArray => x.data.toList) h
 simpa using this
theorem containsS_map (l : List (List UInt8)) (x : List UInt8) : Lib.containsS (l.map fun t => ⟨t.toArray⟩) ⟨x.toArray⟩ = l.contains x := by
 rw [Bool.eq_iff_iff, Lib.containsS_iff, List.contains_iff_mem, List.mem_map]
 exact ⟨fun ⟨t, h1, h2⟩ => by rw [<- bytes_inj h2]; exact h1, fun h => ⟨x, h, rfl⟩⟩
theorem sContains (l : List (List UInt8)) (x : List UInt8) (g : Nat) (w : World) (hl : l.length <= 1048576) (hc : ∀ j t, l[j]? = some t -> w.cell? ⟨g, j, none⟩ = some (S t)) :
  Calls Tryz.prog 46 #[.slice (some ⟨g, 0, none⟩) l.length l.length, S x] w (Ret (.bool (l.contains x)) w) := by
 have h := Tryz.slices_Contains_string g 0 l.length l.length (l.map fun t => ⟨t.toArray⟩) ⟨x.toArray⟩ w (by simp) (by omega) (fun j hj => by
  rw [List.length_map] at hj
  rw [Nat.zero_add, hc j l[j] (List.getElem?_eq_getElem hj)]
  simp [List.getD_eq_getElem?_getD, hj])
 have ht : (l.map fun t => (⟨t.toArray⟩ : ByteArray)).take l.length = l.map fun t => ⟨t.toArray⟩ := List.take_of_length_le (by simp)
 rw [ht, containsS_map] at h
 exact h.mono fun e w' h => ⟨h.1, h.2.symm⟩
def FldP (l : List (List UInt8)) (w : World) (e : Ending) (w' : World) : Prop := e = .returned (.slice (some ⟨w.heap.size, 0, none⟩) l.length l.length) /\ Below w.heap.size w w' /\ ∀ j t, l[j]? = some t -> w'.cell? ⟨w.heap.size, j, none⟩ = some (S t)
theorem sFields (s : List UInt8) (l : List (List UInt8)) (w : World) (ht : Tab w) (hl : s.length <= 1048576) (ha : s.all (fun c => decide (c.toNat < 128)) = true) (hf : Lib.fields s = l) : Calls Tryz.prog 47 #[S s] w (FldP l w) := by
 have h := Tryz.strings_Fields ⟨s.toArray⟩ w (by rw [bl_size]; omega) (fun j b hb => by
  have := List.all_eq_true.1 ha b (List.mem_of_getElem? hb)
  simpa using this) ht.asc
 refine h.mono fun e w' h => ?_
 rw [tl_mk, hf] at h
 obtain ⟨h1, h2⟩ := h
 subst h2
 refine ⟨h1, (Below.refl _ w).alloc (Nat.le_refl _) _, fun j t hj => ?_⟩
 rw [Lib.cell_of_heap (heap_alloc_last _ _)]
 simp [hj]
def jtxB : List UInt8 := [59, 32, 123, 32, 125, 32, 41, 32, 61, 62, 32, 101, 108, 115, 101, 32, 100, 111]
def jtxK : List UInt8 := [105, 102, 32, 102, 111, 114, 32, 119, 104, 105, 108, 101, 32, 119, 105, 116, 104]
theorem fldB : Lib.fields jtxB = Jsp.aheadB := by decide
theorem fldK : Lib.fields jtxK = Jsp.aheadK := by decide
theorem jAmong (s : List UInt8) (l : List (List UInt8)) (hl : s.length <= 1048576) (ha : s.all (fun c => decide (c.toNat < 128)) = true) (hf : Lib.fields s = l) (hll : l.length <= 1048576)
  (F : List UInt8) (B b a : Nat) (st : Jsp.St) (ln : Bool) (w : World) (h : Lx w B b F a st ln) (Q : Nat) (hQ : w.heap[Q]? = some (.cells #[.pointer (some ⟨b, 0, none⟩)] 44 (0, 0))) :
  Calls Tryz.prog 147 #[S s, .pointer (some ⟨Q, 0, none⟩)] w (Fresh (.bool (Jsp.wordsOf l st.last)) w) := by
 obtain ⟨ao, cap, lo, h⟩ := h
 obtain ⟨-, -, -, -, c4, -⟩ := h.cells
 have cQ : w.cell? ⟨Q, 0, none⟩ = some (.pointer (some ⟨b, 0, none⟩)) := by rw [Lib.cell_of_heap hQ]; rfl
 have ht := h.tab
 have h7 := ht.lt
 have HT := fun W (hW : Below w.heap.size w W) => hide (ht.below h7 hW)
 have hF := fun W (hT : Tab W) => hide (sFields s l W hT hl ha hf)
 have hC := fun g W hc => hide (sContains l st.last g W hll hc)
 have hS : ∀ W, Below w.heap.size w W -> W.cell? ⟨Q, 0, none⟩ = some (.pointer (some ⟨b, 0, none⟩)) /\ W.cell? ⟨b, 4, none⟩ = some (S st.last) := fun W hW => ⟨cell_below cQ hW, cell_below c4 hW⟩
 clear h ht hQ ha hf
 go_enter Tryz.func147, Tryz.ntmps147
 go_wp2_with fail
 go_region_held3 (fun W => W.cell? ⟨Q, 0, none⟩ = some (.pointer (some ⟨b, 0, none⟩)) /\ W.cell? ⟨b, 4, none⟩ = some (S st.last)) (first | exact ⟨cQ, c4⟩ | exact hS _ (((Below.refl w.heap.size w).drew).trans hb) | exact hS _ ((((Below.refl w.heap.size w).drew).trans hb).drew)) ((first | (go_at_call 47; refine ((hF _ (HT _ ((Below.refl w.heap.size w).drew)).out).out).mono ?_; rintro e w1 ⟨rfl, hb, hcells⟩) | (go_at_call 46; refine ((hC _ _ hcells).out).mono ?_; rintro e w2 ⟨rfl, rfl⟩)))
 all_goals
  go_wp2_with fail
  go_ret
  exact ⟨by unfold Jsp.wordsOf; simp, ((Below.refl w.heap.size w).drew).trans hb⟩
theorem jOpens (F : List UInt8) (B b a : Nat) (st : Jsp.St) (ln : Bool) (w : World) (h : Lx w B b F a st ln) :
  Calls Tryz.prog 114 #[.pointer (some ⟨b, 0, none⟩)] w (Fresh (.tuple #[B8 (Jsp.brace st), B8 (Jsp.paren st)]) w) := by
 have hmf : ∀ (fn : Fn) (first cap : Array Value) (w : World), (Instr.makeFunc fn first cap).run Tryz.prog w = .ok (.func fn first cap) w := fun _ _ _ _ => rfl
 have hal : Below w.heap.size w (w.alloc (.cells #[.pointer (some ⟨b, 0, none⟩)] 44)) := (Below.refl _ w).alloc (Nat.le_refl _) _
 have h1 := h.below hal
 have hq : (w.alloc (.cells #[.pointer (some ⟨b, 0, none⟩)] 44)).heap[w.heap.size]? = some (.cells #[.pointer (some ⟨b, 0, none⟩)] 44 (0, 0)) := heap_alloc_last _ _
 obtain ⟨Q, hQ⟩ : ∃ Q, w.heap.size = Q := ⟨_, rfl⟩
 have HQQ := hide hQ
 rw [hQ] at hal hq
 have hlt := h.lt
 obtain ⟨x1, hx1⟩ : ∃ x, Jsp.brace st = x := ⟨_, rfl⟩
 obtain ⟨x2, hx2⟩ : ∃ x, Jsp.paren st = x := ⟨_, rfl⟩
 rw [hx1, hx2]
 have HX1s := hide hx1
 have HX2s := hide hx2
 clear h hx1 hx2
 go_enter Tryz.func114, Tryz.ntmps114
 go_upto_region 1 with (fail)
 change Code.wp _ _ _ _ (w.alloc (.cells #[.pointer (some ⟨b, 0, none⟩)] 44))
 generalize hgen : w.alloc (.cells #[.pointer (some ⟨b, 0, none⟩)] 44) = w1 at hal h1 hq ⊢
 have HX1 := hide h1
 have HQ1 := hide hq
 have HB1 := hide hal
 obtain ⟨ao, cap, lo, h⟩ := h1
 obtain ⟨-, -, -, c3, -, c5, -⟩ := h.cells
 have cQ : w1.cell? ⟨Q, 0, none⟩ = some (.pointer (some ⟨b, 0, none⟩)) := by rw [Lib.cell_of_heap hq]; rfl
 have hAB := fun W h1 h2 => hide (jAmong jtxB Jsp.aheadB (by decide) (by decide) fldB (by decide) F B b a st ln W h1 Q h2)
 have hAK := fun W h1 h2 => hide (jAmong jtxK Jsp.aheadK (by decide) (by decide) fldK (by decide) F B b a st ln W h1 Q h2)
 unfold jtxB at hAB
 unfold jtxK at hAK
 have hx1 := HX1s.out
 have hx2 := HX2s.out
 clear HX1s HX2s
 unfold Jsp.brace at hx1
 unfold Jsp.paren at hx2
 have HX1' := hide hx1
 have HX2' := hide hx2
 clear hgen hal hq h hx1 hx2 hQ hlt
 obtain ⟨vB, hvB⟩ : ∃ v, Jsp.wordsOf Jsp.aheadB st.last = v := ⟨_, rfl⟩
 obtain ⟨vK, hvK⟩ : ∃ v, Jsp.wordsOf Jsp.aheadK st.last = v := ⟨_, rfl⟩
 rw [hvB] at HX1' hAB
 rw [hvK] at HX2' hAK
 obtain ⟨g, hg⟩ : ∃ g, st.goal = g := ⟨_, rfl⟩
 obtain ⟨sm, hsm⟩ : ∃ g, st.some = g := ⟨_, rfl⟩
 rw [hg] at c3
 rw [hsm] at c5
 rw [hg, hsm] at HX1'
 clear hvB hvK hg hsm
 have hway : (g = false /\ x1 = 98) \/ (g = true /\ sm = false /\ x1 = 98) \/ (g = true /\ sm = true /\ vB = true /\ x1 = 98) \/ (g = true /\ sm = true /\ vB = false /\ x1 = 101) := by
  have := HX1'.out
  cases g <;> cases sm <;> cases vB <;> simp at this <;> simp [this]
 have hway2 : (vK = true /\ x2 = 107) \/ (vK = false /\ x2 = 112) := by
  have := HX2'.out
  cases vK <;> simp at this <;> simp [this]
 clear HX1' HX2'
 rcases hway with ⟨rfl, rfl⟩ | ⟨rfl, rfl, rfl⟩ | ⟨rfl, rfl, rfl, rfl⟩ | ⟨rfl, rfl, rfl, rfl⟩
 ·rcases hway2 with ⟨rfl, rfl⟩ | ⟨rfl, rfl⟩
  ·clear hAB
   go_wp2_with fail
   refine (hAK _ HX1.out HQ1.out).out.mono ?_
   rintro e w2 ⟨rfl, hb2⟩
   clear hAK
   go_wp2_with fail
   refine bodyPost_ret (v := .tuple #[.int .u8 98, .int .u8 107]) (by simp [results, Tryz.results114, go_sem]) rfl ?_
   exact ⟨rfl, by rw [HQQ.out]; exact HB1.out.trans (hb2.mono (by have := HB1.out.size; have := HQQ.out; omega))⟩
  ·clear hAB
   go_wp2_with fail
   refine (hAK _ HX1.out HQ1.out).out.mono ?_
   rintro e w2 ⟨rfl, hb2⟩
   clear hAK
   go_wp2_with fail
   refine bodyPost_ret (v := .tuple #[.int .u8 98, .int .u8 112]) (by simp [results, Tryz.results114, go_sem]) rfl ?_
   exact ⟨rfl, by rw [HQQ.out]; exact HB1.out.trans (hb2.mono (by have := HB1.out.size; have := HQQ.out; omega))⟩
 ·rcases hway2 with ⟨rfl, rfl⟩ | ⟨rfl, rfl⟩
  ·clear hAB
   go_wp2_with fail
   refine (hAK _ HX1.out HQ1.out).out.mono ?_
   rintro e w2 ⟨rfl, hb2⟩
   clear hAK
   go_wp2_with fail
   refine bodyPost_ret (v := .tuple #[.int .u8 98, .int .u8 107]) (by simp [results, Tryz.results114, go_sem]) rfl ?_
   exact ⟨rfl, by rw [HQQ.out]; exact HB1.out.trans (hb2.mono (by have := HB1.out.size; have := HQQ.out; omega))⟩
  ·clear hAB
   go_wp2_with fail
   refine (hAK _ HX1.out HQ1.out).out.mono ?_
   rintro e w2 ⟨rfl, hb2⟩
   clear hAK
   go_wp2_with fail
   refine bodyPost_ret (v := .tuple #[.int .u8 98, .int .u8 112]) (by simp [results, Tryz.results114, go_sem]) rfl ?_
   exact ⟨rfl, by rw [HQQ.out]; exact HB1.out.trans (hb2.mono (by have := HB1.out.size; have := HQQ.out; omega))⟩
 ·rcases hway2 with ⟨rfl, rfl⟩ | ⟨rfl, rfl⟩
  ·go_wp2_with fail
   refine (hAB _ HX1.out HQ1.out).out.mono ?_
   rintro e w2 ⟨rfl, hb2⟩
   have HX2 := hide (HX1.out.below hb2)
   have HQ2 := hide ((hb2.block _ (heap_lt HQ1.out)).trans HQ1.out)
   have HB2 := hide (HB1.out.trans (hb2.mono (by have := HB1.out.size; have := HQQ.out; omega)))
   clear hAB hb2
   go_wp2_with fail
   refine (hAK _ HX2.out HQ2.out).out.mono ?_
   rintro e w3 ⟨rfl, hb3⟩
   clear hAK
   go_wp2_with fail
   refine bodyPost_ret (v := .tuple #[.int .u8 98, .int .u8 107]) (by simp [results, Tryz.results114, go_sem]) rfl ?_
   exact ⟨rfl, by rw [HQQ.out]; exact HB2.out.trans (hb3.mono (by have := HB2.out.size; have := HQQ.out; omega))⟩
  ·go_wp2_with fail
   refine (hAB _ HX1.out HQ1.out).out.mono ?_
   rintro e w2 ⟨rfl, hb2⟩
   have HX2 := hide (HX1.out.below hb2)
   have HQ2 := hide ((hb2.block _ (heap_lt HQ1.out)).trans HQ1.out)
   have HB2 := hide (HB1.out.trans (hb2.mono (by have := HB1.out.size; have := HQQ.out; omega)))
   clear hAB hb2
   go_wp2_with fail
   refine (hAK _ HX2.out HQ2.out).out.mono ?_
   rintro e w3 ⟨rfl, hb3⟩
   clear hAK
   go_wp2_with fail
   refine bodyPost_ret (v := .tuple #[.int .u8 98, .int .u8 112]) (by simp [results, Tryz.results114, go_sem]) rfl ?_
   exact ⟨rfl, by rw [HQQ.out]; exact HB2.out.trans (hb3.mono (by have := HB2.out.size; have := HQQ.out; omega))⟩
 ·rcases hway2 with ⟨rfl, rfl⟩ | ⟨rfl, rfl⟩
  ·go_wp2_with fail
   refine (hAB _ HX1.out HQ1.out).out.mono ?_
   rintro e w2 ⟨rfl, hb2⟩
   have HX2 := hide (HX1.out.below hb2)
   have HQ2 := hide ((hb2.block _ (heap_lt HQ1.out)).trans HQ1.out)
   have HB2 := hide (HB1.out.trans (hb2.mono (by have := HB1.out.size; have := HQQ.out; omega)))
   clear hAB hb2
   go_wp2_with fail
   refine (hAK _ HX2.out HQ2.out).out.mono ?_
   rintro e w3 ⟨rfl, hb3⟩
   clear hAK
   go_wp2_with fail
   refine bodyPost_ret (v := .tuple #[.int .u8 101, .int .u8 107]) (by simp [results, Tryz.results114, go_sem]) rfl ?_
   exact ⟨rfl, by rw [HQQ.out]; exact HB2.out.trans (hb3.mono (by have := HB2.out.size; have := HQQ.out; omega))⟩
  ·go_wp2_with fail
   refine (hAB _ HX1.out HQ1.out).out.mono ?_
   rintro e w2 ⟨rfl, hb2⟩
   have HX2 := hide (HX1.out.below hb2)
   have HQ2 := hide ((hb2.block _ (heap_lt HQ1.out)).trans HQ1.out)
   have HB2 := hide (HB1.out.trans (hb2.mono (by have := HB1.out.size; have := HQQ.out; omega)))
   clear hAB hb2
   go_wp2_with fail
   refine (hAK _ HX2.out HQ2.out).out.mono ?_
   rintro e w3 ⟨rfl, hb3⟩
   clear hAK
   go_wp2_with fail
   refine bodyPost_ret (v := .tuple #[.int .u8 101, .int .u8 112]) (by simp [results, Tryz.results114, go_sem]) rfl ?_
   exact ⟨rfl, by rw [HQQ.out]; exact HB2.out.trans (hb3.mono (by have := HB2.out.size; have := HQQ.out; omega))⟩
theorem pop_own {w : World} {B g cap n : Nat} {k : List UInt8} (hn : k.length = n + 1) (h : w.ownsRow B 5 1 (.slice (some ⟨g, 0, none⟩) (n + 1) cap) (n + 1) (k.map B8)) : w.ownsRow B 5 1 (.slice (some ⟨g, 0, none⟩) n cap) k.dropLast.length (k.dropLast.map B8) := by
 have hl : k.dropLast.length = n := by rw [List.length_dropLast]; omega
 rw [hl]
 have hne : k ≠ [] := fun e => by rw [e] at hn; simp at hn
 have hk : k.map B8 = k.dropLast.map B8 ++ [B8 (k.getLast hne)] := by
  conv => lhs; rw [<- List.dropLast_concat_getLast hne]
  rw [List.map_append]; rfl
 rw [hk] at h
 exact ownsRow_pop (by rw [List.length_map, hl]; omega) h
theorem own_form {w : World} {B : Nat} {v : Value} {n : Nat} {xs : List Value} {ao : Option Addr} {cap : Nat} (h : w.ownsRow B 5 1 v n xs) (hv : v = .slice ao n cap) (h0 : n ≠ 0) : ∃ g, ao = some ⟨g, 0, none⟩ /\ n <= cap /\ cap <= maxLen := by
 rcases h.2 with ⟨hv', hz⟩ | ⟨g, cap', cur, hv', _, _, h1, h2, _⟩
 ·exact absurd hz h0
 ·rw [hv] at hv'
  injection hv' with e1 e2 e3
  exact ⟨g, e1, by rw [e3]; exact h1, by rw [e3]; exact h2⟩
theorem lk_shuts (c : UInt8) : (lkM shuts c = none /\ c ≠ 107 /\ c ≠ 112 /\ c ≠ 91 /\ c ≠ 98 /\ c ≠ 101) \/ ((c = 107 \/ c = 112) /\ lkM shuts c = some (.int .u8 41)) \/ (c = 91 /\ lkM shuts c = some (.int .u8 93)) \/ ((c = 98 \/ c = 101) /\ lkM shuts c = some (.int .u8 125)) := by
 by_cases h1 : c = 107
 ·subst h1; exact .inr (.inl ⟨.inl rfl, rfl⟩)
 by_cases h2 : c = 112
 ·subst h2; exact .inr (.inl ⟨.inr rfl, rfl⟩)
 by_cases h3 : c = 91
 ·subst h3; exact .inr (.inr (.inl ⟨rfl, rfl⟩))
 by_cases h4 : c = 98
 ·subst h4; exact .inr (.inr (.inr ⟨.inl rfl, rfl⟩))
 by_cases h5 : c = 101
 ·subst h5; exact .inr (.inr (.inr ⟨.inr rfl, rfl⟩))
 refine .inl ⟨?_, h1, h2, h3, h4, h5⟩
 unfold shuts lkM
 rw [if_neg (Ne.symm h1)]; unfold lkM
 rw [if_neg (Ne.symm h2)]; unfold lkM
 rw [if_neg (Ne.symm h3)]; unfold lkM
 rw [if_neg (Ne.symm h4)]; unfold lkM
 rw [if_neg (Ne.symm h5)]; rfl
theorem shut_way (st : Jsp.St) (m : UInt8) (hm : m = 41 \/ m = 93 \/ m = 125) :
  (Jsp.bracket st [m] = none /\ (lkM shuts (Jsp.top st) = none \/ ∃ z : Int, lkM shuts (Jsp.top st) = some (.int .u8 z) /\ (z == (m.toNat : Int)) = false)) \/
   (lkM shuts (Jsp.top st) = some (.int .u8 (m.toNat : Int)) /\ st.stk ≠ [] /\ Jsp.bracket st [m] = some { Jsp.pop st with goal := (((Jsp.top st).toNat : Int) == 107) || (((Jsp.top st).toNat : Int) == 98) }) := by
 have hne : Jsp.top st ≠ 0 -> st.stk ≠ [] := fun h e => h (by unfold Jsp.top; rw [e]; rfl)
 rcases lk_shuts (Jsp.top st) with ⟨h, h1, h2, h3, h4, h5⟩ | ⟨h1, h⟩ | ⟨h1, h⟩ | ⟨h1, h⟩
 ·refine .inl ⟨?_, .inl h⟩
  rcases hm with rfl | rfl | rfl <;> simp [Jsp.bracket, h1, h2, h3, h4, h5]
 ·rcases hm with rfl | rfl | rfl
  ·refine .inr ⟨h, hne (by rcases h1 with h1 | h1 <;> rw [h1] <;> decide), ?_⟩
   rcases h1 with h1 | h1 <;> simp [Jsp.bracket, h1]
  ·refine .inl ⟨?_, .inr ⟨41, h, rfl⟩⟩
   rcases h1 with h1 | h1 <;> simp [Jsp.bracket, h1]
  ·refine .inl ⟨?_, .inr ⟨41, h, rfl⟩⟩
   rcases h1 with h1 | h1 <;> simp [Jsp.bracket, h1]
 ·rcases hm with rfl | rfl | rfl
  ·refine .inl ⟨?_, .inr ⟨93, h, rfl⟩⟩
   simp [Jsp.bracket, h1]
  ·refine .inr ⟨h, hne (by rw [h1]; decide), ?_⟩
   simp [Jsp.bracket, h1]
  ·refine .inl ⟨?_, .inr ⟨93, h, rfl⟩⟩
   simp [Jsp.bracket, h1]
 ·rcases hm with rfl | rfl | rfl
  ·refine .inl ⟨?_, .inr ⟨125, h, rfl⟩⟩
   rcases h1 with h1 | h1 <;> simp [Jsp.bracket, h1]
  ·refine .inl ⟨?_, .inr ⟨125, h, rfl⟩⟩
   rcases h1 with h1 | h1 <;> simp [Jsp.bracket, h1]
  ·refine .inr ⟨h, hne (by rcases h1 with h1 | h1 <;> rw [h1] <;> decide), ?_⟩
   rcases h1 with h1 | h1 <;> simp [Jsp.bracket, h1]
theorem jShut41 (F : List UInt8) (B b a : Nat) (st : Jsp.St) (ln : Bool) (w : World) (h : Lx w B b F a st ln) (hs : st.stk.length <= 200) :
  Calls Tryz.prog 66 #[.pointer (some ⟨b, 0, none⟩), S [41]] w fun e w' => match Jsp.bracket st [41] with
   | none => Pk 177 a (fun x => x = w0x) B w e w'
   | some st2 => Lf (.tuple #[]) w B b F a st2 ln e w' := by
 have hO := hide (jOpens F B b a st ln w h)
 have HX0 := hide h
 have hB := h.leB
 have hmm := @run_makeMap Tryz.prog
 have hway := shut_way st 41 (by decide)
 obtain ⟨R, hR⟩ : ∃ R, Jsp.bracket st [41] = R := ⟨_, rfl⟩
 rw [hR] at hway ⊢
 clear h hR
 go_enter Tryz.func66, Tryz.ntmps66
 go_wp2_with fail
 refine hO.out.mono ?_
 rintro e w1 ⟨rfl, hb1⟩
 have hx1 := HX0.out.below hb1
 obtain ⟨ao, cap, lo, hx1⟩ := hx1
 have hx2 := hx1.set3 true
 have hk2 := hx1.kp (Kp.of_below hB hb1) 3 (.bool true)
 have f3 := hx1.frozen 3
 obtain ⟨-, -, -, c3, -⟩ := hx1.cells
 have hlx2 := hx2.lx
 have hT := fun W h => hide (jTop F B b a { st with goal := true } ln W h (show st.stk.length <= 1048576 by omega))
 have HX2 := hide hx2
 have HLX2 := hide hlx2
 have HK2 := hide hk2
 clear hO hb1 hx1 hx2 hk2 hlx2
 go_wp2_with fail
 refine (hT _ HLX2.out).out.mono ?_
 rintro e w3 ⟨rfl, ny, rfl⟩
 generalize w1.setCell ⟨b, 3, none⟩ (.bool true) = w2 at HX2 HLX2 HK2 ⊢
 have hx4 := HX2.out.drewN ny
 have hk4 := HK2.out.drewN ny
 generalize w2.drewN ny = w4 at hx4 hk4 ⊢
 have HX4 := hide hx4
 have HK4 := hide hk4
 clear hx4 hk4 HX2 HLX2 HK2
 obtain ⟨m1, m2, m3, m4, m5, r1, r2, r3, r4, r5, hkm, hbm⟩ := mShuts w4
 have htop : Jsp.top { st with goal := true } = Jsp.top st := rfl
 rw [htop]
 have hhead : ([41] : List UInt8)[0] = 41 := rfl
 rcases hway with ⟨rfl, hz1 | ⟨z, hz1, hz2⟩⟩ | ⟨hl, h0, rfl⟩
 ·have hlook := fun n => (hkm.drewN n).miss (z := .int .u8 0) Tryz.underlying128 Tryz.underlying5 (by kernel_rfl) (Jsp.top st) hz1
  have hx5 := HX4.out.below hbm
  have HKB := fun n => hide (((HK4.out.fresh hB hbm)).drewN n)
  obtain ⟨c0, c1, c2, -⟩ := hx5.cells
  clear hx5 hkm hbm hz1
  go_wp2_with fail
  go_quiet (fail)
  go_wp2_with fail
  refine (jFail b 177 a _).mono ?_
  rintro e w' ⟨rfl, rfl⟩
  go_wp2_with fail
  exact ⟨rfl, w0x, rfl, rfl, (HKB _).out⟩
 ·have hlook := fun n => (hkm.drewN n).look Tryz.underlying128 Tryz.underlying5 (Jsp.top st) hz1
  have hz2 : (z == 41) = false := hz2
  have hx5 := HX4.out.below hbm
  have HKB := fun n => hide (((HK4.out.fresh hB hbm)).drewN n)
  obtain ⟨c0, c1, c2, -⟩ := hx5.cells
  clear hx5 hkm hbm hz1
  go_wp2_with fail
  go_quiet (fail)
  go_wp2_with fail
  refine (jFail b 177 a _).mono ?_
  rintro e w' ⟨rfl, rfl⟩
  go_wp2_with fail
  exact ⟨rfl, w0x, rfl, rfl, (HKB _).out⟩
 ·have hlook := fun n => (hkm.drewN n).look Tryz.underlying128 Tryz.underlying5 (Jsp.top st) hl
  have hx5 := HX4.out.below hbm
  have HKB := hide (HK4.out.fresh hB hbm)
  obtain ⟨c0, c1, c2, -⟩ := hx5.cells
  have f2 := hx5.frozen 2
  have f3 := hx5.frozen 3
  have hpos := List.length_pos_iff.2 h0
  obtain ⟨g, rfl, hcap, hcm⟩ := own_form hx5.own rfl (fun e => h0 (List.eq_nil_of_length_eq_zero e))
  have HX5 := hide hx5
  obtain ⟨N, hN⟩ : ∃ N, N = st.stk.length := ⟨_, rfl⟩
  obtain ⟨n, hn⟩ : ∃ n, N = n + 1 := ⟨N - 1, by omega⟩
  have hc2 : m5.cell? ⟨b, 2, none⟩ = some (.slice (some ⟨g, 0, none⟩) N cap) := by rw [c2, hN]
  have hcap2 : N <= cap := by have := hcap; rw [hN]; exact this
  have hn0 : (0 : Int) <= (N : Int) - 1 := by omega
  have hncap : (N : Int) - 1 <= (cap : Int) := by omega
  have hn1 : N <= 200 := by omega
  have hsub : IntKind.i64.wrap ((N : Int) - 1) = (N : Int) - 1 := by rw [IntKind.wrap_i64]; omega
  have hto : ((N : Int) - 1).toNat = n := by omega
  have HP := hide (fun W (hx : LxV W B b F a (.slice (some ⟨g, 0, none⟩) st.stk.length cap) { st with goal := true } ln lo) (e : st.stk.length = n + 1) => pop_own (k := st.stk) e (by have := hx.own; simpa only [e] using this))
  have HN := hide (hN.symm.trans hn)
  clear hx5 hkm hbm c2 hn hcap hcap2 hN hpos HX4 HX0 HK4
  go_wp2_with fail
  go_quiet (fail)
  go_wp2_with fail
  go_region
  have hx6 := (HX5.out.drewN (nq + 1)).set2 (HP.out _ (HX5.out.drewN (nq + 1)) HN.out)
  have hk6 := (HX5.out.drewN (nq + 1)).kp (HKB.out.drewN (nq + 1)) 2 (.slice (some ⟨g, 0, none⟩) n cap)
  generalize (m5.drewN (nq + 1)).setCell ⟨b, 2, none⟩ (.slice (some ⟨g, 0, none⟩) n cap) = w6 at hx6 hk6 ⊢
  have f3 := hx6.frozen 3
  obtain ⟨-, -, -, c3, -⟩ := hx6.cells
  have HX6 := hide hx6
  have HK6 := hide hk6
  clear hx6 hk6
  cases hq1 : (((Jsp.top st).toNat : Int) == 107) <;> cases hq2 : (((Jsp.top st).toNat : Int) == 98)
  ·go_wp2_with fail
   go_end0
   exact ⟨rfl, ((HX6.out).set3 _).lx, HX6.out.kp HK6.out 3 _⟩
  ·go_wp2_with fail
   go_end0
   exact ⟨rfl, ((HX6.out).set3 _).lx, HX6.out.kp HK6.out 3 _⟩
  ·go_wp2_with fail
   go_end0
   exact ⟨rfl, ((HX6.out).set3 _).lx, HX6.out.kp HK6.out 3 _⟩
  ·go_wp2_with fail
   go_end0
   exact ⟨rfl, ((HX6.out).set3 _).lx, HX6.out.kp HK6.out 3 _⟩
theorem jShut93 (F : List UInt8) (B b a : Nat) (st : Jsp.St) (ln : Bool) (w : World) (h : Lx w B b F a st ln) (hs : st.stk.length <= 200) :
  Calls Tryz.prog 66 #[.pointer (some ⟨b, 0, none⟩), S [93]] w fun e w' => match Jsp.bracket st [93] with
   | none => Pk 177 a (fun x => x = w0x) B w e w'
   | some st2 => Lf (.tuple #[]) w B b F a st2 ln e w' := by
 have hO := hide (jOpens F B b a st ln w h)
 have HX0 := hide h
 have hB := h.leB
 have hmm := @run_makeMap Tryz.prog
 have hway := shut_way st 93 (by decide)
 obtain ⟨R, hR⟩ : ∃ R, Jsp.bracket st [93] = R := ⟨_, rfl⟩
 rw [hR] at hway ⊢
 clear h hR
 go_enter Tryz.func66, Tryz.ntmps66
 go_wp2_with fail
 refine hO.out.mono ?_
 rintro e w1 ⟨rfl, hb1⟩
 have hx1 := HX0.out.below hb1
 obtain ⟨ao, cap, lo, hx1⟩ := hx1
 have hx2 := hx1.set3 true
 have hk2 := hx1.kp (Kp.of_below hB hb1) 3 (.bool true)
 have f3 := hx1.frozen 3
 obtain ⟨-, -, -, c3, -⟩ := hx1.cells
 have hlx2 := hx2.lx
 have hT := fun W h => hide (jTop F B b a { st with goal := true } ln W h (show st.stk.length <= 1048576 by omega))
 have HX2 := hide hx2
 have HLX2 := hide hlx2
 have HK2 := hide hk2
 clear hO hb1 hx1 hx2 hk2 hlx2
 go_wp2_with fail
 refine (hT _ HLX2.out).out.mono ?_
 rintro e w3 ⟨rfl, ny, rfl⟩
 generalize w1.setCell ⟨b, 3, none⟩ (.bool true) = w2 at HX2 HLX2 HK2 ⊢
 have hx4 := HX2.out.drewN ny
 have hk4 := HK2.out.drewN ny
 generalize w2.drewN ny = w4 at hx4 hk4 ⊢
 have HX4 := hide hx4
 have HK4 := hide hk4
 clear hx4 hk4 HX2 HLX2 HK2
 obtain ⟨m1, m2, m3, m4, m5, r1, r2, r3, r4, r5, hkm, hbm⟩ := mShuts w4
 have htop : Jsp.top { st with goal := true } = Jsp.top st := rfl
 rw [htop]
 have hhead : ([93] : List UInt8)[0] = 93 := rfl
 rcases hway with ⟨rfl, hz1 | ⟨z, hz1, hz2⟩⟩ | ⟨hl, h0, rfl⟩
 ·have hlook := fun n => (hkm.drewN n).miss (z := .int .u8 0) Tryz.underlying128 Tryz.underlying5 (by kernel_rfl) (Jsp.top st) hz1
  have hx5 := HX4.out.below hbm
  have HKB := fun n => hide (((HK4.out.fresh hB hbm)).drewN n)
  obtain ⟨c0, c1, c2, -⟩ := hx5.cells
  clear hx5 hkm hbm hz1
  go_wp2_with fail
  go_quiet (fail)
  go_wp2_with fail
  refine (jFail b 177 a _).mono ?_
  rintro e w' ⟨rfl, rfl⟩
  go_wp2_with fail
  exact ⟨rfl, w0x, rfl, rfl, (HKB _).out⟩
 ·have hlook := fun n => (hkm.drewN n).look Tryz.underlying128 Tryz.underlying5 (Jsp.top st) hz1
  have hz2 : (z == 93) = false := hz2
  have hx5 := HX4.out.below hbm
  have HKB := fun n => hide (((HK4.out.fresh hB hbm)).drewN n)
  obtain ⟨c0, c1, c2, -⟩ := hx5.cells
  clear hx5 hkm hbm hz1
  go_wp2_with fail
  go_quiet (fail)
  go_wp2_with fail
  refine (jFail b 177 a _).mono ?_
  rintro e w' ⟨rfl, rfl⟩
  go_wp2_with fail
  exact ⟨rfl, w0x, rfl, rfl, (HKB _).out⟩
 ·have hlook := fun n => (hkm.drewN n).look Tryz.underlying128 Tryz.underlying5 (Jsp.top st) hl
  have hx5 := HX4.out.below hbm
  have HKB := hide (HK4.out.fresh hB hbm)
  obtain ⟨c0, c1, c2, -⟩ := hx5.cells
  have f2 := hx5.frozen 2
  have f3 := hx5.frozen 3
  have hpos := List.length_pos_iff.2 h0
  obtain ⟨g, rfl, hcap, hcm⟩ := own_form hx5.own rfl (fun e => h0 (List.eq_nil_of_length_eq_zero e))
  have HX5 := hide hx5
  obtain ⟨N, hN⟩ : ∃ N, N = st.stk.length := ⟨_, rfl⟩
  obtain ⟨n, hn⟩ : ∃ n, N = n + 1 := ⟨N - 1, by omega⟩
  have hc2 : m5.cell? ⟨b, 2, none⟩ = some (.slice (some ⟨g, 0, none⟩) N cap) := by rw [c2, hN]
  have hcap2 : N <= cap := by have := hcap; rw [hN]; exact this
  have hn0 : (0 : Int) <= (N : Int) - 1 := by omega
  have hncap : (N : Int) - 1 <= (cap : Int) := by omega
  have hn1 : N <= 200 := by omega
  have hsub : IntKind.i64.wrap ((N : Int) - 1) = (N : Int) - 1 := by rw [IntKind.wrap_i64]; omega
  have hto : ((N : Int) - 1).toNat = n := by omega
  have HP := hide (fun W (hx : LxV W B b F a (.slice (some ⟨g, 0, none⟩) st.stk.length cap) { st with goal := true } ln lo) (e : st.stk.length = n + 1) => pop_own (k := st.stk) e (by have := hx.own; simpa only [e] using this))
  have HN := hide (hN.symm.trans hn)
  clear hx5 hkm hbm c2 hn hcap hcap2 hN hpos HX4 HX0 HK4
  go_wp2_with fail
  go_quiet (fail)
  go_wp2_with fail
  go_region
  have hx6 := (HX5.out.drewN (nq + 1)).set2 (HP.out _ (HX5.out.drewN (nq + 1)) HN.out)
  have hk6 := (HX5.out.drewN (nq + 1)).kp (HKB.out.drewN (nq + 1)) 2 (.slice (some ⟨g, 0, none⟩) n cap)
  generalize (m5.drewN (nq + 1)).setCell ⟨b, 2, none⟩ (.slice (some ⟨g, 0, none⟩) n cap) = w6 at hx6 hk6 ⊢
  have f3 := hx6.frozen 3
  obtain ⟨-, -, -, c3, -⟩ := hx6.cells
  have HX6 := hide hx6
  have HK6 := hide hk6
  clear hx6 hk6
  cases hq1 : (((Jsp.top st).toNat : Int) == 107) <;> cases hq2 : (((Jsp.top st).toNat : Int) == 98)
  ·go_wp2_with fail
   go_end0
   exact ⟨rfl, ((HX6.out).set3 _).lx, HX6.out.kp HK6.out 3 _⟩
  ·go_wp2_with fail
   go_end0
   exact ⟨rfl, ((HX6.out).set3 _).lx, HX6.out.kp HK6.out 3 _⟩
  ·go_wp2_with fail
   go_end0
   exact ⟨rfl, ((HX6.out).set3 _).lx, HX6.out.kp HK6.out 3 _⟩
  ·go_wp2_with fail
   go_end0
   exact ⟨rfl, ((HX6.out).set3 _).lx, HX6.out.kp HK6.out 3 _⟩
theorem jShut125 (F : List UInt8) (B b a : Nat) (st : Jsp.St) (ln : Bool) (w : World) (h : Lx w B b F a st ln) (hs : st.stk.length <= 200) :
  Calls Tryz.prog 66 #[.pointer (some ⟨b, 0, none⟩), S [125]] w fun e w' => match Jsp.bracket st [125] with
   | none => Pk 177 a (fun x => x = w0x) B w e w'
   | some st2 => Lf (.tuple #[]) w B b F a st2 ln e w' := by
 have hO := hide (jOpens F B b a st ln w h)
 have HX0 := hide h
 have hB := h.leB
 have hmm := @run_makeMap Tryz.prog
 have hway := shut_way st 125 (by decide)
 obtain ⟨R, hR⟩ : ∃ R, Jsp.bracket st [125] = R := ⟨_, rfl⟩
 rw [hR] at hway ⊢
 clear h hR
 go_enter Tryz.func66, Tryz.ntmps66
 go_wp2_with fail
 refine hO.out.mono ?_
 rintro e w1 ⟨rfl, hb1⟩
 have hx1 := HX0.out.below hb1
 obtain ⟨ao, cap, lo, hx1⟩ := hx1
 have hx2 := hx1.set3 true
 have hk2 := hx1.kp (Kp.of_below hB hb1) 3 (.bool true)
 have f3 := hx1.frozen 3
 obtain ⟨-, -, -, c3, -⟩ := hx1.cells
 have hlx2 := hx2.lx
 have hT := fun W h => hide (jTop F B b a { st with goal := true } ln W h (show st.stk.length <= 1048576 by omega))
 have HX2 := hide hx2
 have HLX2 := hide hlx2
 have HK2 := hide hk2
 clear hO hb1 hx1 hx2 hk2 hlx2
 go_wp2_with fail
 refine (hT _ HLX2.out).out.mono ?_
 rintro e w3 ⟨rfl, ny, rfl⟩
 generalize w1.setCell ⟨b, 3, none⟩ (.bool true) = w2 at HX2 HLX2 HK2 ⊢
 have hx4 := HX2.out.drewN ny
 have hk4 := HK2.out.drewN ny
 generalize w2.drewN ny = w4 at hx4 hk4 ⊢
 have HX4 := hide hx4
 have HK4 := hide hk4
 clear hx4 hk4 HX2 HLX2 HK2
 obtain ⟨m1, m2, m3, m4, m5, r1, r2, r3, r4, r5, hkm, hbm⟩ := mShuts w4
 have htop : Jsp.top { st with goal := true } = Jsp.top st := rfl
 rw [htop]
 have hhead : ([125] : List UInt8)[0] = 125 := rfl
 rcases hway with ⟨rfl, hz1 | ⟨z, hz1, hz2⟩⟩ | ⟨hl, h0, rfl⟩
 ·have hlook := fun n => (hkm.drewN n).miss (z := .int .u8 0) Tryz.underlying128 Tryz.underlying5 (by kernel_rfl) (Jsp.top st) hz1
  have hx5 := HX4.out.below hbm
  have HKB := fun n => hide (((HK4.out.fresh hB hbm)).drewN n)
  obtain ⟨c0, c1, c2, -⟩ := hx5.cells
  clear hx5 hkm hbm hz1
  go_wp2_with fail
  go_quiet (fail)
  go_wp2_with fail
  refine (jFail b 177 a _).mono ?_
  rintro e w' ⟨rfl, rfl⟩
  go_wp2_with fail
  exact ⟨rfl, w0x, rfl, rfl, (HKB _).out⟩
 ·have hlook := fun n => (hkm.drewN n).look Tryz.underlying128 Tryz.underlying5 (Jsp.top st) hz1
  have hz2 : (z == 125) = false := hz2
  have hx5 := HX4.out.below hbm
  have HKB := fun n => hide (((HK4.out.fresh hB hbm)).drewN n)
  obtain ⟨c0, c1, c2, -⟩ := hx5.cells
  clear hx5 hkm hbm hz1
  go_wp2_with fail
  go_quiet (fail)
  go_wp2_with fail
  refine (jFail b 177 a _).mono ?_
  rintro e w' ⟨rfl, rfl⟩
  go_wp2_with fail
  exact ⟨rfl, w0x, rfl, rfl, (HKB _).out⟩
 ·have hlook := fun n => (hkm.drewN n).look Tryz.underlying128 Tryz.underlying5 (Jsp.top st) hl
  have hx5 := HX4.out.below hbm
  have HKB := hide (HK4.out.fresh hB hbm)
  obtain ⟨c0, c1, c2, -⟩ := hx5.cells
  have f2 := hx5.frozen 2
  have f3 := hx5.frozen 3
  have hpos := List.length_pos_iff.2 h0
  obtain ⟨g, rfl, hcap, hcm⟩ := own_form hx5.own rfl (fun e => h0 (List.eq_nil_of_length_eq_zero e))
  have HX5 := hide hx5
  obtain ⟨N, hN⟩ : ∃ N, N = st.stk.length := ⟨_, rfl⟩
  obtain ⟨n, hn⟩ : ∃ n, N = n + 1 := ⟨N - 1, by omega⟩
  have hc2 : m5.cell? ⟨b, 2, none⟩ = some (.slice (some ⟨g, 0, none⟩) N cap) := by rw [c2, hN]
  have hcap2 : N <= cap := by have := hcap; rw [hN]; exact this
  have hn0 : (0 : Int) <= (N : Int) - 1 := by omega
  have hncap : (N : Int) - 1 <= (cap : Int) := by omega
  have hn1 : N <= 200 := by omega
  have hsub : IntKind.i64.wrap ((N : Int) - 1) = (N : Int) - 1 := by rw [IntKind.wrap_i64]; omega
  have hto : ((N : Int) - 1).toNat = n := by omega
  have HP := hide (fun W (hx : LxV W B b F a (.slice (some ⟨g, 0, none⟩) st.stk.length cap) { st with goal := true } ln lo) (e : st.stk.length = n + 1) => pop_own (k := st.stk) e (by have := hx.own; simpa only [e] using this))
  have HN := hide (hN.symm.trans hn)
  clear hx5 hkm hbm c2 hn hcap hcap2 hN hpos HX4 HX0 HK4
  go_wp2_with fail
  go_quiet (fail)
  go_wp2_with fail
  go_region
  have hx6 := (HX5.out.drewN (nq + 1)).set2 (HP.out _ (HX5.out.drewN (nq + 1)) HN.out)
  have hk6 := (HX5.out.drewN (nq + 1)).kp (HKB.out.drewN (nq + 1)) 2 (.slice (some ⟨g, 0, none⟩) n cap)
  generalize (m5.drewN (nq + 1)).setCell ⟨b, 2, none⟩ (.slice (some ⟨g, 0, none⟩) n cap) = w6 at hx6 hk6 ⊢
  have f3 := hx6.frozen 3
  obtain ⟨-, -, -, c3, -⟩ := hx6.cells
  have HX6 := hide hx6
  have HK6 := hide hk6
  clear hx6 hk6
  cases hq1 : (((Jsp.top st).toNat : Int) == 107) <;> cases hq2 : (((Jsp.top st).toNat : Int) == 98)
  ·go_wp2_with fail
   go_end0
   exact ⟨rfl, ((HX6.out).set3 _).lx, HX6.out.kp HK6.out 3 _⟩
  ·go_wp2_with fail
   go_end0
   exact ⟨rfl, ((HX6.out).set3 _).lx, HX6.out.kp HK6.out 3 _⟩
  ·go_wp2_with fail
   go_end0
   exact ⟨rfl, ((HX6.out).set3 _).lx, HX6.out.kp HK6.out 3 _⟩
  ·go_wp2_with fail
   go_end0
   exact ⟨rfl, ((HX6.out).set3 _).lx, HX6.out.kp HK6.out 3 _⟩
theorem jBraPar (F : List UInt8) (B b a : Nat) (st : Jsp.St) (ln : Bool) (w : World) (h : Lx w B b F a st ln) (hs : st.stk.length <= 200) :
  Calls Tryz.prog 66 #[.pointer (some ⟨b, 0, none⟩), S [40]] w fun e w' => match Jsp.bracket st [40] with
   | none => Pk 177 a (fun x => x = w0x) B w e w'
   | some st2 => Lf (.tuple #[]) w B b F a st2 ln e w' := by
 have hR : Jsp.bracket st [40] = Jsp.push { st with goal := true } (Jsp.paren st) := rfl
 rw [hR]
 clear hR
 have hway : (st.stk.length = 200 /\ Jsp.push { st with goal := true } (Jsp.paren st) = none) \/ (¬ st.stk.length = 200 /\ Jsp.push { st with goal := true } (Jsp.paren st) = some { st with goal := true, stk := st.stk ++ [Jsp.paren st] }) := by
  by_cases hl : st.stk.length = 200
  ·exact .inl ⟨hl, by unfold Jsp.push; exact if_pos hl⟩
  ·exact .inr ⟨hl, by unfold Jsp.push; exact if_neg hl⟩
 generalize (Jsp.push { st with goal := true } (Jsp.paren st) : Option Jsp.St) = R at hway ⊢
 have hO := hide (jOpens F B b a st ln w h)
 have HX0 := hide h
 have hB := h.leB
 clear h
 go_enter Tryz.func66, Tryz.ntmps66
 go_wp2_with fail
 refine hO.out.mono ?_
 rintro e w1 ⟨rfl, hb1⟩
 have hx1 := HX0.out.below hb1
 obtain ⟨ao, cap, lo, hx1⟩ := hx1
 have hx2 := hx1.set3 true
 have hk2 := hx1.kp (Kp.of_below hB hb1) 3 (.bool true)
 have f3 := hx1.frozen 3
 obtain ⟨-, -, -, c3, -⟩ := hx1.cells
 have hlx2 := hx2.lx
 have HK2 := hide hk2
 clear hO hb1 hx1 hx2 hk2 HX0
 rcases hway with ⟨hl, rfl⟩ | ⟨hl, rfl⟩
 ·have HC := hide (jPushNo F B b a a (Jsp.paren st) { st with goal := true } ln _ hlx2 hl)
  obtain ⟨_, _, _, hx⟩ := hlx2
  obtain ⟨d0, d1, -⟩ := hx.cells
  clear hx hl
  go_wp2_with fail
  generalize w1.setCell ⟨b, 3, none⟩ (.bool true) = w2 at d0 d1 HK2 HC ⊢
  refine HC.out.mono ?_
  rintro e w3 ⟨rfl, rfl⟩
  go_wp2_with fail
  exact ⟨rfl, w0x, rfl, rfl, HK2.out⟩
 ·have HC := hide (jPushOk F B b a a (Jsp.paren st) { st with goal := true } ln _ hlx2 hs hl)
  obtain ⟨_, _, _, hx⟩ := hlx2
  obtain ⟨d0, d1, -⟩ := hx.cells
  clear hx hl
  go_wp2_with fail
  generalize w1.setCell ⟨b, 3, none⟩ (.bool true) = w2 at d0 d1 HK2 HC ⊢
  refine HC.out.mono ?_
  rintro e w3 ⟨rfl, hl3, hk3⟩
  go_wp2_with fail
  go_end0
  exact ⟨rfl, hl3, HK2.out.trans hk3⟩
theorem jBraSq (F : List UInt8) (B b a : Nat) (st : Jsp.St) (ln : Bool) (w : World) (h : Lx w B b F a st ln) (hs : st.stk.length <= 200) :
  Calls Tryz.prog 66 #[.pointer (some ⟨b, 0, none⟩), S [91]] w fun e w' => match Jsp.bracket st [91] with
   | none => Pk 177 a (fun x => x = w0x) B w e w'
   | some st2 => Lf (.tuple #[]) w B b F a st2 ln e w' := by
 have hR : Jsp.bracket st [91] = Jsp.push { st with goal := true } (91) := rfl
 rw [hR]
 clear hR
 have hway : (st.stk.length = 200 /\ Jsp.push { st with goal := true } (91) = none) \/ (¬ st.stk.length = 200 /\ Jsp.push { st with goal := true } (91) = some { st with goal := true, stk := st.stk ++ [91] }) := by
  by_cases hl : st.stk.length = 200
  ·exact .inl ⟨hl, by unfold Jsp.push; exact if_pos hl⟩
  ·exact .inr ⟨hl, by unfold Jsp.push; exact if_neg hl⟩
 generalize (Jsp.push { st with goal := true } (91) : Option Jsp.St) = R at hway ⊢
 have hO := hide (jOpens F B b a st ln w h)
 have HX0 := hide h
 have hB := h.leB
 clear h
 go_enter Tryz.func66, Tryz.ntmps66
 go_wp2_with fail
 refine hO.out.mono ?_
 rintro e w1 ⟨rfl, hb1⟩
 have hx1 := HX0.out.below hb1
 obtain ⟨ao, cap, lo, hx1⟩ := hx1
 have hx2 := hx1.set3 true
 have hk2 := hx1.kp (Kp.of_below hB hb1) 3 (.bool true)
 have f3 := hx1.frozen 3
 obtain ⟨-, -, -, c3, -⟩ := hx1.cells
 have hlx2 := hx2.lx
 have HK2 := hide hk2
 clear hO hb1 hx1 hx2 hk2 HX0
 rcases hway with ⟨hl, rfl⟩ | ⟨hl, rfl⟩
 ·have HC := hide (jPushNo F B b a a (91) { st with goal := true } ln _ hlx2 hl)
  obtain ⟨_, _, _, hx⟩ := hlx2
  obtain ⟨d0, d1, -⟩ := hx.cells
  clear hx hl
  go_wp2_with fail
  generalize w1.setCell ⟨b, 3, none⟩ (.bool true) = w2 at d0 d1 HK2 HC ⊢
  refine HC.out.mono ?_
  rintro e w3 ⟨rfl, rfl⟩
  go_wp2_with fail
  exact ⟨rfl, w0x, rfl, rfl, HK2.out⟩
 ·have HC := hide (jPushOk F B b a a (91) { st with goal := true } ln _ hlx2 hs hl)
  obtain ⟨_, _, _, hx⟩ := hlx2
  obtain ⟨d0, d1, -⟩ := hx.cells
  clear hx hl
  go_wp2_with fail
  generalize w1.setCell ⟨b, 3, none⟩ (.bool true) = w2 at d0 d1 HK2 HC ⊢
  refine HC.out.mono ?_
  rintro e w3 ⟨rfl, hl3, hk3⟩
  go_wp2_with fail
  go_end0
  exact ⟨rfl, hl3, HK2.out.trans hk3⟩
theorem jBraCur (F : List UInt8) (B b a : Nat) (st : Jsp.St) (ln : Bool) (w : World) (h : Lx w B b F a st ln) (hs : st.stk.length <= 200) :
  Calls Tryz.prog 66 #[.pointer (some ⟨b, 0, none⟩), S [123]] w fun e w' => match Jsp.bracket st [123] with
   | none => Pk 177 a (fun x => x = w0x) B w e w'
   | some st2 => Lf (.tuple #[]) w B b F a st2 ln e w' := by
 have hR : Jsp.bracket st [123] = Jsp.push { st with goal := true } (Jsp.brace st) := rfl
 rw [hR]
 clear hR
 have hway : (st.stk.length = 200 /\ Jsp.push { st with goal := true } (Jsp.brace st) = none) \/ (¬ st.stk.length = 200 /\ Jsp.push { st with goal := true } (Jsp.brace st) = some { st with goal := true, stk := st.stk ++ [Jsp.brace st] }) := by
  by_cases hl : st.stk.length = 200
  ·exact .inl ⟨hl, by unfold Jsp.push; exact if_pos hl⟩
  ·exact .inr ⟨hl, by unfold Jsp.push; exact if_neg hl⟩
 generalize (Jsp.push { st with goal := true } (Jsp.brace st) : Option Jsp.St) = R at hway ⊢
 have hO := hide (jOpens F B b a st ln w h)
 have HX0 := hide h
 have hB := h.leB
 clear h
 go_enter Tryz.func66, Tryz.ntmps66
 go_wp2_with fail
 refine hO.out.mono ?_
 rintro e w1 ⟨rfl, hb1⟩
 have hx1 := HX0.out.below hb1
 obtain ⟨ao, cap, lo, hx1⟩ := hx1
 have hx2 := hx1.set3 true
 have hk2 := hx1.kp (Kp.of_below hB hb1) 3 (.bool true)
 have f3 := hx1.frozen 3
 obtain ⟨-, -, -, c3, -⟩ := hx1.cells
 have hlx2 := hx2.lx
 have HK2 := hide hk2
 clear hO hb1 hx1 hx2 hk2 HX0
 rcases hway with ⟨hl, rfl⟩ | ⟨hl, rfl⟩
 ·have HC := hide (jPushNo F B b a a (Jsp.brace st) { st with goal := true } ln _ hlx2 hl)
  obtain ⟨_, _, _, hx⟩ := hlx2
  obtain ⟨d0, d1, -⟩ := hx.cells
  clear hx hl
  go_wp2_with fail
  generalize w1.setCell ⟨b, 3, none⟩ (.bool true) = w2 at d0 d1 HK2 HC ⊢
  refine HC.out.mono ?_
  rintro e w3 ⟨rfl, rfl⟩
  go_wp2_with fail
  exact ⟨rfl, w0x, rfl, rfl, HK2.out⟩
 ·have HC := hide (jPushOk F B b a a (Jsp.brace st) { st with goal := true } ln _ hlx2 hs hl)
  obtain ⟨_, _, _, hx⟩ := hlx2
  obtain ⟨d0, d1, -⟩ := hx.cells
  clear hx hl
  go_wp2_with fail
  generalize w1.setCell ⟨b, 3, none⟩ (.bool true) = w2 at d0 d1 HK2 HC ⊢
  refine HC.out.mono ?_
  rintro e w3 ⟨rfl, hl3, hk3⟩
  go_wp2_with fail
  go_end0
  exact ⟨rfl, hl3, HK2.out.trans hk3⟩
theorem bracket_rest (st : Jsp.St) (m : List UInt8) (h0 : ¬ m = [40]) (h1 : ¬ m = [91]) (h2 : ¬ m = [123]) (h3 : ¬ m = [41]) (h4 : ¬ m = [93]) (h5 : ¬ m = [125]) : Jsp.bracket st m = if m = [43, 43] \/ m = [45, 45] then some { st with goal := false } else some { st with goal := true } := by
 unfold Jsp.bracket
 rw [if_neg h0, if_neg h1, if_neg h2, if_neg h3, if_neg h4, if_neg h5]
theorem jBraRest (F : List UInt8) (B b a : Nat) (st : Jsp.St) (ln : Bool) (w : World) (h : Lx w B b F a st ln) (m : List UInt8) (h0 : ¬ m = [40]) (h1 : ¬ m = [91]) (h2 : ¬ m = [123]) (h3 : ¬ m = [41]) (h4 : ¬ m = [93]) (h5 : ¬ m = [125]) :
  Calls Tryz.prog 66 #[.pointer (some ⟨b, 0, none⟩), S m] w fun e w' => match Jsp.bracket st m with
   | none => Pk 177 a (fun x => x = w0x) B w e w'
   | some st2 => Lf (.tuple #[]) w B b F a st2 ln e w' := by
 have hR := bracket_rest st m h0 h1 h2 h3 h4 h5
 rw [hR]
 have hway : (m = [43, 43] /\ (if m = [43, 43] \/ m = [45, 45] then some { st with goal := false } else some { st with goal := true }) = some { st with goal := false }) \/ (¬ m = [43, 43] /\ m = [45, 45] /\ (if m = [43, 43] \/ m = [45, 45] then some { st with goal := false } else some { st with goal := true }) = some { st with goal := false }) \/ (¬ m = [43, 43] /\ ¬ m = [45, 45] /\ (if m = [43, 43] \/ m = [45, 45] then some { st with goal := false } else some { st with goal := true }) = some { st with goal := true }) := by
  by_cases g1 : m = [43, 43]
  ·exact .inl ⟨g1, if_pos (.inl g1)⟩
  ·by_cases g2 : m = [45, 45]
   ·exact .inr (.inl ⟨g1, g2, if_pos (.inr g2)⟩)
   ·exact .inr (.inr ⟨g1, g2, if_neg (by rintro (h | h); exact g1 h; exact g2 h)⟩)
 generalize (if m = [43, 43] \/ m = [45, 45] then some { st with goal := false } else some { st with goal := true } : Option Jsp.St) = R at hway ⊢
 have e0 : (m == [40]) = false := beq_eq_false_iff_ne.2 h0
 have e1 : (m == [91]) = false := beq_eq_false_iff_ne.2 h1
 have e2 : (m == [123]) = false := beq_eq_false_iff_ne.2 h2
 have e3 : (m == [41]) = false := beq_eq_false_iff_ne.2 h3
 have e4 : (m == [93]) = false := beq_eq_false_iff_ne.2 h4
 have e5 : (m == [125]) = false := beq_eq_false_iff_ne.2 h5
 clear hR h0 h1 h2 h3 h4 h5
 have hO := hide (jOpens F B b a st ln w h)
 have HX0 := hide h
 have hB := h.leB
 clear h
 go_enter Tryz.func66, Tryz.ntmps66
 go_wp2_with fail
 refine hO.out.mono ?_
 rintro e w1 ⟨rfl, hb1⟩
 have hx1 := HX0.out.below hb1
 obtain ⟨ao, cap, lo, hx1⟩ := hx1
 have hx2 := hx1.set3 true
 have hk2 := hx1.kp (Kp.of_below hB hb1) 3 (.bool true)
 have f3 := hx1.frozen 3
 obtain ⟨-, -, -, c3, -⟩ := hx1.cells
 obtain ⟨-, -, -, d3, -⟩ := hx2.cells
 have HX2 := hide hx2
 have HK2 := hide hk2
 clear hO hb1 hx1 hx2 hk2 HX0
 rcases hway with ⟨rfl, rfl⟩ | ⟨g1, rfl, rfl⟩ | ⟨g1, g2, rfl⟩
 ·clear e0 e1 e2 e3 e4 e5
  go_wp2_with fail
  generalize w1.setCell ⟨b, 3, none⟩ (.bool true) = w2 at d3 f3 HK2 HX2 ⊢
  go_wp2_with fail
  go_end0
  exact ⟨rfl, (HX2.out.set3 false).lx, HX2.out.kp HK2.out 3 _⟩
 ·clear e0 e1 e2 e3 e4 e5
  go_wp2_with fail
  generalize w1.setCell ⟨b, 3, none⟩ (.bool true) = w2 at d3 f3 HK2 HX2 ⊢
  go_wp2_with fail
  go_end0
  exact ⟨rfl, (HX2.out.set3 false).lx, HX2.out.kp HK2.out 3 _⟩
 ·have e6 : (m == [43, 43]) = false := beq_eq_false_iff_ne.2 g1
  have e7 : (m == [45, 45]) = false := beq_eq_false_iff_ne.2 g2
  clear g1 g2
  go_wp2_with fail
  go_end0
  exact ⟨rfl, (HX2.out).lx, HK2.out⟩
theorem jBracket (F : List UInt8) (B b a : Nat) (st : Jsp.St) (ln : Bool) (w : World) (h : Lx w B b F a st ln) (hs : st.stk.length <= 200) (m : List UInt8) :
  Calls Tryz.prog 66 #[.pointer (some ⟨b, 0, none⟩), S m] w fun e w' => match Jsp.bracket st m with
   | none => Pk 177 a (fun x => x = w0x) B w e w'
   | some st2 => Lf (.tuple #[]) w B b F a st2 ln e w' := by
 by_cases h0 : m = [40]
 ·subst h0; exact jBraPar F B b a st ln w h hs
 by_cases h1 : m = [91]
 ·subst h1; exact jBraSq F B b a st ln w h hs
 by_cases h2 : m = [123]
 ·subst h2; exact jBraCur F B b a st ln w h hs
 by_cases h3 : m = [41]
 ·subst h3; exact jShut41 F B b a st ln w h hs
 by_cases h4 : m = [93]
 ·subst h4; exact jShut93 F B b a st ln w h hs
 by_cases h5 : m = [125]
 ·subst h5; exact jShut125 F B b a st ln w h hs
 exact jBraRest F B b a st ln w h m h0 h1 h2 h3 h4 h5
end Go.Proofs.YtngccmlcopcghaaGreatDoor
