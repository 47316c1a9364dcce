/- opens: what a { and a ( would open. -/
import Derived.Test.YtngccmlcopcghaaGreatDoorRd
namespace Go.Proofs.YtngccmlcopcghaaGreatDoor
open Go.RowKit

/-! ### a word among some -/
theorem bytes_inj {a b : List UInt8} (h : (⟨a.toArray⟩ : ByteArray) = ⟨b.toArray⟩) : a = b := by
  have := congrArg (fun x : ByteArray => x.data.toList) h
  simpa using this
theorem containsS_map (l : List (List UInt8)) (x : List UInt8) : Lib.containsS (l.map fun t => ⟨t.toArray⟩) ⟨x.toArray⟩ = l.contains x := by
  rw [Bool.eq_iff_iff, Lib.containsS_iff, List.contains_iff_mem, List.mem_map]
  exact ⟨fun ⟨t, h1, h2⟩ => by rw [← bytes_inj h2]; exact h1, fun h => ⟨x, h, rfl⟩⟩
theorem sContains (l : List (List UInt8)) (x : List UInt8) (g : Nat) (w : World) (hl : l.length ≤ 1048576) (hc : ∀ j t, l[j]? = some t → w.cell? ⟨g, j, none⟩ = some (S t)) :
    Calls Tryz.prog 46 #[.slice (some ⟨g, 0, none⟩) l.length l.length, S x] w (Ret (.bool (l.contains x)) w) := by
  have h := Tryz.slices_Contains_string g 0 l.length l.length (l.map fun t => ⟨t.toArray⟩) ⟨x.toArray⟩ w (by simp) (by omega) (fun j hj => by
    rw [List.length_map] at hj
    rw [Nat.zero_add, hc j l[j] (List.getElem?_eq_getElem hj)]
    simp [List.getD_eq_getElem?_getD, hj])
  have ht : (l.map fun t => (⟨t.toArray⟩ : ByteArray)).take l.length = l.map fun t => ⟨t.toArray⟩ := List.take_of_length_le (by simp)
  rw [ht, containsS_map] at h
  exact h.mono fun e w' h => ⟨h.1, h.2.symm⟩
/-- the words of a text, in memory of their own -/
def FldP (l : List (List UInt8)) (w : World) (e : Ending) (w' : World) : Prop := e = .returned (.slice (some ⟨w.heap.size, 0, none⟩) l.length l.length) ∧ Below w.heap.size w w' ∧ ∀ j t, l[j]? = some t → w'.cell? ⟨w.heap.size, j, none⟩ = some (S t)
theorem sFields (s : List UInt8) (l : List (List UInt8)) (w : World) (ht : Tab w) (hl : s.length ≤ 1048576) (ha : s.all (fun c => decide (c.toNat < 128)) = true) (hf : Lib.fields s = l) : Calls Tryz.prog 47 #[S s] w (FldP l w) := by
  have h := Tryz.strings_Fields ⟨s.toArray⟩ w (by rw [bl_size]; omega) (fun j b hb => by
    have := List.all_eq_true.1 ha b (List.mem_of_getElem? hb)
    simpa using this) ht.asc
  refine h.mono fun e w' h => ?_
  rw [tl_mk, hf] at h
  obtain ⟨h1, h2⟩ := h
  subst h2
  refine ⟨h1, (Below.refl _ w).alloc (Nat.le_refl _) _, fun j t hj => ?_⟩
  rw [Lib.cell_of_heap (heap_alloc_last _ _)]
  simp [hj]
/-- of a { : ; { } ) => else do -/
def txB : List UInt8 := [59, 32, 123, 32, 125, 32, 41, 32, 61, 62, 32, 101, 108, 115, 101, 32, 100, 111]
/-- of a ( : if for while with -/
def txK : List UInt8 := [105, 102, 32, 102, 111, 114, 32, 119, 104, 105, 108, 101, 32, 119, 105, 116, 104]
theorem fldB : Lib.fields txB = Jsp.aheadB := by decide
theorem fldK : Lib.fields txK = Jsp.aheadK := by decide
set_option maxRecDepth 100000 in
set_option maxHeartbeats 2000000 in
theorem jAmong (s : List UInt8) (l : List (List UInt8)) (hl : s.length ≤ 1048576) (ha : s.all (fun c => decide (c.toNat < 128)) = true) (hf : Lib.fields s = l) (hll : l.length ≤ 1048576)
    (F : List UInt8) (B b a : Nat) (st : Jsp.St) (ln : Bool) (w : World) (h : Lx w B b F a st ln) (Q : Nat) (hQ : w.heap[Q]? = some (.cells #[.pointer (some ⟨b, 0, none⟩)] 44 (0, 0))) :
    Calls Tryz.prog 147 #[S s, .pointer (some ⟨Q, 0, none⟩)] w (Fresh (.bool (Jsp.wordsOf l st.last)) w) := by
  obtain ⟨ao, cap, lo, h⟩ := h
  obtain ⟨-, -, -, -, c4, -⟩ := h.cells
  have cQ : w.cell? ⟨Q, 0, none⟩ = some (.pointer (some ⟨b, 0, none⟩)) := by rw [Lib.cell_of_heap hQ]; rfl
  have ht := h.tab
  have h7 := ht.lt
  have HT := fun W (hW : Below w.heap.size w W) => hide (ht.below h7 hW)
  have hF := fun W (hT : Tab W) => hide (sFields s l W hT hl ha hf)
  have hC := fun g W hc => hide (sContains l st.last g W hll hc)
  have hS : ∀ W, Below w.heap.size w W → W.cell? ⟨Q, 0, none⟩ = some (.pointer (some ⟨b, 0, none⟩)) ∧ W.cell? ⟨b, 4, none⟩ = some (S st.last) := fun W hW => ⟨cell_below cQ hW, cell_below c4 hW⟩
  clear h ht hQ ha hf
  go_enter Tryz.func147, Tryz.ntmps147
  go_wp2_with fail
  go_region_held3 (fun W => W.cell? ⟨Q, 0, none⟩ = some (.pointer (some ⟨b, 0, none⟩)) ∧ W.cell? ⟨b, 4, none⟩ = some (S st.last)) (first | exact ⟨cQ, c4⟩ | exact hS _ (((Below.refl w.heap.size w).drew).trans hb) | exact hS _ ((((Below.refl w.heap.size w).drew).trans hb).drew)) ((first | (go_at_call 47; refine ((hF _ (HT _ ((Below.refl w.heap.size w).drew)).out).out).mono ?_; rintro e w1 ⟨rfl, hb, hcells⟩) | (go_at_call 46; refine ((hC _ _ hcells).out).mono ?_; rintro e w2 ⟨rfl, rfl⟩)))
  all_goals
    go_wp2_with fail
    go_ret
    exact ⟨by unfold Jsp.wordsOf; simp, ((Below.refl w.heap.size w).drew).trans hb⟩

set_option maxRecDepth 100000 in
set_option maxHeartbeats 4000000 in
theorem jOpens (F : List UInt8) (B b a : Nat) (st : Jsp.St) (ln : Bool) (w : World) (h : Lx w B b F a st ln) :
    Calls Tryz.prog 114 #[.pointer (some ⟨b, 0, none⟩)] w (Fresh (.tuple #[B8 (Jsp.brace st), B8 (Jsp.paren st)]) w) := by
  have hmf : ∀ (fn : Fn) (first cap : Array Value) (w : World), (Instr.makeFunc fn first cap).run Tryz.prog w = .ok (.func fn first cap) w := fun _ _ _ _ => rfl
  have hal : Below w.heap.size w (w.alloc (.cells #[.pointer (some ⟨b, 0, none⟩)] 44)) := (Below.refl _ w).alloc (Nat.le_refl _) _
  have h1 := h.below hal
  have hq : (w.alloc (.cells #[.pointer (some ⟨b, 0, none⟩)] 44)).heap[w.heap.size]? = some (.cells #[.pointer (some ⟨b, 0, none⟩)] 44 (0, 0)) := heap_alloc_last _ _
  obtain ⟨Q, hQ⟩ : ∃ Q, w.heap.size = Q := ⟨_, rfl⟩
  have HQQ := hide hQ
  rw [hQ] at hal hq
  have hlt := h.lt
  obtain ⟨x1, hx1⟩ : ∃ x, Jsp.brace st = x := ⟨_, rfl⟩
  obtain ⟨x2, hx2⟩ : ∃ x, Jsp.paren st = x := ⟨_, rfl⟩
  rw [hx1, hx2]
  have HX1s := hide hx1
  have HX2s := hide hx2
  clear h hx1 hx2
  go_enter Tryz.func114, Tryz.ntmps114
  go_upto_region 1 with (fail)
  change Code.wp _ _ _ _ (w.alloc (.cells #[.pointer (some ⟨b, 0, none⟩)] 44))
  generalize hgen : w.alloc (.cells #[.pointer (some ⟨b, 0, none⟩)] 44) = w1 at hal h1 hq ⊢
  have HX1 := hide h1
  have HQ1 := hide hq
  have HB1 := hide hal
  obtain ⟨ao, cap, lo, h⟩ := h1
  obtain ⟨-, -, -, c3, -, c5, -⟩ := h.cells
  have cQ : w1.cell? ⟨Q, 0, none⟩ = some (.pointer (some ⟨b, 0, none⟩)) := by rw [Lib.cell_of_heap hq]; rfl
  have hAB := fun W h1 h2 => hide (jAmong txB Jsp.aheadB (by decide) (by decide) fldB (by decide) F B b a st ln W h1 Q h2)
  have hAK := fun W h1 h2 => hide (jAmong txK Jsp.aheadK (by decide) (by decide) fldK (by decide) F B b a st ln W h1 Q h2)
  unfold txB at hAB
  unfold txK at hAK
  have hx1 := HX1s.out
  have hx2 := HX2s.out
  clear HX1s HX2s
  unfold Jsp.brace at hx1
  unfold Jsp.paren at hx2
  have HX1' := hide hx1
  have HX2' := hide hx2
  clear hgen hal hq h hx1 hx2 hQ hlt
  obtain ⟨vB, hvB⟩ : ∃ v, Jsp.wordsOf Jsp.aheadB st.last = v := ⟨_, rfl⟩
  obtain ⟨vK, hvK⟩ : ∃ v, Jsp.wordsOf Jsp.aheadK st.last = v := ⟨_, rfl⟩
  rw [hvB] at HX1' hAB
  rw [hvK] at HX2' hAK
  obtain ⟨g, hg⟩ : ∃ g, st.goal = g := ⟨_, rfl⟩
  obtain ⟨sm, hsm⟩ : ∃ g, st.some = g := ⟨_, rfl⟩
  rw [hg] at c3
  rw [hsm] at c5
  rw [hg, hsm] at HX1'
  clear hvB hvK hg hsm
  have hway : (g = false ∧ x1 = 98) ∨ (g = true ∧ sm = false ∧ x1 = 98) ∨ (g = true ∧ sm = true ∧ vB = true ∧ x1 = 98) ∨ (g = true ∧ sm = true ∧ vB = false ∧ x1 = 101) := by
    have := HX1'.out
    cases g <;> cases sm <;> cases vB <;> simp at this <;> simp [this]
  have hway2 : (vK = true ∧ x2 = 107) ∨ (vK = false ∧ x2 = 112) := by
    have := HX2'.out
    cases vK <;> simp at this <;> simp [this]
  clear HX1' HX2'
  rcases hway with ⟨rfl, rfl⟩ | ⟨rfl, rfl, rfl⟩ | ⟨rfl, rfl, rfl, rfl⟩ | ⟨rfl, rfl, rfl, rfl⟩
  · rcases hway2 with ⟨rfl, rfl⟩ | ⟨rfl, rfl⟩
    · clear hAB
      go_wp2_with fail
      refine (hAK _ HX1.out HQ1.out).out.mono ?_
      rintro e w2 ⟨rfl, hb2⟩
      clear hAK
      go_wp2_with fail
      refine bodyPost_ret (v := .tuple #[.int .u8 98, .int .u8 107]) (by simp [results, Tryz.results114, go_sem]) rfl ?_
      exact ⟨rfl, by rw [HQQ.out]; exact HB1.out.trans (hb2.mono (by have := HB1.out.size; have := HQQ.out; omega))⟩
    · clear hAB
      go_wp2_with fail
      refine (hAK _ HX1.out HQ1.out).out.mono ?_
      rintro e w2 ⟨rfl, hb2⟩
      clear hAK
      go_wp2_with fail
      refine bodyPost_ret (v := .tuple #[.int .u8 98, .int .u8 112]) (by simp [results, Tryz.results114, go_sem]) rfl ?_
      exact ⟨rfl, by rw [HQQ.out]; exact HB1.out.trans (hb2.mono (by have := HB1.out.size; have := HQQ.out; omega))⟩
  · rcases hway2 with ⟨rfl, rfl⟩ | ⟨rfl, rfl⟩
    · clear hAB
      go_wp2_with fail
      refine (hAK _ HX1.out HQ1.out).out.mono ?_
      rintro e w2 ⟨rfl, hb2⟩
      clear hAK
      go_wp2_with fail
      refine bodyPost_ret (v := .tuple #[.int .u8 98, .int .u8 107]) (by simp [results, Tryz.results114, go_sem]) rfl ?_
      exact ⟨rfl, by rw [HQQ.out]; exact HB1.out.trans (hb2.mono (by have := HB1.out.size; have := HQQ.out; omega))⟩
    · clear hAB
      go_wp2_with fail
      refine (hAK _ HX1.out HQ1.out).out.mono ?_
      rintro e w2 ⟨rfl, hb2⟩
      clear hAK
      go_wp2_with fail
      refine bodyPost_ret (v := .tuple #[.int .u8 98, .int .u8 112]) (by simp [results, Tryz.results114, go_sem]) rfl ?_
      exact ⟨rfl, by rw [HQQ.out]; exact HB1.out.trans (hb2.mono (by have := HB1.out.size; have := HQQ.out; omega))⟩
  · rcases hway2 with ⟨rfl, rfl⟩ | ⟨rfl, rfl⟩
    · go_wp2_with fail
      refine (hAB _ HX1.out HQ1.out).out.mono ?_
      rintro e w2 ⟨rfl, hb2⟩
      have HX2 := hide (HX1.out.below hb2)
      have HQ2 := hide ((hb2.block _ (heap_lt HQ1.out)).trans HQ1.out)
      have HB2 := hide (HB1.out.trans (hb2.mono (by have := HB1.out.size; have := HQQ.out; omega)))
      clear hAB hb2
      go_wp2_with fail
      refine (hAK _ HX2.out HQ2.out).out.mono ?_
      rintro e w3 ⟨rfl, hb3⟩
      clear hAK
      go_wp2_with fail
      refine bodyPost_ret (v := .tuple #[.int .u8 98, .int .u8 107]) (by simp [results, Tryz.results114, go_sem]) rfl ?_
      exact ⟨rfl, by rw [HQQ.out]; exact HB2.out.trans (hb3.mono (by have := HB2.out.size; have := HQQ.out; omega))⟩
    · go_wp2_with fail
      refine (hAB _ HX1.out HQ1.out).out.mono ?_
      rintro e w2 ⟨rfl, hb2⟩
      have HX2 := hide (HX1.out.below hb2)
      have HQ2 := hide ((hb2.block _ (heap_lt HQ1.out)).trans HQ1.out)
      have HB2 := hide (HB1.out.trans (hb2.mono (by have := HB1.out.size; have := HQQ.out; omega)))
      clear hAB hb2
      go_wp2_with fail
      refine (hAK _ HX2.out HQ2.out).out.mono ?_
      rintro e w3 ⟨rfl, hb3⟩
      clear hAK
      go_wp2_with fail
      refine bodyPost_ret (v := .tuple #[.int .u8 98, .int .u8 112]) (by simp [results, Tryz.results114, go_sem]) rfl ?_
      exact ⟨rfl, by rw [HQQ.out]; exact HB2.out.trans (hb3.mono (by have := HB2.out.size; have := HQQ.out; omega))⟩
  · rcases hway2 with ⟨rfl, rfl⟩ | ⟨rfl, rfl⟩
    · go_wp2_with fail
      refine (hAB _ HX1.out HQ1.out).out.mono ?_
      rintro e w2 ⟨rfl, hb2⟩
      have HX2 := hide (HX1.out.below hb2)
      have HQ2 := hide ((hb2.block _ (heap_lt HQ1.out)).trans HQ1.out)
      have HB2 := hide (HB1.out.trans (hb2.mono (by have := HB1.out.size; have := HQQ.out; omega)))
      clear hAB hb2
      go_wp2_with fail
      refine (hAK _ HX2.out HQ2.out).out.mono ?_
      rintro e w3 ⟨rfl, hb3⟩
      clear hAK
      go_wp2_with fail
      refine bodyPost_ret (v := .tuple #[.int .u8 101, .int .u8 107]) (by simp [results, Tryz.results114, go_sem]) rfl ?_
      exact ⟨rfl, by rw [HQQ.out]; exact HB2.out.trans (hb3.mono (by have := HB2.out.size; have := HQQ.out; omega))⟩
    · go_wp2_with fail
      refine (hAB _ HX1.out HQ1.out).out.mono ?_
      rintro e w2 ⟨rfl, hb2⟩
      have HX2 := hide (HX1.out.below hb2)
      have HQ2 := hide ((hb2.block _ (heap_lt HQ1.out)).trans HQ1.out)
      have HB2 := hide (HB1.out.trans (hb2.mono (by have := HB1.out.size; have := HQQ.out; omega)))
      clear hAB hb2
      go_wp2_with fail
      refine (hAK _ HX2.out HQ2.out).out.mono ?_
      rintro e w3 ⟨rfl, hb3⟩
      clear hAK
      go_wp2_with fail
      refine bodyPost_ret (v := .tuple #[.int .u8 101, .int .u8 112]) (by simp [results, Tryz.results114, go_sem]) rfl ?_
      exact ⟨rfl, by rw [HQQ.out]; exact HB2.out.trans (hb3.mono (by have := HB2.out.size; have := HQQ.out; omega))⟩
end Go.Proofs.YtngccmlcopcghaaGreatDoor
