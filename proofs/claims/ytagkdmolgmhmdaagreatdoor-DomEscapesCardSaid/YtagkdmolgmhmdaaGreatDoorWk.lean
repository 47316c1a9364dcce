/- What the chapter's example fixes; whether a tree has too many things. -/
import Derived.Test.YtagkdmolgmhmdaaGreatDoorSq
import Derived.Test.YtagkdmolgmhmdaaGreatDoorSk
import Derived.Test.YtagkdmolgmhmdaaGreatDoorDd
namespace Go.Proofs.YtagkdmolgmhmdaaGreatDoor
open Go.RowKit

def tText : Dm.T := .mk ⟨4, [], [], [], [49, 32, 60, 32, 50], [], []⟩ []
def tBr : Dm.T := .mk ⟨3, Dm.wHtml, [98, 114], [], [], [], []⟩ []
def tCom : Dm.T := .mk ⟨5, [], [], [], [120], [], []⟩ []
def aTitle : Dm.A := ⟨[], [116, 105, 116, 108, 101], [97, 34, 98]⟩
def tP : Dm.T := .mk ⟨3, Dm.wHtml, [112], [aTitle], [], [], []⟩ [tText, tBr, tCom]
def tD : Dm.T := .mk ⟨1, [], [], [], [], [], []⟩ [tP]
def tO : Dm.T := .mk ⟨0, [], [], [], [], [], []⟩ []
def htmlD : List UInt8 := [60, 112, 32, 116, 105, 116, 108, 101, 61, 34, 97, 38, 113, 117, 111, 116, 59, 98, 34, 62, 49, 32, 38, 108, 116, 59, 32, 50, 60, 98, 114, 62, 60, 33, 45, 45, 120, 45, 45, 62, 60, 47, 112, 62]
def showP : List UInt8 := [60, 104, 116, 109, 108, 58, 112, 10, 32, 32, 64, 58, 116, 105, 116, 108, 101, 61, 34, 97, 92, 48, 52, 50, 98, 34, 10, 32, 32, 34, 49, 32, 60, 32, 50, 34, 10, 32, 32, 60, 104, 116, 109, 108, 58, 98, 114, 10, 32, 32, 45, 45, 34, 120, 34, 10]
theorem may_D : tD.may = true := by decide +kernel
theorem may_O : tO.may = false := by decide +kernel
theorem html_D : htmlT tD = htmlD := by decide +kernel
theorem show_P : showT [] tP = showP := by decide +kernel
theorem lim_P (N : Nat) (h : 100 ≤ N) : tP.Lim N := by
  simp [tP, tText, tBr, tCom, aTitle, Dm.T.Lim, Dm.LimK, Dm.D.Lim, Dm.A.Lim, Dm.wHtml]
  omega
theorem lim_D (N : Nat) (h : 100 ≤ N) : tD.Lim N := by
  have hP := lim_P N h
  simp only [tD, Dm.T.Lim, Dm.LimK, Dm.D.Lim]
  exact ⟨⟨Nat.zero_le _, Nat.zero_le _, Nat.zero_le _, Nat.zero_le _, Nat.zero_le _, Nat.zero_le _, fun a h => by cases h⟩, by simp; omega, hP, trivial⟩
theorem lim_O (N : Nat) : tO.Lim N := by
  simp [tO, Dm.T.Lim, Dm.LimK, Dm.D.Lim]
theorem wt_D : tD.wt ≤ 1048576 := by decide +kernel
theorem wt_O : tO.wt ≤ 1048576 := by decide +kernel
abbrev rowA : Array Value := #[S [], S [116, 105, 116, 108, 101], S [97, 34, 98]]
abbrev rowB : Array Value := #[.int .u8 4, S [], S [], .slice none 0 0, S [49, 32, 60, 32, 50], S [], S [], .slice none 0 0, .int .u8 3, S Dm.wHtml, S [98, 114], .slice none 0 0, S [], S [], S [], .slice none 0 0, .int .u8 5, S [], S [], .slice none 0 0, S [120], S [], S [], .slice none 0 0]
theorem rd_leaf {w : World} (d : Dm.D) (h : d.ats = []) : RdT w (.mk d []) (.slice none 0 0) (.slice none 0 0) := by
  refine RdT.mk_iff.2 ⟨?_, RdS.nil w none 0⟩
  rw [h]
  exact RdA.nil w
theorem rd_P {w : World} {K L : Nat} (hA : w.heap[K]? = some (.cells rowA 43 (0, 0))) (hB : w.heap[L]? = some (.cells rowB 26 (0, 0))) : RdT w tP (.slice (some ⟨K, 0, none⟩) 1 1) (.slice (some ⟨L, 0, none⟩) 3 3) := by
  refine RdT.mk_iff.2 ⟨⟨_, 1, rfl, (fun h => by cases h), fun i a hx => ?_⟩, RdS.of (ks := [tText, tBr, tCom]) (c := 3) fun i t hx => ?_⟩
  · match i, hx with
    | 0, hx =>
      obtain rfl := Option.some.inj hx
      refine ⟨K, 0, rfl, ?_, ?_, ?_⟩ <;> rw [Lib.cell_of_heap hA] <;> rfl
    | i + 1, hx => cases hx
  · match i, hx with
    | 0, hx =>
      obtain rfl := Option.some.inj hx
      refine ⟨L, 0, .slice none 0 0, .slice none 0 0, rfl, ⟨?_, ?_, ?_, ?_, ?_, ?_, ?_, ?_⟩, rd_leaf _ rfl⟩ <;> rw [Lib.cell_of_heap hB] <;> rfl
    | 1, hx =>
      obtain rfl := Option.some.inj hx
      refine ⟨L, 0, .slice none 0 0, .slice none 0 0, rfl, ⟨?_, ?_, ?_, ?_, ?_, ?_, ?_, ?_⟩, rd_leaf _ rfl⟩ <;> rw [Lib.cell_of_heap hB] <;> rfl
    | 2, hx =>
      obtain rfl := Option.some.inj hx
      refine ⟨L, 0, .slice none 0 0, .slice none 0 0, rfl, ⟨?_, ?_, ?_, ?_, ?_, ?_, ?_, ?_⟩, rd_leaf _ rfl⟩ <;> rw [Lib.cell_of_heap hB] <;> rfl
    | i + 3, hx => cases hx
theorem rd_D {w : World} {K L M : Nat} (hA : w.heap[K]? = some (.cells rowA 43 (0, 0))) (hB : w.heap[L]? = some (.cells rowB 26 (0, 0))) (hM : Box w M tP.d (.slice (some ⟨K, 0, none⟩) 1 1) (.slice (some ⟨L, 0, none⟩) 3 3)) : RdT w tD (.slice none 0 0) (.slice (some ⟨M, 0, none⟩) 1 1) := by
  refine RdT.mk_iff.2 ⟨RdA.nil w, RdS.of (ks := [tP]) (c := 1) fun i t hx => ?_⟩
  match i, hx with
  | 0, hx =>
    obtain rfl := Option.some.inj hx
    obtain ⟨d0, d1, d2, d3, d4, d5, d6, d7⟩ := hM.cells
    exact ⟨M, 0, _, _, rfl, ⟨d0, d1, d2, d3, d4, d5, d6, d7⟩, rd_P hA hB⟩
  | i + 1, hx => cases hx
abbrev boxP (K : Nat) : Array Value := #[.int .u8 3, S Dm.wHtml, S [112], .slice (some ⟨K, 0, none⟩) 1 1, S [], S [], S [], .slice (some ⟨K + 1, 0, none⟩) 3 3]
abbrev boxD (K : Nat) : Array Value := #[.int .u8 1, S [], S [], .slice none 0 0, S [], S [], S [], .slice (some ⟨K + 1 + 1 + 1, 0, none⟩) 1 1]
abbrev W3 (w : World) : World := ((w.alloc (.cells rowA 43)).alloc (.cells rowB 26)).alloc (.cells (boxP w.heap.size) 26)
abbrev W5 (w : World) : World := ((W3 w).alloc (.cells (boxP w.heap.size) 26)).alloc (.cells (boxD w.heap.size) 26)
theorem W5_facts (w : World) : (W5 w).heap[w.heap.size]? = some (.cells rowA 43 (0, 0)) ∧ (W5 w).heap[w.heap.size + 1]? = some (.cells rowB 26 (0, 0)) ∧ (W5 w).heap[w.heap.size + 1 + 1]? = some (.cells (boxP w.heap.size) 26 (0, 0)) ∧
    (W5 w).heap[w.heap.size + 1 + 1 + 1]? = some (.cells (boxP w.heap.size) 26 (0, 0)) ∧ (W5 w).heap[w.heap.size + 1 + 1 + 1 + 1]? = some (.cells (boxD w.heap.size) 26 (0, 0)) ∧ Below w.heap.size w (W5 w) := by
  have s1 : ∀ (w : World) o, (w.alloc o).heap.size = w.heap.size + 1 := fun w o => by simp
  refine ⟨?_, ?_, ?_, ?_, ?_, ?_⟩
  · rw [Below.heap_alloc _ _ _ (by simp only [s1]; omega), Below.heap_alloc _ _ _ (by simp only [s1]; omega), Below.heap_alloc _ _ _ (by simp only [s1]; omega), Below.heap_alloc _ _ _ (by simp only [s1]; omega)]; exact heap_alloc_last _ _
  · rw [Below.heap_alloc _ _ _ (by simp only [s1]; omega), Below.heap_alloc _ _ _ (by simp only [s1]; omega), Below.heap_alloc _ _ _ (by simp only [s1]; omega), ← s1 w (.cells rowA 43)]; exact heap_alloc_last _ _
  · rw [Below.heap_alloc _ _ _ (by simp only [s1]; omega), Below.heap_alloc _ _ _ (by simp only [s1]; omega), ← s1 w (.cells rowA 43), ← s1 (w.alloc (.cells rowA 43)) (.cells rowB 26)]; exact heap_alloc_last _ _
  · rw [Below.heap_alloc _ _ _ (by simp only [s1]; omega), ← s1 w (.cells rowA 43), ← s1 (w.alloc (.cells rowA 43)) (.cells rowB 26), ← s1 ((w.alloc (.cells rowA 43)).alloc (.cells rowB 26)) (.cells (boxP w.heap.size) 26)]; exact heap_alloc_last _ _
  · have h := heap_alloc_last ((W3 w).alloc (.cells (boxP w.heap.size) 26)) (.cells (boxD w.heap.size) 26)
    rw [s1, s1, s1, s1] at h
    exact h
  · exact (((((Below.refl _ w).alloc (Nat.le_refl _) _).alloc (by simp only [s1]; omega) _).alloc (by simp only [s1]; omega) _).alloc (by simp only [s1]; omega) _).alloc (by simp only [s1]; omega) _
set_option maxRecDepth 100000 in
set_option maxHeartbeats 4000000 in
theorem works (w : World) (ht : Tab w) : Calls Tryz.prog 10 #[] w (Fresh (.bool true) w) := by
  obtain ⟨hA, hB, hP, hP2, hD, hb⟩ := W5_facts w
  have HT := hide (ht.below hb)
  clear ht
  go_enter Tryz.func10, Tryz.ntmps10
  go_upto_region 3 with (fail)
  change Code.wp _ _ _ _ (W5 w)
  generalize W5 w = w5 at hA hB hP hP2 hD hb HT ⊢
  have bP : Box w5 (w.heap.size + 1 + 1) tP.d (.slice (some ⟨w.heap.size, 0, none⟩) 1 1) (.slice (some ⟨w.heap.size + 1, 0, none⟩) 3 3) := hP
  have bD : Box w5 (w.heap.size + 1 + 1 + 1 + 1) tD.d (.slice none 0 0) (.slice (some ⟨w.heap.size + 1 + 1 + 1, 0, none⟩) 1 1) := hD
  have HRP := hide (rd_P hA hB)
  have HRD := hide (rd_D hA hB (show Box w5 (w.heap.size + 1 + 1 + 1) tP.d (.slice (some ⟨w.heap.size, 0, none⟩) 1 1) (.slice (some ⟨w.heap.size + 1, 0, none⟩) 3 3) from hP2))
  have HBP := hide bP
  have HBD := hide bD
  have HB := hide hb
  clear hA hB hP hP2 hD hb
  obtain ⟨d0, d1, d2, d3, d4, d5, d6, d7⟩ := bD.cells
  have c1 := check tD _ _ w5 HT.out HRD.out (lim_D _ (by omega)) wt_D
  rw [may_D] at c1
  have HC1 := hide c1
  clear c1 bP bD
  go_wp2_with fail
  refine Calls.mono HC1.out ?_
  rintro e w6 ⟨rfl, hb6⟩
  have HB6 := hide hb6
  have c2 := check tO (.slice none 0 0) (.slice none 0 0) w6 (HT.out.below hb6) (rd_leaf _ rfl) (lim_O _) wt_O
  rw [may_O] at c2
  have HC2 := hide c2
  clear c2 hb6 d0 d1 d2 d3 d4 d5 d6 d7
  go_wp2_with fail
  refine Calls.mono HC2.out ?_
  rintro e w7 ⟨rfl, hb7⟩
  have HB7 := hide (HB6.out.trans (hb7.mono HB6.out.size))
  obtain ⟨d0, d1, d2, d3, d4, d5, d6, d7⟩ := (HBD.out.below HB7.out HBD.out.lt).cells
  have c3 := html tD _ _ w7 (HT.out.below HB7.out) (HRD.out.below HB7.out) (lim_D _ (by omega)) wt_D (by rw [html_D]; decide)
  rw [html_D, htmlD] at c3
  have HC3 := hide c3
  clear c3 hb7
  go_wp2_with fail
  refine Calls.mono HC3.out ?_
  rintro e w8 ⟨rfl, hb8⟩
  have HB8 := hide (HB7.out.trans (hb8.mono HB7.out.size))
  clear d0 d1 d2 d3 d4 d5 d6 d7
  obtain ⟨d0, d1, d2, d3, d4, d5, d6, d7⟩ := (HBP.out.below HB8.out HBP.out.lt).cells
  have c4 := shown tP _ _ w8 (HRP.out.below HB8.out) (lim_P _ (by omega)) (by rw [show_P]; decide)
  rw [show_P, showP] at c4
  have HC4 := hide c4
  clear c4 hb8
  go_wp2_with fail
  refine Calls.mono HC4.out ?_
  rintro e w9 ⟨rfl, hb9⟩
  have HB9 := hide (HB8.out.trans (hb9.mono HB8.out.size))
  clear d0 d1 d2 d3 d4 d5 d6 d7 hb9
  go_wp2_with fail
  go_ret
  exact ⟨rfl, HB.out.trans (HB9.out.mono HB.out.size)⟩
def Farness (n : Nat) (w : World) (e : Ending) (w' : World) : Prop := ∃ b : Bool, e = .returned (.bool b) ∧ (b = false → n ≤ 8192) ∧ Below w.heap.size w w'
set_option maxRecDepth 100000 in
set_option maxHeartbeats 4000000 in
theorem far (t : Dm.T) (av kv : Value) (w : World) (hs : RdT w t av kv) (hlim : t.Lim 140737488355328) :
    Calls Tryz.prog 11 #[NV t.d av kv] w (Farness t.wt w) := by
  obtain ⟨⟨aa, ac, rfl⟩, ka, kc, rfl⟩ := (⟨(hs.eta).1.length, (hs.eta).2.length⟩ : (∃ ao c, av = .slice ao t.d.ats.length c) ∧ ∃ ko c, kv = .slice ko t.ks.length c)
  have b1 := Box.new w t.d (.slice aa t.d.ats.length ac) (.slice ka t.ks.length kc)
  have hw1 := ((Below.refl w.heap.size w).alloc (Nat.le_refl _) (.cells #[.int .u8 t.d.kd, S t.d.sp, S t.d.nm, .slice aa t.d.ats.length ac, S t.d.tx, S t.d.pb, S t.d.sy, .slice ka t.ks.length kc] 26))
  have hc := hide (weigh t _ _ 8192 _ (hs.below hw1) hlim (by decide) (by decide))
  have HW := hide hw1
  obtain ⟨n, hn⟩ : ∃ n, t.wt = n := ⟨_, rfl⟩
  rw [hn] at hc ⊢
  clear hs b1 hw1 hn
  go_enter Tryz.func11, Tryz.ntmps11
  go_wp2_with fail
  refine Calls.mono hc.out ?_
  rintro e w2 ⟨m, rfl, h1, h2, h3, h4, hb⟩
  have HB := hide hb
  have hle : Hid (m ≤ 8192 → n ≤ 8192) := fun h => by have := h1 h; omega
  clear hb h1 h2
  by_cases hm : m ≤ 8192
  · have hd : decide ((8192 : Int) < m) = false := by rw [decide_eq_false_iff_not]; omega
    go_wp2_with fail
    go_ret
    exact ⟨false, rfl, fun _ => hle.out hm, HW.out.trans (HB.out.mono HW.out.size)⟩
  · have hd : (8192 : Int) < m := by omega
    go_wp2_with fail
    go_ret
    exact ⟨true, rfl, fun h => (by cases h), HW.out.trans (HB.out.mono HW.out.size)⟩
end Go.Proofs.YtagkdmolgmhmdaaGreatDoor
