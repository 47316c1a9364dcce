/- A set of words; whether a word is one of them. -/
import Derived.Test.YtagkdmolgmhmdaaGreatDoorBu
import Derived.Test.YtagkdmolgmhmdaaGreatDoorShelf
import Derived.Maps.OwnOps
import Derived.Maps.OwnSet
import Derived.Lib.LaidTab
import Derived.LoopN
import Derived.Deep.Cut
import Derived.Deep.WholeRow
namespace Go.Proofs.YtagkdmolgmhmdaaGreatDoor
open Go.RowKit Go.WideMaps

/-- what lies in the package's variables -/
structure Tab (w : World) : Prop where
  asc : Lib.TabIs Tryz.prog w "strings.asciiSpace" .u8 Lib.asciiSpaceTab
theorem asc_named : Tryz.prog.globalNamed "strings.asciiSpace" = some 0 := by kernel_rfl
theorem Tab.below {w w' : World} (h : Tab w) (hb : Below w.heap.size w w') : Tab w' := by
  refine ⟨?_⟩
  have h := h.asc
  unfold Lib.TabIs World.var? at h ⊢
  rw [asc_named] at h ⊢
  simp only [Option.bind_some] at h ⊢
  have hlt : 0 < w.heap.size := by
    rcases Nat.lt_or_ge 0 w.heap.size with h' | h'
    · exact h'
    · rw [Array.getElem?_eq_none h'] at h; cases h
  rw [hb.block _ hlt]
  exact h

theorem lawS : Maps.Keyed Tryz.prog 9 := Maps.string_keyed Tryz.underlying9
theorem zeroI (w : World) : (zeroValue 3).run Tryz.prog w = .ok (.int .i64 0) w := by kernel_rfl
abbrev one_ : DataW Unit := .lit (.int .i64 1)
def setD (l : List (List UInt8)) : DataW Unit := Maps.setOf one_ (l.map Lit.string)
theorem setD_snoc (l : List (List UInt8)) (i : Nat) (x : List UInt8) (h : l[i]? = some x) : setD (l.take (i + 1)) = (setD (l.take i)).put (.string x) one_ := by
  rw [List.take_add_one, h]
  unfold setD
  rw [List.map_append]
  exact Maps.setOf_snoc _ _ _
theorem setD_at (l : List (List UInt8)) (k : List UInt8) : (setD l).atKey (.string k) (.lit (.int .i64 0)) = .lit (.int .i64 (if l.contains k then 1 else 0)) := by
  have key : ∀ (l : List (List UInt8)) (m : DataW Unit), Maps.IsMap m → ((l.map Lit.string).foldl (fun m x => m.put x one_) m).atKey (.string k) (.lit (.int .i64 0)) = if l.contains k then one_ else m.atKey (.string k) (.lit (.int .i64 0)) := by
    intro l
    induction l with
    | nil => intro m hm; simp
    | cons x r ih =>
      intro m hm
      rw [List.map_cons, List.foldl_cons, ih _ (hm.put _ _), List.contains_cons]
      by_cases hr : r.contains k = true
      · rw [if_pos hr, if_pos (by rw [hr, Bool.or_true])]
      · rw [Bool.not_eq_true] at hr
        rw [hr]
        by_cases e : k = x
        · subst e
          rw [Maps.atKey_put_same hm (by simp [WideAt.IsKeyLit])]
          simp
        · rw [Maps.atKey_put_other (by simpa using e)]
          have : (k == x) = false := by simpa using e
          simp [this]
  unfold setD Maps.setOf
  rw [key l _ Maps.isMap_empty]
  by_cases h : l.contains k = true
  · rw [if_pos h, if_pos h]
  · rw [Bool.not_eq_true] at h
    rw [h]
    rfl
def IsSet (l : List (List UInt8)) (w : World) (e : Ending) (w' : World) : Prop :=
  e = .returned (.map (some w.heap.size)) ∧ w'.ownsMap Tryz.prog 9 (plainElem Tryz.prog 3) w.heap.size l.length (setD l) ∧ Below w.heap.size w w'
theorem Below.toNew {w w' : World} {k : Nat} (h : Below k w w') (hk : w.heap.size ≤ k) : Below w.heap.size w w' := h.mono hk

set_option maxRecDepth 100000 in
set_option maxHeartbeats 2000000 in
theorem set_ (s : List UInt8) (l : List (List UInt8)) (w : World) (ht : Tab w) (hs : s.length ≤ 1048576) (ha : ∀ b ∈ s, b.toNat < 128) (hl : Hid (Lib.fields s = l)) (hx : ∀ x ∈ l, x.length ≤ 1048576) (hn : l.length ≤ 1048576) :
    Calls Tryz.prog 39 #[S s] w (IsSet l w) := by
  have hmm := @run_makeMap Tryz.prog
  have hb1 : Below w.heap.size w (w.alloc (.map #[] 0)) := (Below.refl _ _).alloc (Nat.le_refl _) _
  have hown := World.ownsMap_made w Tryz.prog 9 (plainElem (H := Unit) Tryz.prog 3)
  have HF := hide (Tryz.strings_Fields ⟨s.toArray⟩ (w.alloc (.map #[] 0)) (by rw [bl_size]; omega) (fun j b hj => ha b (List.mem_of_getElem? (by simpa using hj))) (ht.below hb1).asc)
  have HX := hide hx
  clear hx
  go_enter Tryz.func39, Tryz.ntmps39
  go_wp2_with fail
  refine HF.out.mono ?_
  rintro e w2 ⟨rfl, rfl⟩
  rw [hl.out]
  have hc : ∀ (j : Nat) x, l[j]? = some x → ((w.alloc (.map #[] 0)).alloc (.cells (l.map fun l => Value.string ⟨l.toArray⟩).toArray 9)).cell? ⟨(w.alloc (.map #[] 0)).heap.size, j, none⟩ = some (S x) := fun j x hj => by
    rw [Lib.cell_of_heap (heap_alloc_last _ _)]
    simp [hj]
  have hown2 := hown.alloc (.cells (l.map fun l => Value.string ⟨l.toArray⟩).toArray 9)
  have hb2 := hb1.alloc hb1.size (.cells (l.map fun l => Value.string ⟨l.toArray⟩).toArray 9)
  generalize hgen : (w.alloc (.map #[] 0)).alloc (.cells (l.map fun l => Value.string ⟨l.toArray⟩).toArray 9) = w2 at hc hown2 hb2 ⊢
  clear hgen
  rw [show (w.alloc (.map #[] 0)).heap.size = w.heap.size + 1 by simp] at hc ⊢
  have HC := hide hc
  have HO := hide hown2
  have HB := hide hb2
  have hsz : w.heap.size + 1 < w2.heap.size ∨ l = [] := by
    cases l with
    | nil => exact .inr rfl
    | cons x r => exact .inl (World.block_lt_of_cell? w2 _ (hc 0 x rfl))
  have HSZ := hide hsz
  clear hc hown hown2 hb1 hb2 HF hl hsz
  go_wp2_with fail
  go_loopg [10] l.length (fun g s10 wx => ∃ i : Nat, i + g = l.length ∧ s10 = .int .i64 i ∧ Hid (wx.ownsMap Tryz.prog 9 (plainElem Tryz.prog 3) w.heap.size i (setD (l.take i))) ∧ Hid (w2.grownBy wx (some w.heap.size)))
  case atStart => exact ⟨0, by omega, rfl, HO.out, World.grownBy.refl _ _⟩
  case round =>
    obtain ⟨i, hi, rfl, hown, hgr⟩ := hrel
    by_cases hlt : i < l.length
    · obtain ⟨x, hx⟩ : ∃ x, l[i]? = some x := ⟨l[i], List.getElem?_eq_getElem hlt⟩
      have hcx := HC.out i x hx
      have hcw : wr.cell? ⟨w.heap.size + 1, i, none⟩ = some (S x) := (World.cell?_of_block (hgr.out.block _ (World.block_lt_of_cell? w2 _ hcx) (by simp))).trans hcx
      have hxl := HX.out x (List.mem_of_getElem? hx)
      have HI := hide hx
      clear hx hcx
      go_wp2_with (at_mapUpdate; refine wpList_mapUpdate_own _ rfl _ _ _ 47 rfl 9 3 lawS Tryz.underlying47 _ w.heap.size i _ rfl hown.out (by unfold maxLen; omega) _ _ _ rfl rfl (keyOf_string_mk Tryz.underlying9 (by rw [bl_size]; unfold maxLen; omega)) _ [] (plainElem_int Tryz.underlying3 (by decide)) ?_)
      intro w3 hown3 hg3
      go_wp2_with fail
      go_roundg (gk - 1)
      case measure => omega
      case rel => exact ⟨i + 1, by omega, by go_num, by unfold Hid; rw [setD_snoc l i x HI.out]; exact hown3, hgr.out.trans hg3⟩
    · obtain rfl : i = l.length := by omega
      have hown' := hown.out
      rw [List.take_of_length_le (Nat.le_refl _)] at hown'
      have HW := hide hown'
      clear hown hown'
      go_wp2_with fail
      go_ret
      exact ⟨rfl, HW.out, HB.out.grown hgr.out HB.out.size (fun k hk => by cases hk; exact Nat.le_refl _)⟩
end Go.Proofs.YtagkdmolgmhmdaaGreatDoor
