/- What is described, by the program. -/
import Derived.Test.YtepimjljkkkejaaDoorK
namespace Go.Proofs.YtepimjljkkkejaaDoor
open Go.RowKit

/-- two variables of the call's own: the result's, and the candidate's -/
def Two (w : World) (h : Nat) (a b c a' b' c' : Value) : Prop := w.heap[h]? = some (Obj.cells #[a, b, c] 26 (0, 0)) ∧ w.heap[h + 1]? = some (Obj.cells #[a', b', c'] 26 (0, 0))
theorem Two.new (w : World) (a b c a' b' c' : Value) : Two ((w.alloc (.cells #[a, b, c] 26)).alloc (.cells #[a', b', c'] 26)) w.heap.size a b c a' b' c' := by
  refine ⟨?_, ?_⟩
  · rw [Below.heap_alloc _ _ _ (by simp)]; exact heap_alloc_new w _
  · have := heap_alloc_new (w.alloc (.cells #[a, b, c] 26)) (.cells #[a', b', c'] 26)
    simpa using this
section
variable {w w' : World} {h : Nat} {a b c a' b' c' : Value}
theorem Two.lt (t : Two w h a b c a' b' c') : h + 1 < w.heap.size := heap_lt t.2
theorem Two.below (t : Two w h a b c a' b' c') (hb : Below w.heap.size w w') : Two w' h a b c a' b' c' :=
  ⟨(hb.block h (by have := t.lt; omega)).trans t.1, (hb.block (h + 1) t.lt).trans t.2⟩
theorem Two.cells (t : Two w h a b c a' b' c') : w.cell? ⟨h, 0, none⟩ = some a ∧ w.cell? ⟨h, 1, none⟩ = some b ∧ w.cell? ⟨h, 2, none⟩ = some c ∧ w.cell? ⟨h + 1, 0, none⟩ = some a' ∧ w.cell? ⟨h + 1, 1, none⟩ = some b' ∧ w.cell? ⟨h + 1, 2, none⟩ = some c' := by
  obtain ⟨t1, t2⟩ := t
  refine ⟨?_, ?_, ?_, ?_, ?_, ?_⟩
  · rw [Lib.cell_of_heap t1]; rfl
  · rw [Lib.cell_of_heap t1]; rfl
  · rw [Lib.cell_of_heap t1]; rfl
  · rw [Lib.cell_of_heap t2]; rfl
  · rw [Lib.cell_of_heap t2]; rfl
  · rw [Lib.cell_of_heap t2]; rfl
theorem Two.free (t : Two w h a b c a' b' c') : (∀ j, w.frozen? ⟨h, j, none⟩ = false) ∧ (∀ j, w.frozen? ⟨h + 1, j, none⟩ = false) := by
  obtain ⟨t1, t2⟩ := t
  exact ⟨fun j => by simp [World.frozen?, t1], fun j => by simp [World.frozen?, t2]⟩
theorem Two.set1 (t : Two w h a b c a' b' c') (v : Value) : Two (w.setCell ⟨h + 1, 1, none⟩ v) h a b c a' v c' := by
  refine ⟨by rw [Below.heap_setCell _ _ _ _ (by show h ≠ h + 1; omega)]; exact t.1, ?_⟩
  simp [World.setCell, Array.getElem?_modify, t.2]
theorem Two.set2 (t : Two w h a b c a' b' c') (v : Value) : Two (w.setCell ⟨h + 1, 2, none⟩ v) h a b c a' b' v := by
  refine ⟨by rw [Below.heap_setCell _ _ _ _ (by show h ≠ h + 1; omega)]; exact t.1, ?_⟩
  simp [World.setCell, Array.getElem?_modify, t.2]
theorem Two.put (t : Two w h a b c a' b' c') : Two (((w.setCell ⟨h, 0, none⟩ a').setCell ⟨h, 1, none⟩ b').setCell ⟨h, 2, none⟩ c') h a' b' c' a' b' c' := by
  obtain ⟨t1, t2⟩ := t
  refine ⟨?_, ?_⟩
  · simp [World.setCell, Array.getElem?_modify, t1]
  · rw [Below.heap_setCell _ _ _ _ (by show h + 1 ≠ h; omega), Below.heap_setCell _ _ _ _ (by show h + 1 ≠ h; omega), Below.heap_setCell _ _ _ _ (by show h + 1 ≠ h; omega)]
    exact t2
theorem results_two {tmps : Array Value} {ok : Bool} (t4 : tmps.getD 4 undef = .pointer (some ⟨h, 0, none⟩)) (t5 : tmps.getD 5 undef = .bool ok) (t : Two w h a b c a' b' c') :
    (results Tryd.f16 tmps).run Tryd.prog w = .ok (.tuple #[.agg #[a, b, c], .bool ok]) w := by
  obtain ⟨c0, c1, c2, _⟩ := t.cells
  simp only [Array.getD_eq_getD_getElem?] at t4 t5
  simp [results, Tryd.results16, go_sem, t4, t5, c0, c1, c2]
theorem Two.drew (t : Two w h a b c a' b' c') : Two w.drew h a b c a' b' c' := t
end

theorem pdescribed0 (u : List UInt8) (a : Option Addr) (cap : Nat) (w : World) :
    Calls Tryd.prog 16 #[S u, .slice a 0 cap] w (OptC (Srcp.described u []) w) := by
  go_enter Tryd.func16, Tryd.ntmps16
  go_wp2_with fail
  refine bodyPost_ret (v := .tuple #[CandV ⟨u, 0, []⟩, .bool true]) (by simp [results, Tryd.results16, go_sem]) rfl ⟨⟨u, 0, []⟩, rfl, .inr rfl, ?_⟩
  (repeat (first | (with_reducible exact Below.refl _ _) | (with_reducible assumption) | (with_reducible refine Below.drew ?_) | ((with_reducible refine Below.setCell ?_ ?_ _); rotate_left; (focus (first | omega | (simp; done) | (simp; omega)))) | ((with_reducible refine Below.alloc ?_ ?_ _); rotate_left; (focus (first | omega | (simp; done) | (simp; omega))))))

theorem pdescribed3 (u : List UInt8) (ws : List (List UInt8)) (a : Option Addr) (n cap : Nat) (w : World) (hn : 3 ≤ n) (hm : n ≤ maxLen) (hws : ws.length = n) :
    Calls Tryd.prog 16 #[S u, .slice a n cap] w (OptC (Srcp.described u ws) w) := by
  have HR : Hid (Srcp.described u ws = none) := described_more u ws (by omega)
  have h0 : ((n : Int) == 0) = false := beq_eq_false_iff_ne.2 (by omega)
  have h1 : ((n : Int) == 1) = false := beq_eq_false_iff_ne.2 (by omega)
  have h2 : ((n : Int) == 2) = false := beq_eq_false_iff_ne.2 (by omega)
  clear hws
  go_enter Tryd.func16, Tryd.ntmps16
  go_wp2_with fail
  refine bodyPost_ret (v := .tuple #[CandV ⟨u, 0, []⟩, .bool false]) (by simp [results, Tryd.results16, go_sem]) rfl ⟨⟨u, 0, []⟩, by rw [HR.out]; rfl, .inl HR.out, ?_⟩
  (repeat (first | (with_reducible exact Below.refl _ _) | (with_reducible assumption) | (with_reducible refine Below.drew ?_) | ((with_reducible refine Below.setCell ?_ ?_ _); rotate_left; (focus (first | omega | (simp; done) | (simp; omega)))) | ((with_reducible refine Below.alloc ?_ ?_ _); rotate_left; (focus (first | omega | (simp; done) | (simp; omega))))))

set_option maxHeartbeats 1000000 in
theorem pdescribed1 (u x : List UInt8) (g : Nat) (cap : Nat) (w : World) (hx : x.length ≤ maxLen) (hg : g < w.heap.size) (hc0 : w.cell? ⟨g, 0, none⟩ = some (S x)) :
    Calls Tryd.prog 16 #[S u, .slice (some ⟨g, 0, none⟩) 1 cap] w (OptC (Srcp.described u [x]) w) := by
  obtain ⟨dw, ew⟩ : ∃ d, Lib.trimSuffix x [119] = d := ⟨_, rfl⟩
  obtain ⟨bw, fw⟩ : ∃ b, (Srcp.wh x 119).isSome = b := ⟨_, rfl⟩
  obtain ⟨dx, ex⟩ : ∃ d, Lib.trimSuffix x [120] = d := ⟨_, rfl⟩
  obtain ⟨bx, fx⟩ : ∃ b, Lib.hasSuffix x [120] = b := ⟨_, rfl⟩
  obtain ⟨nx, gx⟩ : ∃ b, Srcp.number dx = b := ⟨_, rfl⟩
  have hdx : dx.length ≤ maxLen := by rw [← ex]; exact Nat.le_trans (Lib.trimSuffix_le _ _) hx
  have HR : Hid (Srcp.described u [x] = if bw then some ⟨u, 119, dw⟩ else if bx && nx then some ⟨u, 120, dx⟩ else none) := by
    unfold Hid
    rw [Srcp.described1]
    have h1 := Srcp.wh_if x 119
    rw [cut_lib] at h1 ⊢
    rw [cut_lib x 120, ew] at *
    rw [ex, fx]
    cases hs : Lib.hasSuffix x [119]
    · rw [hs] at h1
      have hb : bw = false := by rw [← fw, h1]; rfl
      rw [hb]
      cases bx
      · simp
      · simp [gx]
    · rw [hs] at h1
      simp only [if_true, Option.isSome_some, Option.getD_some, Bool.true_and] at h1 ⊢
      cases hw : Srcp.whole dw
      · rw [hw] at h1
        have hb : bw = false := by rw [← fw, h1]; rfl
        rw [hb]
        cases bx
        · simp
        · simp [gx]
      · rw [hw] at h1
        have hb : bw = true := by rw [← fw, h1]; rfl
        rw [hb]; simp
  have EW := hide ew
  have FW := hide fw
  have EX := hide ex
  have FX := hide fx
  have GX := hide gx
  clear ew fw ex fx gx
  go_enter Tryd.func16, Tryd.ntmps16
  go_wp2_with fail
  refine (pwhole x dw 119 bw _ hx EW FW).mono ?_
  rintro e w1 ⟨rfl, hb1⟩
  have t1 := (Two.new w (S []) (.int .u8 0) (S []) (S u) (.int .u8 0) (S [])).below hb1
  have hb1' : Below w.heap.size w w1 := (((Below.refl w.heap.size w).alloc (Nat.le_refl _) _).alloc (by simp) _).trans (hb1.mono (by simp; omega))
  have hcx : w1.cell? ⟨g, 0, none⟩ = some (S x) := (hb1'.cell hg).trans hc0
  obtain ⟨c40, c41, c42, c60, c61, c62⟩ := t1.cells
  obtain ⟨f4, f6⟩ := t1.free
  have hsz := t1.lt
  cases bw
  · have HR2 : Hid (Srcp.described u [x] = if bx && nx then some ⟨u, 120, dx⟩ else none) := HR.out.trans rfl
    clear HR hb1 hc0
    go_wp2_with fail
    refine (cutSuffix' x [120] dx bx _ hx EX FX).mono ?_
    rintro e w' ⟨rfl, rfl⟩
    cases bx
    · have HR3 : Hid (Srcp.described u [x] = none) := HR2.out.trans rfl
      clear HR2
      go_wp2_with fail
      go_region
      all_goals
        go_wp2_with fail
        refine bodyPost_ret (results_two rfl rfl ((((t1.set2 (S dw)).set1 (.int .u8 120)).set2 (S dx)).put.drew)) rfl ⟨⟨u, 120, dx⟩, by rw [HR3.out]; rfl, .inl HR3.out, ?_⟩
        (repeat (first | (with_reducible exact Below.refl _ _) | (with_reducible assumption) | (with_reducible refine Below.drew ?_) | ((with_reducible refine Below.setCell ?_ ?_ _); rotate_left; (focus (first | omega | (simp; done) | (simp; omega)))) | ((with_reducible refine Below.alloc ?_ ?_ _); rotate_left; (focus (first | omega | (simp; done) | (simp; omega))))))
    · have HR3 : Hid (Srcp.described u [x] = if nx then some ⟨u, 120, dx⟩ else none) := HR2.out.trans rfl
      clear HR2
      go_wp2_with fail
      go_region_with (go_at_call 31; refine (pnumber dx nx _ hdx GX).mono ?_; rintro e w2 ⟨rfl, hb2⟩; have t2 := ((((t1.set2 (S dw)).set1 (.int .u8 120)).set2 (S dx)).drew).below hb2; obtain ⟨d40, d41, d42, d60, d61, d62⟩ := t2.cells; obtain ⟨g4, g6⟩ := t2.free)
      all_goals
        go_wp2_with fail
        have hb3 : Below w.heap.size w w2 := ((((hb1'.setCell (p := ⟨w.heap.size + 1, 2, none⟩) (by simp) (S dw)).setCell (p := ⟨w.heap.size + 1, 1, none⟩) (by simp) (.int .u8 120)).setCell (p := ⟨w.heap.size + 1, 2, none⟩) (by simp) (S dx)).drew).trans (hb2.mono (by simp [World.setCell]; omega))
        refine bodyPost_ret (results_two rfl rfl t2.put) rfl ⟨⟨u, 120, dx⟩, by rw [HR3.out]; cases nx <;> rfl, by cases nx; exact .inl (HR3.out.trans rfl); exact .inr (HR3.out.trans rfl), ?_⟩
        (repeat (first | (with_reducible exact Below.refl _ _) | (with_reducible assumption) | (with_reducible refine Below.drew ?_) | ((with_reducible refine Below.setCell ?_ ?_ _); rotate_left; (focus (first | omega | (simp; done) | (simp; omega)))) | ((with_reducible refine Below.alloc ?_ ?_ _); rotate_left; (focus (first | omega | (simp; done) | (simp; omega))))))
  · have HR3 : Hid (Srcp.described u [x] = some ⟨u, 119, dw⟩) := HR.out.trans rfl
    clear HR hb1 hc0
    go_wp2_with fail
    refine bodyPost_ret (results_two rfl rfl (((t1.set2 (S dw)).set1 (.int .u8 119)).put)) rfl ⟨⟨u, 119, dw⟩, by rw [HR3.out]; rfl, .inr HR3.out, ?_⟩
    (repeat (first | (with_reducible exact Below.refl _ _) | (with_reducible assumption) | (with_reducible refine Below.drew ?_) | ((with_reducible refine Below.setCell ?_ ?_ _); rotate_left; (focus (first | omega | (simp; done) | (simp; omega)))) | ((with_reducible refine Below.alloc ?_ ?_ _); rotate_left; (focus (first | omega | (simp; done) | (simp; omega))))))
end Go.Proofs.YtepimjljkkkejaaDoor
