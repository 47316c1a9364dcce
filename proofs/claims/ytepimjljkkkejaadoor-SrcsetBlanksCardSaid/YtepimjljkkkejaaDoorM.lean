/- What is described by two words, by the program; and by any. -/
import Derived.Test.YtepimjljkkkejaaDoorL
namespace Go.Proofs.YtepimjljkkkejaaDoor
open Go.RowKit

theorem wh_some (x : List UInt8) (c : UInt8) : (Srcp.wh x c).isSome = ((Srcp.cut x c).isSome && Srcp.whole ((Srcp.cut x c).getD [])) := by
  rw [Srcp.wh_if]
  cases (Srcp.cut x c).isSome && Srcp.whole ((Srcp.cut x c).getD []) <;> rfl
theorem wh_text (x : List UInt8) (c : UInt8) (h : (Srcp.wh x c).isSome = true) : (Srcp.cut x c).getD [] = Lib.trimSuffix x [c] := by
  rw [wh_some, Bool.and_eq_true] at h
  have h1 := h.1
  rw [cut_lib] at h1 ⊢
  cases hs : Lib.hasSuffix x [c]
  · rw [hs] at h1; cases h1
  · rfl
theorem described2' (u x y : List UInt8) : Srcp.described u [x, y] =
    if (Srcp.wh x 119).isSome && (Srcp.wh y 104).isSome then some ⟨u, 119, Lib.trimSuffix x [119]⟩
    else if (Srcp.wh y 119).isSome && (Srcp.wh x 104).isSome then some ⟨u, 119, Lib.trimSuffix y [119]⟩ else none := by
  rw [Srcp.described2, ← wh_some, ← wh_some, ← wh_some, ← wh_some]
  cases h1 : (Srcp.wh x 119).isSome
  · cases h3 : (Srcp.wh y 119).isSome
    · rfl
    · rw [wh_text y 119 h3]; rfl
  · rw [wh_text x 119 h1]
    cases h3 : (Srcp.wh y 119).isSome
    · rfl
    · rw [wh_text y 119 h3]

set_option maxHeartbeats 4000000 in
theorem pdescribed2 (u x y : List UInt8) (g : Nat) (cap : Nat) (w : World) (hx : x.length ≤ maxLen) (hy : y.length ≤ maxLen) (hg : g < w.heap.size) (hc0 : w.cell? ⟨g, 0, none⟩ = some (S x)) (hc1 : w.cell? ⟨g, 1, none⟩ = some (S y)) :
    Calls Tryd.prog 16 #[S u, .slice (some ⟨g, 0, none⟩) 2 cap] w (OptC (Srcp.described u [x, y]) w) := by
  obtain ⟨d1, e1⟩ : ∃ d, Lib.trimSuffix x [119] = d := ⟨_, rfl⟩
  obtain ⟨b1, f1⟩ : ∃ b, (Srcp.wh x 119).isSome = b := ⟨_, rfl⟩
  obtain ⟨d2, e2⟩ : ∃ d, Lib.trimSuffix y [104] = d := ⟨_, rfl⟩
  obtain ⟨b2, f2⟩ : ∃ b, (Srcp.wh y 104).isSome = b := ⟨_, rfl⟩
  obtain ⟨d3, e3⟩ : ∃ d, Lib.trimSuffix y [119] = d := ⟨_, rfl⟩
  obtain ⟨b3, f3⟩ : ∃ b, (Srcp.wh y 119).isSome = b := ⟨_, rfl⟩
  obtain ⟨d4, e4⟩ : ∃ d, Lib.trimSuffix x [104] = d := ⟨_, rfl⟩
  obtain ⟨b4, f4⟩ : ∃ b, (Srcp.wh x 104).isSome = b := ⟨_, rfl⟩
  have HR : Hid (Srcp.described u [x, y] = if b1 && b2 then some ⟨u, 119, d1⟩ else if b3 && b4 then some ⟨u, 119, d3⟩ else none) := by
    unfold Hid; rw [described2', e1, f1, f2, e3, f3, f4]
  have E1 := hide e1
  have F1 := hide f1
  have E2 := hide e2
  have F2 := hide f2
  have E3 := hide e3
  have F3 := hide f3
  have E4 := hide e4
  have F4 := hide f4
  clear e1 f1 e2 f2 e3 f3 e4 f4
  have t0 := Two.new w (S []) (.int .u8 0) (S []) (S u) (.int .u8 0) (S [])
  have hb0 : Below w.heap.size w ((w.alloc (.cells #[S [], .int .u8 0, S []] 26)).alloc (.cells #[S u, .int .u8 0, S []] 26)) := ((Below.refl _ _).alloc (Nat.le_refl _) _).alloc (by simp) _
  go_enter Tryd.func16, Tryd.ntmps16
  go_wp2_with fail
  go_loopg [52] 2 (fun g' s52 wx => ∃ (i : Nat) (t : List UInt8), i + g' = 2 ∧ s52 = .int .i64 i ∧ Two wx w.heap.size (S []) (.int .u8 0) (S []) (S u) (.int .u8 0) (S t) ∧ Below w.heap.size w wx ∧ (1 ≤ i → (b1 && b2) = false) ∧ (2 ≤ i → (b3 && b4) = false))
  case atStart => exact ⟨0, [], rfl, rfl, t0, hb0, fun h => absurd h (by omega), fun h => absurd h (by omega)⟩
  case round =>
    obtain ⟨i, t, hi, rfl, ht, hb, h1, h2⟩ := hrel
    have hd0 : wr.cell? ⟨g, 0, none⟩ = some (S x) := (hb.cell hg).trans hc0
    have hd1 : wr.cell? ⟨g, 1, none⟩ = some (S y) := (hb.cell hg).trans hc1
    have hsz := ht.lt
    clear t0 hb0 hc0 hc1
    obtain rfl | rfl | rfl : i = 0 ∨ i = 1 ∨ i = 2 := by omega
    · clear h1 h2
      go_wp2_with fail
      refine (pwhole y d2 104 b2 _ hy E2 F2).mono ?_
      rintro e w1 ⟨rfl, hb1⟩
      have ht1 := ht.below hb1
      go_wp2_with fail
      refine (pwhole x d1 119 b1 _ hx E1 F1).mono ?_
      rintro e w2 ⟨rfl, hb2⟩
      have ht2 := ht1.below hb2
      have hb3 : Below w.heap.size w w2 := (hb.trans (hb1.mono (by omega))).trans (hb2.mono (by have := ht1.lt; omega))
      obtain ⟨c40, c41, c42, c60, c61, c62⟩ := ht2.cells
      obtain ⟨g4, g6⟩ := ht2.free
      have hsz2 := ht2.lt
      clear hd0 hd1 hb hb1 hb2
      cases b1
      · go_wp2_with fail
        go_roundg (gk - 1)
        case measure => omega
        case rel => exact ⟨1, d1, by omega, by go_num, ht2.set2 (S d1), hb3.setCell (p := ⟨w.heap.size + 1, 2, none⟩) (by simp) _, fun _ => rfl, fun h => absurd h (by omega)⟩
      · cases b2
        · go_wp2_with fail
          go_roundg (gk - 1)
          case measure => omega
          case rel => exact ⟨1, d1, by omega, by go_num, ht2.set2 (S d1), hb3.setCell (p := ⟨w.heap.size + 1, 2, none⟩) (by simp) _, fun _ => rfl, fun h => absurd h (by omega)⟩
        · have HR3 : Hid (Srcp.described u [x, y] = some ⟨u, 119, d1⟩) := HR.out.trans rfl
          clear HR
          go_wp2_with fail
          refine bodyPost_ret (results_two rfl rfl ((ht2.set2 (S d1)).set1 (.int .u8 119)).put) rfl ⟨⟨u, 119, d1⟩, by rw [HR3.out]; rfl, .inr HR3.out, ?_⟩
          (repeat (first | (with_reducible exact Below.refl _ _) | (with_reducible assumption) | (with_reducible refine Below.drew ?_) | ((with_reducible refine Below.setCell ?_ ?_ _); rotate_left; (focus (first | omega | (simp; done) | (simp; omega)))) | ((with_reducible refine Below.alloc ?_ ?_ _); rotate_left; (focus (first | omega | (simp; done) | (simp; omega))))))
    · have h1' := hide (h1 (by omega))
      clear h1 h2
      go_wp2_with fail
      refine (pwhole x d4 104 b4 _ hx E4 F4).mono ?_
      rintro e w1 ⟨rfl, hb1⟩
      have ht1 := ht.below hb1
      go_wp2_with fail
      refine (pwhole y d3 119 b3 _ hy E3 F3).mono ?_
      rintro e w2 ⟨rfl, hb2⟩
      have ht2 := ht1.below hb2
      have hb3 : Below w.heap.size w w2 := (hb.trans (hb1.mono (by omega))).trans (hb2.mono (by have := ht1.lt; omega))
      obtain ⟨c40, c41, c42, c60, c61, c62⟩ := ht2.cells
      obtain ⟨g4, g6⟩ := ht2.free
      have hsz2 := ht2.lt
      clear hd0 hd1 hb hb1 hb2
      cases b3
      · go_wp2_with fail
        go_roundg (gk - 1)
        case measure => omega
        case rel => exact ⟨2, d3, by omega, by go_num, ht2.set2 (S d3), hb3.setCell (p := ⟨w.heap.size + 1, 2, none⟩) (by simp) _, fun _ => h1'.out, fun _ => rfl⟩
      · cases b4
        · go_wp2_with fail
          go_roundg (gk - 1)
          case measure => omega
          case rel => exact ⟨2, d3, by omega, by go_num, ht2.set2 (S d3), hb3.setCell (p := ⟨w.heap.size + 1, 2, none⟩) (by simp) _, fun _ => h1'.out, fun _ => rfl⟩
        · have HR3 : Hid (Srcp.described u [x, y] = some ⟨u, 119, d3⟩) := by unfold Hid; rw [HR.out, h1'.out]; rfl
          clear HR
          go_wp2_with fail
          refine bodyPost_ret (results_two rfl rfl ((ht2.set2 (S d3)).set1 (.int .u8 119)).put) rfl ⟨⟨u, 119, d3⟩, by rw [HR3.out]; rfl, .inr HR3.out, ?_⟩
          (repeat (first | (with_reducible exact Below.refl _ _) | (with_reducible assumption) | (with_reducible refine Below.drew ?_) | ((with_reducible refine Below.setCell ?_ ?_ _); rotate_left; (focus (first | omega | (simp; done) | (simp; omega)))) | ((with_reducible refine Below.alloc ?_ ?_ _); rotate_left; (focus (first | omega | (simp; done) | (simp; omega))))))
    · have HR3 : Hid (Srcp.described u [x, y] = none) := by unfold Hid; rw [HR.out, h1 (by omega), h2 (by omega)]; rfl
      obtain ⟨c40, c41, c42, c60, c61, c62⟩ := ht.cells
      obtain ⟨g4, g6⟩ := ht.free
      clear HR h1 h2 hd0 hd1
      go_wp2_with fail
      refine bodyPost_ret (results_two rfl rfl ht.put) rfl ⟨⟨u, 0, t⟩, by rw [HR3.out]; rfl, .inl HR3.out, ?_⟩
      (repeat (first | (with_reducible exact Below.refl _ _) | (with_reducible assumption) | (with_reducible refine Below.drew ?_) | ((with_reducible refine Below.setCell ?_ ?_ _); rotate_left; (focus (first | omega | (simp; done) | (simp; omega)))) | ((with_reducible refine Below.alloc ?_ ?_ _); rotate_left; (focus (first | omega | (simp; done) | (simp; omega))))))

/-- what is described by owned words -/
theorem pdescribed (u : List UInt8) (ws : List (List UInt8)) (base : Nat) (v : Value) (w : World) (hown : w.ownsRow base 9 1 v ws.length (ws.map S)) (hl : ∀ x ∈ ws, x.length ≤ maxLen) :
    Calls Tryd.prog 16 #[S u, v] w (OptC (Srcp.described u ws) w) := by
  rcases hown.2 with ⟨rfl, h0⟩ | ⟨g, cap, cur, rfl, hb, hh, hn, hcap, hsz, htake⟩
  · have : ws = [] := List.eq_nil_of_length_eq_zero h0
    subst this
    exact pdescribed0 u none 0 w
  · have hg : g < w.heap.size := (hown.lt g rfl).2
    have hc : ∀ j x, ws[j]? = some x → w.cell? ⟨g, j, none⟩ = some (S x) := fun j x hj => by
      have hj' : j < ws.length := by
        rcases Nat.lt_or_ge j ws.length with h | h
        · exact h
        · rw [List.getElem?_eq_none h] at hj; cases hj
      rw [hown.cellAt j (by omega), List.getElem?_map, hj]; rfl
    match ws, hl, hc, hn with
    | [], _, _, _ => exact pdescribed0 u _ cap w
    | [x], hl, hc, _ => exact pdescribed1 u x g cap w (hl x (by simp)) hg (hc 0 x rfl)
    | [x, y], hl, hc, _ => exact pdescribed2 u x y g cap w (hl x (by simp)) (hl y (by simp)) hg (hc 0 x rfl) (hc 1 y rfl)
    | x :: y :: z :: l, _, _, hn => exact pdescribed3 u (x :: y :: z :: l) _ _ cap w (by simp) (Nat.le_trans hn hcap) rfl
end Go.Proofs.YtepimjljkkkejaaDoor
