/- Candidates with words: what is described. -/
import Derived.Test.YtepimjljkkkejaaDoorC
namespace Go.Proofs.YtepimjljkkkejaaDoor
open Go.RowKit

abbrev CandV (c : Srcp.Cand) : Value := .agg #[S c.url, B8 c.kind, S c.text]
/-- a candidate, or none, handed back beside a bool -/
def OptC (r : Option Srcp.Cand) (w : World) (e : Ending) (w' : World) : Prop :=
  ∃ c0 : Srcp.Cand, e = .returned (.tuple #[CandV c0, .bool r.isSome]) ∧ (r = none ∨ r = some c0) ∧ Below w.heap.size w w'

theorem r13cut (l d : List UInt8) (c : UInt8) (b : Bool) (w : World) (hs : l.length ≤ maxLen) (hd : Hid ((Srcp.cut l c).getD [] = d)) (hb : Hid ((Srcp.cut l c).isSome = b)) :
    Calls Tryd.prog 33 #[S l, B8 c] w (Ret (.tuple #[S d, .bool b]) w) := by
  cases hc : Srcp.cut l c with
  | none =>
    rw [← hd.out, ← hb.out, hc]
    exact r13cut_no l c w hs hc
  | some e =>
    rw [← hd.out, ← hb.out, hc]
    exact r13cut_yes l e c w hs hc
theorem cut_len (l : List UInt8) (c : UInt8) : ((Srcp.cut l c).getD []).length ≤ l.length := by
  unfold Srcp.cut
  split <;> simp

theorem r13described0 (u : List UInt8) (a : Option Addr) (cap : Nat) (w : World) :
    Calls Tryd.prog 19 #[S u, .slice a 0 cap] w (OptC (Srcp.described u []) w) := by
  go_enter Tryd.func19, Tryd.ntmps19
  go_wp2_with fail
  refine bodyPost_ret (v := .tuple #[CandV ⟨u, 0, []⟩, .bool true]) (by simp [results, Tryd.results19, go_sem]) rfl ⟨⟨u, 0, []⟩, rfl, .inr rfl, ?_⟩
  (repeat (first | (with_reducible exact Below.refl _ _) | (with_reducible assumption) | (with_reducible refine Below.drew ?_) | ((with_reducible refine Below.setCell ?_ ?_ _); rotate_left; (focus (first | omega | (simp; done) | (simp; omega)))) | ((with_reducible refine Below.alloc ?_ ?_ _); rotate_left; (focus (first | omega | (simp; done) | (simp; omega))))))

theorem r13described1 (u x : List UInt8) (g : Nat) (cap : Nat) (w : World) (hx : x.length ≤ maxLen) (hg : g < w.heap.size) (hc0 : w.cell? ⟨g, 0, none⟩ = some (S x)) :
    Calls Tryd.prog 19 #[S u, .slice (some ⟨g, 0, none⟩) 1 cap] w (OptC (Srcp.described u [x]) w) := by
  obtain ⟨dw, ew⟩ : ∃ d, (Srcp.cut x 119).getD [] = d := ⟨_, rfl⟩
  obtain ⟨bw, fw⟩ : ∃ b, (Srcp.cut x 119).isSome = b := ⟨_, rfl⟩
  obtain ⟨dx, ex⟩ : ∃ d, (Srcp.cut x 120).getD [] = d := ⟨_, rfl⟩
  obtain ⟨bx, fx⟩ : ∃ b, (Srcp.cut x 120).isSome = b := ⟨_, rfl⟩
  obtain ⟨nx, gx⟩ : ∃ b, Srcp.number dx = b := ⟨_, rfl⟩
  obtain ⟨hw, gw⟩ : ∃ b, Srcp.whole dw = b := ⟨_, rfl⟩
  have hdw : dw.length ≤ maxLen := by rw [← ew]; exact Nat.le_trans (cut_len _ _) hx
  have hdx : dx.length ≤ maxLen := by rw [← ex]; exact Nat.le_trans (cut_len _ _) hx
  have HR : Hid (Srcp.described u [x] = if bw && hw then some ⟨u, 119, dw⟩ else if bx && nx then some ⟨u, 120, dx⟩ else none) := by
    unfold Hid; rw [Srcp.described1, ew, fw, ex, fx, gx, gw]
  have EW := hide ew
  have FW := hide fw
  have EX := hide ex
  have FX := hide fx
  have GX := hide gx
  have GW := hide gw
  clear ew fw ex fx gx gw
  go_enter Tryd.func19, Tryd.ntmps19
  go_wp2_with fail
  refine (r13cut x dw 119 bw _ hx EW FW).mono ?_
  rintro e w' ⟨rfl, rfl⟩
  go_wp2_with fail
  refine (r13cut x dx 120 bx _ hx EX FX).mono ?_
  rintro e w' ⟨rfl, rfl⟩
  go_wp2_with fail
  refine (r13number dx nx _ hdx GX).mono ?_
  rintro e w' ⟨rfl, rfl⟩
  go_wp2_with fail
  refine (r13whole dw hw _ hdw GW).mono ?_
  rintro e w' ⟨rfl, rfl⟩
  have someX : ∀ {bw hw : Bool}, (bw && hw) = false → Hid (Srcp.described u [x] = if bw && hw then some ⟨u, 119, dw⟩ else if true && true then some ⟨u, 120, dx⟩ else none) → Srcp.described u [x] = some ⟨u, 120, dx⟩ := fun h H => by rw [H.out, h]; rfl
  cases bw
  · cases bx
    · (go_wp2_with fail; refine bodyPost_ret (v := .tuple #[CandV ⟨[], 0, []⟩, .bool false]) (by simp [results, Tryd.results19, go_sem]) rfl ⟨⟨[], 0, []⟩, by rw [HR.out]; rfl, .inl (HR.out.trans rfl), ?_⟩; (repeat (first | (with_reducible exact Below.refl _ _) | (with_reducible assumption) | (with_reducible refine Below.drew ?_) | ((with_reducible refine Below.setCell ?_ ?_ _); rotate_left; (focus (first | omega | (simp; done) | (simp; omega)))) | ((with_reducible refine Below.alloc ?_ ?_ _); rotate_left; (focus (first | omega | (simp; done) | (simp; omega)))))))
    · cases nx
      · (go_wp2_with fail; refine bodyPost_ret (v := .tuple #[CandV ⟨[], 0, []⟩, .bool false]) (by simp [results, Tryd.results19, go_sem]) rfl ⟨⟨[], 0, []⟩, by rw [HR.out]; rfl, .inl (HR.out.trans rfl), ?_⟩; (repeat (first | (with_reducible exact Below.refl _ _) | (with_reducible assumption) | (with_reducible refine Below.drew ?_) | ((with_reducible refine Below.setCell ?_ ?_ _); rotate_left; (focus (first | omega | (simp; done) | (simp; omega)))) | ((with_reducible refine Below.alloc ?_ ?_ _); rotate_left; (focus (first | omega | (simp; done) | (simp; omega)))))))
      · go_wp2_with fail
        refine bodyPost_ret (v := .tuple #[CandV ⟨u, 120, dx⟩, .bool true]) (by simp [results, Tryd.results19, go_sem]) rfl ⟨⟨u, 120, dx⟩, by rw [someX rfl HR]; rfl, .inr (someX rfl HR), ?_⟩
        (repeat (first | (with_reducible exact Below.refl _ _) | (with_reducible assumption) | (with_reducible refine Below.drew ?_) | ((with_reducible refine Below.setCell ?_ ?_ _); rotate_left; (focus (first | omega | (simp; done) | (simp; omega)))) | ((with_reducible refine Below.alloc ?_ ?_ _); rotate_left; (focus (first | omega | (simp; done) | (simp; omega))))))
  · cases hw
    · cases bx
      · (go_wp2_with fail; refine bodyPost_ret (v := .tuple #[CandV ⟨[], 0, []⟩, .bool false]) (by simp [results, Tryd.results19, go_sem]) rfl ⟨⟨[], 0, []⟩, by rw [HR.out]; rfl, .inl (HR.out.trans rfl), ?_⟩; (repeat (first | (with_reducible exact Below.refl _ _) | (with_reducible assumption) | (with_reducible refine Below.drew ?_) | ((with_reducible refine Below.setCell ?_ ?_ _); rotate_left; (focus (first | omega | (simp; done) | (simp; omega)))) | ((with_reducible refine Below.alloc ?_ ?_ _); rotate_left; (focus (first | omega | (simp; done) | (simp; omega)))))))
      · cases nx
        · (go_wp2_with fail; refine bodyPost_ret (v := .tuple #[CandV ⟨[], 0, []⟩, .bool false]) (by simp [results, Tryd.results19, go_sem]) rfl ⟨⟨[], 0, []⟩, by rw [HR.out]; rfl, .inl (HR.out.trans rfl), ?_⟩; (repeat (first | (with_reducible exact Below.refl _ _) | (with_reducible assumption) | (with_reducible refine Below.drew ?_) | ((with_reducible refine Below.setCell ?_ ?_ _); rotate_left; (focus (first | omega | (simp; done) | (simp; omega)))) | ((with_reducible refine Below.alloc ?_ ?_ _); rotate_left; (focus (first | omega | (simp; done) | (simp; omega)))))))
        · go_wp2_with fail
          refine bodyPost_ret (v := .tuple #[CandV ⟨u, 120, dx⟩, .bool true]) (by simp [results, Tryd.results19, go_sem]) rfl ⟨⟨u, 120, dx⟩, by rw [someX rfl HR]; rfl, .inr (someX rfl HR), ?_⟩
          (repeat (first | (with_reducible exact Below.refl _ _) | (with_reducible assumption) | (with_reducible refine Below.drew ?_) | ((with_reducible refine Below.setCell ?_ ?_ _); rotate_left; (focus (first | omega | (simp; done) | (simp; omega)))) | ((with_reducible refine Below.alloc ?_ ?_ _); rotate_left; (focus (first | omega | (simp; done) | (simp; omega))))))
    · have HR2 : Srcp.described u [x] = some ⟨u, 119, dw⟩ := HR.out.trans rfl
      have HR3 := hide HR2
      clear HR2
      go_wp2_with fail
      refine bodyPost_ret (v := .tuple #[CandV ⟨u, 119, dw⟩, .bool true]) (by simp [results, Tryd.results19, go_sem]) rfl ⟨⟨u, 119, dw⟩, by rw [HR3.out]; rfl, .inr HR3.out, ?_⟩
      (repeat (first | (with_reducible exact Below.refl _ _) | (with_reducible assumption) | (with_reducible refine Below.drew ?_) | ((with_reducible refine Below.setCell ?_ ?_ _); rotate_left; (focus (first | omega | (simp; done) | (simp; omega)))) | ((with_reducible refine Below.alloc ?_ ?_ _); rotate_left; (focus (first | omega | (simp; done) | (simp; omega))))))

theorem described_more (u : List UInt8) (ws : List (List UInt8)) (h : 3 ≤ ws.length) : Srcp.described u ws = none := by
  match ws, h with
  | _ :: _ :: _ :: _, _ => rfl

theorem r13described3 (u : List UInt8) (ws : List (List UInt8)) (a : Option Addr) (n cap : Nat) (w : World) (hn : 3 ≤ n) (hm : n ≤ maxLen) (hws : ws.length = n) :
    Calls Tryd.prog 19 #[S u, .slice a n cap] w (OptC (Srcp.described u ws) w) := by
  have HR : Hid (Srcp.described u ws = none) := described_more u ws (by omega)
  have h0 : ((n : Int) == 0) = false := beq_eq_false_iff_ne.2 (by omega)
  have h1 : ((n : Int) == 1) = false := beq_eq_false_iff_ne.2 (by omega)
  have h2 : ((n : Int) == 2) = false := beq_eq_false_iff_ne.2 (by omega)
  clear hws
  go_enter Tryd.func19, Tryd.ntmps19
  (go_wp2_with fail; refine bodyPost_ret (v := .tuple #[CandV ⟨[], 0, []⟩, .bool false]) (by simp [results, Tryd.results19, go_sem]) rfl ⟨⟨[], 0, []⟩, by rw [HR.out]; rfl, .inl (HR.out.trans rfl), ?_⟩; (repeat (first | (with_reducible exact Below.refl _ _) | (with_reducible assumption) | (with_reducible refine Below.drew ?_) | ((with_reducible refine Below.setCell ?_ ?_ _); rotate_left; (focus (first | omega | (simp; done) | (simp; omega)))) | ((with_reducible refine Below.alloc ?_ ?_ _); rotate_left; (focus (first | omega | (simp; done) | (simp; omega)))))))

theorem r13described2 (u x y : List UInt8) (g : Nat) (cap : Nat) (w : World) (hx : x.length ≤ maxLen) (hy : y.length ≤ maxLen) (hg : g < w.heap.size) (hc0 : w.cell? ⟨g, 0, none⟩ = some (S x)) (hc1 : w.cell? ⟨g, 1, none⟩ = some (S y)) :
    Calls Tryd.prog 19 #[S u, .slice (some ⟨g, 0, none⟩) 2 cap] w (OptC (Srcp.described u [x, y]) w) := by
  obtain ⟨d1, e1⟩ : ∃ d, (Srcp.cut x 119).getD [] = d := ⟨_, rfl⟩
  obtain ⟨b1, f1⟩ : ∃ b, (Srcp.cut x 119).isSome = b := ⟨_, rfl⟩
  obtain ⟨w1, g1⟩ : ∃ b, Srcp.whole d1 = b := ⟨_, rfl⟩
  obtain ⟨d2, e2⟩ : ∃ d, (Srcp.cut y 104).getD [] = d := ⟨_, rfl⟩
  obtain ⟨b2, f2⟩ : ∃ b, (Srcp.cut y 104).isSome = b := ⟨_, rfl⟩
  obtain ⟨w2, g2⟩ : ∃ b, Srcp.whole d2 = b := ⟨_, rfl⟩
  obtain ⟨d3, e3⟩ : ∃ d, (Srcp.cut y 119).getD [] = d := ⟨_, rfl⟩
  obtain ⟨b3, f3⟩ : ∃ b, (Srcp.cut y 119).isSome = b := ⟨_, rfl⟩
  obtain ⟨w3, g3⟩ : ∃ b, Srcp.whole d3 = b := ⟨_, rfl⟩
  obtain ⟨d4, e4⟩ : ∃ d, (Srcp.cut x 104).getD [] = d := ⟨_, rfl⟩
  obtain ⟨b4, f4⟩ : ∃ b, (Srcp.cut x 104).isSome = b := ⟨_, rfl⟩
  obtain ⟨w4, g4⟩ : ∃ b, Srcp.whole d4 = b := ⟨_, rfl⟩
  have l1 : d1.length ≤ maxLen := by rw [← e1]; exact Nat.le_trans (cut_len _ _) hx
  have l2 : d2.length ≤ maxLen := by rw [← e2]; exact Nat.le_trans (cut_len _ _) hy
  have l3 : d3.length ≤ maxLen := by rw [← e3]; exact Nat.le_trans (cut_len _ _) hy
  have l4 : d4.length ≤ maxLen := by rw [← e4]; exact Nat.le_trans (cut_len _ _) hx
  have HR : Hid (Srcp.described u [x, y] = if (b1 && w1) && (b2 && w2) then some ⟨u, 119, d1⟩ else if (b3 && w3) && (b4 && w4) then some ⟨u, 119, d3⟩ else none) := by
    unfold Hid; rw [Srcp.described2, e1, f1, g1, e2, f2, g2, e3, f3, g3, e4, f4, g4]
  have E1 := hide e1
  have F1 := hide f1
  have G1 := hide g1
  have E2 := hide e2
  have F2 := hide f2
  have G2 := hide g2
  have E3 := hide e3
  have F3 := hide f3
  have G3 := hide g3
  have E4 := hide e4
  have F4 := hide f4
  have G4 := hide g4
  clear e1 f1 g1 e2 f2 g2 e3 f3 g3 e4 f4 g4
  go_enter Tryd.func19, Tryd.ntmps19
  go_wp2_with fail
  go_loopg [13] 2 (fun g s13 wx => ∃ i : Nat, i + g = 2 ∧ s13 = .int .i64 i ∧ wx = (w.alloc (.cells #[S [], .int .u8 0, S []] 26)).alloc (.cells #[S u, .int .u8 0, S []] 26) ∧ (1 ≤ i → ((b1 && w1) && (b2 && w2)) = false) ∧ (2 ≤ i → ((b3 && w3) && (b4 && w4)) = false))
  case atStart => exact ⟨0, rfl, rfl, rfl, fun h => absurd h (by omega), fun h => absurd h (by omega)⟩
  case round =>
    obtain ⟨i, hi, rfl, rfl, h1, h2⟩ := hrel
    obtain rfl | rfl | rfl : i = 0 ∨ i = 1 ∨ i = 2 := by omega
    · clear h1 h2
      go_wp2_with fail
      refine (r13cut x d1 119 b1 _ hx E1 F1).mono ?_
      rintro e w' ⟨rfl, rfl⟩
      go_wp2_with fail
      refine (r13cut y d2 104 b2 _ hy E2 F2).mono ?_
      rintro e w' ⟨rfl, rfl⟩
      go_wp2_with fail
      refine (r13whole d1 w1 _ l1 G1).mono ?_
      rintro e w' ⟨rfl, rfl⟩
      go_wp2_with fail
      refine (r13whole d2 w2 _ l2 G2).mono ?_
      rintro e w' ⟨rfl, rfl⟩
      cases b1
      · (go_wp2_with fail; go_roundg (gk - 1); (case measure => omega); (case rel => exact ⟨1, by omega, by go_num, rfl, fun _ => by simp, fun h => absurd h (by omega)⟩))
      · cases b2
        · (go_wp2_with fail; go_roundg (gk - 1); (case measure => omega); (case rel => exact ⟨1, by omega, by go_num, rfl, fun _ => by simp, fun h => absurd h (by omega)⟩))
        · cases w1
          · (go_wp2_with fail; go_roundg (gk - 1); (case measure => omega); (case rel => exact ⟨1, by omega, by go_num, rfl, fun _ => by simp, fun h => absurd h (by omega)⟩))
          · cases w2
            · (go_wp2_with fail; go_roundg (gk - 1); (case measure => omega); (case rel => exact ⟨1, by omega, by go_num, rfl, fun _ => by simp, fun h => absurd h (by omega)⟩))
            · have HR3 : Hid (Srcp.described u [x, y] = some ⟨u, 119, d1⟩) := HR.out.trans rfl
              clear HR
              go_wp2_with fail
              refine bodyPost_ret (v := .tuple #[CandV ⟨u, 119, d1⟩, .bool true]) (by simp [results, Tryd.results19, go_sem]) rfl ⟨⟨u, 119, d1⟩, by rw [HR3.out]; rfl, .inr HR3.out, ?_⟩
              (repeat (first | (with_reducible exact Below.refl _ _) | (with_reducible assumption) | (with_reducible refine Below.drew ?_) | ((with_reducible refine Below.setCell ?_ ?_ _); rotate_left; (focus (first | omega | (simp; done) | (simp; omega)))) | ((with_reducible refine Below.alloc ?_ ?_ _); rotate_left; (focus (first | omega | (simp; done) | (simp; omega))))))
    · have h1' := h1 (by omega)
      clear h1 h2
      have h1 := hide h1'
      clear h1'
      go_wp2_with fail
      refine (r13cut y d3 119 b3 _ hy E3 F3).mono ?_
      rintro e w' ⟨rfl, rfl⟩
      go_wp2_with fail
      refine (r13cut x d4 104 b4 _ hx E4 F4).mono ?_
      rintro e w' ⟨rfl, rfl⟩
      go_wp2_with fail
      refine (r13whole d3 w3 _ l3 G3).mono ?_
      rintro e w' ⟨rfl, rfl⟩
      go_wp2_with fail
      refine (r13whole d4 w4 _ l4 G4).mono ?_
      rintro e w' ⟨rfl, rfl⟩
      cases b3
      · (go_wp2_with fail; go_roundg (gk - 1); (case measure => omega); (case rel => exact ⟨2, by omega, by go_num, rfl, fun _ => h1.out, fun _ => by simp⟩))
      · cases b4
        · (go_wp2_with fail; go_roundg (gk - 1); (case measure => omega); (case rel => exact ⟨2, by omega, by go_num, rfl, fun _ => h1.out, fun _ => by simp⟩))
        · cases w3
          · (go_wp2_with fail; go_roundg (gk - 1); (case measure => omega); (case rel => exact ⟨2, by omega, by go_num, rfl, fun _ => h1.out, fun _ => by simp⟩))
          · cases w4
            · (go_wp2_with fail; go_roundg (gk - 1); (case measure => omega); (case rel => exact ⟨2, by omega, by go_num, rfl, fun _ => h1.out, fun _ => by simp⟩))
            · have HR3 : Hid (Srcp.described u [x, y] = some ⟨u, 119, d3⟩) := by unfold Hid; rw [HR.out, h1.out]; rfl
              clear HR h1
              go_wp2_with fail
              refine bodyPost_ret (v := .tuple #[CandV ⟨u, 119, d3⟩, .bool true]) (by simp [results, Tryd.results19, go_sem]) rfl ⟨⟨u, 119, d3⟩, by rw [HR3.out]; rfl, .inr HR3.out, ?_⟩
              (repeat (first | (with_reducible exact Below.refl _ _) | (with_reducible assumption) | (with_reducible refine Below.drew ?_) | ((with_reducible refine Below.setCell ?_ ?_ _); rotate_left; (focus (first | omega | (simp; done) | (simp; omega)))) | ((with_reducible refine Below.alloc ?_ ?_ _); rotate_left; (focus (first | omega | (simp; done) | (simp; omega))))))
    · have HR3 : Hid (Srcp.described u [x, y] = none) := by unfold Hid; rw [HR.out, h1 (by omega), h2 (by omega)]; rfl
      clear HR h1 h2
      have HR := HR3
      (go_wp2_with fail; refine bodyPost_ret (v := .tuple #[CandV ⟨[], 0, []⟩, .bool false]) (by simp [results, Tryd.results19, go_sem]) rfl ⟨⟨[], 0, []⟩, by rw [HR.out]; rfl, .inl (HR.out.trans rfl), ?_⟩; (repeat (first | (with_reducible exact Below.refl _ _) | (with_reducible assumption) | (with_reducible refine Below.drew ?_) | ((with_reducible refine Below.setCell ?_ ?_ _); rotate_left; (focus (first | omega | (simp; done) | (simp; omega)))) | ((with_reducible refine Below.alloc ?_ ?_ _); rotate_left; (focus (first | omega | (simp; done) | (simp; omega)))))))

/-- what is described by owned words -/
theorem r13described (u : List UInt8) (ws : List (List UInt8)) (base : Nat) (v : Value) (w : World) (hown : w.ownsRow base 9 1 v ws.length (ws.map S)) (hl : ∀ x ∈ ws, x.length ≤ maxLen) :
    Calls Tryd.prog 19 #[S u, v] w (OptC (Srcp.described u ws) w) := by
  rcases hown.2 with ⟨rfl, h0⟩ | ⟨g, cap, cur, rfl, hb, hh, hn, hcap, hsz, htake⟩
  · have : ws = [] := List.eq_nil_of_length_eq_zero h0
    subst this
    exact r13described0 u none 0 w
  · have hg : g < w.heap.size := (hown.lt g rfl).2
    have hc : ∀ j x, ws[j]? = some x → w.cell? ⟨g, j, none⟩ = some (S x) := fun j x hj => by
      have hj' : j < ws.length := by
        rcases Nat.lt_or_ge j ws.length with h | h
        · exact h
        · rw [List.getElem?_eq_none h] at hj; cases hj
      rw [hown.cellAt j (by omega), List.getElem?_map, hj]; rfl
    match ws, hl, hc, hn with
    | [], _, _, _ => exact r13described0 u _ cap w
    | [x], hl, hc, _ => exact r13described1 u x g cap w (hl x (by simp)) hg (hc 0 x rfl)
    | [x, y], hl, hc, _ => exact r13described2 u x y g cap w (hl x (by simp)) (hl y (by simp)) hg (hc 0 x rfl) (hc 1 y rfl)
    | x :: y :: z :: l, _, _, hn => exact r13described3 u (x :: y :: z :: l) _ _ cap w (by simp) (Nat.le_trans hn hcap) rfl
end Go.Proofs.YtepimjljkkkejaaDoor
