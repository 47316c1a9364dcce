/- The law SrcsetParses. -/
import Derived.Test.YtepimjljkkkejaaDoorU
namespace Go.Proofs.YtepimjljkkkejaaDoor
open Go.RowKit

/-- a slice's cells of the call's own, free to be written -/
def Wr (B : Nat) (a : Option Addr) (m : Nat) (wx : World) : Prop :=
  m = 0 ∨ ∃ g, a = some ⟨g, 0, none⟩ ∧ B ≤ g ∧ ∀ j, j < m → (∃ v, wx.cell? ⟨g, j, none⟩ = some v) ∧ wx.frozen? ⟨g, j, none⟩ = false
theorem Wr.of_own {w : World} {B : Nat} {a : Option Addr} {c : Nat} {l : List Srcp.Cand} (h : w.ownsRow B 26 3 (.slice a l.length c) l.length (candCells l)) : Wr B a (l.length * 3) w := by
  have hlen : (candCells l).length = l.length * 3 := by
    clear h
    induction l with
    | nil => rfl
    | cons x l ih => simp only [candCells, List.flatMap_cons, List.length_append, List.length_cons, List.length_nil] at ih ⊢; omega
  rcases h.2 with ⟨_, h0⟩ | ⟨g, cap, cur, hv, hb, hh, hn, hcap, hsz, htake⟩
  · left; omega
  · right
    injection hv with h1 h2 h3
    refine ⟨g, h1, hb, fun j hj => ⟨?_, ?_⟩⟩
    · subst h1
      have := h.cellAt j (by omega)
      rw [this]
      exact ⟨_, List.getElem?_eq_getElem (by omega)⟩
    · unfold World.frozen?
      rw [hh]
      show (decide (0 ≤ j) && decide (j < 0)) = false
      simp
theorem cell_set {w : World} {a b : Addr} {v : Value} (h : ∃ u, w.cell? b = some u) : ∃ u, (w.setCell a v).cell? b = some u := by
  obtain ⟨u, hu⟩ := h
  by_cases e : a = b
  · subst e; exact ⟨v, World.cell?_setCell_same _ _ _ hu⟩
  · exact ⟨u, (World.cell?_setCell_other _ _ _ _ e).trans hu⟩
theorem Wr.set {w : World} {B : Nat} {a : Option Addr} {m : Nat} {p : Addr} {v : Value} (h : Wr B a m w) : Wr B a m (w.setCell p v) := by
  rcases h with h | ⟨g', h1, h2, h3⟩
  · exact .inl h
  · exact .inr ⟨g', h1, h2, fun j hj => ⟨cell_set (h3 j hj).1, by rw [World.frozen?_setCell]; exact (h3 j hj).2⟩⟩

set_option maxHeartbeats 2000000 in
theorem law_parses (s : List UInt8) (v : Value) (l : List Srcp.Cand) (w : World) (hs : s.length ≤ 9223372036854775807) (hl : l.length ≤ 9223372036854775807) (hr : RC w v l) (hL : (Srcp.show_ l).length ≤ 140737488355328) :
    Calls Tryd.prog 3 #[S s, v] w (Fresh (.bool true) w) := by
  obtain ⟨al, cl, rfl⟩ := hr.length
  go_enter Tryd.func3, Tryd.ntmps3
  go_wp2_with fail
  refine (works _).mono ?_
  rintro e w1 ⟨rfl, hb1⟩
  replace hr := hr.below hb1
  by_cases hlen : 8192 < s.length
  · go_wp2_with fail
    go_ret
    exact ⟨rfl, hb1⟩
  by_cases hlen2 : 8192 < l.length
  · go_wp2_with fail
    go_ret
    exact ⟨rfl, hb1⟩
  obtain ⟨R, hR⟩ : ∃ R, Srcp.parse s = R := ⟨_, rfl⟩
  have hwt := (Srcp.parse_wt s).2
  rw [hR] at hwt
  have HR : Hid (Srcp.parse s = R) := hR
  have hRl : R.length ≤ 8192 := by omega
  clear hR hwt
  go_wp2_with fail
  refine (pParse s R _ (by omega) HR).mono ?_
  rintro e w2 ⟨v2, rfl, own2, hb2⟩
  have r2 := RC.of_own own2
  clear own2
  replace hr := hr.below hb2
  replace hb2 := hb1.trans (hb2.mono hb1.size)
  clear hb1
  go_wp2_with fail
  refine (pParse s R _ (by omega) HR).mono ?_
  rintro e w3 ⟨v3, rfl, own3, hb3⟩
  obtain ⟨a3, c3, rfl⟩ := (RC.of_own own3).length
  have wr3 := Wr.of_own own3
  clear own3
  go_wp2_with fail
  go_loopg [8] R.length (fun g s8 wx => ∃ i : Nat, i + g = R.length ∧ s8 = .int .i64 i ∧ Wr w2.heap.size a3 (R.length * 3) wx ∧ Below w2.heap.size w2 wx)
  case atStart => exact ⟨0, by omega, rfl, wr3, hb3⟩
  case round =>
    obtain ⟨i, hi, rfl, hwr, hbl⟩ := hrel
    by_cases hlt : i < R.length
    · rcases hwr with h0 | ⟨g, rfl, hg, hc⟩
      · omega
      · have hwr : Wr w2.heap.size (some ⟨g, 0, none⟩) (R.length * 3) wr := .inr ⟨g, rfl, hg, hc⟩
        obtain ⟨⟨u0, h0⟩, f0⟩ := hc (i * 3) (by omega)
        obtain ⟨⟨u1, h1⟩, f1⟩ := hc (i * 3 + 1) (by omega)
        obtain ⟨⟨u2, h2⟩, f2⟩ := hc (i * 3 + 2) (by omega)
        clear hc hr r2 wr3 HR
        go_wp2_with fail
        go_roundg (gk - 1)
        case measure => omega
        case rel => exact ⟨i + 1, by omega, by go_num, hwr.set.set.set, ((hbl.setCell hg _).setCell hg _).setCell hg _⟩
    · clear hwr wr3 hb3
      replace r2 := r2.below hbl
      replace hr := hr.below hbl
      replace hbl := hb2.trans (hbl.mono hb2.size)
      clear hb2
      go_wp2_with fail
      refine (r13Parse s R _ (by omega) HR).mono ?_
      rintro e w4 ⟨v4, rfl, own4, hb4⟩
      have r4 := RC.of_own own4
      clear own4
      replace r2 := r2.below hb4
      replace hr := hr.below hb4
      replace hb4 := hbl.trans (hb4.mono hbl.size)
      clear hbl
      go_wp2_with fail
      refine (same_any v2 v4 R R _ r2 r4 (by unfold maxLen; omega) (by unfold maxLen; omega)).mono ?_
      rintro e w5 ⟨rfl, n5, rfl⟩
      rw [decide_eq_true rfl]
      replace hr := hr.drewN n5
      replace hb4 := Below.drewN hb4 n5
      clear r2 r4
      go_wp2_with fail
      refine (pShow _ l _ hr (by omega) hL).mono ?_
      rintro e w6 ⟨rfl, hb6⟩
      replace hr := hr.below hb6
      replace hb6 := hb4.trans (hb6.mono hb4.size)
      clear hb4
      go_wp2_with fail
      refine (rShow _ l _ hr (by omega) hL).mono ?_
      rintro e w7 ⟨rfl, hb7⟩
      replace hb7 := hb6.trans (hb7.mono hb6.size)
      clear hb6 hr
      go_wp2_with fail
      go_ret
      exact ⟨rfl, hb7⟩
end Go.Proofs.YtepimjljkkkejaaDoor
