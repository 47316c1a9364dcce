/- A candidate's URL taken off the reader; what is described, by the program. -/
import Derived.Test.YtepimjljkkkejaaDoorJ
namespace Go.Proofs.YtepimjljkkkejaaDoor
open Go.RowKit

abbrev BLK : List UInt8 := [9, 10, 12, 13, 32]
theorem blk_contains (c : UInt8) : BLK.contains c = Srcp.sp c := by
  have all : ∀ n : Fin 256, BLK.contains (UInt8.ofNat n.val) = Srcp.sp (UInt8.ofNat n.val) := by decide +kernel
  have e : UInt8.ofNat c.toNat = c := by simp
  have := all ⟨c.toNat, c.toNat_lt⟩
  simpa only [e] using this
theorem indexAny_blk : ∀ l : List UInt8, (Lib.indexAny l BLK = -1 ∧ l.takeWhile (fun c => !Srcp.sp c) = l ∧ l.dropWhile (fun c => !Srcp.sp c) = []) ∨
    (∃ k : Nat, Lib.indexAny l BLK = k ∧ k ≤ l.length ∧ l.takeWhile (fun c => !Srcp.sp c) = l.take k ∧ l.dropWhile (fun c => !Srcp.sp c) = l.drop k)
  | [] => .inl ⟨rfl, rfl, rfl⟩
  | c :: l => by
    unfold Lib.indexAny
    rw [blk_contains]
    cases hc : Srcp.sp c
    · rw [List.takeWhile_cons_of_pos (by simp [hc]), List.dropWhile_cons_of_pos (by simp [hc])]
      rcases indexAny_blk l with ⟨h1, h2, h3⟩ | ⟨k, h1, h2, h3, h4⟩
      · exact .inl ⟨by rw [h1]; rfl, by rw [h2], h3⟩
      · refine .inr ⟨k + 1, ?_, by simp only [List.length_cons]; omega, by rw [h3]; rfl, by rw [h4]; rfl⟩
        rw [h1, if_neg (by decide), if_neg (by rw [beq_iff_eq]; omega)]
        push_cast; rfl
    · exact .inr ⟨0, by rw [if_pos rfl]; rfl, by simp, by rw [List.takeWhile_cons_of_neg (by simp [hc])]; rfl, by rw [List.dropWhile_cons_of_neg (by simp [hc])]; rfl⟩
theorem trimC_lib (u : List UInt8) : Lib.trimRightS u [44] = Srcp.trimC u := by
  unfold Lib.trimRightS Srcp.trimC
  rw [show (fun x => [(44 : UInt8)].contains x) = (fun x => x == 44) from funext fun x => Lib.contains_one 44 x]

theorem Rd.below {B b : Nat} {s : List UInt8} {ws : List (List UInt8)} {bs : List UInt8} {w w' : World} (h : Rd B b s ws bs w) (hb : Below w.heap.size w w') : Rd B b s ws bs w' := by
  obtain ⟨p, hp, hB, vw, vb, hbk, how, hob⟩ := h
  exact ⟨p, hp, hB, vw, vb, (hb.block b (heap_lt hbk)).trans hbk, ownsRow_below how hb, ownsRow_below hob hb⟩

set_option maxHeartbeats 1000000 in
set_option maxRecDepth 100000 in
theorem url_any (B b : Nat) (l : List UInt8) (ws : List (List UInt8)) (u r c : List UInt8) (w : World) (h : Rd B b l ws [] w) (hl : l.length ≤ 1048576)
    (hu : Hid (l.takeWhile (fun c => !Srcp.sp c) = u)) (hr : Hid (l.dropWhile (fun c => !Srcp.sp c) = r)) (hc : Hid (Srcp.trimC u = c)) :
    Calls Tryd.prog 14 #[.pointer (some ⟨b, 0, none⟩)] w fun e w' => e = .returned (.tuple #[S c, .bool (c == u)]) ∧ Rd B b r ws [] w' ∧ Keep B w w' := by
  have c0 := h.cell0.1
  have hB := h.cell0.2.2.2.2
  have hlt := h.cell0.2.2.2.1
  have hx := indexAny l BLK w (by decide) (by omega) (by decide) (by decide)
  have HX := hide hx
  clear hx
  have HT : Hid (Lib.trimRightS u [44] = c) := by unfold Hid; rw [trimC_lib]; exact hc.out
  rcases indexAny_blk l with ⟨h1, h2, h3⟩ | ⟨k, h1, h2, h3, h4⟩
  · rw [h1] at HX
    have e1 : u = l := by rw [← hu.out, h2]
    have e2 : r = [] := by rw [← hr.out, h3]
    subst e1; subst e2
    clear h1 h2 h3 hu hr
    go_enter Tryd.func14, Tryd.ntmps14
    go_wp2_with fail
    refine (Hid.out HX).mono ?_
    rintro e w1 ⟨rfl, hb1⟩
    have h1 := h.below hb1
    obtain ⟨d0, g0, g1, hlt1, _⟩ := h1.cell0
    obtain ⟨h5, hk5⟩ := h1.setText []
    have d1 := h5.cell0.1
    go_wp2_with fail
    refine (trimRight' u [44] c _ (by unfold maxLen; omega) (by decide) (by decide) HT).mono ?_
    rintro e w2 ⟨rfl, hb2⟩
    go_wp2_with fail
    go_ret2
    exact ⟨rfl, h5.below hb2, ((Keep.of_below (by omega) hb1).trans hk5).trans (Keep.of_below (by simp [World.setCell]; omega) hb2)⟩
  · rw [h1] at HX
    have e1 : u = l.take k := by rw [← hu.out, h3]
    have e2 : r = l.drop k := by rw [← hr.out, h4]
    have hul : u.length ≤ l.length := by rw [e1]; simp; omega
    have E1 := hide e1
    have E2 := hide e2
    clear e1 e2 h1 h3 h4 hu hr
    go_enter Tryd.func14, Tryd.ntmps14
    go_wp2_with fail
    refine (Hid.out HX).mono ?_
    rintro e w1 ⟨rfl, hb1⟩
    have h1 := h.below hb1
    obtain ⟨d0, g0, g1, hlt1, _⟩ := h1.cell0
    obtain ⟨h5, hk5⟩ := h1.setText (l.drop k)
    have d1 := h5.cell0.1
    go_wp2_with fail
    rw [← E1.out]
    refine (trimRight' u [44] c _ (by unfold maxLen; omega) (by decide) (by decide) HT).mono ?_
    rintro e w2 ⟨rfl, hb2⟩
    go_wp2_with fail
    go_ret2
    rw [E2.out]
    exact ⟨rfl, h5.below hb2, ((Keep.of_below (by omega) hb1).trans hk5).trans (Keep.of_below (by simp [World.setCell]; omega) hb2)⟩
end Go.Proofs.YtepimjljkkkejaaDoor
