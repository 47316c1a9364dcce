/- The reference: a text's parts; digits of a base; a part's number. -/
import Derived.Test.YtahjndignkhmoaaGreatDoorRb
namespace Go.Proofs.YtahjndignkhmoaaGreatDoor
open Go.RowKit

set_option maxHeartbeats 2000000 in
set_option maxRecDepth 100000 in
theorem rParts (s : List UInt8) (xs : List (List UInt8)) (w : World) (hl : s.length ≤ 4194304) (hx : Hid (Hostp.parts s = xs)) :
    Calls Tryz.prog 32 #[S s] w fun e w' => (∃ g cap, w.heap.size ≤ g ∧ xs.length ≤ cap ∧ e = .returned (.slice (some ⟨g, 0, none⟩) xs.length cap) ∧ Texts w' g xs) ∧ Below w.heap.size w w' := by
  obtain ⟨l0, l1⟩ := splitOn_len 46 s
  have hxo := hx.out
  unfold Hostp.parts at hxo
  obtain ⟨ys, hys⟩ : ∃ ys, Hostp.splitOn 46 s = ys := ⟨_, rfl⟩
  rw [hys] at hxo l0 l1
  have HYS := hide hys
  clear hys hx
  obtain ⟨k, hk⟩ : ∃ k, ys.length = k + 1 := ⟨ys.length - 1, by omega⟩
  by_cases h1 : k = 0
  · rw [if_neg (by omega)] at hxo
    subst h1
    subst hxo
    go_enter Tryz.func32, Tryz.ntmps32
    go_wp2_with fail
    refine (rSplit 46 s ys _ hl HYS).mono ?_
    rintro e w2 ⟨⟨g, cap, hg, hcap, rfl, ht2⟩, hb2⟩
    rw [hk] at hcap ⊢
    go_wp2_with fail
    go_ret
    exact ⟨⟨g, cap, hg, by rw [hk]; exact hcap, by rw [hk]; rfl, ht2⟩, hb2⟩
  · obtain ⟨t, hyt⟩ : ∃ t, ys[k]? = some t := ⟨ys[k]'(by omega), List.getElem?_eq_getElem _⟩
    have hlast : ys.getLast? = some t := by rw [List.getLast?_eq_getElem?, hk]; exact hyt
    rw [hlast] at hxo
    have HX := hide hxo
    have HY := hide hyt
    clear hxo hyt
    go_enter Tryz.func32, Tryz.ntmps32
    go_wp2_with fail
    refine (rSplit 46 s ys _ hl HYS).mono ?_
    rintro e w2 ⟨⟨g, cap, hg, hcap, rfl, ht2⟩, hb2⟩
    have hc := ht2 k t HY.out
    have hkk : (k : Int) + 1 - 1 = k := by omega
    rw [hk] at hcap ⊢
    cases t with
    | nil =>
      have hx2 := HX.out
      rw [if_pos ⟨by omega, rfl⟩] at hx2
      have HX2 := hide hx2
      clear hx2 HX hlast HY
      go_wp2_with fail
      go_ret
      have hx3 := HX2.out
      have hxl : xs.length = k := by rw [← hx3, List.length_dropLast]; omega
      exact ⟨⟨g, cap, hg, by omega, by rw [hxl]; rfl, by rw [← hx3]; exact ht2.dropLast⟩, hb2⟩
    | cons c r =>
      have hx2 := HX.out
      rw [if_neg (by simp)] at hx2
      have HX2 := hide hx2
      clear hx2 HX hlast HY
      go_wp2_with fail
      go_ret
      have hx3 := HX2.out
      rw [← hx3]
      exact ⟨⟨g, cap, hg, by omega, by rw [hk]; rfl, ht2⟩, hb2⟩

end Go.Proofs.YtahjndignkhmoaaGreatDoor
