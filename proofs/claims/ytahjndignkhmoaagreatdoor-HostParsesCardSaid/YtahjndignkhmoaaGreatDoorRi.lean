/- The reference: does a text end in a number. -/
import Derived.Test.YtahjndignkhmoaaGreatDoorRc
import Derived.Test.YtahjndignkhmoaaGreatDoorRf
namespace Go.Proofs.YtahjndignkhmoaaGreatDoor
open Go.RowKit

def numB (t : List UInt8) : Bool := Hostp.allB 10 t || decide ((Hostp.basedP t).2 = 16) && Hostp.allB 16 (Hostp.basedP t).1
theorem numB_a {t : List UInt8} (h : Hostp.allB 10 t = true) : numB t = true := by unfold numB; rw [h]; rfl
theorem numB_b {t : List UInt8} (h : Hostp.allB 10 t = false) (h2 : Hostp.allB (Hostp.basedP t).2 (Hostp.basedP t).1 = false) : numB t = false := by
  unfold numB
  rw [h, Bool.false_or]
  by_cases q : (Hostp.basedP t).2 = 16
  · rw [q] at h2; rw [h2, Bool.and_false]
  · rw [decide_eq_false q]; rfl
theorem numB_c {c : UInt8} (h : Hostp.allB 10 [c] = false) : numB [c] = false := numB_b h h
theorem numB_d {c d : UInt8} {r : List UInt8} (h : Hostp.allB 10 (c :: d :: r) = false) (hd : ¬ (d = 120 ∨ d = 88)) : numB (c :: d :: r) = false := by
  unfold numB
  rw [h, Bool.false_or]
  by_cases hc : c = 48
  · subst hc
    rw [show Hostp.basedP (48 :: d :: r) = (d :: r, 8) by rw [Hostp.basedP, if_pos rfl, if_neg hd]]
    rfl
  · rw [show Hostp.basedP (c :: d :: r) = (c :: d :: r, 10) by rw [Hostp.basedP, if_neg hc]]
    rfl
theorem numB_e {c d : UInt8} {r : List UInt8} (h : Hostp.allB (Hostp.basedP (c :: d :: r)).2 (Hostp.basedP (c :: d :: r)).1 = true) (hd : d = 120 ∨ d = 88) : numB (c :: d :: r) = true := by
  by_cases hc : c = 48
  · subst hc
    rw [show Hostp.basedP (48 :: d :: r) = (r, 16) by rw [Hostp.basedP, if_pos rfl, if_pos hd]] at h
    unfold numB
    rw [show Hostp.basedP (48 :: d :: r) = (r, 16) by rw [Hostp.basedP, if_pos rfl, if_pos hd], show Hostp.allB 16 r = true from h]
    simp
  · rw [show Hostp.basedP (c :: d :: r) = (c :: d :: r, 10) by rw [Hostp.basedP, if_neg hc]] at h
    exact numB_a h

set_option maxHeartbeats 2000000 in
set_option maxRecDepth 100000 in
theorem rNumeric (s : List UInt8) (b : Bool) (w : World) (hl : s.length ≤ 4194304) (hb : Hid (Hostp.numericP s = b)) :
    Calls Tryz.prog 29 #[S s] w (Fresh (.bool b) w) := by
  obtain ⟨l0, l1⟩ := parts_len s
  obtain ⟨xs, hxs⟩ : ∃ xs, Hostp.parts s = xs := ⟨_, rfl⟩
  have hmem : ∀ t ∈ xs, t.length ≤ s.length := fun t h => parts_mem s t (by rw [hxs]; exact h)
  have hb2 := hb.out
  unfold Hostp.numericP at hb2
  rw [hxs] at hb2 l0 l1
  have HXS := hide hxs
  obtain ⟨k, hk⟩ : ∃ k, xs.length = k + 1 := ⟨xs.length - 1, by omega⟩
  obtain ⟨t, hyt⟩ : ∃ t, xs[k]? = some t := ⟨xs[k]'(by omega), List.getElem?_eq_getElem _⟩
  have hlast : xs.getLast? = some t := by rw [List.getLast?_eq_getElem?, hk]; exact hyt
  rw [hlast] at hb2
  have htl : t.length ≤ 4194304 := Nat.le_trans (hmem t (List.mem_of_getElem? hyt)) hl
  have HY := hide hyt
  have HB := hide hb2
  clear hxs hb hmem hlast hyt hb2
  go_enter Tryz.func29, Tryz.ntmps29
  go_wp2_with fail
  refine (rParts s xs _ hl HXS).mono ?_
  rintro e w2 ⟨⟨g, cap, hg, hcap, rfl, ht2⟩, hb2⟩
  have hc := ht2 k t HY.out
  have hkk : (k : Int) + 1 - 1 = k := by omega
  have HBB := hide hb2
  rw [hk] at hcap ⊢
  clear ht2 hb2
  cases t with
  | nil =>
    have hf := HB.out
    obtain rfl : false = b := hf
    go_wp2_with fail
    go_ret
    exact ⟨rfl, HBB.out⟩
  | cons c r =>
    have hf : numB (c :: r) = b := HB.out
    have HF := hide hf
    clear hf
    obtain ⟨m, ok, hd⟩ : ∃ m ok, digR 10 (c :: r) = (m, ok) := ⟨_, _, rfl⟩
    obtain ⟨m2, ok2, hd2⟩ : ∃ m ok, numR (c :: r) = (m, ok) := ⟨_, _, rfl⟩
    have HD := hide hd
    have HD2 := hide hd2
    have hd3 := hd2
    unfold numR at hd3
    rw [if_neg (by simp)] at hd3
    have HD3 := hide hd3
    clear hd hd2 hd3
    go_wp2_with fail
    refine (rDigits (c :: r) 10 m ok _ (by decide) (by decide) htl HD).mono ?_
    rintro e w3 ⟨rfl, rfl⟩
    go_wp2_with fail
    refine (rNumber (c :: r) m2 ok2 _ htl HD2).mono ?_
    rintro e w4 ⟨rfl, rfl⟩
    cases ok with
    | true =>
      obtain rfl : true = b := by rw [← HF.out]; exact (numB_a (digR_true HD.out).1).symm
      go_wp2_with fail
      go_ret
      exact ⟨rfl, HBB.out⟩
    | false =>
      have hal := (digR_false HD.out).1
      cases ok2 with
      | false =>
        obtain rfl : false = b := by rw [← HF.out]; exact (numB_b hal (digR_false HD3.out).1).symm
        clear hal
        go_wp2_with fail
        go_ret
        exact ⟨rfl, HBB.out⟩
      | true =>
        cases r with
        | nil =>
          obtain rfl : false = b := by rw [← HF.out]; exact (numB_c hal).symm
          clear hal
          go_wp2_with fail
          go_ret
          exact ⟨rfl, HBB.out⟩
        | cons d r2 =>
          have hln : decide (2 ≤ (r2.length : Int) + 1 + 1) = true := decide_eq_true (by omega)
          by_cases h1 : d = 120
          · subst h1
            obtain rfl : true = b := by rw [← HF.out]; exact (numB_e (digR_true HD3.out).1 (.inl rfl)).symm
            clear hal
            go_wp2_with fail
            go_ret
            exact ⟨rfl, HBB.out⟩
          · by_cases h2 : d = 88
            · subst h2
              obtain rfl : true = b := by rw [← HF.out]; exact (numB_e (digR_true HD3.out).1 (.inr rfl)).symm
              clear hal
              go_wp2_with fail
              go_ret
              exact ⟨rfl, HBB.out⟩
            · obtain rfl : false = b := by rw [← HF.out]; exact (numB_d hal (by rintro (h | h); exact h1 h; exact h2 h)).symm
              have b1 : ((d.toNat : Int) == 120) = false := beq_eq_false_iff_ne.2 (fun h => h1 (UInt8.toNat_inj.1 (by show d.toNat = 120; omega)))
              have b2 : ((d.toNat : Int) == 88) = false := beq_eq_false_iff_ne.2 (fun h => h2 (UInt8.toNat_inj.1 (by show d.toNat = 88; omega)))
              clear hal h1 h2
              go_wp2_with fail
              go_ret
              exact ⟨rfl, HBB.out⟩
end Go.Proofs.YtahjndignkhmoaaGreatDoor
