/- A replacer chooses its way: the generic one, since a key has two bytes. -/
import Derived.Test.YtagkdmolgmhmdaaGreatDoorRj
namespace Go.Proofs.YtagkdmolgmhmdaaGreatDoor
open Go.RowKit

set_option maxHeartbeats 4000000 in
set_option maxRecDepth 100000 in
theorem build (ps : List (List UInt8 × List UInt8)) (Q b cap : Nat) (w : World) (hQ : w.cell? ⟨Q, 4, none⟩ = some (.slice (some ⟨b, 0, none⟩) (2 * ps.length) cap)) (hps : Hid (PairsAt w b ps)) (hn : ps.length ≤ 100) (hn2 : 2 ≤ ps.length) (hks : Hid (∀ x ∈ ps, x.1.length ≤ 2)) (hkeys : Hid (∀ (k : Nat) x, ps[k]? = some x → ∃ c rest, x.1 = c :: rest ∧ rest.length ≤ 1 ∧ lookTo ps k c = none)) (kk : Nat) (hkk : Hid (Rp.cnt (inKeys (keysOf ps)) 256 = kk)) (hk255 : kk ≤ 255) (k0 : Nat) (hk0 : k0 < ps.length) (hk2 : Hid (∀ x, ps[k0]? = some x → x.1.length = 2)) :
    Calls Tryz.prog 107 #[.pointer (some ⟨Q, 0, none⟩)] w fun e w' => (∃ R, e = .returned (.iface 154 (.pointer (some ⟨R, 0, none⟩))) ∧ Gen w' R (lookTo ps ps.length)) ∧ Below w.heap.size w w' := by
  have HM := fun W hW => mkGen ps b cap W hW hn hks hkeys (inKeys (keysOf ps)) (hide rfl) kk hkk hk255
  obtain ⟨n, hnn⟩ : ∃ n, ps.length = n := ⟨_, rfl⟩
  rw [hnn] at hn hn2 hk0 HM hQ ⊢
  have HN := hide hnn
  have HMG := hide HM
  have hne : (2 * (n : Int) == 2) = false := by simp; omega
  have hne2 : ¬ (2 * (n : Int) = 2) := by omega
  clear hnn HM
  go_enter Tryz.func107, Tryz.ntmps107
  go_wp2_with fail
  go_loopg [4, 5] n (fun g s4 s5 wx => ∃ (q : Nat) (a : Bool), q + g = n ∧ q ≤ k0 ∧ s5 = .int .i64 (2 * (q : Int)) ∧ s4 = .bool a ∧ Below w.heap.size w wx)
  case atStart => exact ⟨0, true, by omega, Nat.zero_le _, rfl, rfl, Below.refl _ _⟩
  case round =>
    obtain ⟨q, al, hq, hqk, rfl, rfl, hB⟩ := hrel
    have hlt : q < n := by omega
    obtain ⟨x, hx⟩ : ∃ x, ps[q]? = some x := ⟨ps[q]'(by rw [HN.out]; exact hlt), List.getElem?_eq_getElem _⟩
    have hpx := hps.out.below hB
    obtain ⟨c0, c1⟩ := hpx q x hx
    obtain ⟨c, rest, hkey, hrest, _⟩ := hkeys.out q x hx
    have hk2x : q = k0 → x.1.length = 2 := fun e => hk2.out x (by rw [← e]; exact hx)
    obtain ⟨key, val⟩ := x
    dsimp only at c0 c1 hkey hk2x
    subst hkey
    have t0 : (2 * (q : Int)).toNat = 2 * q := by omega
    have t1 : 2 * (q : Int) < 2 * (n : Int) := by omega
    have t2 : (2 * (q : Int) + 1).toNat = 2 * q + 1 := by omega
    have t3 : 2 * (q : Int) + 1 < 2 * (n : Int) := by omega
    have HPX := hide hpx
    clear hx hpx
    cases rest with
    | nil =>
      have hqk2 : q ≠ k0 := fun e => by have := hk2x e; simp at this
      clear hk2x
      by_cases hv : val.length = 1
      · have hv2 : ((val.length : Int) == 1) = true := by rw [hv]; rfl
        go_wp2_with fail
        go_roundg (gk - 1)
        case measure => omega
        case rel => exact ⟨q + 1, _, by omega, by omega, by go_num, rfl, hB⟩
      · have hv2 : ((val.length : Int) == 1) = false := by rw [beq_eq_false_iff_ne]; omega
        have hv3 : ¬ ((val.length : Int) = 1) := by omega
        go_wp2_with fail
        go_roundg (gk - 1)
        case measure => omega
        case rel => exact ⟨q + 1, _, by omega, by omega, by go_num, rfl, hB⟩
    | cons d r =>
      obtain rfl : r = [] := by cases r with
        | nil => rfl
        | cons a b => simp at hrest
      go_wp2_with fail
      refine (HMG.out wr HPX).mono ?_
      rintro e w3 ⟨⟨R, rfl, hG⟩, hB3⟩
      have HG := hide hG
      have hB4 : Below w.heap.size w w3 := hB.trans (hB3.mono hB.size)
      clear hG hB3
      go_wp2_with fail
      go_ret
      exact ⟨⟨R, rfl, HG.out⟩, hB4⟩
end Go.Proofs.YtagkdmolgmhmdaaGreatDoor
