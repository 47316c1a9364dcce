/- A replacer chooses its way: the generic one, since a key has two bytes. -/
import Derived.Test.YtojgcangnkjmjaaGreatDoorRj
namespace Go.Proofs.YtojgcangnkjmjaaGreatDoor
open Go.RowKit

set_option maxHeartbeats 4000000 in
set_option maxRecDepth 100000 in
theorem build (ps : List (List UInt8 × List UInt8)) (Q b cap : Nat) (w : World) (hQ : w.cell? ⟨Q, 4, none⟩ = some (.slice (some ⟨b, 0, none⟩) (2 * ps.length) cap)) (hps : Hid (PairsAt w b ps)) (hn : ps.length ≤ 100) (hn2 : 2 ≤ ps.length) (hks : Hid (∀ x ∈ ps, x.1.length ≤ 2)) (hkeys : Hid (∀ (k : Nat) x, ps[k]? = some x → ∃ c rest, x.1 = c :: rest ∧ rest.length ≤ 1 ∧ KeyOk (lookTo ps k) c rest)) (kk : Nat) (hkk : Hid (Rp.cnt (inKeys (keysOf ps)) 256 = kk)) (hk255 : kk ≤ 255) (k0 : Nat) (hk0 : k0 < ps.length) (hk2 : Hid (∀ x, ps[k0]? = some x → x.1.length = 2)) :
    Calls Tryz.prog 91 #[.pointer (some ⟨Q, 0, none⟩)] w fun e w' => (∃ R, e = .returned (.iface 141 (.pointer (some ⟨R, 0, none⟩))) ∧ Gen w' R (lookTo ps ps.length)) ∧ Below w.heap.size w w' := by
  have HM := fun W hW => mkGen ps b cap W hW hn hks hkeys (inKeys (keysOf ps)) (hide rfl) kk hkk hk255
  obtain ⟨n, hnn⟩ : ∃ n, ps.length = n := ⟨_, rfl⟩
  rw [hnn] at hn hn2 hk0 HM hQ ⊢
  have HN := hide hnn
  have HMG := hide HM
  have hne : (2 * (n : Int) == 2) = false := by simp; omega
  have hne2 : ¬ (2 * (n : Int) = 2) := by omega
  clear hnn HM
  go_enter Tryz.func91, Tryz.ntmps91
  go_wp2_with fail
  go_loopg [4, 5] n (fun g s4 s5 wx => ∃ (q : Nat) (a : Bool), q + g = n ∧ q ≤ k0 ∧ s5 = .int .i64 (2 * (q : Int)) ∧ s4 = .bool a ∧ Below w.heap.size w wx)
  case atStart => exact ⟨0, true, by omega, Nat.zero_le _, rfl, rfl, Below.refl _ _⟩
  case round =>
    obtain ⟨q, al, hq, hqk, rfl, rfl, hB⟩ := hrel
    have hlt : q < n := by omega
    obtain ⟨x, hx⟩ : ∃ x, ps[q]? = some x := ⟨ps[q]'(by rw [HN.out]; exact hlt), List.getElem?_eq_getElem _⟩
    have hpx := hps.out.below hB
    obtain ⟨c0, c1⟩ := hpx q x hx
    obtain ⟨c, rest, hkey, hrest, _⟩ := hkeys.out q x hx
    have hk2x : q = k0 → x.1.length = 2 := fun e => hk2.out x (by rw [← e]; exact hx)
    obtain ⟨key, val⟩ := x
    dsimp only at c0 c1 hkey hk2x
    subst hkey
    have t0 : (2 * (q : Int)).toNat = 2 * q := by omega
    have t1 : 2 * (q : Int) < 2 * (n : Int) := by omega
    have t2 : (2 * (q : Int) + 1).toNat = 2 * q + 1 := by omega
    have t3 : 2 * (q : Int) + 1 < 2 * (n : Int) := by omega
    have HPX := hide hpx
    clear hx hpx
    cases rest with
    | nil =>
      have hqk2 : q ≠ k0 := fun e => by have := hk2x e; simp at this
      clear hk2x
      by_cases hv : val.length = 1
      · have hv2 : ((val.length : Int) == 1) = true := by rw [hv]; rfl
        go_wp2_with fail
        go_roundg (gk - 1)
        case measure => omega
        case rel => exact ⟨q + 1, _, by omega, by omega, by go_num, rfl, hB⟩
      · have hv2 : ((val.length : Int) == 1) = false := by rw [beq_eq_false_iff_ne]; omega
        have hv3 : ¬ ((val.length : Int) = 1) := by omega
        go_wp2_with fail
        go_roundg (gk - 1)
        case measure => omega
        case rel => exact ⟨q + 1, _, by omega, by omega, by go_num, rfl, hB⟩
    | cons d r =>
      obtain rfl : r = [] := by cases r with
        | nil => rfl
        | cons a b => simp at hrest
      go_wp2_with fail
      refine (HMG.out wr HPX).mono ?_
      rintro e w3 ⟨⟨R, rfl, hG⟩, hB3⟩
      have HG := hide hG
      have hB4 : Below w.heap.size w w3 := hB.trans (hB3.mono hB.size)
      clear hG hB3
      go_wp2_with fail
      go_ret
      exact ⟨⟨R, rfl, HG.out⟩, hB4⟩
end Go.Proofs.YtojgcangnkjmjaaGreatDoor
namespace Go.Proofs.YtojgcangnkjmjaaGreatDoor
open Go.RowKit

/-- a replacer in block Q: the Once's three words, the way chosen, the pairs -/
def RepAt (w : World) (Q : Nat) (a b c : Int) (r o : Value) : Prop := w.heap[Q]? = some (.cells #[.int .u32 a, .int .i32 b, .int .u32 c, r, o] 95 (0, 0))
theorem RepAt.cells {w : World} {Q : Nat} {a b c : Int} {r o : Value} (h : RepAt w Q a b c r o) :
    (w.cell? ⟨Q, 0, none⟩ = some (.int .u32 a) ∧ w.cell? ⟨Q, 1, none⟩ = some (.int .i32 b) ∧ w.cell? ⟨Q, 2, none⟩ = some (.int .u32 c) ∧ w.cell? ⟨Q, 3, none⟩ = some r ∧ w.cell? ⟨Q, 4, none⟩ = some o) ∧ ∀ j, w.frozen? ⟨Q, j, none⟩ = false := by
  unfold RepAt at h
  refine ⟨⟨?_, ?_, ?_, ?_, ?_⟩, fun j => by simp [World.frozen?, h]⟩ <;> (rw [Lib.cell_of_heap h]; rfl)
theorem RepAt.of_heap {w w' : World} {Q : Nat} {a b c : Int} {r o : Value} (h : RepAt w Q a b c r o) (e : w'.heap[Q]? = w.heap[Q]?) : RepAt w' Q a b c r o := e.trans h
theorem cell_keep {w w' : World} {Q k j : Nat} {v : Value} (hk : ∀ k : Nat, k ≠ Q → w'.heap[k]? = w.heap[k]?) (h : w.cell? ⟨k, j, none⟩ = some v) (hne : k ≠ Q) : w'.cell? ⟨k, j, none⟩ = some v := by
  rw [← h]
  simp only [World.cell?, hk k hne]
theorem NodeAt.keep {w w' : World} {Q N : Nat} {nd : Rp.Nd} {a b c : Int} {r o : Value} (h : NodeAt w N nd) (hQ : RepAt w Q a b c r o) (hk : ∀ k : Nat, k ≠ Q → w'.heap[k]? = w.heap[k]?) : NodeAt w' N nd := by
  obtain ⟨⟨q0, q1, q2, q3, q4⟩, _⟩ := hQ.cells
  obtain ⟨h0, h1, h4, hx⟩ := h
  have hn : N ≠ Q := fun e => by rw [e, q0] at h0; exact absurd h0 (by simp)
  refine ⟨cell_keep hk h0 hn, cell_keep hk h1 hn, cell_keep hk h4 hn, ?_⟩
  cases e : nd.nx with
  | none =>
    rw [e] at hx
    exact ⟨cell_keep hk hx.1 hn, cell_keep hk hx.2 hn⟩
  | some x =>
    obtain ⟨d, p2, v2⟩ := x
    rw [e] at hx
    obtain ⟨h2, M, h3, k0, k1, k2, k3, k4⟩ := hx
    have hm : M ≠ Q := fun e => by rw [e, q0] at k0; exact absurd k0 (by simp)
    exact ⟨cell_keep hk h2 hn, M, cell_keep hk h3 hn, cell_keep hk k0 hm, cell_keep hk k1 hm, cell_keep hk k2 hm, cell_keep hk k3 hm, cell_keep hk k4 hm⟩
/-- a ready replacer bears it that the one that holds it is written -/
theorem Gen.keep {w w' : World} {Q R : Nat} {look : UInt8 → Option Rp.Nd} {a b c : Int} {r o : Value} (h : Gen w R look) (hQ : RepAt w Q a b c r o) (hr : ∀ p, r ≠ .pointer p) (ho : ∀ p, o ≠ .pointer p) (hk : ∀ k : Nat, k ≠ Q → w'.heap[k]? = w.heap[k]?) : Gen w' R look := by
  obtain ⟨T, k, f, hk255, h1, h4, h5, hf, hl⟩ := h
  have hQ' := hQ
  unfold RepAt at hQ'
  obtain ⟨⟨q0, q1, q2, q3, q4⟩, _⟩ := hQ.cells
  have hR : R ≠ Q := fun e => by rw [e, q1] at h1; exact absurd h1 (by simp)
  have hT : ∀ (j : Nat) p, w.cell? ⟨T, j, none⟩ = some (.pointer p) → T ≠ Q := fun j p hp e => by
    rw [e, Lib.cell_of_heap hQ'] at hp
    match j, hp with
    | 0, hp => simp at hp
    | 1, hp => simp at hp
    | 2, hp => simp at hp
    | 3, hp => simp at hp; exact hr p hp
    | 4, hp => simp at hp; exact ho p hp
    | j + 5, hp => simp at hp
  refine ⟨T, k, f, hk255, cell_keep hk h1 hR, cell_keep hk h4 hR, cell_keep hk h5 hR, fun c => ⟨cell_keep hk (hf c).1 hR, (hf c).2⟩, fun c => ?_⟩
  have := hl c
  cases e : look c with
  | none =>
    rw [e] at this
    rcases this with g | ⟨g, g2⟩
    · exact .inl g
    · exact .inr ⟨g, cell_keep hk g2 (hT _ _ g2)⟩
  | some nd =>
    rw [e] at this
    obtain ⟨g, N, g2, g3⟩ := this
    exact ⟨g, N, cell_keep hk g2 (hT _ _ g2), g3.keep hQ hk⟩

set_option maxHeartbeats 4000000 in
set_option maxRecDepth 100000 in
theorem buildOnce (ps : List (List UInt8 × List UInt8)) (Q b cap B : Nat) (a1 a2 a3 : Int) (w : World) (hQ : RepAt w Q a1 a2 a3 .nilIface (.slice (some ⟨b, 0, none⟩) (2 * ps.length) cap)) (hB : B ≤ Q)
    (hbuild : Hid (∀ W : World, W.cell? ⟨Q, 4, none⟩ = some (.slice (some ⟨b, 0, none⟩) (2 * ps.length) cap) → PairsAt W b ps → Calls Tryz.prog 91 #[.pointer (some ⟨Q, 0, none⟩)] W fun e w' => (∃ R, e = .returned (.iface 141 (.pointer (some ⟨R, 0, none⟩))) ∧ Gen w' R (lookTo ps ps.length)) ∧ Below W.heap.size W w')) (hps : Hid (PairsAt w b ps)) :
    Calls Tryz.prog 59 #[.pointer (some ⟨Q, 0, none⟩)] w fun e w' => e = .returned (.tuple #[]) ∧ (∃ R, RepAt w' Q a1 a2 a3 (.iface 141 (.pointer (some ⟨R, 0, none⟩))) (.slice none 0 0) ∧ Gen w' R (lookTo ps ps.length)) ∧ Below B w w' := by
  obtain ⟨⟨q0, q1, q2, q3, q4⟩, hf⟩ := hQ.cells
  have hQl := heap_lt hQ
  go_enter Tryz.func59, Tryz.ntmps59
  go_wp2_with fail
  refine (hbuild.out _ q4 hps.out).mono ?_
  rintro e w2 ⟨⟨R, rfl, hG⟩, hb⟩
  have hQ2 := hQ.of_heap (hb.block Q hQl)
  obtain ⟨⟨q0', q1', q2', q3', q4'⟩, hf'⟩ := hQ2.cells
  have hf3 := hf' 3
  have hf4 := hf' 4
  have hb2 : Below B w w2 := hb.mono (by omega)
  clear q0 q1 q2 q3 q4 hf hb
  have hQ3 : RepAt ((w2.setCell ⟨Q, 3, none⟩ (.iface 141 (.pointer (some ⟨R, 0, none⟩)))).setCell ⟨Q, 4, none⟩ (.slice none 0 0)) Q a1 a2 a3 (.iface 141 (.pointer (some ⟨R, 0, none⟩))) (.slice none 0 0) := row_set (row_set hQ2 3 _) 4 _
  have hG3 := hG.keep (w' := (w2.setCell ⟨Q, 3, none⟩ (.iface 141 (.pointer (some ⟨R, 0, none⟩)))).setCell ⟨Q, 4, none⟩ (.slice none 0 0)) hQ2 (by simp) (by simp) fun k hk => by simp [World.setCell, Array.getElem?_modify, Ne.symm hk]
  have hb3 := (hb2.setCell (p := ⟨Q, 3, none⟩) hB (.iface 141 (.pointer (some ⟨R, 0, none⟩)))).setCell (p := ⟨Q, 4, none⟩) hB (.slice none 0 0)
  have HG3 := hide hG3
  clear hG hG3
  go_wp2_with fail
  refine bodyPost_end (results_none (by kernel_rfl) _ _ _) rfl ?_
  exact ⟨rfl, ⟨R, hQ3, HG3.out⟩, hb3⟩
end Go.Proofs.YtojgcangnkjmjaaGreatDoor
