/- A replacer's look at a text, walked. -/
import Derived.Test.YtojgcangnkjmjaaGreatDoorRl
namespace Go.Proofs.YtojgcangnkjmjaaGreatDoor
open Go.RowKit

set_option maxHeartbeats 4000000 in
set_option maxRecDepth 100000 in
theorem rLookup (R : Nat) (look : UInt8 → Option Rp.Nd) (s : List UInt8) (x : Option (List UInt8 × Nat)) (w : World) (hg : Gen w R look) (hp : Hid (∀ c nd, look c = some nd → 0 ≤ nd.p1 ∧ ∀ d p2 v2, nd.nx = some (d, p2, v2) → 0 < p2)) (hl : s.length ≤ 9223372036854775807) (hx : Hid (Rp.lk look s = x)) :
    Calls Tryz.prog 212 #[.pointer (some ⟨R, 0, none⟩), S s, .bool false] w (Fresh (lkV x) w) := by
  obtain ⟨T, k, f, hk, h1, h4, h5, hf, hlo⟩ := hg
  cases s with
  | nil =>
    obtain rfl : none = x := hx.out
    go_enter Tryz.func212, Tryz.ntmps212
    clear hlo hf
    go_wp2_with fail
    refine wp_loop_rounds 1 ?_
    rw [rounds_succ]
    go_wp2_with fail
    refine bodyPost_ret (v := lkV none) (by simp [results, Tryz.results212, go_sem, lkV]) rfl ?_
    exact ⟨rfl, Below.refl _ _⟩
  | cons c r =>
    obtain ⟨hcf, hck⟩ := hf c
    have hlc := hlo c
    have hx2 := hx.out
    rw [Rp.lk] at hx2
    have hfb : f c ≤ 255 := by omega
    obtain ⟨i, hi⟩ : ∃ i, f c = i := ⟨_, rfl⟩
    rw [hi] at hcf hck hlc hfb
    have hcb := u8_lt c
    have hcb0 : (0 : Int) ≤ (c.toNat : Int) := by omega
    clear hlo hf hi hx
    cases e : look c with
    | none =>
      rw [e] at hlc hx2
      obtain rfl : none = x := hx2
      clear e hp
      rcases hlc with rfl | ⟨hlt, hn⟩
      · go_enter Tryz.func212, Tryz.ntmps212
        go_wp2_with fail
        refine wp_loop_rounds 1 ?_
        rw [rounds_succ]
        go_wp2_with fail
        go_quiet (fail)
        go_wp2_with fail
        refine bodyPost_ret (v := lkV none) (by simp [results, Tryz.results212, go_sem, lkV]) rfl ?_
        exact ⟨rfl, belowN _ _⟩
      · have b1 : ((i : Int) == (k : Int)) = false := beq_eq_false_iff_ne.2 (by omega)
        go_enter Tryz.func212, Tryz.ntmps212
        go_wp2_with fail
        refine wp_loop_rounds 2 ?_
        rw [rounds_succ]
        go_wp2_with fail
        go_quiet (fail)
        go_wp2_with fail
        rw [rounds_succ]
        go_wp2_with fail
        refine bodyPost_ret (v := lkV none) (by simp [results, Tryz.results212, go_sem, lkV]) rfl ?_
        exact ⟨rfl, belowN _ _⟩
    | some nd =>
      rw [e] at hlc hx2
      obtain ⟨hlt, N, hN, hNd⟩ := hlc
      obtain ⟨hp0, hp2⟩ := hp.out c nd e
      obtain ⟨p1, v1, nx⟩ := nd
      unfold Rp.hit at hx2
      dsimp only at hp0 hp2 hx2
      obtain ⟨n0, n1, n4, hnx⟩ := hNd
      dsimp only at n0 n1 n4 hnx
      have b1 : ((i : Int) == (k : Int)) = false := beq_eq_false_iff_ne.2 (by omega)
      have hrl : r.length ≤ 9223372036854775807 := by simp only [List.length_cons] at hl; omega
      clear e hp hl
      cases nx with
      | none =>
        obtain ⟨n2, n3⟩ := hnx
        dsimp only at hx2
        by_cases h0 : 0 < p1
        · rw [if_pos h0] at hx2
          obtain rfl : some (v1, 1) = x := hx2
          cases r with
          | nil =>
            go_enter Tryz.func212, Tryz.ntmps212
            go_wp2_with fail
            refine wp_loop_rounds 2 ?_
            rw [rounds_succ]
            go_wp2_with fail
            go_quiet (fail)
            go_wp2_with fail
            rw [rounds_succ]
            go_wp2_with fail
            refine bodyPost_ret (v := lkV (some (v1, 1))) (by simp [results, Tryz.results212, go_sem, lkV]) rfl ?_
            exact ⟨rfl, belowN _ _⟩
          | cons y r =>
            go_enter Tryz.func212, Tryz.ntmps212
            go_wp2_with fail
            refine wp_loop_rounds 2 ?_
            rw [rounds_succ]
            go_wp2_with fail
            go_quiet (fail)
            go_wp2_with fail
            rw [rounds_succ]
            go_wp2_with fail
            refine bodyPost_ret (v := lkV (some (v1, 1))) (by simp [results, Tryz.results212, go_sem, lkV]) rfl ?_
            exact ⟨rfl, belowN _ _⟩
        · rw [if_neg h0] at hx2
          obtain rfl : none = x := hx2
          obtain rfl : p1 = 0 := by omega
          clear h0
          cases r with
          | nil =>
            go_enter Tryz.func212, Tryz.ntmps212
            go_wp2_with fail
            refine wp_loop_rounds 2 ?_
            rw [rounds_succ]
            go_wp2_with fail
            go_quiet (fail)
            go_wp2_with fail
            rw [rounds_succ]
            go_wp2_with fail
            refine bodyPost_ret (v := lkV none) (by simp [results, Tryz.results212, go_sem, lkV]) rfl ?_
            exact ⟨rfl, belowN _ _⟩
          | cons y r =>
            go_enter Tryz.func212, Tryz.ntmps212
            go_wp2_with fail
            refine wp_loop_rounds 2 ?_
            rw [rounds_succ]
            go_wp2_with fail
            go_quiet (fail)
            go_wp2_with fail
            rw [rounds_succ]
            go_wp2_with fail
            refine bodyPost_ret (v := lkV none) (by simp [results, Tryz.results212, go_sem, lkV]) rfl ?_
            exact ⟨rfl, belowN _ _⟩
      | some z =>
        obtain ⟨d, p2, v2⟩ := z
        obtain ⟨n2, M, n3, m0, m1, m2, m3, m4⟩ := hnx
        have hpos := hp2 d p2 v2 rfl
        dsimp only at hx2
        have HX2 := hide hx2
        clear hp2 hx2
        cases r with
        | nil =>
          have hx3 := HX2.out
          rw [if_neg (by simp)] at hx3
          by_cases h0 : 0 < p1
          · rw [if_pos h0] at hx3
            obtain rfl : some (v1, 1) = x := hx3
            clear HX2
            go_enter Tryz.func212, Tryz.ntmps212
            go_wp2_with fail
            refine wp_loop_rounds 2 ?_
            rw [rounds_succ]
            go_wp2_with fail
            go_quiet (fail)
            go_wp2_with fail
            rw [rounds_succ]
            go_wp2_with fail
            refine bodyPost_ret (v := lkV (some (v1, 1))) (by simp [results, Tryz.results212, go_sem, lkV]) rfl ?_
            exact ⟨rfl, belowN _ _⟩
          · rw [if_neg h0] at hx3
            obtain rfl : none = x := hx3
            obtain rfl : p1 = 0 := by omega
            clear h0 HX2
            go_enter Tryz.func212, Tryz.ntmps212
            go_wp2_with fail
            refine wp_loop_rounds 2 ?_
            rw [rounds_succ]
            go_wp2_with fail
            go_quiet (fail)
            go_wp2_with fail
            rw [rounds_succ]
            go_wp2_with fail
            refine bodyPost_ret (v := lkV none) (by simp [results, Tryz.results212, go_sem, lkV]) rfl ?_
            exact ⟨rfl, belowN _ _⟩
        | cons y r =>
          obtain ⟨b, hb⟩ : ∃ b, decide ((y :: r).head? = some d) = b := ⟨_, rfl⟩
          have HB := hide hb
          have hyd : y = d ↔ b = true := by rw [← hb]; simp
          have HYD := hide hyd
          have hln : (r.length : Int) + 1 ≤ 9223372036854775807 := by simp only [List.length_cons] at hrl; omega
          clear hb hyd
          have hway : (b = true ∧ p1 < p2 ∧ some (v2, 2) = x) ∨ ((b = false ∨ (b = true ∧ p2 ≤ p1)) ∧ ((0 < p1 ∧ some (v1, 1) = x) ∨ (p1 = 0 ∧ none = x))) := by
            have hx3 := HX2.out
            by_cases hc : (y :: r).head? = some d ∧ p1 < p2
            · rw [if_pos hc] at hx3
              exact .inl ⟨by rw [← HB.out, decide_eq_true hc.1], hc.2, hx3⟩
            · rw [if_neg hc] at hx3
              refine .inr ⟨?_, ?_⟩
              · cases b with
                | false => exact .inl rfl
                | true => exact .inr ⟨rfl, Int.not_lt.1 (fun q => hc ⟨of_decide_eq_true HB.out, q⟩)⟩
              · by_cases h0 : 0 < p1
                · rw [if_pos h0] at hx3; exact .inl ⟨h0, hx3⟩
                · rw [if_neg h0] at hx3; exact .inr ⟨by omega, hx3⟩
          clear HX2 HYD
          go_enter Tryz.func212, Tryz.ntmps212
          go_wp2_with fail
          refine wp_loop_rounds 3 ?_
          rw [rounds_succ]
          go_wp2_with fail
          go_quiet (fail)
          go_wp2_with fail
          rw [rounds_succ]
          rcases hway with ⟨rfl, hlt2, rfl⟩ | ⟨rfl | ⟨rfl, hge⟩, ⟨h0, rfl⟩ | ⟨rfl, rfl⟩⟩
          · by_cases h0 : 0 < p1
            · go_wp2_with fail
              refine (hasPre1 (y :: r) d true _ HB).mono ?_
              rintro e w2 ⟨rfl, rfl⟩
              go_wp2_with fail
              rw [rounds_succ]
              cases r with
              | nil =>
                go_wp2_with fail
                refine bodyPost_ret (v := lkV (some (v2, 2))) (by simp [results, Tryz.results212, go_sem, lkV]) rfl ?_
                exact ⟨rfl, belowN _ _⟩
              | cons z r =>
                go_wp2_with fail
                refine bodyPost_ret (v := lkV (some (v2, 2))) (by simp [results, Tryz.results212, go_sem, lkV]) rfl ?_
                exact ⟨rfl, belowN _ _⟩
            · obtain rfl : p1 = 0 := by omega
              clear h0
              go_wp2_with fail
              refine (hasPre1 (y :: r) d true _ HB).mono ?_
              rintro e w2 ⟨rfl, rfl⟩
              go_wp2_with fail
              rw [rounds_succ]
              cases r with
              | nil =>
                go_wp2_with fail
                refine bodyPost_ret (v := lkV (some (v2, 2))) (by simp [results, Tryz.results212, go_sem, lkV]) rfl ?_
                exact ⟨rfl, belowN _ _⟩
              | cons z r =>
                go_wp2_with fail
                refine bodyPost_ret (v := lkV (some (v2, 2))) (by simp [results, Tryz.results212, go_sem, lkV]) rfl ?_
                exact ⟨rfl, belowN _ _⟩
          · go_wp2_with fail
            refine (hasPre1 (y :: r) d false _ HB).mono ?_
            rintro e w2 ⟨rfl, rfl⟩
            go_wp2_with fail
            refine bodyPost_ret (v := lkV (some (v1, 1))) (by simp [results, Tryz.results212, go_sem, lkV]) rfl ?_
            exact ⟨rfl, belowN _ _⟩
          · go_wp2_with fail
            refine (hasPre1 (y :: r) d false _ HB).mono ?_
            rintro e w2 ⟨rfl, rfl⟩
            go_wp2_with fail
            refine bodyPost_ret (v := lkV none) (by simp [results, Tryz.results212, go_sem, lkV]) rfl ?_
            exact ⟨rfl, belowN _ _⟩
          · have hd : decide (p1 < p2) = false := decide_eq_false (by omega)
            have hd2 : ¬ p1 < p2 := by omega
            go_wp2_with fail
            refine (hasPre1 (y :: r) d true _ HB).mono ?_
            rintro e w2 ⟨rfl, rfl⟩
            go_wp2_with fail
            rw [rounds_succ]
            cases r with
            | nil =>
              go_wp2_with fail
              refine bodyPost_ret (v := lkV (some (v1, 1))) (by simp [results, Tryz.results212, go_sem, lkV]) rfl ?_
              exact ⟨rfl, belowN _ _⟩
            | cons z r =>
              go_wp2_with fail
              refine bodyPost_ret (v := lkV (some (v1, 1))) (by simp [results, Tryz.results212, go_sem, lkV]) rfl ?_
              exact ⟨rfl, belowN _ _⟩
          · omega
end Go.Proofs.YtojgcangnkjmjaaGreatDoor
