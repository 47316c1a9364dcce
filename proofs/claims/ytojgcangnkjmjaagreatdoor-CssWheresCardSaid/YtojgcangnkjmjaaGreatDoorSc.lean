/- A new replacer. -/
import Derived.Test.YtojgcangnkjmjaaGreatDoorRz
namespace Go.Proofs.YtojgcangnkjmjaaGreatDoor
open Go.RowKit

theorem info_str : (Tryz.prog.info? 9).map (fun i => (i.zero, i.size, i.bytes)) = some (some (S []), 1, 16) := by kernel_rfl
set_option maxRecDepth 100000 in
set_option maxHeartbeats 1600000 in
theorem newReplacer (ts : List (List UInt8)) (n b cap : Nat) (w : World) (hb : Hid (∀ (j : Nat) t, ts[j]? = some t → w.cell? ⟨b, j, none⟩ = some (S t))) (hl : ts.length = 2 * n) (hn : n ≤ 100) (h0 : 0 < n) :
    Calls Tryz.prog 35 #[.slice (some ⟨b, 0, none⟩) (2 * n) cap] w fun e w' => (∃ Q b2 cap2, e = .returned (.pointer (some ⟨Q, 0, none⟩)) ∧ w.heap.size ≤ Q ∧ b2 ≠ Q ∧ RepAt w' Q 0 0 0 .nilIface (.slice (some ⟨b2, 0, none⟩) (2 * n) cap2) ∧ ∀ (j : Nat) t, ts[j]? = some t → w'.cell? ⟨b2, j, none⟩ = some (S t)) ∧ Below w.heap.size w w' := by
  obtain ⟨i0, hi, hz0, hz1, hz2⟩ := info_parts info_str
  have hr : (2 * (n : Int)).tmod 2 = 0 := by rw [Int.tmod_eq_emod_of_nonneg (by omega)]; omega
  have hr2 : 2 * (n : Int) % 2 = 0 := by omega
  go_enter Tryz.func35, Tryz.ntmps35
  go_wp2_with (at_builtin; go_loud (refine wpList_append_own _ rfl _ _ 30 rfl w.heap.size 9 i0 (S []) 1 16 Tryz.underlying30 hi hz0 hz1 hz2 rfl (by decide) (.slice none 0 0) 0 [] rfl ⟨rfl, .inl ⟨rfl, rfl⟩⟩ ⟨b, 0, none⟩ (2 * n) cap (ts.map S) rfl (by simp [hl]) ?c1 ?c2 (by unfold maxLen; omega) (by omega) (Nat.le_refl _) ?_))
  case c1 =>
    intro j u hu
    rw [List.getElem?_map] at hu
    obtain ⟨t, ht, rfl⟩ := Option.map_eq_some_iff.1 hu
    have := hb.out j t ht
    cases j with
    | zero => simpa [Addr.add] using this
    | succ j => simpa [Addr.add] using this
  case c2 =>
    intro u hu
    obtain ⟨t, _, rfl⟩ := List.mem_map.1 hu
    rfl
  intro v w1 hown hgrow hnil
  have hb1 : Below w.heap.size w w1 := (Below.refl _ w).grown hgrow (Nat.le_refl _) (fun k hk => by cases hk)
  obtain ⟨_, hh | ⟨g, cap2, cur, rfl, hg, hh, hc1, hc2, hs, ht⟩⟩ := hown
  · exact absurd hh.2 (by omega)
  have hcells : ∀ (j : Nat) t, ts[j]? = some t → w1.cell? ⟨g, j, none⟩ = some (S t) := fun j t hj => by
    rw [Lib.cell_of_heap hh]
    have hjl : j < 2 * n := by have := (List.getElem?_eq_some_iff.1 hj).1; omega
    have := congrArg (fun l => l[j]?) ht
    simp [hjl, hj] at this
    simpa using this
  have hgl : g < w1.heap.size := heap_lt hh
  have HC := hide hcells
  clear hcells hh hs ht hgrow hnil
  go_wp2_with fail
  go_ret
  exact ⟨⟨w1.heap.size, g, cap2, rfl, hb1.size, by omega, heap_alloc_last _ _, fun j t hj => cell_below (HC.out j t hj) ((Below.refl _ w1).alloc (Nat.le_refl _) _)⟩, hb1.alloc hb1.size _⟩

/-- a table of pairs, used once: made, and set to work -/
theorem pairs_of (ps : List (List UInt8 × List UInt8)) (w : World) (b : Nat) (h : ∀ (j : Nat) t, (ps.flatMap fun x => [x.1, x.2])[j]? = some t → w.cell? ⟨b, j, none⟩ = some (S t)) : PairsAt w b ps := by
  intro k x hx
  have key : ∀ (ps : List (List UInt8 × List UInt8)) (k : Nat) (x : List UInt8 × List UInt8), ps[k]? = some x → (ps.flatMap fun x => [x.1, x.2])[2 * k]? = some x.1 ∧ (ps.flatMap fun x => [x.1, x.2])[2 * k + 1]? = some x.2 := by
    intro ps
    induction ps with
    | nil => intro k x hx; simp at hx
    | cons y ps ih =>
      intro k x hx
      cases k with
      | zero =>
        obtain rfl : y = x := by simpa using hx
        exact ⟨rfl, rfl⟩
      | succ k =>
        have := ih k x (by simpa using hx)
        rw [show 2 * (k + 1) = 2 * k + 1 + 1 by omega]
        exact this
  exact ⟨h _ _ (key ps k x hx).1, h _ _ (key ps k x hx).2⟩
end Go.Proofs.YtojgcangnkjmjaaGreatDoor
namespace Go.Proofs.YtojgcangnkjmjaaGreatDoor
open Go.RowKit

/-- what is laid down of a table of pairs, all closed facts -/
structure Okay (ps : List (List UInt8 × List UInt8)) (k0 : Nat) : Prop where
  n2 : 2 ≤ ps.length
  n100 : ps.length ≤ 100
  short : ∀ x ∈ ps, x.1.length ≤ 2
  keys : ∀ (k : Nat) x, ps[k]? = some x → ∃ c rest, x.1 = c :: rest ∧ rest.length ≤ 1 ∧ KeyOk (lookTo ps k) c rest
  few : Rp.cnt (inKeys (keysOf ps)) 256 ≤ 255
  lt : k0 < ps.length
  two : ∀ x, ps[k0]? = some x → x.1.length = 2
/-- the escape by a table -/
def esc (ps : List (List UInt8 × List UInt8)) (s : List UInt8) : List UInt8 := Rp.repl (lookTo ps ps.length) 0 s
theorem look_pos (ps : List (List UInt8 × List UInt8)) : ∀ k, k ≤ ps.length → ∀ c nd, lookTo ps k c = some nd → 0 ≤ nd.p1 ∧ ∀ d p2 v2, nd.nx = some (d, p2, v2) → 0 < p2
  | 0, _, c, nd, h => by cases h
  | k + 1, hk, c, nd, h => by
    have ih := look_pos ps k (by omega)
    cases e : ps[k]? with
    | none => rw [lookTo, e] at h; exact ih c nd h
    | some y =>
      obtain ⟨key, val⟩ := y
      cases key with
      | nil => rw [lookTo, e] at h; exact ih c nd h
      | cons x rest =>
        rw [lookTo_succ e] at h
        by_cases hx : c = x
        · subst hx
          simp only [if_true] at h
          cases rest with
          | nil =>
            cases eo : lookTo ps k c with
            | none =>
              rw [eo] at h
              obtain rfl := Option.some.inj h
              exact ⟨by show (0 : Int) ≤ ((2 * ps.length - 2 * k : Nat) : Int); omega, fun d p2 v2 h => by cases h⟩
            | some n0 =>
              rw [eo] at h
              obtain rfl := Option.some.inj h
              exact ⟨by show (0 : Int) ≤ ((2 * ps.length - 2 * k : Nat) : Int); omega, (ih c n0 eo).2⟩
          | cons d r =>
            obtain rfl := Option.some.inj h
            refine ⟨Int.le_refl _, fun d p2 v2 h => ?_⟩
            have := Option.some.inj h
            simp only [Prod.mk.injEq] at this
            obtain ⟨_, rfl, _⟩ := this
            omega
        · simp only [hx, if_false] at h
          exact ih c nd h

set_option maxRecDepth 100000 in
theorem useOnce (ps : List (List UInt8 × List UInt8)) (k0 : Nat) (ok : Okay ps k0) (Q b cap B : Nat) (s u : List UInt8) (w : World) (hQ : RepAt w Q 0 0 0 .nilIface (.slice (some ⟨b, 0, none⟩) (2 * ps.length) cap)) (hps : PairsAt w b ps) (hbQ : b ≠ Q) (hB : B ≤ Q) (hl : s.length ≤ 1048576) (hul : u.length ≤ 140737488355328) (hu : Hid (esc ps s = u)) :
    Calls Tryz.prog 36 #[.pointer (some ⟨Q, 0, none⟩), S s] w fun e w' => e = .returned (S u) ∧ Below B w w' := by
  refine replaceOnce Q B (lookTo ps ps.length) s u _ w hQ hB (hide fun W hW hk => ?_) (hide (look_pos ps ps.length (Nat.le_refl _))) hl hul hu
  have hpW : PairsAt W b ps := fun k x hx => ⟨cell_keep hk (hps k x hx).1 hbQ, cell_keep hk (hps k x hx).2 hbQ⟩
  refine buildOnce ps Q b cap B 0 1 0 W hW hB (hide fun V hV hpV => ?_) (hide hpW)
  exact build ps Q b cap V hV (hide hpV) ok.n100 ok.n2 (hide ok.short) (hide ok.keys) _ (hide rfl) ok.few k0 ok.lt (hide ok.two)
end Go.Proofs.YtojgcangnkjmjaaGreatDoor
