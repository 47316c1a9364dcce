/- A text's marks are escaped. -/
import Derived.Test.YtagkdmolgmhmdaaGreatDoorSa
namespace Go.Proofs.YtagkdmolgmhmdaaGreatDoor
open Go.RowKit

/-- what is laid down of a table of pairs, all closed facts -/
structure Okay (ps : List (List UInt8 × List UInt8)) (k0 : Nat) : Prop where
  n2 : 2 ≤ ps.length
  n100 : ps.length ≤ 100
  short : ∀ x ∈ ps, x.1.length ≤ 2
  keys : ∀ (k : Nat) x, ps[k]? = some x → ∃ c rest, x.1 = c :: rest ∧ rest.length ≤ 1 ∧ lookTo ps k c = none
  few : Rp.cnt (inKeys (keysOf ps)) 256 ≤ 255
  lt : k0 < ps.length
  two : ∀ x, ps[k0]? = some x → x.1.length = 2
/-- the escape by a table -/
def esc (ps : List (List UInt8 × List UInt8)) (s : List UInt8) : List UInt8 := Rp.repl (lookTo ps ps.length) 0 s
theorem look_pos (ps : List (List UInt8 × List UInt8)) : ∀ k, k ≤ ps.length → ∀ c nd, lookTo ps k c = some nd → 0 ≤ nd.p1 ∧ ∀ d p2 v2, nd.nx = some (d, p2, v2) → 0 < p2
  | 0, _, c, nd, h => by cases h
  | k + 1, hk, c, nd, h => by
    have ih := look_pos ps k (by omega)
    cases e : ps[k]? with
    | none => rw [lookTo, e] at h; exact ih c nd h
    | some y =>
      obtain ⟨key, val⟩ := y
      cases key with
      | nil => rw [lookTo, e] at h; exact ih c nd h
      | cons x rest =>
        rw [lookTo_succ e] at h
        by_cases hx : c = x
        · subst hx
          simp only [if_true] at h
          cases rest with
          | nil =>
            obtain rfl := Option.some.inj h
            exact ⟨by show (0 : Int) ≤ ((2 * ps.length - 2 * k : Nat) : Int); omega, fun d p2 v2 h => by cases h⟩
          | cons d r =>
            obtain rfl := Option.some.inj h
            refine ⟨Int.le_refl _, fun d p2 v2 h => ?_⟩
            have := Option.some.inj h
            simp only [Prod.mk.injEq] at this
            obtain ⟨_, rfl, _⟩ := this
            omega
        · simp only [hx, if_false] at h
          exact ih c nd h

set_option maxRecDepth 100000 in
theorem useOnce (ps : List (List UInt8 × List UInt8)) (k0 : Nat) (ok : Okay ps k0) (Q b cap B : Nat) (s u : List UInt8) (w : World) (hQ : RepAt w Q 0 0 0 .nilIface (.slice (some ⟨b, 0, none⟩) (2 * ps.length) cap)) (hps : PairsAt w b ps) (hbQ : b ≠ Q) (hB : B ≤ Q) (hl : s.length ≤ 1048576) (hul : u.length ≤ 140737488355328) (hu : Hid (esc ps s = u)) :
    Calls Tryz.prog 82 #[.pointer (some ⟨Q, 0, none⟩), S s] w fun e w' => e = .returned (S u) ∧ Below B w w' := by
  refine replaceOnce Q B (lookTo ps ps.length) s u _ w hQ hB (hide fun W hW hk => ?_) (hide (look_pos ps ps.length (Nat.le_refl _))) hl hul hu
  have hpW : PairsAt W b ps := fun k x hx => ⟨cell_keep hk (hps k x hx).1 hbQ, cell_keep hk (hps k x hx).2 hbQ⟩
  refine buildOnce ps Q b cap B 0 1 0 W hW hB (hide fun V hV hpV => ?_) (hide hpW)
  exact build ps Q b cap V hV (hide hpV) ok.n100 ok.n2 (hide ok.short) (hide ok.keys) _ (hide rfl) ok.few k0 ok.lt (hide ok.two)
end Go.Proofs.YtagkdmolgmhmdaaGreatDoor
