/- How trees lie in memory, to be read. -/
import Derived.Test.YtagkdmolgmhmdaaGreatDoorBase
import Derived.Test.YtagkdmolgmhmdaaGreatDoorPl
namespace Go.Proofs.YtagkdmolgmhmdaaGreatDoor
open Go.RowKit

/-- an attribute's cells at a place -/
def AtA (w : World) (b o : Nat) (a : Dm.A) : Prop :=
  w.cell? ⟨b, o, none⟩ = some (S a.sp) ∧ w.cell? ⟨b, o + 1, none⟩ = some (S a.nm) ∧ w.cell? ⟨b, o + 2, none⟩ = some (S a.vl)
/-- a slice that reads as attributes -/
def RdA (w : World) (v : Value) (l : List Dm.A) : Prop :=
  ∃ ao cap, v = .slice ao l.length cap ∧ (ao = none → cap = 0) ∧ ∀ (i : Nat) a, l[i]? = some a → ∃ b o, ao = some ⟨b, o, none⟩ ∧ AtA w b (o + i * 3) a
/-- a node's cells at a place -/
def AtN (w : World) (b o : Nat) (d : Dm.D) (av kv : Value) : Prop :=
  w.cell? ⟨b, o, none⟩ = some (.int .u8 d.kd) ∧ w.cell? ⟨b, o + 1, none⟩ = some (S d.sp) ∧ w.cell? ⟨b, o + 2, none⟩ = some (S d.nm) ∧ w.cell? ⟨b, o + 3, none⟩ = some av ∧
  w.cell? ⟨b, o + 4, none⟩ = some (S d.tx) ∧ w.cell? ⟨b, o + 5, none⟩ = some (S d.pb) ∧ w.cell? ⟨b, o + 6, none⟩ = some (S d.sy) ∧ w.cell? ⟨b, o + 7, none⟩ = some kv
mutual
/-- below a node: its attributes and kids -/
def RdT (w : World) : Dm.T → Value → Value → Prop
  | .mk d ks, av, kv => RdA w av d.ats ∧ ∃ ao cap, kv = .slice ao ks.length cap ∧ RdK w ks ao 0
def RdK (w : World) : List Dm.T → Option Addr → Nat → Prop
  | [], _, _ => True
  | t :: r, ao, i => (∃ b o av kv, ao = some ⟨b, o, none⟩ ∧ AtN w b (o + i * 8) t.d av kv ∧ RdT w t av kv) ∧ RdK w r ao (i + 1)
end
/-- a slice that reads as trees -/
def RdS (w : World) (v : Value) (ks : List Dm.T) : Prop := ∃ ao cap, v = .slice ao ks.length cap ∧ RdK w ks ao 0
/-- a node's value -/
abbrev NV (d : Dm.D) (av kv : Value) : Value := .agg #[.int .u8 d.kd, S d.sp, S d.nm, av, S d.tx, S d.pb, S d.sy, kv]

theorem RdT.mk_iff {w : World} {d : Dm.D} {ks : List Dm.T} {av kv : Value} : RdT w (.mk d ks) av kv ↔ RdA w av d.ats ∧ RdS w kv ks := by
  unfold RdS
  simp only [RdT]
theorem RdT.eta {w : World} {t : Dm.T} {av kv : Value} (h : RdT w t av kv) : RdA w av t.d.ats ∧ RdS w kv t.ks := by
  rw [← t.eta] at h
  exact RdT.mk_iff.1 h
theorem RdK.at {w : World} {ao : Option Addr} : ∀ {ks : List Dm.T} {i0 : Nat}, RdK w ks ao i0 → ∀ {i : Nat} {t : Dm.T}, ks[i]? = some t →
    ∃ b o av kv, ao = some ⟨b, o, none⟩ ∧ AtN w b (o + (i0 + i) * 8) t.d av kv ∧ RdT w t av kv
  | [], _, _, i, t, hx => by simp at hx
  | x :: r, i0, h, i, t, hx => by
    simp only [RdK] at h
    cases i with
    | zero =>
      obtain rfl : x = t := by simpa using hx
      simpa using h.1
    | succ i =>
      have := RdK.at h.2 (i := i) (t := t) (by simpa using hx)
      rwa [show i0 + 1 + i = i0 + (i + 1) by omega] at this
theorem RdK.of {w : World} {ao : Option Addr} : ∀ {ks : List Dm.T} {i0 : Nat}, (∀ (i : Nat) t, ks[i]? = some t → ∃ b o av kv, ao = some ⟨b, o, none⟩ ∧ AtN w b (o + (i0 + i) * 8) t.d av kv ∧ RdT w t av kv) → RdK w ks ao i0
  | [], _, _ => by simp only [RdK]
  | x :: r, i0, h => by
    simp only [RdK]
    refine ⟨by simpa using h 0 x rfl, RdK.of fun i t hx => ?_⟩
    have := h (i + 1) t (by simpa using hx)
    rwa [show i0 + 1 + i = i0 + (i + 1) by omega]
theorem RdS.length {w : World} {v : Value} {ks : List Dm.T} (h : RdS w v ks) : ∃ ao c, v = .slice ao ks.length c := let ⟨ao, c, h, _⟩ := h; ⟨ao, c, h⟩
theorem RdA.length {w : World} {v : Value} {l : List Dm.A} (h : RdA w v l) : ∃ ao c, v = .slice ao l.length c := let ⟨ao, c, h, _⟩ := h; ⟨ao, c, h⟩
theorem RdS.at {w : World} {ao : Option Addr} {n c : Nat} {ks : List Dm.T} (h : RdS w (.slice ao n c) ks) {i : Nat} {t : Dm.T} (hx : ks[i]? = some t) :
    ∃ b o av kv, ao = some ⟨b, o, none⟩ ∧ AtN w b (o + i * 8) t.d av kv ∧ RdT w t av kv := by
  obtain ⟨ao', c', e, h⟩ := h
  injection e with e1 e2 e3
  subst e1
  have := h.at hx
  rwa [Nat.zero_add] at this
theorem RdA.at {w : World} {ao : Option Addr} {n c : Nat} {l : List Dm.A} (h : RdA w (.slice ao n c) l) {i : Nat} {a : Dm.A} (hx : l[i]? = some a) :
    ∃ b o, ao = some ⟨b, o, none⟩ ∧ AtA w b (o + i * 3) a := by
  obtain ⟨ao', c', e, _, h⟩ := h
  injection e with e1 e2 e3
  subst e1
  exact h i a hx
theorem RdS.nil (w : World) (ao : Option Addr) (c : Nat) : RdS w (.slice ao 0 c) [] := ⟨ao, c, rfl, by simp only [RdK]⟩
theorem RdA.nil (w : World) : RdA w (.slice none 0 0) [] := ⟨none, 0, rfl, fun _ => rfl, fun i a h => by simp at h⟩
theorem RdS.of {w : World} {ao : Option Addr} {c : Nat} {ks : List Dm.T} (h : ∀ (i : Nat) t, ks[i]? = some t → ∃ b o av kv, ao = some ⟨b, o, none⟩ ∧ AtN w b (o + i * 8) t.d av kv ∧ RdT w t av kv) : RdS w (.slice ao ks.length c) ks :=
  ⟨ao, c, rfl, RdK.of fun i t hx => by rw [Nat.zero_add]; exact h i t hx⟩

/-! ### cells that stay -/
def Stay (w w' : World) : Prop := ∀ (b o : Nat) v, w.cell? ⟨b, o, none⟩ = some v → w'.cell? ⟨b, o, none⟩ = some v
theorem Stay.of_below {w w' : World} (h : Below w.heap.size w w') : Stay w w' := fun _ _ _ hc => (h.cell (World.block_lt_of_cell? w _ hc)).trans hc
theorem AtA.stay {w w' : World} {b o : Nat} {a : Dm.A} (h : AtA w b o a) (hs : Stay w w') : AtA w' b o a := ⟨hs _ _ _ h.1, hs _ _ _ h.2.1, hs _ _ _ h.2.2⟩
theorem AtN.stay {w w' : World} {b o : Nat} {d : Dm.D} {av kv : Value} (h : AtN w b o d av kv) (hs : Stay w w') : AtN w' b o d av kv :=
  ⟨hs _ _ _ h.1, hs _ _ _ h.2.1, hs _ _ _ h.2.2.1, hs _ _ _ h.2.2.2.1, hs _ _ _ h.2.2.2.2.1, hs _ _ _ h.2.2.2.2.2.1, hs _ _ _ h.2.2.2.2.2.2.1, hs _ _ _ h.2.2.2.2.2.2.2⟩
theorem RdA.stay {w w' : World} {v : Value} {l : List Dm.A} (h : RdA w v l) (hs : Stay w w') : RdA w' v l := by
  obtain ⟨ao, c, e, h0, h⟩ := h
  refine ⟨ao, c, e, h0, fun i a hx => ?_⟩
  obtain ⟨b, o, h1, h2⟩ := h i a hx
  exact ⟨b, o, h1, h2.stay hs⟩
theorem RdT.stay {w w' : World} (hs : Stay w w') (t : Dm.T) : ∀ av kv, RdT w t av kv → RdT w' t av kv := by
  refine Dm.T.induct (C := fun t => ∀ av kv, RdT w t av kv → RdT w' t av kv) (fun d ks ih av kv h => ?_) t
  obtain ⟨h1, ao, c, e, h2⟩ := RdT.mk_iff.1 h
  refine RdT.mk_iff.2 ⟨h1.stay hs, ao, c, e, RdK.of fun i t hx => ?_⟩
  obtain ⟨b, o, av, kv, e1, e2, e3⟩ := h2.at hx
  exact ⟨b, o, av, kv, e1, e2.stay hs, ih t (List.mem_of_getElem? hx) av kv e3⟩
theorem RdS.stay {w w' : World} {v : Value} {ks : List Dm.T} (h : RdS w v ks) (hs : Stay w w') : RdS w' v ks := by
  obtain ⟨ao, c, e, h2⟩ := h
  refine ⟨ao, c, e, RdK.of fun i t hx => ?_⟩
  obtain ⟨b, o, av, kv, e1, e2, e3⟩ := h2.at hx
  exact ⟨b, o, av, kv, e1, e2.stay hs, e3.stay hs t av kv⟩
theorem RdS.below {w w' : World} {v : Value} {ks : List Dm.T} (h : RdS w v ks) (hb : Below w.heap.size w w') : RdS w' v ks := h.stay (Stay.of_below hb)
theorem RdA.below {w w' : World} {v : Value} {l : List Dm.A} (h : RdA w v l) (hb : Below w.heap.size w w') : RdA w' v l := h.stay (Stay.of_below hb)
theorem RdT.below {w w' : World} {t : Dm.T} {av kv : Value} (h : RdT w t av kv) (hb : Below w.heap.size w w') : RdT w' t av kv := h.stay (Stay.of_below hb) t av kv
end Go.Proofs.YtagkdmolgmhmdaaGreatDoor
