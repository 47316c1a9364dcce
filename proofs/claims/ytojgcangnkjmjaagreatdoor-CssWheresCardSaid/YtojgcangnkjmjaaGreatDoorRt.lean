/- The table of a generic replacer, key by key. -/
import Derived.Test.YtojgcangnkjmjaaGreatDoorRs
namespace Go.Proofs.YtojgcangnkjmjaaGreatDoor
open Go.RowKit

/-- a node with what hangs on it, by blocks -/
def NodeF (w : World) (N : Nat) (nd : Rp.Nd) : Prop :=
  match nd.nx with
  | none => NodeB w N nd.v1 nd.p1 [] (.pointer none)
  | some (d, p2, v2) => ∃ M, NodeB w N nd.v1 nd.p1 [d] (.pointer (some ⟨M, 0, none⟩)) ∧ NodeB w M v2 p2 [] (.pointer none)
theorem NodeF.at' {w : World} {N : Nat} {nd : Rp.Nd} (h : NodeF w N nd) : NodeAt w N nd := by
  unfold NodeF at h
  unfold NodeAt
  cases e : nd.nx with
  | none =>
    rw [e] at h
    obtain ⟨⟨c0, c1, c2, c3, c4⟩, _⟩ := h.cells
    exact ⟨c0, c1, c4, c2, c3⟩
  | some x =>
    obtain ⟨d, p2, v2⟩ := x
    rw [e] at h
    obtain ⟨M, h1, h2⟩ := h
    obtain ⟨⟨c0, c1, c2, c3, c4⟩, _⟩ := h1.cells
    obtain ⟨⟨k0, k1, k2, k3, k4⟩, _⟩ := h2.cells
    exact ⟨c0, c1, c4, c2, M, c3, k0, k1, k2, k3, k4⟩
theorem NodeB.keep {w w' : World} {T N : Nat} {C : Array Value} {v pre : List UInt8} {p : Int} {nx : Value} (h : NodeB w N v p pre nx) (hT : w.heap[T]? = some (.cells C 173 (0, 0))) (hk : ∀ k : Nat, k < w.heap.size → k ≠ T → w'.heap[k]? = w.heap[k]?) : NodeB w' N v p pre nx := by
  refine h.of_heap (hk N (heap_lt h) fun e => ?_)
  unfold NodeB at h
  rw [e, hT] at h
  exact absurd h (by simp)
theorem NodeF.keep {w w' : World} {T N : Nat} {C : Array Value} {nd : Rp.Nd} (h : NodeF w N nd) (hT : w.heap[T]? = some (.cells C 173 (0, 0))) (hk : ∀ k : Nat, k < w.heap.size → k ≠ T → w'.heap[k]? = w.heap[k]?) : NodeF w' N nd := by
  unfold NodeF at h ⊢
  cases e : nd.nx with
  | none => rw [e] at h; exact NodeB.keep h hT hk
  | some x =>
    obtain ⟨d, p2, v2⟩ := x
    rw [e] at h
    obtain ⟨M, h1, h2⟩ := h
    exact ⟨M, h1.keep hT hk, h2.keep hT hk⟩
theorem MapAt.keep {w w' : World} {T R : Nat} {C : Array Value} {hd : List Value} {m : Nat → Int} (h : MapAt w R hd m) (hT : w.heap[T]? = some (.cells C 173 (0, 0))) (hk : ∀ k : Nat, k < w.heap.size → k ≠ T → w'.heap[k]? = w.heap[k]?) : MapAt w' R hd m := by
  obtain ⟨C2, hC2, hC3⟩ := h
  refine ⟨C2, (hk R (heap_lt hC2) fun e => ?_).trans hC2, hC3⟩
  rw [e, hT] at hC2
  exact absurd hC2 (by simp)
/-- the node that a key's rest makes -/
def ndOf (rest val : List UInt8) (prio : Nat) : Rp.Nd :=
  match rest with
  | [] => ⟨prio, val, none⟩
  | d :: _ => ⟨0, [], some (d, prio, val)⟩
/-- the table under way -/
def Tr (w : World) (R T kk : Nat) (p : Nat → Bool) (look : UInt8 → Option Rp.Nd) : Prop :=
  MapAt w R (headG kk (.slice (some ⟨T, 0, none⟩) kk kk)) (Rp.place p kk) ∧ ∃ C : Array Value, w.heap[T]? = some (.cells C 173 (0, 0)) ∧ ∀ c : UInt8, p c.toNat = true → match look c with
    | none => C[Rp.cnt p c.toNat]? = some (.pointer none)
    | some nd => ∃ N, R ≤ N ∧ C[Rp.cnt p c.toNat]? = some (.pointer (some ⟨N, 0, none⟩)) ∧ NodeF w N nd
theorem Tr.below {w w' : World} {R T kk : Nat} {p : Nat → Bool} {look : UInt8 → Option Rp.Nd} (h : Tr w R T kk p look) (hb : Below w.heap.size w w') : Tr w' R T kk p look := by
  obtain ⟨h1, C, h2, h3⟩ := h
  have hk : ∀ k : Nat, k < w.heap.size → k ≠ T → w'.heap[k]? = w.heap[k]? := fun k hk _ => hb.block k hk
  refine ⟨h1.keep h2 hk, C, (hb.block T (heap_lt h2)).trans h2, fun c hc => ?_⟩
  have := h3 c hc
  cases e : look c with
  | none => rw [e] at this; exact this
  | some nd =>
    rw [e] at this
    obtain ⟨N, hRN, a, b⟩ := this
    exact ⟨N, hRN, a, b.keep h2 hk⟩
theorem addKey (R T kk B : Nat) (p : Nat → Bool) (look : UInt8 → Option Rp.Nd) (c : UInt8) (rest val : List UInt8) (prio : Nat) (w : World) (h : Hid (Tr w R T kk p look)) (hc : p c.toNat = true) (hl : Hid (look c = none)) (hkk : Rp.cnt p 256 = kk) (hk : kk ≤ 255) (hB : B ≤ T) (hr : rest.length ≤ 1) :
    Calls Tryz.prog 143 #[.pointer (some ⟨R, 0, none⟩), S (c :: rest), S val, .int .i64 prio, .pointer (some ⟨R, 0, none⟩)] w fun e w' => e = .returned (.tuple #[]) ∧ Tr w' R T kk p (fun x => if x = c then some (ndOf rest val prio) else look x) ∧ Below B w w' := by
  obtain ⟨h1, C, h2, h3⟩ := h.out
  have hq := h3 c hc
  rw [hl.out] at hq
  have hTl := heap_lt h2
  have hpl : Rp.place p kk c.toNat = Rp.cnt p c.toNat := by unfold Rp.place; rw [hc]; rfl
  have hlt : Rp.cnt p c.toNat < kk := by rw [← hkk]; exact Rp.cnt_lt p _ _ hc c.toNat_lt
  refine (addRoot R T (Rp.cnt p c.toNat) kk B c rest val prio w (fun W w' => NodeF w' w.heap.size (ndOf rest val prio) ∧ (∀ k : Nat, k < w.heap.size → w'.heap[k]? = W.heap[k]?) ∧ Below B W w') (hide fun W hWs hWN => ?_) (Rp.place p kk) C h1 h2 hq hpl hlt hk hB).mono ?_
  · cases rest with
    | nil =>
      refine (addNil w.heap.size R [] [] val (.pointer none) prio W hWN).mono ?_
      rintro e w' ⟨rfl, rfl⟩
      refine ⟨rfl, hWN.put val prio, fun k hk => ?_, ((Below.refl B W).setCell (p := ⟨w.heap.size, 0, none⟩) (by show B ≤ w.heap.size; omega) _).setCell (p := ⟨w.heap.size, 1, none⟩) (by show B ≤ w.heap.size; omega) _⟩
      have : ¬ w.heap.size = k := by omega
      simp [World.setCell, Array.getElem?_modify, this]
    | cons d r =>
      obtain rfl : r = [] := by cases r with
        | nil => rfl
        | cons a b => simp at hr
      refine (addOne w.heap.size R B d val prio W hWN (by omega)).mono ?_
      rintro e w' ⟨rfl, a1, a2, a3, a4, a5⟩
      exact ⟨rfl, ⟨_, a1, a2⟩, fun k hk => a3 k (by omega) (by omega), a5⟩
  · rintro e w' ⟨rfl, W, b1, b2, b3, b4, b5, b6, b7⟩
    have hko : ∀ k : Nat, k < w.heap.size → k ≠ T → w'.heap[k]? = w.heap[k]? := fun k hk hk2 => (b6 k hk).trans (b2 k hk hk2)
    refine ⟨rfl, ⟨h1.keep h2 hko, _, (b6 T hTl).trans b1, fun x hx => ?_⟩, b4.trans b7⟩
    by_cases e : x = c
    · subst e
      simp only [if_true]
      exact ⟨w.heap.size, by obtain ⟨C2, hC2, _⟩ := h1; exact Nat.le_of_lt (heap_lt hC2), by rw [Array.getElem?_setIfInBounds, if_pos rfl, if_pos (by exact (Array.getElem?_eq_some_iff.1 hq).1)], b5⟩
    · simp only [e, if_false]
      have hne : ¬ Rp.cnt p c.toNat = Rp.cnt p x.toNat := fun q => by
        have hn : x.toNat ≠ c.toNat := fun q => e (UInt8.toNat_inj.1 q)
        rcases Nat.lt_or_gt_of_ne hn with g | g
        · have := Rp.cnt_lt p _ _ hx g; omega
        · have := Rp.cnt_lt p _ _ hc g; omega
      have hx3 := h3 x hx
      cases e2 : look x with
      | none => rw [e2] at hx3; simp only; rw [Array.getElem?_setIfInBounds, if_neg hne]; exact hx3
      | some nd =>
        rw [e2] at hx3
        obtain ⟨N, hRN, a, b⟩ := hx3
        simp only
        exact ⟨N, hRN, by rw [Array.getElem?_setIfInBounds, if_neg hne]; exact a, b.keep h2 hko⟩
/-- a key of one byte whose first byte has a node already, which has no value; nothing else is in the table -/
theorem addKey2 (R T kk B : Nat) (p : Nat → Bool) (look : UInt8 → Option Rp.Nd) (c : UInt8) (val : List UInt8) (prio : Nat) (nd : Rp.Nd) (w : World) (h : Hid (Tr w R T kk p look)) (hc : p c.toNat = true) (hl : Hid (look c = some nd)) (h0 : nd.p1 = 0) (hn : Hid (∀ x, x ≠ c → look x = none)) (hkk : Rp.cnt p 256 = kk) (hk : kk ≤ 255) (hB : B ≤ R) :
    Calls Tryz.prog 143 #[.pointer (some ⟨R, 0, none⟩), S [c], S val, .int .i64 prio, .pointer (some ⟨R, 0, none⟩)] w fun e w' => e = .returned (.tuple #[]) ∧ Tr w' R T kk p (fun x => if x = c then some ⟨prio, val, nd.nx⟩ else look x) ∧ Below B w w' := by
  obtain ⟨h1, C, h2, h3⟩ := h.out
  have hq := h3 c hc
  rw [hl.out] at hq
  obtain ⟨N, hRN, hCN, hNF⟩ := hq
  have hpl : Rp.place p kk c.toNat = Rp.cnt p c.toNat := by unfold Rp.place; rw [hc]; rfl
  have hlt : Rp.cnt p c.toNat < kk := by rw [← hkk]; exact Rp.cnt_lt p _ _ hc c.toNat_lt
  have key : ∀ (v pre : List UInt8) (nx : Value), NodeB w N v 0 pre nx → (∀ w' : World, NodeB w' N val prio pre nx → (∀ k : Nat, k ≠ N → w'.heap[k]? = w.heap[k]?) → NodeF w' N ⟨prio, val, nd.nx⟩) →
      Calls Tryz.prog 143 #[.pointer (some ⟨R, 0, none⟩), S [c], S val, .int .i64 prio, .pointer (some ⟨R, 0, none⟩)] w fun e w' => e = .returned (.tuple #[]) ∧ Tr w' R T kk p (fun x => if x = c then some ⟨prio, val, nd.nx⟩ else look x) ∧ Below B w w' := fun v pre nx hNB hfin => by
    refine (addAgain R T (Rp.cnt p c.toNat) kk N c v pre val nx prio w (Rp.place p kk) C h1 h2 hCN hpl hlt hk hNB).mono ?_
    rintro e w' ⟨rfl, n, rfl⟩
    have hNB' : NodeB (w.drewN n) N v 0 pre nx := hNB
    have hput := hNB'.put val prio
    have hoth : ∀ k : Nat, k ≠ N → (((w.drewN n).setCell ⟨N, 0, none⟩ (S val)).setCell ⟨N, 1, none⟩ (.int .i64 prio)).heap[k]? = w.heap[k]? := fun k hk => by
      simp only [World.setCell, Array.getElem?_modify, Ne.symm hk, if_false]
      rfl
    have hTN : T ≠ N := fun e => by
      unfold NodeB at hNB
      rw [← e, h2] at hNB
      exact absurd hNB (by simp)
    have hRN' : R ≠ N := fun e => by
      obtain ⟨C2, hC2, _⟩ := h1
      unfold NodeB at hNB
      rw [← e, hC2] at hNB
      exact absurd hNB (by simp)
    refine ⟨rfl, ⟨?_, C, (hoth T hTN).trans h2, fun x hx => ?_⟩, ?_⟩
    · obtain ⟨C2, hC2, hC3⟩ := h1
      exact ⟨C2, (hoth R hRN').trans hC2, hC3⟩
    · by_cases e : x = c
      · subst e
        simp only [if_true]
        exact ⟨N, hRN, hCN, hfin _ hput hoth⟩
      · simp only [e, if_false]
        have hx3 := h3 x hx
        rw [hn.out x e] at hx3 ⊢
        exact hx3
    · exact (((belowN w n).mono (by have := heap_lt h2; have := heap_lt (show w.heap[N]? = _ from hNB); omega)).setCell (p := ⟨N, 0, none⟩) (by show B ≤ N; omega) _).setCell (p := ⟨N, 1, none⟩) (by show B ≤ N; omega) _
  unfold NodeF at hNF
  cases e : nd.nx with
  | none =>
    rw [e, h0] at hNF
    rw [e] at key
    exact key _ _ _ hNF fun w' hw _ => hw
  | some y =>
    obtain ⟨d, p2, v2⟩ := y
    rw [e, h0] at hNF
    obtain ⟨M, hN1, hM⟩ := hNF
    rw [e] at key
    refine key _ _ _ hN1 fun w' hw ho => ⟨M, hw, ?_⟩
    have hMN : M ≠ N := fun e => by
      unfold NodeB at hN1 hM
      rw [e, hN1] at hM
      simp [nodeC] at hM
    exact hM.of_heap (ho M hMN)
/-- what a key makes of the node that was there -/
def addNd (old : Option Rp.Nd) (rest val : List UInt8) (prio : Nat) : Rp.Nd := match rest, old with
  | [], some nd => ⟨prio, val, nd.nx⟩
  | _, _ => ndOf rest val prio
/-- a key that may be added: none is there with its first byte; or its node has no value yet, and is the only one -/
def KeyOk (look : UInt8 → Option Rp.Nd) (c : UInt8) (rest : List UInt8) : Prop := look c = none ∨ (rest = [] ∧ ∃ nd, look c = some nd ∧ nd.p1 = 0 ∧ ∀ x, x ≠ c → look x = none)
theorem addAny (R T kk B : Nat) (p : Nat → Bool) (look : UInt8 → Option Rp.Nd) (c : UInt8) (rest val : List UInt8) (prio : Nat) (w : World) (h : Hid (Tr w R T kk p look)) (hc : p c.toNat = true) (hl : Hid (KeyOk look c rest)) (hkk : Rp.cnt p 256 = kk) (hk : kk ≤ 255) (hB : B ≤ T) (hBR : B ≤ R) (hr : rest.length ≤ 1) :
    Calls Tryz.prog 143 #[.pointer (some ⟨R, 0, none⟩), S (c :: rest), S val, .int .i64 prio, .pointer (some ⟨R, 0, none⟩)] w fun e w' => e = .returned (.tuple #[]) ∧ Tr w' R T kk p (fun x => if x = c then some (addNd (look c) rest val prio) else look x) ∧ Below B w w' := by
  rcases hl.out with hl | ⟨rfl, nd, hl, h0, hn⟩
  · have := addKey R T kk B p look c rest val prio w h hc (hide hl) hkk hk hB hr
    rw [hl, show addNd none rest val prio = ndOf rest val prio by cases rest <;> rfl]
    exact this
  · have := addKey2 R T kk B p look c val prio nd w h hc (hide hl) h0 (hide hn) hkk hk hBR
    rw [hl]
    exact this
/-- the table after k pairs -/
def lookTo (ps : List (List UInt8 × List UInt8)) : Nat → UInt8 → Option Rp.Nd
  | 0 => fun _ => none
  | k + 1 => match ps[k]? with
    | some (c :: rest, val) => fun x => if x = c then some (addNd (lookTo ps k c) rest val (2 * ps.length - 2 * k)) else lookTo ps k x
    | _ => lookTo ps k
theorem lookTo_succ {ps : List (List UInt8 × List UInt8)} {k : Nat} {c : UInt8} {rest val : List UInt8} (h : ps[k]? = some (c :: rest, val)) : lookTo ps (k + 1) = fun x => if x = c then some (addNd (lookTo ps k c) rest val (2 * ps.length - 2 * k)) else lookTo ps k x := by
  rw [lookTo, h]
theorem lookTo_key (ps : List (List UInt8 × List UInt8)) (x : UInt8) : ∀ k, lookTo ps k x ≠ none → ∃ y ∈ ps, x ∈ y.1
  | 0, h => absurd rfl h
  | k + 1, h => by
    cases e : ps[k]? with
    | none =>
      rw [lookTo, e] at h
      exact lookTo_key ps x k h
    | some y =>
      obtain ⟨key, val⟩ := y
      cases key with
      | nil =>
        rw [lookTo, e] at h
        exact lookTo_key ps x k h
      | cons c rest =>
        rw [lookTo_succ e] at h
        by_cases hx : x = c
        · subst hx
          exact ⟨_, List.mem_of_getElem? e, by simp⟩
        · simp only [hx, if_false] at h
          exact lookTo_key ps x k h
/-- the table is whole: the replacer is ready -/
theorem Tr.gen {w : World} {R T kk : Nat} {p : Nat → Bool} {look : UInt8 → Option Rp.Nd} (h : Tr w R T kk p look) (hkk : Rp.cnt p 256 = kk) (hk : kk ≤ 255) (hl : ∀ c, look c ≠ none → p c.toNat = true) : Gen w R look := by
  obtain ⟨h1, C, h2, h3⟩ := h
  refine ⟨T, kk, fun c => if p c.toNat = true then Rp.cnt p c.toNat else kk, hk, h1.head 1 _ rfl, h1.head 4 _ rfl, h1.head 5 _ rfl, fun c => ?_, fun c => ?_⟩
  · have := h1.byte c.toNat c.toNat_lt
    unfold Rp.place at this
    by_cases e : p c.toNat = true
    · rw [if_pos e] at this
      simp only [e, if_true]
      exact ⟨this, by have : Rp.cnt p c.toNat < Rp.cnt p 256 := Rp.cnt_lt p _ _ e c.toNat_lt; omega⟩
    · rw [if_neg e] at this
      simp only [e]
      exact ⟨this, Nat.le_refl _⟩
  · by_cases e : p c.toNat = true
    · have hlt : Rp.cnt p c.toNat < Rp.cnt p 256 := Rp.cnt_lt p _ _ e c.toNat_lt
      have h4 := h3 c e
      cases e2 : look c with
      | none =>
        rw [e2] at h4
        simp only [e, if_true]
        exact .inr ⟨by omega, by rw [Lib.cell_of_heap h2]; exact h4⟩
      | some nd =>
        rw [e2] at h4
        obtain ⟨N, _, a, b⟩ := h4
        simp only [e, if_true]
        exact ⟨by omega, N, by rw [Lib.cell_of_heap h2]; exact a, b.at'⟩
    · cases e2 : look c with
      | none => simp only [e]; exact .inl rfl
      | some nd => exact absurd (hl c (by rw [e2]; simp)) e
end Go.Proofs.YtojgcangnkjmjaaGreatDoor
