/- Trees that the call itself has laid: the blocks that they take. -/
import Derived.Test.YtagkdmolgmhmdaaGreatDoorDc
import Derived.Laws.OwnMore
import Derived.Deep.AppendLies
import Derived.Laws.AppendOwnNone
import Derived.Maps.AppendAt
namespace Go.Proofs.YtagkdmolgmhmdaaGreatDoor
open Go.RowKit

def atCells (l : List Dm.A) : List Value := l.flatMap fun a => [S a.sp, S a.nm, S a.vl]
def ndCells (d : Dm.D) (av kv : Value) : List Value := [.int .u8 d.kd, S d.sp, S d.nm, av, S d.tx, S d.pb, S d.sy, kv]
def kidCells : List Dm.T → List (Value × Value) → List Value
  | t :: r, p :: s => ndCells t.d p.1 p.2 ++ kidCells r s
  | _, _ => []
theorem atCells_length (l : List Dm.A) : (atCells l).length = l.length * 3 := by
  induction l with
  | nil => rfl
  | cons a l ih => simp only [atCells, List.flatMap_cons, List.length_append, List.length_cons, List.length_nil] at ih ⊢; omega
theorem atCells_at : ∀ {l : List Dm.A} {i : Nat} {a : Dm.A}, l[i]? = some a → ∀ {j : Nat}, j < 3 → (atCells l)[i * 3 + j]? = [S a.sp, S a.nm, S a.vl][j]?
  | [], i, a, h, j, hj => by simp at h
  | x :: l, i, a, h, j, hj => by
    cases i with
    | zero =>
      obtain rfl : x = a := by simpa using h
      simp only [atCells, List.flatMap_cons]
      rw [List.getElem?_append_left (by simp; omega)]
      simp
    | succ i =>
      have ih := atCells_at (l := l) (i := i) (a := a) (by simpa using h) hj
      simp only [atCells, List.flatMap_cons] at ih ⊢
      rw [List.getElem?_append_right (by simp; omega), ← ih]
      congr 1
      simp only [List.length_cons, List.length_nil]
      omega
theorem kidCells_at : ∀ {ks : List Dm.T} {vs : List (Value × Value)} {i : Nat} {t : Dm.T} {p : Value × Value}, ks[i]? = some t → vs[i]? = some p → ∀ {j : Nat}, j < 8 → (kidCells ks vs)[i * 8 + j]? = (ndCells t.d p.1 p.2)[j]?
  | [], vs, i, t, p, h, h', j, hj => by simp at h
  | x :: ks, [], i, t, p, h, h', j, hj => by simp at h'
  | x :: ks, y :: vs, i, t, p, h, h', j, hj => by
    cases i with
    | zero =>
      obtain rfl : x = t := by simpa using h
      obtain rfl : y = p := by simpa using h'
      simp only [kidCells]
      rw [List.getElem?_append_left (by simp [ndCells]; omega)]
      simp
    | succ i =>
      have ih := kidCells_at (ks := ks) (vs := vs) (i := i) (t := t) (p := p) (by simpa using h) (by simpa using h') hj
      simp only [kidCells]
      rw [List.getElem?_append_right (by simp [ndCells]; omega), ← ih]
      congr 1
      simp only [ndCells, List.length_cons, List.length_nil]
      omega
theorem kidCells_length : ∀ {ks : List Dm.T} {vs : List (Value × Value)}, ks.length = vs.length → (kidCells ks vs).length = ks.length * 8
  | [], vs, h => by simp [kidCells]
  | x :: ks, [], h => by simp at h
  | x :: ks, y :: vs, h => by
    have ih := kidCells_length (ks := ks) (vs := vs) (by simpa using h)
    simp only [kidCells, List.length_append, ih, ndCells, List.length_cons, List.length_nil]
    omega
theorem kidCells_snoc : ∀ {ks : List Dm.T} {vs : List (Value × Value)} (t : Dm.T) (p : Value × Value), ks.length = vs.length → kidCells (ks ++ [t]) (vs ++ [p]) = kidCells ks vs ++ ndCells t.d p.1 p.2
  | [], [], t, p, h => by simp [kidCells]
  | [], y :: vs, t, p, h => by simp at h
  | x :: ks, [], t, p, h => by simp at h
  | x :: ks, y :: vs, t, p, h => by
    simp only [List.cons_append, kidCells, kidCells_snoc t p (show ks.length = vs.length by simpa using h), List.append_assoc]

mutual
/-- below a node, in the blocks F -/
def OwT (w : World) : Dm.T → List Nat → Value → Value → Prop
  | .mk d ks, F, av, kv => w.ownsRow 0 43 3 av d.ats.length (atCells d.ats) ∧
      ∃ vs G, w.ownsRow 0 26 8 kv ks.length (kidCells ks vs) ∧ OwK w ks vs G ∧ F = av.ownBlock.toList ++ (kv.ownBlock.toList ++ G)
def OwK (w : World) : List Dm.T → List (Value × Value) → List Nat → Prop
  | [], vs, G => vs = [] ∧ G = []
  | t :: r, vs, G => ∃ p s F H, vs = p :: s ∧ OwT w t F p.1 p.2 ∧ OwK w r s H ∧ G = F ++ H
end
theorem OwK.len {w : World} : ∀ {ks : List Dm.T} {vs : List (Value × Value)} {G : List Nat}, OwK w ks vs G → ks.length = vs.length
  | [], vs, G, h => by simp only [OwK] at h; rw [h.1]; rfl
  | t :: r, vs, G, h => by
    simp only [OwK] at h
    obtain ⟨p, s, F, H, rfl, _, h, rfl⟩ := h
    simp [h.len]
theorem OwK.snoc {w : World} : ∀ {ks : List Dm.T} {vs : List (Value × Value)} {G : List Nat}, OwK w ks vs G → ∀ {t : Dm.T} {F : List Nat} {av kv : Value}, OwT w t F av kv → OwK w (ks ++ [t]) (vs ++ [(av, kv)]) (G ++ F)
  | [], vs, G, h, t, F, av, kv, ht => by
    simp only [OwK] at h
    obtain ⟨rfl, rfl⟩ := h
    simp only [List.nil_append, OwK]
    exact ⟨_, [], F, [], rfl, ht, ⟨rfl, rfl⟩, by simp⟩
  | x :: r, vs, G, h, t, F, av, kv, ht => by
    simp only [OwK] at h
    obtain ⟨p, s, F', H, rfl, h1, h2, rfl⟩ := h
    simp only [List.cons_append, OwK]
    exact ⟨p, _, F', _, rfl, h1, h2.snoc ht, by simp⟩
theorem OwK.at {w : World} : ∀ {ks : List Dm.T} {vs : List (Value × Value)} {G : List Nat}, OwK w ks vs G → ∀ {i : Nat} {t : Dm.T}, ks[i]? = some t →
    ∃ p F, vs[i]? = some p ∧ OwT w t F p.1 p.2 ∧ ∃ A B, G = A ++ (F ++ B) ∧ OwK w (ks.take i) (vs.take i) A ∧ OwK w (ks.drop (i + 1)) (vs.drop (i + 1)) B
  | [], vs, G, h, i, t, hx => by simp at hx
  | x :: r, vs, G, h, i, t, hx => by
    simp only [OwK] at h
    obtain ⟨p, s, F', H, rfl, h1, h2, rfl⟩ := h
    cases i with
    | zero =>
      obtain rfl : x = t := by simpa using hx
      exact ⟨p, F', rfl, h1, [], H, by simp, by simp [OwK], by simpa using h2⟩
    | succ i =>
      obtain ⟨q, F, e1, e2, A, B, rfl, e3, e4⟩ := h2.at (i := i) (t := t) (by simpa using hx)
      refine ⟨q, F, by simpa using e1, e2, F' ++ A, B, by simp, ?_, by simpa using e4⟩
      simp only [List.take_succ_cons, OwK]
      exact ⟨p, _, F', A, rfl, h1, e3, rfl⟩

theorem owns_of_block {w w' : World} {base : Nat} {e : TypeId} {size : Nat} {v : Value} {n : Nat} {xs : List Value} (h : w.ownsRow base e size v n xs) (hg : ∀ g, v.ownBlock = some g → w'.heap[g]? = w.heap[g]?) : w'.ownsRow base e size v n xs := by
  refine ⟨h.1, ?_⟩
  rcases h.2 with hn | ⟨g, cap, cur, rfl, hb, hh, r⟩
  · exact .inl hn
  · exact .inr ⟨g, cap, cur, rfl, hb, (hg g rfl).trans hh, r⟩
theorem owns_base {w : World} {base base' : Nat} {e : TypeId} {size : Nat} {v : Value} {n : Nat} {xs : List Value} (h : w.ownsRow base e size v n xs) (hb : base' ≤ base) : w.ownsRow base' e size v n xs := by
  refine ⟨h.1, ?_⟩
  rcases h.2 with hn | ⟨g, cap, cur, rfl, hb', r⟩
  · exact .inl hn
  · exact .inr ⟨g, cap, cur, rfl, Nat.le_trans hb hb', r⟩
theorem owns_form {w : World} {base : Nat} {e : TypeId} {size : Nat} {v : Value} {n : Nat} {xs : List Value} (h : w.ownsRow base e size v n xs) : ∃ ao cap, v = .slice ao n cap ∧ (ao = none → cap = 0) := by
  rcases h.2 with ⟨rfl, rfl⟩ | ⟨g, cap, cur, rfl, _⟩
  · exact ⟨none, 0, rfl, fun _ => rfl⟩
  · exact ⟨_, cap, rfl, fun h => by cases h⟩
theorem owns_at {w : World} {base : Nat} {e : TypeId} {size : Nat} {ao : Option Addr} {n cap i : Nat} {xs : List Value} (h : w.ownsRow base e size (.slice ao n cap) n xs) (hi : i < n) :
    ∃ g, ao = some ⟨g, 0, none⟩ ∧ ∀ j, j < size → w.cell? ⟨g, i * size + j, none⟩ = xs[i * size + j]? := by
  rcases h.2 with ⟨_, h0⟩ | ⟨g, cap', cur, hv, _⟩
  · omega
  · injection hv with h1 h2 h3
    subst h1; subst h3
    refine ⟨g, rfl, fun j hj => h.cellAt _ ?_⟩
    calc i * size + j < i * size + size := by omega
      _ = (i + 1) * size := by rw [Nat.add_mul]; omega
      _ ≤ n * size := Nat.mul_le_mul_right _ hi
theorem RdA.of_own {w : World} {base : Nat} {v : Value} {l : List Dm.A} (h : w.ownsRow base 43 3 v l.length (atCells l)) : RdA w v l := by
  obtain ⟨ao, cap, rfl, h0⟩ := owns_form h
  refine ⟨ao, cap, rfl, h0, fun i a hx => ?_⟩
  obtain ⟨g, rfl, hc⟩ := owns_at h (List.getElem?_eq_some_iff.1 hx).1
  refine ⟨g, 0, rfl, ?_⟩
  have e0 := (hc 0 (by omega)).trans (atCells_at hx (by omega))
  have e1 := (hc 1 (by omega)).trans (atCells_at hx (by omega))
  have e2 := (hc 2 (by omega)).trans (atCells_at hx (by omega))
  unfold AtA
  rw [Nat.zero_add]
  exact ⟨e0, e1, e2⟩
theorem AtN.of_own {w : World} {base : Nat} {ao : Option Addr} {n cap i : Nat} {ks : List Dm.T} {vs : List (Value × Value)} (h : w.ownsRow base 26 8 (.slice ao n cap) n (kidCells ks vs)) (hn : ks.length = n) {t : Dm.T} {p : Value × Value}
    (ht : ks[i]? = some t) (hp : vs[i]? = some p) : ∃ g, ao = some ⟨g, 0, none⟩ ∧ AtN w g (0 + i * 8) t.d p.1 p.2 := by
  have hi := (List.getElem?_eq_some_iff.1 ht).1
  obtain ⟨g, rfl, hc⟩ := owns_at h (i := i) (by omega)
  refine ⟨g, rfl, ?_⟩
  have e : ∀ j, j < 8 → w.cell? ⟨g, i * 8 + j, none⟩ = (ndCells t.d p.1 p.2)[j]? := fun j hj => (hc j hj).trans (kidCells_at ht hp hj)
  unfold AtN
  rw [Nat.zero_add]
  exact ⟨e 0 (by omega), e 1 (by omega), e 2 (by omega), e 3 (by omega), e 4 (by omega), e 5 (by omega), e 6 (by omega), e 7 (by omega)⟩
theorem OwT.rd {w : World} (t : Dm.T) : ∀ F av kv, OwT w t F av kv → RdT w t av kv := by
  refine Dm.T.induct (C := fun t => ∀ F av kv, OwT w t F av kv → RdT w t av kv) (fun d ks ih F av kv h => ?_) t
  simp only [OwT] at h
  obtain ⟨h1, vs, G, h2, h3, _⟩ := h
  refine RdT.mk_iff.2 ⟨RdA.of_own h1, ?_⟩
  obtain ⟨ao, cap, rfl, _⟩ := owns_form h2
  refine RdS.of fun i t hx => ?_
  obtain ⟨p, F', hp, ht, _⟩ := h3.at hx
  obtain ⟨g, rfl, hc⟩ := AtN.of_own h2 rfl hx hp
  exact ⟨g, 0, p.1, p.2, rfl, hc, ih t (List.mem_of_getElem? hx) _ _ _ ht⟩
theorem RdS.of_own {w : World} {base : Nat} {v : Value} {ks : List Dm.T} {vs : List (Value × Value)} (h : w.ownsRow base 26 8 v ks.length (kidCells ks vs)) (hr : ∀ (i : Nat) t, ks[i]? = some t → ∃ p, vs[i]? = some p ∧ RdT w t p.1 p.2) : RdS w v ks := by
  obtain ⟨ao, cap, rfl, _⟩ := owns_form h
  refine RdS.of fun i t hx => ?_
  obtain ⟨p, hp, ht⟩ := hr i t hx
  obtain ⟨g, rfl, hc⟩ := AtN.of_own h rfl hx hp
  exact ⟨g, 0, p.1, p.2, rfl, hc, ht⟩
theorem OwK.stay_of {w w' : World} : ∀ {ks : List Dm.T}, (∀ t ∈ ks, ∀ F av kv, OwT w t F av kv → (∀ g ∈ F, w'.heap[g]? = w.heap[g]?) → OwT w' t F av kv) → ∀ {vs G}, OwK w ks vs G → (∀ g ∈ G, w'.heap[g]? = w.heap[g]?) → OwK w' ks vs G
  | [], _, vs, G, h, _ => by simpa only [OwK] using h
  | t :: r, ih, vs, G, h, hg => by
    simp only [OwK] at h ⊢
    obtain ⟨p, s, F, H, rfl, h1, h2, rfl⟩ := h
    exact ⟨p, s, F, H, rfl, ih t (by simp) _ _ _ h1 (fun g hm => hg g (by simp [hm])), OwK.stay_of (fun t ht => ih t (by simp [ht])) h2 (fun g hm => hg g (by simp [hm])), rfl⟩
theorem mem_own {v : Value} {g : Nat} (h : v.ownBlock = some g) : g ∈ v.ownBlock.toList := by rw [h]; simp
theorem OwT.stay {w w' : World} (t : Dm.T) : ∀ F av kv, OwT w t F av kv → (∀ g ∈ F, w'.heap[g]? = w.heap[g]?) → OwT w' t F av kv := by
  refine Dm.T.induct (C := fun t => ∀ F av kv, OwT w t F av kv → (∀ g ∈ F, w'.heap[g]? = w.heap[g]?) → OwT w' t F av kv) (fun d ks ih F av kv h hg => ?_) t
  simp only [OwT] at h ⊢
  obtain ⟨h1, vs, G, h2, h3, rfl⟩ := h
  exact ⟨owns_of_block h1 fun g e => hg g (by simp [e]), vs, G, owns_of_block h2 fun g e => hg g (by simp [e]), OwK.stay_of ih h3 fun g hm => hg g (by simp [hm]), rfl⟩
theorem OwK.stay {w w' : World} {ks : List Dm.T} {vs : List (Value × Value)} {G : List Nat} (h : OwK w ks vs G) (hg : ∀ g ∈ G, w'.heap[g]? = w.heap[g]?) : OwK w' ks vs G :=
  OwK.stay_of (fun t _ => OwT.stay t) h hg
theorem OwK.lt_of {w : World} : ∀ {ks : List Dm.T}, (∀ t ∈ ks, ∀ F av kv, OwT w t F av kv → ∀ g ∈ F, g < w.heap.size) → ∀ {vs G}, OwK w ks vs G → ∀ g ∈ G, g < w.heap.size
  | [], _, vs, G, h, g, hm => by simp only [OwK] at h; rw [h.2] at hm; cases hm
  | t :: r, ih, vs, G, h, g, hm => by
    simp only [OwK] at h
    obtain ⟨p, s, F, H, rfl, h1, h2, rfl⟩ := h
    rcases List.mem_append.1 hm with hm | hm
    · exact ih t (by simp) _ _ _ h1 g hm
    · exact OwK.lt_of (fun t ht => ih t (by simp [ht])) h2 g hm
theorem OwT.lt {w : World} (t : Dm.T) : ∀ F av kv, OwT w t F av kv → ∀ g ∈ F, g < w.heap.size := by
  refine Dm.T.induct (C := fun t => ∀ F av kv, OwT w t F av kv → ∀ g ∈ F, g < w.heap.size) (fun d ks ih F av kv h g hg => ?_) t
  simp only [OwT] at h
  obtain ⟨h1, vs, G, h2, h3, rfl⟩ := h
  rcases List.mem_append.1 hg with hg | hg
  · exact (h1.lt g (by simpa using hg)).2
  · rcases List.mem_append.1 hg with hg | hg
    · exact (h2.lt g (by simpa using hg)).2
    · exact OwK.lt_of ih h3 g hg
theorem OwK.lt {w : World} {ks : List Dm.T} {vs : List (Value × Value)} {G : List Nat} (h : OwK w ks vs G) : ∀ g ∈ G, g < w.heap.size := OwK.lt_of (fun t _ => OwT.lt t) h
theorem OwT.below {w w' : World} {t : Dm.T} {F : List Nat} {av kv : Value} (h : OwT w t F av kv) (hb : Below w.heap.size w w') : OwT w' t F av kv := h.stay t _ _ _ fun g hg => hb.block g (OwT.lt t _ _ _ h g hg)
theorem OwK.below {w w' : World} {ks : List Dm.T} {vs : List (Value × Value)} {G : List Nat} (h : OwK w ks vs G) (hb : Below w.heap.size w w') : OwK w' ks vs G := h.stay fun g hg => hb.block g (h.lt g hg)
theorem OwT.tx {w : World} {d : Dm.D} {ks : List Dm.T} {F : List Nat} {av kv : Value} (h : OwT w (.mk d ks) F av kv) (e : Dm.D) (he : e.ats = d.ats) : OwT w (.mk e ks) F av kv := by
  simp only [OwT] at h ⊢
  rw [he]
  exact h
end Go.Proofs.YtagkdmolgmhmdaaGreatDoor
