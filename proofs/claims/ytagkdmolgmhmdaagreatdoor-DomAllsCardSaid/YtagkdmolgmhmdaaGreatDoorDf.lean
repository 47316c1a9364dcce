/- A tree copied. -/
import Derived.Test.YtagkdmolgmhmdaaGreatDoorDe
import Derived.OwnWalk
namespace Go.Proofs.YtagkdmolgmhmdaaGreatDoor
open Go.RowKit

theorem info_at : (Tryz.prog.info? 43).map (fun i => (i.zero, i.size, i.bytes)) = some (some (.agg #[.string .empty, .string .empty, .string .empty]), 3, 48) := by kernel_rfl
theorem info_nd : (Tryz.prog.info? 26).map (fun i => (i.zero, i.size, i.bytes)) = some (some (.agg #[.int .u8 0, .string .empty, .string .empty, .slice none 0 0, .string .empty, .string .empty, .string .empty, .slice none 0 0]), 8, 136) := by kernel_rfl

set_option maxRecDepth 100000 in
/-- append onto a row of attributes whatever reads as attributes -/
theorem wpList_append_attrs {w : World} {ops : Array Oper} {rest : List Oper} {o : Oper} {a : Act} {Q : Exit → Act → World → Prop} (hgd : o.guard = none) (s x : Operand)
    (ho : o.op = .call { callee := .builtin .append, args := #[s, x], argTypes := #[23, 23] })
    (base : Nat) (v : Value) (n : Nat) (xs : List Value) (hs : a.eval s = v) (hown : w.ownsRow base 43 3 v n xs) (l : List Dm.A) (ao : Option Addr) (m c : Nat) (hx : a.eval x = .slice ao m c) (hr : RdA w (.slice ao m c) l)
    (hb : (n + l.length) * 48 ≤ 140737488355328) (hbase : base ≤ w.heap.size)
    (h : ∀ v' w', w'.ownsRow base 43 3 v' (n + l.length) (xs ++ atCells l) → w.grownBy w' v.ownBlock → (v'.ownBlock = v.ownBlock ∨ v'.ownBlock = some w.heap.size) → wpList Tryz.prog ops Q rest (a.put o.dst v') w') : wpList Tryz.prog ops Q (o :: rest) a w := by
  obtain ⟨i0, hi, hz0, hz1, hz2⟩ := info_parts info_at
  obtain ⟨ao', c', e, h0, hc⟩ := hr
  injection e with e1 e2 e3
  subst e1; subst e2; subst e3
  cases ao with
  | none =>
    obtain rfl : l = [] := by
      cases l with
      | nil => rfl
      | cons y r => obtain ⟨b, o, e, _⟩ := hc 0 y rfl; cases e
    obtain rfl := h0 rfl
    exact wpList_append_own_none hgd s x 23 ho base 43 i0 3 Tryz.underlying23 hi v n xs hs hown hx (h v w (by simpa [atCells] using hown) (World.grownBy.refl w _) (.inl rfl))
  | some ad =>
    refine wpList_append_own_at w hgd s x 23 ho base 43 i0 _ 3 48 Tryz.underlying23 hi hz0 hz1 hz2 rfl (by decide) v n xs hs hown ad l.length c (atCells l) hx (atCells_length l) ?_ ?_ (by unfold maxLen; omega) hb hbase (fun v' w' h1 h2 _ h4 => h v' w' h1 h2 h4)
    · intro j u hu
      have hj := (List.getElem?_eq_some_iff.1 hu).1
      rw [atCells_length] at hj
      have hdiv : j / 3 < l.length := by omega
      obtain ⟨y, hy⟩ : ∃ y, l[j / 3]? = some y := ⟨l[j / 3], List.getElem?_eq_getElem hdiv⟩
      obtain ⟨b, o, e, h1, h2, h3⟩ := hc _ y hy
      injection e with e
      subst e
      have hat := atCells_at hy (j := j % 3) (by omega)
      rw [show j / 3 * 3 + j % 3 = j by omega, hu] at hat
      have hadd : (⟨b, o, none⟩ : Addr).add j = ⟨b, o + j, none⟩ := by
        unfold Addr.add
        split
        · rename_i h; subst h; rfl
        · rfl
      rw [hadd]
      have hj3 : j % 3 = 0 ∨ j % 3 = 1 ∨ j % 3 = 2 := by omega
      rcases hj3 with hj3 | hj3 | hj3
      · rw [hj3] at hat
        rw [hat, show o + j = o + j / 3 * 3 by omega, h1]; rfl
      · rw [hj3] at hat
        rw [hat, show o + j = o + j / 3 * 3 + 1 by omega, h2]; rfl
      · rw [hj3] at hat
        rw [hat, show o + j = o + j / 3 * 3 + 2 by omega, h3]; rfl
    · intro u hu
      obtain ⟨y, _, hy⟩ := List.mem_flatMap.1 hu
      simp at hy
      rcases hy with rfl | rfl | rfl <;> rfl

/-- a row of kids under way -/
structure CInv (B : Nat) (w : World) (ks : List Dm.T) (lv : Value) (vs : List (Value × Value)) (G : List Nat) : Prop where
  own : w.ownsRow B 26 8 lv ks.length (kidCells ks vs)
  kids : OwK w ks vs G
  nodup : G.Nodup
  apart : ∀ x ∈ G, B ≤ x ∧ lv.ownBlock ≠ some x
theorem CInv.nil (B : Nat) (w : World) : CInv B w [] (.slice none 0 0) [] [] :=
  ⟨⟨rfl, .inl ⟨rfl, rfl⟩⟩, by simp [OwK], List.nodup_nil, fun x h => by cases h⟩
theorem CInv.below {B : Nat} {w w' : World} {ks : List Dm.T} {lv : Value} {vs : List (Value × Value)} {G : List Nat} (h : CInv B w ks lv vs G) (hb : Below w.heap.size w w') : CInv B w' ks lv vs G :=
  ⟨owns_of_block h.own fun g e => hb.block g (h.own.lt g e).2, h.kids.below hb, h.nodup, h.apart⟩
/-- one more -/
theorem CInv.push {B : Nat} {w w2 w4 : World} {ks : List Dm.T} {lv lv' : Value} {vs : List (Value × Value)} {G : List Nat} (h : CInv B w ks lv vs G) {t : Dm.T} {F : List Nat} {av kv : Value} {o : Obj}
    (hb : Below w.heap.size w w2) (ht : OwT w2 t F av kv) (hn : F.Nodup) (hf : ∀ g ∈ F, w.heap.size ≤ g) (hB : B ≤ w.heap.size)
    (hown : w4.ownsRow B 26 8 lv' (ks.length + 1) (kidCells ks vs ++ ndCells t.d av kv)) (hg : (w2.alloc o).grownBy w4 lv.ownBlock)
    (hl : lv'.ownBlock = lv.ownBlock ∨ lv'.ownBlock = some (w2.alloc o).heap.size) : CInv B w4 (ks ++ [t]) lv' (vs ++ [(av, kv)]) (G ++ F) := by
  have hlv : ∀ x, lv.ownBlock = some x → x < w.heap.size := fun x e => (h.own.lt x e).2
  have hsame : ∀ g, g < w2.heap.size → lv.ownBlock ≠ some g → w4.heap[g]? = w2.heap[g]? := fun g hlt hne => by
    rw [hg.block g (by simp; omega) (fun e => hne e.symm), Below.heap_alloc _ _ _ hlt]
  have hk := (h.kids.below hb)
  refine ⟨?_, ?_, ?_, ?_⟩
  · rw [kidCells_snoc _ _ h.kids.len, List.length_append]
    exact hown
  · refine (hk.stay fun g hm => hsame g (hk.lt g hm) (h.apart g hm).2).snoc (OwT.stay t _ _ _ ht fun g hm => hsame g (OwT.lt t _ _ _ ht g hm) fun e => ?_)
    have := hlv g e
    have := hf g hm
    omega
  · rw [List.nodup_append]
    refine ⟨h.nodup, hn, fun a ha b hb e => ?_⟩
    have h1 := h.kids.lt a ha
    have h2 := hf b hb
    omega
  · intro x hx
    have hx2 : x < w2.heap.size := by
      rcases List.mem_append.1 hx with hx | hx
      · exact hk.lt x hx
      · exact OwT.lt t _ _ _ ht x hx
    have hx3 : B ≤ x ∧ lv.ownBlock ≠ some x := by
      rcases List.mem_append.1 hx with hx | hx
      · exact h.apart x hx
      · have := hf x hx
        exact ⟨by omega, fun e => by have := hlv x e; omega⟩
    refine ⟨hx3.1, fun e => ?_⟩
    rcases hl with hl | hl
    · rw [hl] at e; exact hx3.2 e
    · rw [hl] at e
      injection e with e
      simp at e
      omega
/-- a node is made of what lies -/
theorem CInv.tree {B A : Nat} {w : World} {d : Dm.D} {ks : List Dm.T} {lv av : Value} {vs : List (Value × Value)} {G : List Nat} (h : CInv B w ks lv vs G) (hav : w.ownsRow A 43 3 av d.ats.length (atCells d.ats)) (hAB : A ≤ B)
    (hlt : ∀ g, av.ownBlock = some g → g < B) : ∃ F, OwT w (.mk d ks) F av lv ∧ F.Nodup ∧ ∀ g ∈ F, A ≤ g := by
  refine ⟨av.ownBlock.toList ++ (lv.ownBlock.toList ++ G), ?_, ?_, ?_⟩
  · simp only [OwT]
    exact ⟨owns_base hav (Nat.zero_le _), vs, G, owns_base h.own (Nat.zero_le _), h.kids, rfl⟩
  · have n1 : ∀ o : Option Nat, o.toList.Nodup := fun o => by cases o <;> simp
    rw [List.nodup_append, List.nodup_append]
    refine ⟨n1 _, ⟨n1 _, h.nodup, fun a ha b hb e => ?_⟩, fun a ha b hb e => ?_⟩
    · subst e
      exact (h.apart a hb).2 (by simpa using ha)
    · subst e
      have h1 := hlt a (by simpa using ha)
      rcases List.mem_append.1 hb with hb | hb
      · have := (h.own.lt a (by simpa using hb)).1
        omega
      · have := (h.apart a hb).1
        omega
  · intro g hg
    rcases List.mem_append.1 hg with hg | hg
    · exact (hav.lt g (by simpa using hg)).1
    · rcases List.mem_append.1 hg with hg | hg
      · have := (h.own.lt g (by simpa using hg)).1
        omega
      · have := (h.apart g hg).1
        omega
def Made (t : Dm.T) (w : World) (e : Ending) (w' : World) : Prop :=
  ∃ av kv F, e = .returned (NV t.d av kv) ∧ OwT w' t F av kv ∧ F.Nodup ∧ (∀ g ∈ F, w.heap.size ≤ g) ∧ Below w.heap.size w w'
end Go.Proofs.YtagkdmolgmhmdaaGreatDoor
