/- A word shut; the two states of the machine. -/
import Derived.Test.YtepimjljkkkejaaDoorH
import Derived.Deep.RegionLaw
namespace Go.Proofs.YtepimjljkkkejaaDoor
open Go.RowKit

theorem freeze_other (w : World) (p : Addr) (n k : Nat) (h : k ≠ p.block) : (w.freeze p n).heap[k]? = w.heap[k]? := by
  unfold World.freeze
  split
  · rfl
  · simp only [Array.getElem?_modify]
    rw [if_neg (fun e => h e.symm)]
theorem freeze_size (w : World) (p : Addr) (n : Nat) : (w.freeze p n).heap.size = w.heap.size := by
  unfold World.freeze
  split
  · rfl
  · simp
theorem Keep.freeze {B : Nat} {a w : World} (h : Keep B a w) {p : Addr} (hp : B ≤ p.block) {cs : Array Value} {t : TypeId} {f : Nat × Nat} (hb : w.heap[p.block]? = some (Obj.cells cs t f))
    (ht : t = 42 ∨ t = 9 ∨ t = 5) (n : Nat) : Keep B a (w.freeze p n) :=
  ⟨Lib.below_freeze h.below hp n, fun k cs' t' f' hk h1 h2 h3 => by
    have hk' := h.kept k cs' t' f' hk h1 h2 h3
    have hne : k ≠ p.block := by
      rintro rfl
      rw [hb] at hk'
      injection hk' with e
      injection e with _ e _
      subst e
      rcases ht with e | e | e
      · exact h1 e
      · exact h2 e
      · exact h3 e
    rw [freeze_other _ _ _ _ hne]; exact hk'⟩
/-- two blocks of different types are two -/
theorem ne_of_types {w : World} {g k : Nat} {c d : Array Value} {t u : TypeId} {f f' : Nat × Nat} (h1 : w.heap[g]? = some (Obj.cells c t f)) (h2 : w.heap[k]? = some (Obj.cells d u f')) (hne : t ≠ u) : g ≠ k := by
  rintro rfl
  rw [h1] at h2
  injection h2 with h2
  injection h2 with _ h2 _
  exact hne h2
theorem owns_other {w w' : World} {B : Nat} {e : TypeId} {v : Value} {n : Nat} {xs : List Value} {k : Nat} {d : Array Value} {u : TypeId} {f : Nat × Nat} (ho : w.ownsRow B e 1 v n xs) (hk : w.heap[k]? = some (Obj.cells d u f)) (hne : e ≠ u)
    (hs : w.heap.size ≤ w'.heap.size) (hh : ∀ j, j ≠ k → w'.heap[j]? = w.heap[j]?) : w'.ownsRow B e 1 v n xs := by
  refine ⟨ho.1, ?_⟩
  rcases ho.2 with h0 | ⟨g, cap, cur, hv, hg, hg2, r⟩
  · exact .inl h0
  · exact .inr ⟨g, cap, cur, hv, hg, by rw [hh g (ne_of_types hg2 hk hne)]; exact hg2, r⟩

/-- an append in a region, its run known -/
theorem wp_append_run {P : Program} {o : Oper} {a : Act} {w : World} {K : Act → World → Prop} {Q : Exit → Act → World → Prop} (s x : Operand) (t : TypeId)
    (ho : o.op = .call { callee := .builtin .append, args := #[s, x], argTypes := #[t, t] }) (v y v' : Value) (w' : World) (hs : a.eval s = v) (hx : a.eval x = y)
    (hrun : (Builtin.append_ #[t, t] o.type #[v, y]).run P w = .ok v' w') (h : K (a.put o.dst v') w') : o.wp P a w K Q := by
  unfold Oper.wp execOp
  simp only [ho, resolve, invoke, builtin, Sem.run_bind, Sem.run_pure, Result.andThen_ok, List.map_toArray, List.map_cons, List.map_nil, hs, hx, hrun]
  exact h
theorem step_append_run {P : Program} {ops : Array Oper} {o : Oper} {a : Act} {w : World} {K : Act → World → Prop} {Q : Exit → Act → World → Prop} {E : Prop} (hgd : o.guard = none) (s x : Operand) (t : TypeId)
    (ho : o.op = .call { callee := .builtin .append, args := #[s, x], argTypes := #[t, t] }) (v y v' : Value) (w' : World) (hs : a.eval s = v) (hx : a.eval x = y)
    (hrun : (Builtin.append_ #[t, t] o.type #[v, y]).run P w = .ok v' w') (h : K (a.put o.dst v') w') :
    if Region.wanted o (yielded ops a.tmps) = true then Oper.wp P o a w K Q else E := by
  have hw : Region.wanted o (yielded ops a.tmps) = true := by simp [Region.wanted, hgd]
  rw [if_pos hw]
  exact wp_append_run s x t ho v y v' w' hs hx hrun h

set_option maxHeartbeats 2000000 in
set_option maxRecDepth 100000 in
theorem shut (B b : Nat) (s : List UInt8) (ws : List (List UInt8)) (bs : List UInt8) (w : World) (h : Rd B b s ws bs w) (hlen : bs.length ≤ 1048576) (hws : ws.length ≤ 1048576) :
    Calls Tryd.prog 28 #[.pointer (some ⟨b, 0, none⟩)] w fun e w' => e = .returned (.tuple #[]) ∧ Rd B b s (Srcp.pushW ws bs) [] w' ∧ Keep B w w' := by
  cases bs with
  | nil =>
    have hl := bldLen B b s ws [] w h
    have HL := hide hl
    clear hl
    go_enter Tryd.func28, Tryd.ntmps28
    go_wp2_with fail
    refine (Hid.out HL).mono ?_
    rintro e w' ⟨rfl, rfl⟩
    go_wp2_with fail
    go_end0
    exact ⟨rfl, h, Keep.refl _ _⟩
  | cons c bs =>
    have hl := bldLen B b s ws (c :: bs) w h
    have HL := hide hl
    clear hl
    obtain ⟨p, hp, hB, vw, vb, hb, how, hob⟩ := h
    obtain ⟨g, cap, hv⟩ : ∃ g cap, vb = .slice (some ⟨g, 0, none⟩) (c :: bs).length cap := by
      rcases hob.2 with ⟨_, h0⟩ | ⟨g, cap, cur, hv, _⟩
      · simp at h0
      · exact ⟨g, cap, hv⟩
    subst hv
    obtain ⟨cur, hg⟩ := ownsRow_kind hob g rfl
    have hBg : B ≤ g := (hob.lt g rfl).1
    have c1 : w.cell? ⟨b, 1, none⟩ = some vw := by rw [Lib.cell_of_heap hb]; rfl
    obtain ⟨W2, hW2⟩ : ∃ W2, W2 = w.drew.drew.freeze ⟨g, 0, none⟩ (c :: bs).length := ⟨_, rfl⟩
    have hstr : Calls Tryd.prog 38 #[.pointer (some ⟨b, 2, none⟩)] w.drew (Ret (S (c :: bs)) W2) := by
      rw [hW2]; exact bldString b g cap p s vw (c :: bs) B w.drew hb hob (by simp)
    have HS := hide hstr
    have hh2 : ∀ j, j ≠ g → W2.heap[j]? = w.heap[j]? := fun j hj => by rw [hW2, freeze_other _ _ _ _ hj]; rfl
    have hs2 : W2.heap.size = w.heap.size := by rw [hW2, freeze_size]; rfl
    have hk2 : Keep B w W2 := by rw [hW2]; exact (Keep.refl B w).drew.drew.freeze (p := ⟨g, 0, none⟩) hBg (cs := cur) (t := 5) (f := (0, 0)) hg (.inr (.inr rfl)) _
    clear hstr hW2
    have hbg : b ≠ g := ne_of_types hb hg (by decide)
    have hb2 : W2.heap[b]? = some (Obj.cells #[S s, vw, p, .slice (some ⟨g, 0, none⟩) (c :: bs).length cap] 42 (0, 0)) := (hh2 b hbg).trans hb
    have c1' : W2.cell? ⟨b, 1, none⟩ = some vw := by rw [Lib.cell_of_heap hb2]; rfl
    have how2 : W2.ownsRow B 9 1 vw ws.length (ws.map S) := owns_other how hg (by decide) (Nat.le_of_eq hs2.symm) hh2
    obtain ⟨i0, hi, hz0, hz1, hz2⟩ := info_parts info_str
    have hlt2 := heap_lt hb2
    obtain ⟨v', w4, hrun, hown4, hgrow, _⟩ := run_append_own (P := Tryd.prog) (W2.alloc (.cells #[S (c :: bs)] 9)) B 31 31 9 i0 (.string .empty) 1 16
      Tryd.underlying31 hi hz0 hz1 hz2 rfl (by decide) vw ws.length (ws.map S) (how2.alloc _) ⟨W2.heap.size, 0, none⟩ 1 1 [S (c :: bs)] rfl (cell_one_new _ _ _) (by intro u hu; simp at hu; subst hu; rfl) (by unfold maxLen; omega) (by omega) (by simp; omega)
    have hnb : some b ≠ vw.ownBlock := fun e => by
      obtain ⟨x, hx⟩ := ownsRow_kind how b e.symm
      exact ne_of_types hx hb (by decide) rfl
    have hb4 : w4.heap[b]? = some (Obj.cells #[S s, vw, p, .slice (some ⟨g, 0, none⟩) (c :: bs).length cap] 42 (0, 0)) := by
      rw [hgrow.block b (by simp; omega) hnb, Below.heap_alloc _ _ _ hlt2]; exact hb2
    have hk4 : Keep B w w4 := (hk2.alloc (by omega) _).grown (how2.alloc _) hgrow (by simp; omega) (.inr (.inl rfl))
    obtain ⟨g', cap', hv'⟩ : ∃ g' cap', v' = .slice (some ⟨g', 0, none⟩) (ws.length + 1) cap' := by
      rcases hown4.2 with ⟨_, h0⟩ | ⟨g, cap, cur, hv, _⟩
      · omega
      · exact ⟨g, cap, hv⟩
    subst hv'
    have d1 : w4.cell? ⟨b, 1, none⟩ = some vw := by rw [Lib.cell_of_heap hb4]; rfl
    have f1 : w4.frozen? ⟨b, 1, none⟩ = false := by simp [World.frozen?, hb4]
    -- the world behind the store
    obtain ⟨w5, hw5⟩ : ∃ w5, w5 = w4.setCell ⟨b, 1, none⟩ (.slice (some ⟨g', 0, none⟩) (ws.length + 1) cap') := ⟨_, rfl⟩
    have hb5 : w5.heap[b]? = some (Obj.cells #[S s, .slice (some ⟨g', 0, none⟩) (ws.length + 1) cap', p, .slice (some ⟨g, 0, none⟩) (c :: bs).length cap] 42 (0, 0)) := by
      rw [hw5]; simp [World.setCell, Array.getElem?_modify, hb4]
    have hk5 : Keep B w w5 := by rw [hw5]; exact hk4.setCell (p := ⟨b, 1, none⟩) hB hb4 (.inl rfl) _
    have how5 : w5.ownsRow B 9 1 (.slice (some ⟨g', 0, none⟩) (ws.length + 1) cap') (ws.length + 1) (ws.map S ++ [S (c :: bs)]) := by
      rw [hw5]
      exact owns_other hown4 hb4 (by decide) (by simp [World.setCell]) (fun j hj => Below.heap_setCell _ _ _ _ hj)
    have hres := bldReset b w5 p (.slice (some ⟨g, 0, none⟩) (c :: bs).length cap) (by rw [Lib.cell_of_heap hb5]; rfl) (by rw [Lib.cell_of_heap hb5]; rfl) (by simp [World.frozen?, hb5]) (by simp [World.frozen?, hb5])
    have HRES : Hid (Calls Tryd.prog 51 #[.pointer (some ⟨b, 2, none⟩)] (w4.setCell ⟨b, 1, none⟩ (.slice (some ⟨g', 0, none⟩) (ws.length + 1) cap')) (Ret (.tuple #[]) ((w5.setCell ⟨b, 2, none⟩ (.pointer none)).setCell ⟨b, 3, none⟩ (.slice none 0 0)))) := by rw [← hw5]; exact hres
    clear hres hw5
    clear hown4 hgrow how hob how2 hb2 hh2 hs2 hk2 hb hg hnb hk4 hb4
    go_enter Tryd.func28, Tryd.ntmps28
    go_wp2_with fail
    refine (Hid.out HL).mono ?_
    rintro e w' ⟨rfl, rfl⟩
    go_wp2_with fail
    go_region_law (first | (go_simp; go_at_call 38; refine (Hid.out HS).mono ?_; rintro e w' ⟨rfl, rfl⟩) | (refine step_append_run rfl (.tmp 11) (.tmp 16) 31 rfl vw (.slice (some ⟨W2.heap.size, 0, none⟩) 1 1) (.slice (some ⟨g', 0, none⟩) (ws.length + 1) cap') w4 rfl rfl hrun ?_))
    all_goals
      go_wp2_with fail
      refine (Hid.out HRES).mono ?_
      rintro e w' ⟨rfl, rfl⟩
      go_wp2_with fail
      go_end0
      refine ⟨rfl, ⟨.pointer none, .inl rfl, hB, .slice (some ⟨g', 0, none⟩) (ws.length + 1) cap', .slice none 0 0, ?_, ?_, World.ownsRow_nil _ _ _ _⟩, (hk5.setCell (p := ⟨b, 2, none⟩) hB hb5 (.inl rfl) _).setCell (p := ⟨b, 3, none⟩) hB (cs := #[S s, .slice (some ⟨g', 0, none⟩) (ws.length + 1) cap', .pointer none, .slice (some ⟨g, 0, none⟩) (c :: bs).length cap]) (f := (0, 0)) (by simp [World.setCell, Array.getElem?_modify, hb5]) (.inl rfl) _⟩
      · exact (by simp [World.setCell, Array.getElem?_modify, hb5] : ((w5.setCell ⟨b, 2, none⟩ (.pointer none)).setCell ⟨b, 3, none⟩ (.slice none 0 0)).heap[b]? = some (Obj.cells #[S s, .slice (some ⟨g', 0, none⟩) (ws.length + 1) cap', .pointer none, .slice none 0 0] 42 (0, 0)))
      · have e : Srcp.pushW ws (c :: bs) = ws ++ [c :: bs] := rfl
        rw [e, List.map_append, List.length_append]
        exact owns_other (owns_other how5 hb5 (by decide) (by simp [World.setCell]) (fun j hj => Below.heap_setCell _ _ _ _ hj)) (k := b) (d := #[S s, .slice (some ⟨g', 0, none⟩) (ws.length + 1) cap', .pointer none, .slice (some ⟨g, 0, none⟩) (c :: bs).length cap]) (u := 42) (f := (0, 0)) (by simp [World.setCell, Array.getElem?_modify, hb5]) (by decide) (by simp [World.setCell]) (fun j hj => Below.heap_setCell _ _ _ _ hj)
end Go.Proofs.YtepimjljkkkejaaDoor
