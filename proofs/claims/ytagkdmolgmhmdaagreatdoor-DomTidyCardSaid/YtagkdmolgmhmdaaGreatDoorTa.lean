/- A tree whose texts are joined, plainly. -/
import Derived.Test.YtagkdmolgmhmdaaGreatDoorPl
import Derived.Test.YtagkdmolgmhmdaaGreatDoorDg
import Derived.Laws.OwnMore
import Derived.WalkSpells
namespace Go.Proofs.YtagkdmolgmhmdaaGreatDoor
namespace Dm
def T.addTx (t : T) (x : List UInt8) : T := match t with | .mk d ks => .mk { d with tx := d.tx ++ x } ks
/-- one kid more -/
def pushK (acc : List T) (k : T) : List T :=
  if k.d.kd = 4 then
    match acc.getLast? with
    | some l => if l.d.kd = 4 then acc.dropLast ++ [l.addTx k.d.tx] else if k.d.tx = [] then acc else acc ++ [k]
    | none => if k.d.tx = [] then acc else acc ++ [k]
  else acc ++ [k]
mutual
def T.tidy : T → T
  | .mk d ks => .mk d ((tidyL ks).foldl pushK [])
def tidyL : List T → List T
  | [] => []
  | t :: r => t.tidy :: tidyL r
end
theorem tidyL_map (l : List T) : tidyL l = l.map T.tidy := by
  induction l with
  | nil => rfl
  | cons a l ih => rw [tidyL, ih, List.map_cons]
/-- the kids joined, of the first i -/
def upK (ks : List T) (i : Nat) : List T := ((ks.take i).map T.tidy).foldl pushK []
theorem upK_zero (ks : List T) : upK ks 0 = [] := rfl
theorem upK_succ {ks : List T} {i : Nat} {t : T} (h : ks[i]? = some t) : upK ks (i + 1) = pushK (upK ks i) t.tidy := by
  unfold upK
  rw [List.take_add_one, h, List.map_append, List.foldl_append]
  rfl
theorem upK_all {ks : List T} {i : Nat} (h : ks.length ≤ i) (d : D) : (T.mk d ks).tidy = .mk d (upK ks i) := by
  unfold upK
  rw [T.tidy, tidyL_map, List.take_of_length_le h]
theorem tidy_d (t : T) : t.tidy.d = t.d := by
  cases t with
  | mk d ks => rw [T.tidy]; rfl
theorem pushK_snoc {k : T} (h : k.d.kd ≠ 4) (acc : List T) : pushK acc k = acc ++ [k] := by
  unfold pushK; rw [if_neg h]
theorem pushK_nil {k : T} (h : k.d.kd = 4) : pushK [] k = if k.d.tx = [] then [] else [k] := by
  unfold pushK; rw [if_pos h]; rfl
theorem pushK_join {k l : T} (h : k.d.kd = 4) (hl : l.d.kd = 4) (A : List T) : pushK (A ++ [l]) k = A ++ [l.addTx k.d.tx] := by
  unfold pushK; rw [if_pos h]; simp [hl]
theorem pushK_text {k l : T} (h : k.d.kd = 4) (hl : l.d.kd ≠ 4) (A : List T) : pushK (A ++ [l]) k = if k.d.tx = [] then A ++ [l] else A ++ [l] ++ [k] := by
  unfold pushK; rw [if_pos h]; simp [hl]
theorem addTx_d (t : T) (x : List UInt8) : (t.addTx x).d = { t.d with tx := t.d.tx ++ x } := by cases t; rfl
/-! ### how much text -/
def txK : List T → Nat
  | [] => 0
  | t :: r => t.d.tx.length + txK r
theorem txK_append (l m : List T) : txK (l ++ m) = txK l + txK m := by
  induction l with
  | nil => simp [txK]
  | cons a l ih => simp only [List.cons_append, txK, ih]; omega
theorem txK_push (acc : List T) (k : T) : txK (pushK acc k) ≤ txK acc + k.d.tx.length := by
  have e0 : txK (acc ++ [k]) = txK acc + k.d.tx.length := by rw [txK_append]; simp [txK]
  by_cases h : k.d.kd = 4
  · rcases List.eq_nil_or_concat acc with rfl | ⟨A, l, rfl⟩
    · rw [pushK_nil h]
      split <;> simp [txK]
    · rw [List.concat_eq_append] at e0 ⊢
      by_cases hl : l.d.kd = 4
      · rw [pushK_join h hl, txK_append, txK_append]
        simp only [txK, addTx_d, List.length_append]
        omega
      · rw [pushK_text h hl]
        split
        · omega
        · exact Nat.le_of_eq e0
  · rw [pushK_snoc h]; exact Nat.le_of_eq e0
theorem txK_le (l : List T) : txK l ≤ wtK l := by
  induction l with
  | nil => simp [txK]
  | cons a l ih =>
    cases a with
    | mk d ks => simp only [txK, wtK, T.wt, D.own]; show d.tx.length + _ ≤ _; omega
theorem txK_up (ks : List T) : ∀ i, txK (upK ks i) ≤ txK (ks.take i)
  | 0 => by simp [upK_zero, txK]
  | i + 1 => by
    have ih := txK_up ks i
    cases h : ks[i]? with
    | none =>
      have : ks.length ≤ i := List.getElem?_eq_none_iff.1 h
      have e1 : upK ks (i + 1) = upK ks i := by
        unfold upK
        rw [List.take_of_length_le (by omega), List.take_of_length_le this]
      rw [e1, List.take_of_length_le (by omega)]
      rw [List.take_of_length_le this] at ih
      exact ih
    | some t =>
      have h1 := txK_push (upK ks i) t.tidy
      rw [upK_succ h, List.take_add_one, h, txK_append]
      rw [tidy_d] at h1
      simp only [Option.toList, txK]
      omega
theorem upK_text {ks : List T} {i : Nat} {t : T} (h : ks[i]? = some t) {A : List T} {l : T} (hl : upK ks i = A ++ [l]) : l.d.tx.length + t.d.tx.length ≤ wtK ks := by
  have h1 := txK_up ks i
  rw [hl, txK_append] at h1
  have h2 := txK_le ks
  have h3 : txK ks = txK (ks.take (i + 1)) + txK (ks.drop (i + 1)) := by rw [← txK_append, List.take_append_drop]
  rw [List.take_add_one, h, txK_append] at h3
  simp only [Option.toList, txK] at h1 h3
  omega
theorem up_len (ks : List T) : ∀ i, (upK ks i).length ≤ i
  | 0 => by simp [upK_zero]
  | i + 1 => by
    have ih := up_len ks i
    cases h : ks[i]? with
    | none =>
      have : ks.length ≤ i := List.getElem?_eq_none_iff.1 h
      have e1 : upK ks (i + 1) = upK ks i := by
        unfold upK
        rw [List.take_of_length_le (by omega), List.take_of_length_le this]
      rw [e1]; omega
    | some t =>
      rw [upK_succ h]
      unfold pushK
      have e : (upK ks i ++ [t.tidy]).length = (upK ks i).length + 1 := by simp
      split
      · split
        · rename_i l hl
          split
          · have : (upK ks i).length ≠ 0 := fun h0 => by rw [List.eq_nil_of_length_eq_zero h0] at hl; cases hl
            simp; omega
          · split <;> omega
        · split <;> omega
      · omega
end Dm
end Go.Proofs.YtagkdmolgmhmdaaGreatDoor
namespace Go.Proofs.YtagkdmolgmhmdaaGreatDoor
open Go.RowKit

def Cloned (l : List Dm.A) (w : World) (e : Ending) (w' : World) : Prop :=
  ∃ ao c, e = .returned (.slice ao l.length c) ∧ w'.ownsRow w.heap.size 43 3 (.slice ao l.length c) l.length (atCells l) ∧ Below w.heap.size w w'
set_option maxRecDepth 100000 in
set_option maxHeartbeats 4000000 in
theorem clone (l : List Dm.A) (v : Value) (w : World) (h : RdA w v l) (hl : l.length ≤ 1048576) :
    Calls Tryz.prog 49 #[v] w (Cloned l w) := by
  have hcmp : ∀ (w : World) (a : Option Addr) (n c n' c' : Nat), (binOp .eql 23 (.slice a n c) (.slice none n' c')).run Tryz.prog w = .ok (.bool a.isNone) w := fun w a n c n' c' => Lib.run_eql_slice_nil w _ _ a n c n' c' Tryz.underlying23
  obtain ⟨ao, c, rfl⟩ := h.length
  cases ao with
  | none =>
    obtain ⟨ao', c', e, h0, hc⟩ := h
    injection e with e1 e2 e3
    subst e1; subst e3
    obtain rfl : l = [] := by
      cases l with
      | nil => rfl
      | cons y r => obtain ⟨b, o, e, _⟩ := hc 0 y rfl; cases e
    obtain rfl := h0 rfl
    clear h0 hc e2 hl
    go_enter Tryz.func49, Tryz.ntmps49
    go_wp2_with fail
    go_ret
    exact ⟨none, 0, rfl, World.ownsRow_nil _ _ _ _, Below.refl _ _⟩
  | some ad =>
    have hown := hide (World.ownsRow_made (base := w.heap.size) (size := 3) w (e := 43) #[] 0 (Nat.le_refl _) (Nat.zero_le _) rfl)
    have H := hide (h.below ((Below.refl w.heap.size w).alloc (Nat.le_refl _) (.cells #[] 43)))
    clear h
    go_enter Tryz.func49, Tryz.ntmps49
    go_wp2_with (at_builtin; refine wpList_append_attrs rfl _ _ rfl w.heap.size _ 0 [] rfl hown.out l (some ad) l.length c rfl H.out (by omega) (by simp) ?_)
    intro v' w' h1 h2 h3
    obtain ⟨ao, cap, rfl, -⟩ := owns_form h1
    have hb : Below w.heap.size w w' := ((Below.refl w.heap.size w).alloc (Nat.le_refl _) (.cells #[] 43)).grown h2 (by simp) (fun k hk => (hown.out.lt k hk).1)
    have H1 := hide h1
    clear h1 h2 h3 hown
    go_wp2_with fail
    go_ret
    exact ⟨ao, cap, rfl, by simpa using H1.out, hb⟩

theorem kidCells_set {A : List Dm.T} {V : List (Value × Value)} (h : A.length = V.length) (l : Dm.T) (p : Value × Value) (x : List UInt8) :
    (kidCells (A ++ [l]) (V ++ [p])).set (A.length * 8 + 4) (S (l.d.tx ++ x)) = kidCells (A ++ [l.addTx x]) (V ++ [p]) := by
  have e := kidCells_length h
  rw [kidCells_snoc _ _ h, kidCells_snoc _ _ h, List.set_append_right _ _ (by omega), e, show A.length * 8 + 4 - A.length * 8 = 4 by omega, Dm.addTx_d]
  rfl
/-- the last kid's text, where it lies -/
theorem CInv.last {B : Nat} {w : World} {A : List Dm.T} {l : Dm.T} {lv : Value} {vs : List (Value × Value)} {G : List Nat} (h : CInv B w (A ++ [l]) lv vs G) :
    ∃ g cap, lv = .slice (some ⟨g, 0, none⟩) (A.length + 1) cap ∧ B ≤ g ∧ w.cell? ⟨g, A.length * 8, none⟩ = some (.int .u8 l.d.kd) ∧ w.cell? ⟨g, A.length * 8 + 4, none⟩ = some (S l.d.tx) ∧ (∀ j, w.frozen? ⟨g, j, none⟩ = false) ∧
      ∀ x, CInv B (w.setCell ⟨g, A.length * 8 + 4, none⟩ (S (l.d.tx ++ x))) (A ++ [l.addTx x]) lv vs G := by
  obtain ⟨own, kids, nodup, apart⟩ := h
  have hlen := kids.len
  obtain ⟨V, p, rfl⟩ : ∃ V p, vs = V ++ [p] := by
    rcases List.eq_nil_or_concat vs with rfl | ⟨V, p, e⟩
    · simp at hlen
    · exact ⟨V, p, by rw [e, List.concat_eq_append]⟩
  have hl : A.length = V.length := by simpa using hlen
  obtain ⟨p', F, hp, hT, X, Y, rfl, hX, hY⟩ := kids.at (i := A.length) (t := l) (by simp)
  obtain rfl : p = p' := by
    rw [List.getElem?_append_right (by omega)] at hp
    simpa [hl] using hp
  rw [List.drop_of_length_le (by simp)] at hY
  simp only [OwK] at hY
  obtain ⟨_, rfl⟩ := hY
  rw [List.take_append_of_le_length (Nat.le_refl _), List.take_length, hl, List.take_append_of_le_length (Nat.le_refl _), List.take_length] at hX
  obtain ⟨ao, cap, rfl, _⟩ := owns_form own
  obtain ⟨g, rfl, hat⟩ := AtN.of_own own (by simp) (i := A.length) (t := l) (p := p) (by simp) (by rw [hl]; simp)
  unfold AtN at hat
  rw [Nat.zero_add] at hat
  have hlt := own.lt g rfl
  rw [show (A ++ [l]).length = A.length + 1 by simp] at own apart ⊢
  refine ⟨g, cap, rfl, hlt.1, hat.1, hat.2.2.2.2.1, fun j => own.frozenAt j, fun x => ⟨?_, ?_, nodup, apart⟩⟩
  · have := (own.stored (A.length * 8 + 4) (S (l.d.tx ++ x))).1
    rw [kidCells_set hl] at this
    simpa using this
  · have key : ∀ y ∈ X ++ (F ++ []), (w.setCell ⟨g, A.length * 8 + 4, none⟩ (S (l.d.tx ++ x))).heap[y]? = w.heap[y]? := fun y hy => Below.heap_setCell _ _ _ _ (fun e => by
      subst e
      exact (apart _ hy).2 rfl)
    have h1 := hX.stay fun y hy => key y (by simp [hy])
    have h2 := OwT.stay l _ _ _ hT fun y hy => key y (by simp [hy])
    have h3 : OwT (w.setCell ⟨g, A.length * 8 + 4, none⟩ (S (l.d.tx ++ x))) (l.addTx x) F p.1 p.2 := by
      cases l with
      | mk d ks => exact h2.tx _ rfl
    have := h1.snoc h3
    rw [List.append_nil]
    exact this
end Go.Proofs.YtagkdmolgmhmdaaGreatDoor
