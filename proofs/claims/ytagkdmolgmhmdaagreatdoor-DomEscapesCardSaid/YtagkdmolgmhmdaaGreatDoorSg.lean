/- Pairs of words seen. -/
import Derived.Test.YtagkdmolgmhmdaaGreatDoorSf
import Derived.WideKeyEntry
import Derived.WideKeyPair
import Derived.DeepKeys4
namespace Go.Proofs.YtagkdmolgmhmdaaGreatDoor
open Go.RowKit Go.WideMaps

theorem set_look {w : World} {B n : Nat} {l : List (List UInt8)} (h : w.ownsMap Tryz.prog 9 (plainElem Tryz.prog 3) B n (setD l)) {s : List UInt8} (hs : s.length ≤ 9223372036854775807) :
    (Instr.lookup 47 (.map (some B)) (S s) false).run Tryz.prog w = .ok (.int .i64 (if l.contains s then 1 else 0)) w := by
  obtain ⟨c, hrun, hat, _⟩ := h.lookup_int lawS Tryz.underlying47 Tryz.underlying3 (zeroI w) (keyOf_string_mk Tryz.underlying9 (s := ⟨s.toArray⟩) (by rw [bl_size]; unfold maxLen; omega))
  rw [hrun, at_int hat]
theorem laidOut0 : laidOutB Tryz.prog = true := by kernel_rfl
theorem arr2 : ArrKey Tryz.prog 86 9 2 := ⟨Tryz.underlying86, by kernel_rfl, by kernel_rfl, by kernel_rfl⟩
theorem row2 : (86 : TypeId) < Tryz.prog.types.size := of_decide_eq_true (by kernel_rfl)
set_option maxRecDepth 100000 in
theorem klaw2 : KeyLaw Tryz.prog 86 := deep_law_laid laidOut0 (m := 2) (by omega) row2 (by kernel_rfl) arr2.wide
theorem law2 : Maps.Keyed Tryz.prog 86 := Maps.Keyed.of_law klaw2
def kd (a b : List UInt8) : Lit := .string (keyBytes [.string a, .string b])
theorem size_of {n k : Nat} (h : k < n) : ∃ m, n = m + 1 := ⟨n - 1, by omega⟩
set_option maxRecDepth 100000 in
theorem size_types : ∃ m, Tryz.prog.types.size = m + 1 := size_of row2
set_option maxRecDepth 100000 in
theorem key2 (a b : List UInt8) (ha : a.length ≤ 9223372036854775807) (hb : b.length ≤ 9223372036854775807) : keyOf Tryz.prog 86 (.agg #[S a, S b]) = some (kd a b) := by
  have hkt := arr2.keyType size_types
  obtain ⟨m, hm⟩ := size_types
  have w1 : a.length ≤ maxLen := by unfold maxLen; omega
  have w2 : b.length ≤ maxLen := by unfold maxLen; omega
  unfold keyOf
  simp only [arr2.hu]
  rw [if_pos (by simp [hkt, Value.formed, arr2.hu, arr2.size]), hm]
  unfold Program.keyLits
  simp only [arr2.hu, Value.cells]
  rw [if_pos (by rw [arr2.size]; rfl), show List.range 2 = [0, 1] from rfl, List.mapM_cons, List.mapM_cons, List.mapM_nil]
  simp [arr2.one, Program.keyLits, Tryz.underlying9, kd, Lib.size_eq, w1, w2]
theorem kd_inj {a b c d : List UInt8} (ha : a.length ≤ 9223372036854775807) (hb : b.length ≤ 9223372036854775807) (hc : c.length ≤ 9223372036854775807) (hd : d.length ≤ 9223372036854775807) (h : kd a b = kd c d) : a = c ∧ b = d := by
  have h1 := key2 a b ha hb
  have h2 := key2 c d hc hd
  rw [← h] at h2
  have := law2.inj h1 h2
  injection this with this
  have e := congrArg Array.toList this
  simp at e
  exact e
theorem lit_inj {a b : Int} (h : (DataW.lit (.int .i64 a) : DataW Unit) = .lit (.int .i64 b)) : a = b := by injection h with h; injection h
abbrev SeenM (w : World) (B n : Nat) (D : DataW Unit) : Prop := w.ownsMap Tryz.prog 86 (plainElem Tryz.prog 3) B n D
/-- block B has seen these pairs -/
def Seen (w : World) (B n : Nat) (l : List (List UInt8 × List UInt8)) : Prop :=
  ∃ D : DataW Unit, SeenM w B n D ∧ ∀ a b : List UInt8, a.length ≤ 9223372036854775807 → b.length ≤ 9223372036854775807 → D.atKey (kd a b) (.lit (.int .i64 0)) = .lit (.int .i64 (if l.contains (a, b) then 1 else 0))
theorem Seen.new (w : World) : Seen (w.alloc (.map #[] 0)) w.heap.size 0 [] := ⟨_, World.ownsMap_made _ _ _ _, fun a b _ _ => by simp; rfl⟩
theorem Seen.below {w w' : World} {B n : Nat} {l : List (List UInt8 × List UInt8)} (h : Seen w B n l) (hb : Below w.heap.size w w') : Seen w' B n l := by
  obtain ⟨D, h1, h2⟩ := h
  obtain ⟨es, clock, h3, h4⟩ := h1
  exact ⟨D, ⟨es, clock, (hb.block B (heap_lt h3)).trans h3, h4⟩, h2⟩
theorem Seen.lt {w : World} {B n : Nat} {l : List (List UInt8 × List UInt8)} (h : Seen w B n l) : B < w.heap.size := by
  obtain ⟨D, h1, _⟩ := h
  exact h1.lt
set_option maxRecDepth 100000 in
theorem Seen.look {w : World} {B n : Nat} {l : List (List UInt8 × List UInt8)} (h : Seen w B n l) {a b : List UInt8} (ha : a.length ≤ 9223372036854775807) (hb : b.length ≤ 9223372036854775807) :
    (Instr.lookup 85 (.map (some B)) (.agg #[S a, S b]) false).run Tryz.prog w = .ok (.int .i64 (if l.contains (a, b) then 1 else 0)) w := by
  obtain ⟨D, h1, h2⟩ := h
  obtain ⟨c, hrun, hat, _⟩ := h1.lookup_int law2 Tryz.underlying85 Tryz.underlying3 (zeroI w) (key2 a b ha hb)
  rw [h2 a b ha hb] at hat
  rw [lit_inj hat]
  exact hrun

open Go.WideElems Go.MapKept Go.ChangeMaps in
set_option maxRecDepth 100000 in
theorem Seen.bump {w : World} {B n : Nat} {l : List (List UInt8 × List UInt8)} (h : Seen w B n l) (hn : n < maxLen) {a b : List UInt8} (ha : a.length ≤ 9223372036854775807) (hb : b.length ≤ 9223372036854775807) (hno : l.contains (a, b) = false) :
    ∃ (v0 : Value) (st : Int) (w1 w2 : World), (Instr.mapEntry 85 (.map (some B)) (.agg #[S a, S b])).run Tryz.prog w = .ok (.tuple #[v0, .int .i64 st]) w1 ∧ w.grownBy w1 (some B) ∧
      (Instr.lookup 85 (.map (some B)) (.agg #[S a, S b]) false).run Tryz.prog w1 = .ok (.int .i64 0) w1 ∧
      (Instr.entryStore 85 (.map (some B)) (.int .i64 st) (.int .i64 1)).run Tryz.prog w1 = .ok () w2 ∧ Seen w2 B (n + 1) (l ++ [(a, b)]) ∧ w.grownBy w2 (some B) := by
  obtain ⟨D, hown, hat⟩ := h
  have hown' := hown
  have hkey := key2 a b ha hb
  have hat0 := hat a b ha hb
  rw [hno] at hat0
  obtain ⟨es, clock, hbk, F, hsz, rfl⟩ := hown
  obtain ⟨v0, st, es1, c1, hME, _, hES⟩ := entry_then_store klaw2 Tryz.underlying85 (zeroI) hbk F hkey
  have hg : ∀ o : Obj, w.grownBy (setBlock w B o) (some B) := fun o => ⟨rfl, rfl, rfl, by simp [setBlock], fun k _ hk => heap_setBlock_other hbk _ (fun e => hk (by rw [e]))⟩
  have hb1 : (setBlock w B (.map es1 c1)).heap[B]? = some (.map es1 c1) := heap_setBlock_same hbk _
  obtain ⟨es2, c2, hE2, hU2⟩ := hES (setBlock w B (.map es1 c1)) (.int .i64 1) hb1
  have hww : setBlock (setBlock w B (.map es1 c1)) B (.map es2 c2) = setBlock w B (.map es2 c2) := by
    simp [setBlock]
  obtain ⟨w', hU, hown2, _⟩ := hown'.update law2 Tryz.underlying85 hn hkey (plainElem_int Tryz.underlying3 (show (Lit.int .i64 1).wf = true by decide))
  rw [hU2] at hU
  obtain rfl : setBlock w B (.map es2 c2) = w' := by injection hU
  refine ⟨v0, st, setBlock w B (.map es1 c1), setBlock w B (.map es2 c2), hME, hg _, ?_, by rw [← hww]; exact hE2, ⟨_, hown2, fun x y hx hy => ?_⟩, hg _⟩
  · rcases klaw2.find w hkey es.toList F.keys with ⟨h1, h2⟩ | ⟨j, e0, h1, h2, h3⟩
    · have hz := zeroI w
      have r1 : (Instr.mapEntry 85 (.map (some B)) (.agg #[S a, S b])).run Tryz.prog w = .ok (.tuple #[.int .i64 0, goInt clock]) (setBlock w B (.map (es.push ⟨.agg #[S a, S b], .int .i64 0, clock⟩) (clock + 1))) := by
        simp [Instr.mapEntry, run_underlying Tryz.underlying85, MapKept.run_getObj_map hbk, klaw2.check w false hkey, h1, hz, MapKept.run_setObj_map _ hbk, Result.andThen, setBlock]
      have r2 : (Instr.mapUpdate 85 (.map (some B)) (.agg #[S a, S b]) (.int .i64 0)).run Tryz.prog w = .ok () (setBlock w B (.map (es.push ⟨.agg #[S a, S b], .int .i64 0, clock⟩) (clock + 1))) := by
        simp [Instr.mapUpdate, run_underlying Tryz.underlying85, MapKept.run_getObj_map hbk, klaw2.check w false hkey, h1, MapKept.run_setObj_map _ hbk, Result.andThen, setBlock]
      rw [hME] at r1
      obtain ⟨w', hU, hown3, _⟩ := hown'.update law2 Tryz.underlying85 hn hkey (plainElem_int Tryz.underlying3 (show (Lit.int .i64 0).wf = true by decide))
      rw [r2] at hU
      have e1 : setBlock w B (.map es1 c1) = setBlock w B (.map (es.push ⟨.agg #[S a, S b], .int .i64 0, clock⟩) (clock + 1)) := by injection r1
      have e2 : setBlock w B (.map (es.push ⟨.agg #[S a, S b], .int .i64 0, clock⟩) (clock + 1)) = w' := by injection hU
      rw [e1, e2]
      obtain ⟨c, hrun, hat3, _⟩ := hown3.lookup_int law2 Tryz.underlying85 Tryz.underlying3 (zeroI w') hkey
      rw [Maps.atKey_put_same hown'.isMap (by simp [WideAt.IsKeyLit, kd])] at hat3
      rw [hrun, ← lit_inj hat3]
    · have hj : es[j]? = some e0 := by simpa using h2
      have hsame : es.modify j (fun e => { e with key := .agg #[S a, S b] }) = es := by
        apply Array.ext'
        rw [Array.toList_modify, modify_eq_set _ _ _ _ h2]
        have : ({ e0 with key := .agg #[S a, S b] } : MapEntry) = e0 := by rw [← h3]
        rw [this]
        exact set_self _ _ _ h2
      have r1 : (Instr.mapEntry 85 (.map (some B)) (.agg #[S a, S b])).run Tryz.prog w = .ok (.tuple #[e0.val, goInt e0.born]) (setBlock w B (.map es clock)) := by
        simp [Instr.mapEntry, run_underlying Tryz.underlying85, MapKept.run_getObj_map hbk, klaw2.check w false hkey, h1, hj, h3, klaw2.stays w hkey, hsame, MapKept.run_setObj_map _ hbk, Result.andThen, setBlock]
      rw [hME] at r1
      have e1 : setBlock w B (.map es1 c1) = setBlock w B (.map es clock) := by injection r1
      rw [e1]
      have hown3 : SeenM (setBlock w B (.map es clock)) B n _ := ⟨es, clock, heap_setBlock_same hbk _, F, hsz, rfl⟩
      obtain ⟨c, hrun, hat3, _⟩ := hown3.lookup_int law2 Tryz.underlying85 Tryz.underlying3 (zeroI _) hkey
      rw [hat0] at hat3
      rw [hrun, ← lit_inj hat3]
      rfl
  · by_cases e : x = a ∧ y = b
    · obtain ⟨rfl, rfl⟩ := e
      rw [Maps.atKey_put_same hown'.isMap (by simp [WideAt.IsKeyLit, kd]), if_pos (by simp)]
    · rw [Maps.atKey_put_other (fun h => e (kd_inj hx hy ha hb h)), hat x y hx hy]
      have : (l ++ [(a, b)]).contains (x, y) = l.contains (x, y) := by
        rw [Bool.eq_iff_iff, List.contains_eq_mem, List.contains_eq_mem, decide_eq_true_eq, decide_eq_true_eq, List.mem_append]
        exact ⟨fun h => h.elim id fun h => absurd (by simpa using h) e, .inl⟩
      rw [this]
end Go.Proofs.YtagkdmolgmhmdaaGreatDoor
