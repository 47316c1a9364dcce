/- A host, read. -/
import Derived.Test.YtahjndignkhmoaaGreatDoorW
namespace Go.Proofs.YtahjndignkhmoaaGreatDoor
open Go.RowKit

/-- what reading a host hands back -/
def hV : Option Hostp.Host → Value
  | none => .tuple #[H11 0 [] 0 0 0 0 0 0 0 0 0, .int .i64 110]
  | some .none => .tuple #[H11 0 [] 0 0 0 0 0 0 0 0 0, .int .i64 110]
  | some (.domain s) => .tuple #[H11 1 s 0 0 0 0 0 0 0 0 0, .int .i64 0]
  | some (.opaque_ s) => .tuple #[H11 2 s 0 0 0 0 0 0 0 0 0, .int .i64 0]
  | some (.four n) => .tuple #[H11 3 [] n 0 0 0 0 0 0 0 0, .int .i64 0]
  | some (.eight l) => .tuple #[.agg (#[.int .u8 4, S [], .int .u32 0] ++ (l.map U16).toArray), .int .i64 0]
  | some .empty => .tuple #[H11 5 [] 0 0 0 0 0 0 0 0 0, .int .i64 0]
theorem pre_yes (t : List UInt8) : Lib.hasPrefix (91 :: t) [91] = true ∧ Lib.trimPrefix (91 :: t) [91] = t := by
  constructor
  · simp [Lib.hasPrefix]
  · simp [Lib.trimPrefix, Lib.hasPrefix]
theorem pre_no (s : List UInt8) (h : s.head? ≠ some 91) : Lib.hasPrefix s [91] = false ∧ Lib.trimPrefix s [91] = s := by
  have e : Lib.hasPrefix s [91] = false := by
    cases s with
    | nil => rfl
    | cons c l =>
      have : c ≠ 91 := fun q => h (by rw [List.head?_cons, q])
      show ((91 : UInt8) == c && _) = false
      rw [beq_eq_false_iff_ne.2 (Ne.symm this)]; rfl
  exact ⟨e, by simp [Lib.trimPrefix, e]⟩
theorem suf_yes (q : List UInt8) : Lib.hasSuffix (q ++ [93]) [93] = true ∧ Lib.trimSuffix (q ++ [93]) [93] = q := by
  have e : Lib.hasSuffix (q ++ [93]) [93] = true := by simp [Lib.hasSuffix]
  exact ⟨e, by simp [Lib.trimSuffix, e]⟩
theorem suf_no (s : List UInt8) (h : s.getLast? ≠ some 93) : Lib.hasSuffix s [93] = false ∧ Lib.trimSuffix s [93] = s := by
  have e : Lib.hasSuffix s [93] = false := by
    rw [← Bool.not_eq_true]
    intro q
    simp only [Lib.hasSuffix, List.isSuffixOf_iff_suffix] at q
    obtain ⟨t, rfl⟩ := q
    exact h (by simp)
  exact ⟨e, by simp [Lib.trimSuffix, e]⟩
theorem any_or (f g : UInt8 → Bool) : ∀ l : List UInt8, l.any (fun c => f c || g c) = (l.any f || l.any g)
  | [] => rfl
  | c :: l => by
    rw [List.any_cons, List.any_cons, List.any_cons, any_or f g l]
    cases f c <;> cases g c <;> simp

set_option maxHeartbeats 8000000 in
set_option maxRecDepth 100000 in
theorem hParse (s : List UInt8) (sp : Bool) (r : Option Hostp.Host) (w : World) (ht : Tab2 w) (hl : s.length ≤ 1048576) (hr : Hid (Hostp.parse s sp = r)) :
    Calls Tryz.prog 8 #[S s, .bool sp] w fun e w' => e = .returned (hV r) ∧ Below w.heap.size w w' := by
  have hnew : (w.alloc (.cells zeroHost 27)).heap[w.heap.size]? = some (.cells zeroHost 27 (0, 0)) := heap_alloc_last _ _
  have hnb : Below w.heap.size w (w.alloc (.cells zeroHost 27)) := (Below.refl _ _).alloc (Nat.le_refl _) _
  have hp := hr.out
  rw [Hostp.parse] at hp
  have hcp := Tryz.strings_CutPrefix ⟨s.toArray⟩ ⟨[91].toArray⟩ (w.alloc (.cells zeroHost 27))
  obtain ⟨w1, hw1⟩ : ∃ x, x = w.alloc (.cells zeroHost 27) := ⟨_, rfl⟩
  have HW1 := hide hw1
  obtain ⟨B, hB⟩ : ∃ B, w.heap.size = B := ⟨_, rfl⟩
  rw [← hw1] at hnew hnb hcp
  rw [hB] at hnew hnb
  have HB := hide hB
  have hsz : B < w1.heap.size := heap_lt hnew
  have htr : Tab2 w1 := ht.below (by rw [hB]; exact hnb)
  obtain ⟨⟨c0, c1, c2, c3, c4, c5, c6, c7, c8, c9, c10⟩, hf⟩ := cells11 hnew
  clear hw1 hB hr
  by_cases h91 : s.head? = some 91
  · rw [if_pos h91] at hp
    obtain ⟨t, rfl⟩ : ∃ t, s = 91 :: t := by
      cases s with
      | nil => cases h91
      | cons c l => rw [List.head?_cons] at h91; injection h91 with h; subst h; exact ⟨l, rfl⟩
    simp only [List.length_cons] at hl
    have hcp2 : Calls Tryz.prog 16 #[S (91 :: t), S [91]] w1 (Ret (.tuple #[S t, .bool true]) w1) := hcp.mono fun e w' h => by
      obtain ⟨rfl, rfl⟩ := h
      refine ⟨?_, rfl⟩
      show Ending.returned (.tuple #[.string ⟨(Lib.trimPrefix (91 :: t) [91]).toArray⟩, .bool (Lib.hasPrefix (91 :: t) [91])]) = _
      rw [(pre_yes t).1, (pre_yes t).2]
    have HCP := hide hcp2
    clear hcp hcp2 h91
    go_enter Tryz.func8, Tryz.ntmps8
    go_wp2_with fail
    rw [← HW1.out]
    refine HCP.out.mono ?_
    rintro e w2 ⟨rfl, rfl⟩
    rw [HB.out]
    have hcs := Tryz.strings_CutSuffix ⟨t.toArray⟩ ⟨[93].toArray⟩ w1 (by rw [bl_size]; omega)
    by_cases h93 : t.getLast? = some 93
    · obtain ⟨q, rfl⟩ : ∃ q, t = q ++ [93] := by
        have hne : t ≠ [] := fun e => by rw [e] at h93; cases h93
        refine ⟨t.dropLast, ?_⟩
        have := (List.dropLast_concat_getLast hne).symm
        rw [List.getLast?_eq_some_getLast hne] at h93
        injection h93 with h
        rw [h] at this
        exact this
      have hcs2 : Calls Tryz.prog 17 #[S (q ++ [93]), S [93]] w1 (Ret (.tuple #[S q, .bool true]) w1) := hcs.mono fun e w' h => by
        obtain ⟨rfl, rfl⟩ := h
        refine ⟨?_, rfl⟩
        show Ending.returned (.tuple #[.string ⟨(Lib.trimSuffix (q ++ [93]) [93]).toArray⟩, .bool (Lib.hasSuffix (q ++ [93]) [93])]) = _
        rw [(suf_yes q).1, (suf_yes q).2]
      have HCS := hide hcs2
      obtain ⟨x, hx⟩ : ∃ x, Hostp.v6 q = x := ⟨_, rfl⟩
      rw [if_pos ⟨by rw [← List.cons_append, List.getLast?_concat], by simp⟩, List.drop_succ_cons, List.drop_zero, List.dropLast_concat, hx] at hp
      have HX := hide hx
      simp only [List.length_append, List.length_cons, List.length_nil] at hl
      clear hcs hcs2 h93 hx
      go_wp2_with fail
      refine HCS.out.mono ?_
      rintro e w2 ⟨rfl, rfl⟩
      go_wp2_with fail
      refine (hV6 q x _ htr.tab (by omega) HX).mono ?_
      rintro e w3 ⟨rfl, hb3⟩
      have h3 := (hb3.block B hsz).trans hnew
      have hs3 := hb3.size
      have hlt3 : B < w3.heap.size := heap_lt h3
      have hbw3 : Below B w w3 := hnb.trans (hb3.mono (by omega))
      clear c0 c1 c2 c3 c4 c5 c6 c7 c8 c9 c10 hf
      obtain ⟨⟨c0, c1, c2, c3, c4, c5, c6, c7, c8, c9, c10⟩, hf⟩ := cells11 h3
      cases x with
      | none =>
        rw [Option.map_none] at hp
        subst hp
        unfold v6V
        clear hb3 hnew hnb
        go_wp2_with fail
        have k3_1 := put11_heap h3 (.int .u8 0) (S []) (.int .u32 0) (U16 0) (U16 0) (U16 0) (U16 0) (U16 0) (U16 0) (U16 0) (U16 0)
        have kb_1 := put11_below hbw3 (Nat.le_refl _) (.int .u8 0) (S []) (.int .u32 0) (U16 0) (U16 0) (U16 0) (U16 0) (U16 0) (U16 0) (U16 0) (U16 0)
        change bodyPost _ _ _ _ _ (World.alloc (put11 w3 B (.int .u8 0) (S []) (.int .u32 0) (U16 0) (U16 0) (U16 0) (U16 0) (U16 0) (U16 0) (U16 0) (U16 0)) (.cells Z8 25))
        have k4_1 := (Below.heap_alloc (put11 w3 B (.int .u8 0) (S []) (.int .u32 0) (U16 0) (U16 0) (U16 0) (U16 0) (U16 0) (U16 0) (U16 0) (U16 0)) (.cells Z8 25) B (heap_lt k3_1)).trans k3_1
        have kc_1 := kb_1.alloc (Nat.le_of_lt (heap_lt k3_1)) (.cells Z8 25)
        generalize World.alloc (put11 w3 B (.int .u8 0) (S []) (.int .u32 0) (U16 0) (U16 0) (U16 0) (U16 0) (U16 0) (U16 0) (U16 0) (U16 0)) (.cells Z8 25) = w99 at *
        obtain ⟨⟨q0, q1, q2, q3, q4, q5, q6, q7, q8, q9, q10⟩, qf⟩ := cells11 k4_1
        refine bodyPost_ret (v := hV none) (by simp [results, Tryz.results8, go_sem, hV, q0, q1, q2, q3, q4, q5, q6, q7, q8, q9, q10]) rfl ?_
        exact ⟨rfl, by rw [HB.out]; exact kc_1⟩
      | some l =>
        rw [Option.map_some] at hp
        subst hp
        obtain ⟨n0, n1, n2, n3, n4, n5, n6, n7, rfl⟩ := list8 (Hostp.v6_range q l HX.out).1
        unfold v6V
        clear hb3 hnew hnb HX
        simp only [List.map_cons, List.map_nil]
        go_wp2_with fail
        have k3_2 := put11_heap h3 (.int .u8 4) (S []) (.int .u32 0) (U16 n0) (U16 n1) (U16 n2) (U16 n3) (U16 n4) (U16 n5) (U16 n6) (U16 n7)
        have kb_2 := put11_below hbw3 (Nat.le_refl _) (.int .u8 4) (S []) (.int .u32 0) (U16 n0) (U16 n1) (U16 n2) (U16 n3) (U16 n4) (U16 n5) (U16 n6) (U16 n7)
        change bodyPost _ _ _ _ _ (World.alloc (put11 w3 B (.int .u8 4) (S []) (.int .u32 0) (U16 n0) (U16 n1) (U16 n2) (U16 n3) (U16 n4) (U16 n5) (U16 n6) (U16 n7)) (.cells (U8 n0 n1 n2 n3 n4 n5 n6 n7) 25))
        have k4_2 := (Below.heap_alloc (put11 w3 B (.int .u8 4) (S []) (.int .u32 0) (U16 n0) (U16 n1) (U16 n2) (U16 n3) (U16 n4) (U16 n5) (U16 n6) (U16 n7)) (.cells (U8 n0 n1 n2 n3 n4 n5 n6 n7) 25) B (heap_lt k3_2)).trans k3_2
        have kc_2 := kb_2.alloc (Nat.le_of_lt (heap_lt k3_2)) (.cells (U8 n0 n1 n2 n3 n4 n5 n6 n7) 25)
        generalize World.alloc (put11 w3 B (.int .u8 4) (S []) (.int .u32 0) (U16 n0) (U16 n1) (U16 n2) (U16 n3) (U16 n4) (U16 n5) (U16 n6) (U16 n7)) (.cells (U8 n0 n1 n2 n3 n4 n5 n6 n7) 25) = w99 at *
        obtain ⟨⟨q0, q1, q2, q3, q4, q5, q6, q7, q8, q9, q10⟩, qf⟩ := cells11 k4_2
        refine bodyPost_ret (v := hV (some (.eight [n0, n1, n2, n3, n4, n5, n6, n7]))) (by simp [results, Tryz.results8, go_sem, hV, q0, q1, q2, q3, q4, q5, q6, q7, q8, q9, q10]) rfl ?_
        exact ⟨rfl, by rw [HB.out]; exact kc_2⟩
    · have hcs2 : Calls Tryz.prog 17 #[S t, S [93]] w1 (Ret (.tuple #[S t, .bool false]) w1) := hcs.mono fun e w' h => by
        obtain ⟨rfl, rfl⟩ := h
        refine ⟨?_, rfl⟩
        show Ending.returned (.tuple #[.string ⟨(Lib.trimSuffix t [93]).toArray⟩, .bool (Lib.hasSuffix t [93])]) = _
        rw [(suf_no t h93).1, (suf_no t h93).2]
      have HCS := hide hcs2
      rw [if_neg (fun q => by
        obtain ⟨q1, q2⟩ := q
        cases t with
        | nil => simp at q2
        | cons c l => rw [List.getLast?_cons_cons] at q1; exact h93 q1)] at hp
      subst hp
      obtain ⟨x, hx⟩ : ∃ x, Hostp.v6 t = x := ⟨_, rfl⟩
      have HX := hide hx
      clear hcs hcs2 h93 hx
      go_wp2_with fail
      refine HCS.out.mono ?_
      rintro e w2 ⟨rfl, rfl⟩
      go_wp2_with fail
      refine (hV6 t x _ htr.tab (by omega) HX).mono ?_
      rintro e w3 ⟨rfl, hb3⟩
      have h3 := (hb3.block B hsz).trans hnew
      have hs3 := hb3.size
      have hlt3 : B < w3.heap.size := heap_lt h3
      have hbw3 : Below B w w3 := hnb.trans (hb3.mono (by omega))
      clear c0 c1 c2 c3 c4 c5 c6 c7 c8 c9 c10 hf
      obtain ⟨⟨c0, c1, c2, c3, c4, c5, c6, c7, c8, c9, c10⟩, hf⟩ := cells11 h3
      cases x with
      | none =>
        unfold v6V
        clear hb3 hnew hnb
        go_wp2_with fail
        have k3_3 := put11_heap h3 (.int .u8 0) (S []) (.int .u32 0) (U16 0) (U16 0) (U16 0) (U16 0) (U16 0) (U16 0) (U16 0) (U16 0)
        have kb_3 := put11_below hbw3 (Nat.le_refl _) (.int .u8 0) (S []) (.int .u32 0) (U16 0) (U16 0) (U16 0) (U16 0) (U16 0) (U16 0) (U16 0) (U16 0)
        change bodyPost _ _ _ _ _ (World.alloc (put11 w3 B (.int .u8 0) (S []) (.int .u32 0) (U16 0) (U16 0) (U16 0) (U16 0) (U16 0) (U16 0) (U16 0) (U16 0)) (.cells Z8 25))
        have k4_3 := (Below.heap_alloc (put11 w3 B (.int .u8 0) (S []) (.int .u32 0) (U16 0) (U16 0) (U16 0) (U16 0) (U16 0) (U16 0) (U16 0) (U16 0)) (.cells Z8 25) B (heap_lt k3_3)).trans k3_3
        have kc_3 := kb_3.alloc (Nat.le_of_lt (heap_lt k3_3)) (.cells Z8 25)
        generalize World.alloc (put11 w3 B (.int .u8 0) (S []) (.int .u32 0) (U16 0) (U16 0) (U16 0) (U16 0) (U16 0) (U16 0) (U16 0) (U16 0)) (.cells Z8 25) = w99 at *
        obtain ⟨⟨q0, q1, q2, q3, q4, q5, q6, q7, q8, q9, q10⟩, qf⟩ := cells11 k4_3
        refine bodyPost_ret (v := hV none) (by simp [results, Tryz.results8, go_sem, hV, q0, q1, q2, q3, q4, q5, q6, q7, q8, q9, q10]) rfl ?_
        exact ⟨rfl, by rw [HB.out]; exact kc_3⟩
      | some l =>
        obtain ⟨n0, n1, n2, n3, n4, n5, n6, n7, rfl⟩ := list8 (Hostp.v6_range t l HX.out).1
        unfold v6V
        clear hb3 hnew hnb HX
        simp only [List.map_cons, List.map_nil]
        go_wp2_with fail
        have k3_4 := put11_heap h3 (.int .u8 0) (S []) (.int .u32 0) (U16 0) (U16 0) (U16 0) (U16 0) (U16 0) (U16 0) (U16 0) (U16 0)
        have kb_4 := put11_below hbw3 (Nat.le_refl _) (.int .u8 0) (S []) (.int .u32 0) (U16 0) (U16 0) (U16 0) (U16 0) (U16 0) (U16 0) (U16 0) (U16 0)
        change bodyPost _ _ _ _ _ (World.alloc (put11 w3 B (.int .u8 0) (S []) (.int .u32 0) (U16 0) (U16 0) (U16 0) (U16 0) (U16 0) (U16 0) (U16 0) (U16 0)) (.cells (U8 n0 n1 n2 n3 n4 n5 n6 n7) 25))
        have k4_4 := (Below.heap_alloc (put11 w3 B (.int .u8 0) (S []) (.int .u32 0) (U16 0) (U16 0) (U16 0) (U16 0) (U16 0) (U16 0) (U16 0) (U16 0)) (.cells (U8 n0 n1 n2 n3 n4 n5 n6 n7) 25) B (heap_lt k3_4)).trans k3_4
        have kc_4 := kb_4.alloc (Nat.le_of_lt (heap_lt k3_4)) (.cells (U8 n0 n1 n2 n3 n4 n5 n6 n7) 25)
        generalize World.alloc (put11 w3 B (.int .u8 0) (S []) (.int .u32 0) (U16 0) (U16 0) (U16 0) (U16 0) (U16 0) (U16 0) (U16 0) (U16 0)) (.cells (U8 n0 n1 n2 n3 n4 n5 n6 n7) 25) = w99 at *
        obtain ⟨⟨q0, q1, q2, q3, q4, q5, q6, q7, q8, q9, q10⟩, qf⟩ := cells11 k4_4
        refine bodyPost_ret (v := hV none) (by simp [results, Tryz.results8, go_sem, hV, q0, q1, q2, q3, q4, q5, q6, q7, q8, q9, q10]) rfl ?_
        exact ⟨rfl, by rw [HB.out]; exact kc_4⟩
  · rw [if_neg h91] at hp
    have hcp2 : Calls Tryz.prog 16 #[S s, S [91]] w1 (Ret (.tuple #[S s, .bool false]) w1) := hcp.mono fun e w' h => by
      obtain ⟨rfl, rfl⟩ := h
      refine ⟨?_, rfl⟩
      show Ending.returned (.tuple #[.string ⟨(Lib.trimPrefix s [91]).toArray⟩, .bool (Lib.hasPrefix s [91])]) = _
      rw [(pre_no s h91).1, (pre_no s h91).2]
    have HCP := hide hcp2
    clear hcp hcp2 h91
    cases sp with
    | false =>
      rw [if_pos rfl] at hp
      change Hostp.opaqueP s = r at hp
      go_enter Tryz.func8, Tryz.ntmps8
      go_wp2_with fail
      rw [← HW1.out]
      refine HCP.out.mono ?_
      rintro e w2 ⟨rfl, rfl⟩
      rw [HB.out]
      go_wp2_with fail
      refine (hOpaque s _ hl).mono ?_
      rintro e w3 ⟨rfl, hb3⟩
      rw [hp]
      have h3 := (hb3.block B hsz).trans hnew
      have hs3 := hb3.size
      have hlt3 : B < w3.heap.size := heap_lt h3
      have hbw3 : Below B w w3 := hnb.trans (hb3.mono (by omega))
      clear c0 c1 c2 c3 c4 c5 c6 c7 c8 c9 c10 hf
      obtain ⟨⟨c0, c1, c2, c3, c4, c5, c6, c7, c8, c9, c10⟩, hf⟩ := cells11 h3
      have hways : r = none ∨ r = some .empty ∨ ∃ u, r = some (.opaque_ u) := by
        rw [← hp]
        unfold Hostp.opaqueP
        split
        · exact .inl rfl
        · split
          · exact .inr (.inl rfl)
          · exact .inr (.inr ⟨_, rfl⟩)
      clear hp hb3 hnew hnb
      rcases hways with rfl | rfl | ⟨u, rfl⟩
      · unfold opV
        go_wp2_with fail
        have k3_5 := put11_heap h3 (.int .u8 0) (S []) (.int .u32 0) (U16 0) (U16 0) (U16 0) (U16 0) (U16 0) (U16 0) (U16 0) (U16 0)
        have kb_5 := put11_below hbw3 (Nat.le_refl _) (.int .u8 0) (S []) (.int .u32 0) (U16 0) (U16 0) (U16 0) (U16 0) (U16 0) (U16 0) (U16 0) (U16 0)
        change bodyPost _ _ _ _ _ (put11 w3 B (.int .u8 0) (S []) (.int .u32 0) (U16 0) (U16 0) (U16 0) (U16 0) (U16 0) (U16 0) (U16 0) (U16 0))
        generalize put11 w3 B (.int .u8 0) (S []) (.int .u32 0) (U16 0) (U16 0) (U16 0) (U16 0) (U16 0) (U16 0) (U16 0) (U16 0) = w99 at *
        obtain ⟨⟨q0, q1, q2, q3, q4, q5, q6, q7, q8, q9, q10⟩, qf⟩ := cells11 k3_5
        refine bodyPost_ret (v := hV none) (by simp [results, Tryz.results8, go_sem, hV, q0, q1, q2, q3, q4, q5, q6, q7, q8, q9, q10]) rfl ?_
        exact ⟨rfl, by rw [HB.out]; exact kb_5⟩
      · unfold opV
        go_wp2_with fail
        have k3_6 := put11_heap h3 (.int .u8 5) (S []) (.int .u32 0) (U16 0) (U16 0) (U16 0) (U16 0) (U16 0) (U16 0) (U16 0) (U16 0)
        have kb_6 := put11_below hbw3 (Nat.le_refl _) (.int .u8 5) (S []) (.int .u32 0) (U16 0) (U16 0) (U16 0) (U16 0) (U16 0) (U16 0) (U16 0) (U16 0)
        change bodyPost _ _ _ _ _ (put11 w3 B (.int .u8 5) (S []) (.int .u32 0) (U16 0) (U16 0) (U16 0) (U16 0) (U16 0) (U16 0) (U16 0) (U16 0))
        generalize put11 w3 B (.int .u8 5) (S []) (.int .u32 0) (U16 0) (U16 0) (U16 0) (U16 0) (U16 0) (U16 0) (U16 0) (U16 0) = w99 at *
        obtain ⟨⟨q0, q1, q2, q3, q4, q5, q6, q7, q8, q9, q10⟩, qf⟩ := cells11 k3_6
        refine bodyPost_ret (v := hV (some .empty)) (by simp [results, Tryz.results8, go_sem, hV, q0, q1, q2, q3, q4, q5, q6, q7, q8, q9, q10]) rfl ?_
        exact ⟨rfl, by rw [HB.out]; exact kb_6⟩
      · unfold opV
        go_wp2_with fail
        have k3_7 := put11_heap h3 (.int .u8 2) (S u) (.int .u32 0) (U16 0) (U16 0) (U16 0) (U16 0) (U16 0) (U16 0) (U16 0) (U16 0)
        have kb_7 := put11_below hbw3 (Nat.le_refl _) (.int .u8 2) (S u) (.int .u32 0) (U16 0) (U16 0) (U16 0) (U16 0) (U16 0) (U16 0) (U16 0) (U16 0)
        change bodyPost _ _ _ _ _ (put11 w3 B (.int .u8 2) (S u) (.int .u32 0) (U16 0) (U16 0) (U16 0) (U16 0) (U16 0) (U16 0) (U16 0) (U16 0))
        generalize put11 w3 B (.int .u8 2) (S u) (.int .u32 0) (U16 0) (U16 0) (U16 0) (U16 0) (U16 0) (U16 0) (U16 0) (U16 0) = w99 at *
        obtain ⟨⟨q0, q1, q2, q3, q4, q5, q6, q7, q8, q9, q10⟩, qf⟩ := cells11 k3_7
        refine bodyPost_ret (v := hV (some (.opaque_ u))) (by simp [results, Tryz.results8, go_sem, hV, q0, q1, q2, q3, q4, q5, q6, q7, q8, q9, q10]) rfl ?_
        exact ⟨rfl, by rw [HB.out]; exact kb_7⟩
    | true =>
      rw [if_neg (by simp)] at hp
      obtain ⟨d, hd⟩ : ∃ d, Hostp.pDec s = d := ⟨_, rfl⟩
      have hdl := Hostp.pDec_le s.length s (Nat.le_refl _)
      rw [hd] at hdl
      obtain ⟨x, hx⟩ : ∃ x, Hostp.lower d = x := ⟨_, rfl⟩
      have hxl : x.length = d.length := by rw [← hx, Hostp.lower_len]
      rw [hd, hx] at hp
      have HD := hide hd
      have HX := hide hx
      obtain ⟨b1, hb1⟩ : ∃ b, x.any Hostp.bad = b := ⟨_, rfl⟩
      obtain ⟨b2, hb2⟩ : ∃ b, x.any Hostp.other = b := ⟨_, rfl⟩
      have hany : x.any (fun c => Hostp.bad c || decide (c.toNat < 32) || decide (126 < c.toNat) || c == 37) = (b1 || b2) := by
        rw [← hb1, ← hb2, ← any_or]
        congr 1
        funext c
        unfold Hostp.other
        simp only [Bool.or_assoc]
      rw [hany] at hp
      have HB1 := hide hb1
      have HB2 := hide hb2
      have hxl' : x.length ≤ s.length := by omega
      clear hd hx hb1 hb2 hany hxl
      go_enter Tryz.func8, Tryz.ntmps8
      go_wp2_with fail
      rw [← HW1.out]
      refine HCP.out.mono ?_
      rintro e w2 ⟨rfl, rfl⟩
      rw [HB.out]
      go_wp2_with fail
      refine (pDecode s d _ hl htr.tab HD).mono ?_
      rintro e w3 ⟨rfl, hb3⟩
      have h3 := (hb3.block B hsz).trans hnew
      have hs3 := hb3.size
      have hlt3 : B < w3.heap.size := heap_lt h3
      have hbw3 : Below B w w3 := hnb.trans (hb3.mono (by omega))
      have ht3 := htr.below hb3
      go_wp2_with fail
      refine (tLower d x _ (by omega) HX).mono ?_
      rintro e w4 ⟨rfl, hb4⟩
      have h4 := (hb4.block B (by omega)).trans h3
      have hs4 := hb4.size
      have hbw4 : Below B w w4 := hbw3.trans (hb4.mono (by omega))
      have ht4 := ht3.below hb4
      clear c0 c1 c2 c3 c4 c5 c6 c7 c8 c9 c10 hf h3 hb3 hbw3 ht3 hb4 hnew hnb
      cases x with
      | nil =>
        rw [if_pos (.inl rfl)] at hp
        subst hp
        obtain ⟨⟨c0, c1, c2, c3, c4, c5, c6, c7, c8, c9, c10⟩, hf⟩ := cells11 h4
        go_wp2_with fail
        have k3_8 := put11_heap h4 (.int .u8 0) (S []) (.int .u32 0) (U16 0) (U16 0) (U16 0) (U16 0) (U16 0) (U16 0) (U16 0) (U16 0)
        have kb_8 := put11_below hbw4 (Nat.le_refl _) (.int .u8 0) (S []) (.int .u32 0) (U16 0) (U16 0) (U16 0) (U16 0) (U16 0) (U16 0) (U16 0) (U16 0)
        change bodyPost _ _ _ _ _ (put11 w4 B (.int .u8 0) (S []) (.int .u32 0) (U16 0) (U16 0) (U16 0) (U16 0) (U16 0) (U16 0) (U16 0) (U16 0))
        generalize put11 w4 B (.int .u8 0) (S []) (.int .u32 0) (U16 0) (U16 0) (U16 0) (U16 0) (U16 0) (U16 0) (U16 0) (U16 0) = w99 at *
        obtain ⟨⟨q0, q1, q2, q3, q4, q5, q6, q7, q8, q9, q10⟩, qf⟩ := cells11 k3_8
        refine bodyPost_ret (v := hV none) (by simp [results, Tryz.results8, go_sem, hV, q0, q1, q2, q3, q4, q5, q6, q7, q8, q9, q10]) rfl ?_
        exact ⟨rfl, by rw [HB.out]; exact kb_8⟩
      | cons x0 x1 =>
        go_wp2_with fail
        refine (cAny (x0 :: x1) b1 _ (by omega) HB1).mono ?_
        rintro e w5 ⟨rfl, hb5⟩
        have h5 := (hb5.block B (heap_lt h4)).trans h4
        have hs5 := hb5.size
        have hbw5 : Below B w w5 := hbw4.trans (hb5.mono (by omega))
        have ht5 := ht4.below hb5
        clear hb5
        cases b1 with
        | true =>
          rw [if_pos (.inr rfl)] at hp
          subst hp
          obtain ⟨⟨c0, c1, c2, c3, c4, c5, c6, c7, c8, c9, c10⟩, hf⟩ := cells11 h5
          go_wp2_with fail
          have k3_9 := put11_heap h5 (.int .u8 0) (S []) (.int .u32 0) (U16 0) (U16 0) (U16 0) (U16 0) (U16 0) (U16 0) (U16 0) (U16 0)
          have kb_9 := put11_below hbw5 (Nat.le_refl _) (.int .u8 0) (S []) (.int .u32 0) (U16 0) (U16 0) (U16 0) (U16 0) (U16 0) (U16 0) (U16 0) (U16 0)
          change bodyPost _ _ _ _ _ (put11 w5 B (.int .u8 0) (S []) (.int .u32 0) (U16 0) (U16 0) (U16 0) (U16 0) (U16 0) (U16 0) (U16 0) (U16 0))
          generalize put11 w5 B (.int .u8 0) (S []) (.int .u32 0) (U16 0) (U16 0) (U16 0) (U16 0) (U16 0) (U16 0) (U16 0) (U16 0) = w99 at *
          obtain ⟨⟨q0, q1, q2, q3, q4, q5, q6, q7, q8, q9, q10⟩, qf⟩ := cells11 k3_9
          refine bodyPost_ret (v := hV none) (by simp [results, Tryz.results8, go_sem, hV, q0, q1, q2, q3, q4, q5, q6, q7, q8, q9, q10]) rfl ?_
          exact ⟨rfl, by rw [HB.out]; exact kb_9⟩
        | false =>
          go_wp2_with fail
          refine (cFunc (x0 :: x1) b2 _ HB2).mono ?_
          rintro e w6 ⟨rfl, hb6⟩
          have h6 := (hb6.block B (heap_lt h5)).trans h5
          have hs6 := hb6.size
          have hbw6 : Below B w w6 := hbw5.trans (hb6.mono (by omega))
          have ht6 := ht5.below hb6
          clear hb6
          cases b2 with
          | true =>
            rw [if_pos (.inr rfl)] at hp
            subst hp
            obtain ⟨⟨c0, c1, c2, c3, c4, c5, c6, c7, c8, c9, c10⟩, hf⟩ := cells11 h6
            go_wp2_with fail
            have k3_10 := put11_heap h6 (.int .u8 0) (S []) (.int .u32 0) (U16 0) (U16 0) (U16 0) (U16 0) (U16 0) (U16 0) (U16 0) (U16 0)
            have kb_10 := put11_below hbw6 (Nat.le_refl _) (.int .u8 0) (S []) (.int .u32 0) (U16 0) (U16 0) (U16 0) (U16 0) (U16 0) (U16 0) (U16 0) (U16 0)
            change bodyPost _ _ _ _ _ (put11 w6 B (.int .u8 0) (S []) (.int .u32 0) (U16 0) (U16 0) (U16 0) (U16 0) (U16 0) (U16 0) (U16 0) (U16 0))
            generalize put11 w6 B (.int .u8 0) (S []) (.int .u32 0) (U16 0) (U16 0) (U16 0) (U16 0) (U16 0) (U16 0) (U16 0) (U16 0) = w99 at *
            obtain ⟨⟨q0, q1, q2, q3, q4, q5, q6, q7, q8, q9, q10⟩, qf⟩ := cells11 k3_10
            refine bodyPost_ret (v := hV none) (by simp [results, Tryz.results8, go_sem, hV, q0, q1, q2, q3, q4, q5, q6, q7, q8, q9, q10]) rfl ?_
            exact ⟨rfl, by rw [HB.out]; exact kb_10⟩
          | false =>
            rw [if_neg (by rintro (h | h); cases h; cases h)] at hp
            obtain ⟨bn, hbn⟩ : ∃ b, Hostp.numericP (x0 :: x1) = b := ⟨_, rfl⟩
            rw [hbn] at hp
            have HBN := hide hbn
            clear hbn
            go_wp2_with fail
            refine (hNumeric (x0 :: x1) bn _ ht6.tab (by omega) HBN).mono ?_
            rintro e w7 ⟨rfl, hb7⟩
            have h7 := (hb7.block B (heap_lt h6)).trans h6
            have hs7 := hb7.size
            have hbw7 : Below B w w7 := hbw6.trans (hb7.mono (by omega))
            have ht7 := ht6.below hb7
            clear hb7
            cases bn with
            | false =>
              rw [if_pos rfl] at hp
              subst hp
              obtain ⟨⟨c0, c1, c2, c3, c4, c5, c6, c7, c8, c9, c10⟩, hf⟩ := cells11 h7
              go_wp2_with fail
              have k3_11 := put11_heap h7 (.int .u8 1) (S (x0 :: x1)) (.int .u32 0) (U16 0) (U16 0) (U16 0) (U16 0) (U16 0) (U16 0) (U16 0) (U16 0)
              have kb_11 := put11_below hbw7 (Nat.le_refl _) (.int .u8 1) (S (x0 :: x1)) (.int .u32 0) (U16 0) (U16 0) (U16 0) (U16 0) (U16 0) (U16 0) (U16 0) (U16 0)
              change bodyPost _ _ _ _ _ (put11 w7 B (.int .u8 1) (S (x0 :: x1)) (.int .u32 0) (U16 0) (U16 0) (U16 0) (U16 0) (U16 0) (U16 0) (U16 0) (U16 0))
              generalize put11 w7 B (.int .u8 1) (S (x0 :: x1)) (.int .u32 0) (U16 0) (U16 0) (U16 0) (U16 0) (U16 0) (U16 0) (U16 0) (U16 0) = w99 at *
              obtain ⟨⟨q0, q1, q2, q3, q4, q5, q6, q7, q8, q9, q10⟩, qf⟩ := cells11 k3_11
              refine bodyPost_ret (v := hV (some (.domain (x0 :: x1)))) (by simp [results, Tryz.results8, go_sem, hV, q0, q1, q2, q3, q4, q5, q6, q7, q8, q9, q10]) rfl ?_
              exact ⟨rfl, by rw [HB.out]; exact kb_11⟩
            | true =>
              rw [if_neg (by simp)] at hp
              obtain ⟨n, hn⟩ : ∃ n, Hostp.v4 (x0 :: x1) = n := ⟨_, rfl⟩
              rw [hn] at hp
              have HN := hide hn
              clear hn
              go_wp2_with fail
              refine (hV4 (x0 :: x1) n _ ht7.tab (by omega) HN).mono ?_
              rintro e w8 ⟨rfl, hb8⟩
              have h8 := (hb8.block B (heap_lt h7)).trans h7
              have hs8 := hb8.size
              have hbw8 : Below B w w8 := hbw7.trans (hb8.mono (by omega))
              clear hb8
              obtain ⟨⟨c0, c1, c2, c3, c4, c5, c6, c7, c8, c9, c10⟩, hf⟩ := cells11 h8
              cases n with
              | none =>
                rw [Option.map_none] at hp
                subst hp
                unfold v4V
                go_wp2_with fail
                have k3_12 := put11_heap h8 (.int .u8 0) (S []) (.int .u32 0) (U16 0) (U16 0) (U16 0) (U16 0) (U16 0) (U16 0) (U16 0) (U16 0)
                have kb_12 := put11_below hbw8 (Nat.le_refl _) (.int .u8 0) (S []) (.int .u32 0) (U16 0) (U16 0) (U16 0) (U16 0) (U16 0) (U16 0) (U16 0) (U16 0)
                change bodyPost _ _ _ _ _ (put11 w8 B (.int .u8 0) (S []) (.int .u32 0) (U16 0) (U16 0) (U16 0) (U16 0) (U16 0) (U16 0) (U16 0) (U16 0))
                generalize put11 w8 B (.int .u8 0) (S []) (.int .u32 0) (U16 0) (U16 0) (U16 0) (U16 0) (U16 0) (U16 0) (U16 0) (U16 0) = w99 at *
                obtain ⟨⟨q0, q1, q2, q3, q4, q5, q6, q7, q8, q9, q10⟩, qf⟩ := cells11 k3_12
                refine bodyPost_ret (v := hV none) (by simp [results, Tryz.results8, go_sem, hV, q0, q1, q2, q3, q4, q5, q6, q7, q8, q9, q10]) rfl ?_
                exact ⟨rfl, by rw [HB.out]; exact kb_12⟩
              | some n =>
                rw [Option.map_some] at hp
                subst hp
                unfold v4V
                go_wp2_with fail
                have k3_13 := put11_heap h8 (.int .u8 3) (S []) (.int .u32 n) (U16 0) (U16 0) (U16 0) (U16 0) (U16 0) (U16 0) (U16 0) (U16 0)
                have kb_13 := put11_below hbw8 (Nat.le_refl _) (.int .u8 3) (S []) (.int .u32 n) (U16 0) (U16 0) (U16 0) (U16 0) (U16 0) (U16 0) (U16 0) (U16 0)
                change bodyPost _ _ _ _ _ (put11 w8 B (.int .u8 3) (S []) (.int .u32 n) (U16 0) (U16 0) (U16 0) (U16 0) (U16 0) (U16 0) (U16 0) (U16 0))
                generalize put11 w8 B (.int .u8 3) (S []) (.int .u32 n) (U16 0) (U16 0) (U16 0) (U16 0) (U16 0) (U16 0) (U16 0) (U16 0) = w99 at *
                obtain ⟨⟨q0, q1, q2, q3, q4, q5, q6, q7, q8, q9, q10⟩, qf⟩ := cells11 k3_13
                refine bodyPost_ret (v := hV (some (.four n))) (by simp [results, Tryz.results8, go_sem, hV, q0, q1, q2, q3, q4, q5, q6, q7, q8, q9, q10]) rfl ?_
                exact ⟨rfl, by rw [HB.out]; exact kb_13⟩
end Go.Proofs.YtahjndignkhmoaaGreatDoor
