/- A text decoded. -/
import Derived.Test.YtlajahhiijlhaaaDoorF
namespace Go.Proofs.YtlajahhiijlhaaaDoor
open Go.RowKit

theorem points_le (name t : List UInt8) (h : Entp.points name = some t) : t.length ≤ 8 := by
  unfold Entp.points at h
  cases hf : Entp.find name with
  | none => rw [hf] at h; cases h
  | some tok =>
    rw [hf] at h
    have h := Option.some.inj h
    have hmem := List.mem_of_find?_eq_some hf
    have hpre : (name ++ [61]).isPrefixOf tok = true := List.find?_some hf
    obtain ⟨r, hr⟩ := List.isPrefixOf_iff_prefix.1 hpre
    have hg := List.all_eq_true.1 Entp.toks_good tok hmem
    have h61 : tok[name.length]? = some 61 := by rw [← hr, List.append_assoc, List.getElem?_append_right (Nat.le_refl _), Nat.sub_self]; rfl
    have hlt : name.length < tok.length := by rw [← hr]; simp only [List.length_cons, List.length_append, List.length_nil]; omega
    have h3 := List.all_eq_true.1 hg name.length (List.mem_range.2 hlt)
    rw [h61] at h3
    have h4 : Entp.good (tok.drop (name.length + 1)) = true := by simpa using h3
    have h5 : (Entp.parts (tok.drop (name.length + 1))).length ≤ 2 := by
      rw [Entp.good, Bool.and_eq_true, decide_eq_true_eq] at h4; exact h4.1
    have hle : ∀ ps : List (List UInt8), (ps.flatMap fun p => Lib.encodeRune (Entp.num p)).length ≤ 4 * ps.length := fun ps => by
      induction ps with
      | nil => simp
      | cons p ps ih =>
        have := Lib.runeCells_le (Entp.num p)
        rw [Lib.runeCells_length] at this
        rw [List.flatMap_cons, List.length_append, List.length_cons]; omega
    rw [← h]
    exact Nat.le_trans (hle (Entp.parts (tok.drop (name.length + 1)))) (by omega)
theorem downFrom_text (s : List UInt8) : ∀ k, (Entp.downFrom s k).2.length ≤ 8
  | 0 => by simp [Entp.downFrom]
  | k + 1 => by
    rw [Entp.downFrom]
    split
    · rename_i t ht; exact points_le _ _ ht
    · exact downFrom_text s k
theorem enc_le (r : Int) : (Lib.encodeRune r).length ≤ 4 := by
  have := Lib.runeCells_le r
  rw [Lib.runeCells_length] at this
  exact this.2
theorem ref_le (r : List UInt8) (attr : Bool) : (Entp.ref r attr).1 ≤ r.length + 1 ∧ (Entp.ref r attr).2.length ≤ 8 := by
  unfold Entp.ref
  split
  · rename_i h
    obtain ⟨l, rfl⟩ : ∃ l, r = 35 :: l := by
      cases r with
      | nil => simp at h
      | cons y l => simp at h; exact ⟨l, by rw [h]⟩
    rw [List.drop_succ_cons, List.drop_zero]
    have h1 := Entp.based_skip l
    have h2 := Entp.many_le (Entp.based l).1 (l.drop (Entp.based l).2)
    rw [List.length_drop] at h2
    unfold Entp.numRef
    simp only
    split
    · simp
    · refine ⟨?_, Nat.le_trans (enc_le _) (by decide)⟩
      split
      · rename_i hs
        have : (Entp.based l).2 + Entp.many (Entp.based l).1 (l.drop (Entp.based l).2) < l.length := by
          rw [List.drop_drop] at hs
          rcases Nat.lt_or_ge ((Entp.based l).2 + Entp.many (Entp.based l).1 (l.drop (Entp.based l).2)) l.length with h' | h'
          · exact h'
          · rw [List.drop_eq_nil_of_le h'] at hs; simp at hs
        simp only [List.length_cons]; omega
      · simp only [List.length_cons]; omega
  · unfold Entp.nameRef
    simp only
    split
    · simp
    · have h1 := Entp.downFrom_le r (Entp.top r)
      have h2 := top_le r
      have h3 := downFrom_text r (Entp.top r)
      unfold Entp.named
      exact ⟨by omega, h3⟩
theorem step_le (r : List UInt8) (attr : Bool) : (Entp.step r attr).1 ≤ r.length + 1 ∧ (Entp.step r attr).2.length ≤ 8 := by
  unfold Entp.step
  split
  · simp
  · exact ref_le r attr

theorem indexByte (l : List UInt8) (n : Int) (w : World) (hn : Hid (Lib.indexByte l 38 = n)) :
    Calls Tryd.prog 32 #[S l, .int .u8 38] w (Ret (.int .i64 n) w) :=
  (Tryd.strings_IndexByte ⟨l.toArray⟩ 38 w).mono fun _ _ h => ⟨by rw [h.1, ← hn.out]; rfl, h.2.symm⟩

set_option maxRecDepth 100000 in
set_option maxHeartbeats 1000000 in
theorem decode (s : List UInt8) (attr : Bool) (u : List UInt8) (w : World) (hl : s.length ≤ 1048576) (ht : Tab w) (hu : Hid (Entp.decode s attr = u)) :
    Calls Tryd.prog 17 #[S s, .bool attr] w (Fresh (S u) w) := by
  have hbl := bld_new w
  have Ht := hide ht
  have hsz : (w.alloc (.cells #[.pointer none, .slice none 0 0] 55)).heap.size = w.heap.size + 1 := by simp
  have hb1 : Below w.heap.size w (w.alloc (.cells #[.pointer none, .slice none 0 0] 55)) := (Below.refl _ _).alloc (Nat.le_refl _) _
  clear ht
  go_enter Tryd.func17, Tryd.ntmps17
  go_wp2_with fail
  obtain ⟨w1, hw1⟩ : ∃ x, x = w.alloc (.cells #[.pointer none, .slice none 0 0] 55) := ⟨_, rfl⟩
  rw [← hw1] at hbl hsz hb1 ⊢
  obtain ⟨B, hB⟩ : ∃ B, B = w.heap.size := ⟨_, rfl⟩
  rw [← hB] at hbl hsz hb1 ⊢
  clear hw1
  go_loopg [0] s.length (fun g s0 wx => ∃ (l acc : List UInt8), l.length = g ∧ s0 = S l ∧ l.length ≤ s.length ∧ acc.length + 8 * l.length ≤ 8 * s.length ∧ Hid (acc ++ Entp.decode l attr = u) ∧ Bld B B acc wx ∧ Below B w wx ∧ B < wx.heap.size)
  case atStart => exact ⟨s, [], rfl, rfl, by omega, by simp, by unfold Hid; rw [List.nil_append]; exact hu.out, hbl, hb1, by omega⟩
  case round =>
    obtain ⟨l, acc, hlg, rfl, hls, hal, hd, hbx, hbe, hsx⟩ := hrel
    have htr : Tab wr := Ht.out.below (by rw [← hB]; exact hbe)
    have Htr := hide htr
    have hB' := hide hB
    clear htr hsz hbl hb1 hB
    rcases Entp.part l with hno | ⟨a, r, rfl, ha⟩
    · have e := hd.out
      rw [Entp.decode_no attr l hno] at e
      have Hi := hide (Entp.indexByte_no l hno)
      clear hno
      go_wp2_with fail
      refine (indexByte l _ _ Hi).mono ?_
      rintro e w' ⟨rfl, rfl⟩
      go_wp2_with fail
      refine (writeString B B acc l _ hbx (by omega) (by omega)).mono ?_
      rintro e w2 ⟨rfl, hb2, hk2⟩
      go_wp2_with fail
      refine (Tryd.Builder_String_any B B (acc ++ l) _ (.inr hb2) (by have := hk2.below.size; omega)).mono ?_
      rintro e w3 ⟨rfl, hb3⟩
      go_wp2_with fail
      go_ret
      exact ⟨by rw [← e]; rfl, by rw [← hB'.out]; exact hbe.trans (hk2.below.trans hb3)⟩
    · have Hi := hide (Entp.indexByte_at a r ha)
      have e := hd.out
      rw [Entp.decode_at attr a r ha] at e
      obtain ⟨n, t, hnt⟩ : ∃ n t, Entp.refAt (a ++ 38 :: r) (a.length : Int) attr = (n, t) := ⟨_, _, rfl⟩
      have hst : Entp.ref r attr = (n, t) := by
        rw [← hnt, Entp.refAt, if_neg, Int.toNat_natCast, ← List.drop_drop, List.drop_left, List.drop_succ_cons, List.drop_zero]
        rw [Int.toNat_natCast, List.getElem?_append_right (Nat.le_refl _), Nat.sub_self]
        simp
        omega
      have hle := step_le r attr
      have Hnt := hide hnt
      simp only [List.length_append, List.length_cons] at hlg hls hal
      have HE := hide e
      have HS := hide hst
      clear ha hnt hst e hd
      go_wp2_with fail
      refine (indexByte _ _ _ Hi).mono ?_
      rintro e w' ⟨rfl, rfl⟩
      go_wp2_with fail
      refine (ref _ _ attr n t _ (by simp; omega) Htr.out Hnt).mono ?_
      rintro e w2 ⟨rfl, hb2⟩
      have hbx2 := bld_below hbx hb2
      have hbe2 := hbe.trans (hb2.mono (by omega))
      have hs2 := hb2.size
      have HBX := hide hbx
      clear hbx hbe
      have hB2 : B < w2.heap.size := by omega
      by_cases hn0 : n = 0
      · subst hn0
        have hse : Entp.step r attr = (1, [38]) := by rw [Entp.step, HS.out, if_pos rfl]
        have HSE := hide hse
        clear hse hle
        go_wp2_with fail
        refine (writeString B B acc a _ hbx2 (by omega) (by omega)).mono ?_
        rintro e w3 ⟨rfl, hb3, hk3⟩
        have hs3 := hk3.below.size
        go_wp2_with fail
        refine (writeString B B _ [38] _ (.inr hb3) (by omega) (by simp only [List.length_append, List.length_cons, List.length_nil]; omega)).mono ?_
        rintro e w4 ⟨rfl, hb4, hk4⟩
        have hs4 := hk4.below.size
        go_wp2_with fail
        go_roundg r.length
        case measure => omega
        case rel =>
          have e := HE.out
          rw [HSE.out] at e
          refine ⟨r, acc ++ a ++ [38], rfl, by rw [List.take_of_length_le (by omega)], by omega, by simp only [List.length_append, List.length_cons, List.length_nil]; omega, ?_, .inr hb4, hbe2.trans (hk3.below.trans hk4.below), by omega⟩
          unfold Hid
          rw [← e]
          simp
      · have hni : ((n : Int) == 0) = false := beq_eq_false_iff_ne.2 (by omega)
        have hse : Entp.step r attr = (n, t) := by rw [Entp.step, HS.out, if_neg hn0]
        rw [hse] at hle
        obtain ⟨hn1, ht8⟩ := hle
        simp only at hn1 ht8
        have HSE := hide hse
        clear hse
        go_wp2_with fail
        refine (writeString B B acc a _ hbx2 (by omega) (by omega)).mono ?_
        rintro e w3 ⟨rfl, hb3, hk3⟩
        have hs3 := hk3.below.size
        go_wp2_with fail
        refine (writeString B B _ t _ (.inr hb3) (by omega) (by simp only [List.length_append]; omega)).mono ?_
        rintro e w4 ⟨rfl, hb4, hk4⟩
        have hs4 := hk4.below.size
        go_wp2_with fail
        go_roundg (r.length + 1 - n)
        case measure => omega
        case rel =>
          have e := HE.out
          rw [HSE.out] at e
          have hd : List.drop (a.length + n) (a ++ 38 :: r) = (38 :: r).drop n := by rw [← List.drop_drop, List.drop_left]
          refine ⟨(38 :: r).drop n, acc ++ a ++ t, by rw [List.length_drop, List.length_cons], by rw [hd, List.take_of_length_le (by rw [List.length_drop, List.length_cons]; omega)], by rw [List.length_drop, List.length_cons]; omega, by simp only [List.length_append, List.length_drop, List.length_cons]; omega, ?_, .inr hb4, hbe2.trans (hk3.below.trans hk4.below), by omega⟩
          unfold Hid
          rw [← e]
          simp
end Go.Proofs.YtlajahhiijlhaaaDoor
