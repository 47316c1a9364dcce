/- The law JsAgain, walked. -/
import Derived.Test.YtngccmlcopcghaaGreatDoorLv
import Derived.Test.YtngccmlcopcghaaGreatDoorQm
namespace Go.Proofs.YtngccmlcopcghaaGreatDoor
open Go.RowKit

/-- a slice that reads as a list of bytes -/
def RB (w : World) (v : Value) (l : List UInt8) : Prop :=
  (l = [] ∧ ∃ a c, v = .slice a 0 c) ∨
  ∃ b o cap, v = .slice (some ⟨b, o, none⟩) l.length cap ∧ b < w.heap.size ∧ ∀ (i : Nat) (x : UInt8), l[i]? = some x → w.cell? ⟨b, o + i, none⟩ = some (B8 x)
theorem RB.length {w : World} {v : Value} {l : List UInt8} (h : RB w v l) : ∃ a c, v = .slice a l.length c := by
  rcases h with ⟨rfl, a, c, rfl⟩ | ⟨b, o, cap, rfl, _⟩
  · exact ⟨a, c, rfl⟩
  · exact ⟨_, _, rfl⟩
theorem RB.below {w w' : World} {v : Value} {l : List UInt8} (h : RB w v l) (hb : Below w.heap.size w w') : RB w' v l := by
  rcases h with h | ⟨b, o, cap, rfl, hlt, hc⟩
  · exact .inl h
  · exact .inr ⟨b, o, cap, rfl, Nat.lt_of_lt_of_le hlt hb.size, fun i c hi => (hb.cell hlt).trans (hc i c hi)⟩
theorem RB.at {w : World} {a : Option Addr} {n c : Nat} {l : List UInt8} (h : RB w (.slice a n c) l) {i : Nat} {x : UInt8} (hx : l[i]? = some x) :
    ∃ b o, a = some ⟨b, o, none⟩ ∧ b < w.heap.size ∧ w.cell? ⟨b, o + i, none⟩ = some (B8 x) := by
  rcases h with ⟨rfl, _⟩ | ⟨b, o, cap, h, hlt, hc⟩
  · simp at hx
  · injection h with h1 h2 h3
    exact ⟨b, o, h1, hlt, hc i x hx⟩
/-- the gap that a number takes -/
def gapOf (c : UInt8) : List UInt8 := if c.toNat % 4 = 0 then [32] else if c.toNat % 4 = 1 then [10] else if c.toNat % 4 = 2 then [32, 47, 42, 32, 39, 32, 42, 47, 32] else [32, 47, 47, 32, 96, 10]
theorem gapOf_ok (c : UInt8) : gapOf c ∈ Jsp.gaps := by
  unfold gapOf Jsp.gaps
  split
  · simp
  split
  · simp
  split
  · simp
  · simp
theorem gaps_ok (ways : List UInt8) : ∀ g ∈ ways.map gapOf, g ∈ Jsp.gaps := fun g hg => by
  obtain ⟨c, _, rfl⟩ := List.mem_map.1 hg
  exact gapOf_ok c
theorem gapAt_some {ways : List UInt8} {i : Nat} {c : UInt8} (h : ways[i]? = some c) : Jsp.gapAt (ways.map gapOf) i = gapOf c := by
  unfold Jsp.gapAt
  rw [List.getElem?_map, h]; rfl
theorem gapAt_none {ways : List UInt8} {i : Nat} (h : ways.length ≤ i) : Jsp.gapAt (ways.map gapOf) i = [32] := by
  unfold Jsp.gapAt
  rw [List.getElem?_eq_none (by rw [List.length_map]; exact h)]
theorem again_tok {s : List UInt8} {l : List Jsp.Tk} {st : Jsp.St} {ln wd : Bool} (h : Jsp.lex (Cssp.decode s) = .ok l st ln wd) (h0 : st.stk = []) (ways : List UInt8) : Jsp.tokens (Jsp.joinW l (ways.map gapOf)) = (l, 0, 0) := by
  obtain ⟨w', hw'⟩ := Jsp.read_again s h (ways.map gapOf) (gaps_ok ways)
  rw [tokens_of (show Jsp.lex (Cssp.decode (Jsp.joinW l (ways.map gapOf))) = _ from hw'), if_pos h0]
/-- what has been joined of the first i tokens -/
def jn (l : List Jsp.Tk) (ways : List UInt8) (i : Nat) : List UInt8 := Jsp.joinW (l.take i) (ways.map gapOf)
theorem jn_zero (l : List Jsp.Tk) (ways : List UInt8) : jn l ways 0 = [] := Jsp.joinW_nil _
theorem jn_all (l : List Jsp.Tk) (ways : List UInt8) : jn l ways l.length = Jsp.joinW l (ways.map gapOf) := by unfold jn; rw [List.take_length]
theorem jn_next {l : List Jsp.Tk} {ways : List UInt8} {i : Nat} {x : Jsp.Tk} (h : l[i]? = some x) : jn l ways (i + 1) = jn l ways i ++ (x.t ++ Jsp.gapAt (ways.map gapOf) i) := by
  unfold jn
  have hi : i < l.length := (List.getElem?_eq_some_iff.1 h).1
  rw [List.take_add_one, h, show (some x).toList = [x] from rfl, Jsp.joinW_snoc, List.length_take, Nat.min_eq_left (by omega)]
theorem jn_len (l : List Jsp.Tk) (ways : List UInt8) : ∀ i, i ≤ l.length → (jn l ways i).length ≤ Jsp.tlen (l.take i) + 9 * i
  | 0, _ => by rw [jn_zero]; simp
  | i + 1, h => by
    have hi : i < l.length := by omega
    have hg := List.getElem?_eq_getElem hi
    have ih := jn_len l ways i (by omega)
    have hgl := Jsp.gapAt_len (gaps_ok ways) i
    rw [jn_next hg, List.length_append, List.length_append, Jsp.tlen_get hg]
    omega
theorem jn_bound {l : List Jsp.Tk} {i : Nat} (ways : List UInt8) (hi : i ≤ l.length) (hl : l.length ≤ 12288) (ht : Jsp.tlen l ≤ 12288) : (jn l ways i).length ≤ 122880 := by
  have h1 := jn_len l ways i hi
  have h2 := Jsp.tlen_take_le l i
  omega
set_option maxRecDepth 100000 in
set_option maxHeartbeats 4000000 in
theorem law_again (s : List UInt8) (v : Value) (ways : List UInt8) (w : World) (hs : s.length ≤ 9223372036854775807) (hwl : ways.length ≤ 9223372036854775807) (hr : RB w v ways) (ht : Tab w) : Calls Tryz.prog 6 #[S s, v] w (Fresh (.bool true) w) := by
  obtain ⟨al, cl, rfl⟩ := hr.length
  have hlt := ht.lt
  have HW := hide (works_ w ht)
  go_enter Tryz.func6, Tryz.ntmps6
  go_wp2_with fail
  refine HW.out.mono ?_
  rintro e w1 ⟨rfl, hb1⟩
  have HB1 := hide hb1
  have HT1 := hide (ht.below hlt hb1)
  have HR1 := hide (hr.below hb1)
  clear HW hb1 hr
  by_cases hlen : 4096 < s.length
  · have d1 : (4096 : Int) < (s.length : Int) := by omega
    go_wp2_with fail
    go_ret
    exact ⟨rfl, HB1.out⟩
  have d1 : decide ((4096 : Int) < (s.length : Int)) = false := by rw [decide_eq_false_iff_not]; omega
  by_cases hlen2 : 4096 < ways.length
  · have d2 : (4096 : Int) < (ways.length : Int) := by omega
    go_wp2_with fail
    go_ret
    exact ⟨rfl, HB1.out⟩
  have d2 : decide ((4096 : Int) < (ways.length : Int)) = false := by rw [decide_eq_false_iff_not]; omega
  have hK := hide (tokens_ s w1 HT1.out (by omega))
  have HT0 := hide ht
  clear ht
  go_wp2_with fail
  refine hK.out.mono ?_
  rintro e w2 ⟨va, rfl, hoa, hba, hLn⟩
  have HRA := hide (RT.of_own hoa)
  have HB2 := hide (HB1.out.trans (hba.mono HB1.out.size))
  have HR2 := hide (HR1.out.below hba)
  clear hba hK HB1 HT1 HR1
  obtain ⟨ava, cva, hva⟩ : ∃ av cv, va = .slice av (Jsp.tokens s).1.length cv := by
    rcases HRA.out with ⟨h0, a0, k0, hv0⟩ | ⟨g, o, cap2, hv0, _, _⟩
    · exact ⟨a0, k0, by rw [hv0, h0]; rfl⟩
    · exact ⟨_, _, hv0⟩
  subst hva
  by_cases he : (Jsp.tokens s).2.1 = 0
  · obtain ⟨l, st, ln, wd, hl, hst, hta⟩ := Jsp.tokens_zero he
    have hsum := Jsp.tokens_sum hl
    have hdl := Cssp.decode_len _ s (Nat.le_refl _)
    have hat := again_tok hl hst ways
    rw [hta] at HRA hLn ⊢
    have hLl : l.length ≤ 12288 := by have : l.length ≤ 3 * s.length := hLn; omega
    have hTl : Jsp.tlen l ≤ 12288 := by omega
    have HTL := hide hTl
    have HAT := hide hat
    clear hta hsum hdl hat hl hst he hoa hLn hTl
    have HLL := hide hLl
    go_wp2_with fail
    go_loopg [9, 10] l.length (fun g s9 s10 wx => ∃ i : Nat, i + g = l.length ∧ s9 = S (jn l ways i) ∧ s10 = .int .i64 i ∧ Hid (Below w2.heap.size w2 wx))
    case atStart => exact ⟨0, by omega, by rw [jn_zero], rfl, Below.refl _ _⟩
    case round =>
      obtain ⟨i, hi, rfl, rfl, hbx⟩ := hrel
      have hTb := jn_bound (i := i) ways (by omega) hLl HTL.out
      obtain ⟨T, hT⟩ : ∃ T, jn l ways i = T := ⟨_, rfl⟩
      rw [hT] at hTb ⊢
      have HTT := hide hT
      clear hT
      by_cases hlt2 : i < l.length
      · obtain ⟨x, hx⟩ : ∃ x, l[i]? = some x := ⟨_, List.getElem?_eq_getElem hlt2⟩
        have hxt : x.t.length ≤ 12288 := by
          have h1 := Jsp.tlen_get hx
          have h2 := Jsp.tlen_take_le l (i + 1)
          have h3 := HTL.out
          omega
        have HXI := hide hx
        rcases HRA.out.below hbx.out with ⟨h0, _⟩ | ⟨g, o, cap, hv, hg, hc⟩
        · subst h0; cases hx
        injection hv with e1 e2 e3
        subst e1 e3
        obtain ⟨-, p1, -⟩ := hc i x hx
        by_cases hw : i < ways.length
        · obtain ⟨c, hc2⟩ : ∃ c, ways[i]? = some c := ⟨_, List.getElem?_eq_getElem hw⟩
          obtain ⟨bw, ow, rfl, hbw, hcw⟩ := (HR2.out.below hbx.out).at hc2
          have HCI := hide hc2
          have hal := (Below.refl wr.heap.size wr).alloc (Nat.le_refl _) (.cells #[S [32], S [10], S [32, 47, 42, 32, 39, 32, 42, 47, 32], S [32, 47, 47, 32, 96, 10]] 9)
          have hnl := heap_alloc_last wr (.cells #[S [32], S [10], S [32, 47, 42, 32, 39, 32, 42, 47, 32], S [32, 47, 47, 32, 96, 10]] 9)
          have p1' := cell_below p1 hal
          have hcw' := cell_below hcw hal
          have HBA := hide (hbx.out.trans (hal.mono hbx.out.size))
          have k0 : (wr.alloc (.cells #[S [32], S [10], S [32, 47, 42, 32, 39, 32, 42, 47, 32], S [32, 47, 47, 32, 96, 10]] 9)).cell? ⟨wr.heap.size, 0, none⟩ = some (S [32]) := by rw [Lib.cell_of_heap hnl]; rfl
          have k1 : (wr.alloc (.cells #[S [32], S [10], S [32, 47, 42, 32, 39, 32, 42, 47, 32], S [32, 47, 47, 32, 96, 10]] 9)).cell? ⟨wr.heap.size, 1, none⟩ = some (S [10]) := by rw [Lib.cell_of_heap hnl]; rfl
          have k2 : (wr.alloc (.cells #[S [32], S [10], S [32, 47, 42, 32, 39, 32, 42, 47, 32], S [32, 47, 47, 32, 96, 10]] 9)).cell? ⟨wr.heap.size, 2, none⟩ = some (S [32, 47, 42, 32, 39, 32, 42, 47, 32]) := by rw [Lib.cell_of_heap hnl]; rfl
          have k3 : (wr.alloc (.cells #[S [32], S [10], S [32, 47, 42, 32, 39, 32, 42, 47, 32], S [32, 47, 47, 32, 96, 10]] 9)).cell? ⟨wr.heap.size, 3, none⟩ = some (S [32, 47, 47, 32, 96, 10]) := by rw [Lib.cell_of_heap hnl]; rfl
          have hr4' : c.toNat % 4 = 0 ∨ c.toNat % 4 = 1 ∨ c.toNat % 4 = 2 ∨ c.toNat % 4 = 3 := by omega
          clear hal hnl hc2 hx hc hg hbw hbx
          rcases hr4' with hr4 | hr4 | hr4 | hr4
          · have hq2 : Int.tmod (c.toNat : Int) 4 = 0 := by rw [Int.tmod_eq_emod_of_nonneg (by omega)]; omega
            have hq1 : (c.toNat : Int) % 4 = 0 := by omega
            have HGP := hide (show gapOf c = [32] by unfold gapOf; simp [hr4])
            clear hr4
            go_wp2_with fail
            go_roundg (gk - 1)
            case measure => omega
            case rel => exact ⟨i + 1, by omega, by rw [jn_next HXI.out, ← HTT.out, gapAt_some HCI.out, HGP.out], by go_num, HBA.out⟩
          · have hq2 : Int.tmod (c.toNat : Int) 4 = 1 := by rw [Int.tmod_eq_emod_of_nonneg (by omega)]; omega
            have hq1 : (c.toNat : Int) % 4 = 1 := by omega
            have HGP := hide (show gapOf c = [10] by unfold gapOf; simp [hr4])
            clear hr4
            go_wp2_with fail
            go_roundg (gk - 1)
            case measure => omega
            case rel => exact ⟨i + 1, by omega, by rw [jn_next HXI.out, ← HTT.out, gapAt_some HCI.out, HGP.out], by go_num, HBA.out⟩
          · have hq2 : Int.tmod (c.toNat : Int) 4 = 2 := by rw [Int.tmod_eq_emod_of_nonneg (by omega)]; omega
            have hq1 : (c.toNat : Int) % 4 = 2 := by omega
            have HGP := hide (show gapOf c = [32, 47, 42, 32, 39, 32, 42, 47, 32] by unfold gapOf; simp [hr4])
            clear hr4
            go_wp2_with fail
            go_roundg (gk - 1)
            case measure => omega
            case rel => exact ⟨i + 1, by omega, by rw [jn_next HXI.out, ← HTT.out, gapAt_some HCI.out, HGP.out], by go_num, HBA.out⟩
          · have hq2 : Int.tmod (c.toNat : Int) 4 = 3 := by rw [Int.tmod_eq_emod_of_nonneg (by omega)]; omega
            have hq1 : (c.toNat : Int) % 4 = 3 := by omega
            have HGP := hide (show gapOf c = [32, 47, 47, 32, 96, 10] by unfold gapOf; simp [hr4])
            clear hr4
            go_wp2_with fail
            go_roundg (gk - 1)
            case measure => omega
            case rel => exact ⟨i + 1, by omega, by rw [jn_next HXI.out, ← HTT.out, gapAt_some HCI.out, HGP.out], by go_num, HBA.out⟩
        · have HGN := hide (gapAt_none (ways := ways) (i := i) (by omega))
          have HBX := hbx
          clear hx hc hg
          go_wp2_with fail
          go_roundg (gk - 1)
          case measure => omega
          case rel => exact ⟨i + 1, by omega, by rw [jn_next HXI.out, ← HTT.out, HGN.out], by go_num, HBX.out⟩
      · obtain rfl : i = l.length := by omega
        have hat := HAT.out
        rw [← jn_all, HTT.out] at hat
        have HTB := hide (HT0.out.below hlt (HB2.out.trans (hbx.out.mono HB2.out.size)))
        have hK := tokens_ T wr HTB.out (by omega)
        rw [hat] at hK
        have HK := hide hK
        have HRW := hide (HRA.out.below hbx.out)
        have HBW := hide (HB2.out.trans (hbx.out.mono HB2.out.size))
        clear hK hat HTB hbx HR2 HAT HRA
        go_wp2_with fail
        refine HK.out.mono ?_
        rintro e w3 ⟨vb, rfl, hob, hbb, -⟩
        have HB3 := hide (HBW.out.trans (hbb.mono HBW.out.size))
        have hSm : Hid (Calls Tryz.prog 12 #[.slice ava l.length cva, vb] w3 (Quiet (.bool true) w3)) := by
          have := same_any _ _ l l w3 (HRW.out.below hbb) (RT.of_own hob) (by unfold maxLen; omega) (by unfold maxLen; omega)
          rw [show decide (l = l) = true from decide_eq_true rfl] at this
          exact this
        clear hob hbb HK HBW HRW
        go_wp2_with fail
        refine hSm.out.mono ?_
        rintro e w4 ⟨rfl, hd4⟩
        go_wp2_with fail
        go_ret
        exact ⟨by simp, HB3.out.trans ((below_drawn hd4).mono HB3.out.size)⟩
  · have q1 : (((Jsp.tokens s).2.1 : Int) != 0) = true := by rw [bne_iff_ne]; omega
    have h0 := Jsp.tokens_some he
    generalize Jsp.tokens s = T at h0 q1 HRA ⊢
    obtain ⟨l, er, pl⟩ := T
    simp only at h0 q1
    subst h0
    clear he hoa hLn
    go_wp2_with fail
    go_ret
    exact ⟨by simp, HB2.out⟩
end Go.Proofs.YtngccmlcopcghaaGreatDoor
