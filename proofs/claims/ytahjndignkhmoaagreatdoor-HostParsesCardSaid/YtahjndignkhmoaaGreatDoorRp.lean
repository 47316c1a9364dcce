/- The reference: an address of eight numbers. (Printed by genRp.py.) -/
import Derived.Test.YtahjndignkhmoaaGreatDoorRo
import Derived.Test.YtahjndignkhmoaaGreatDoorLawsB
namespace Go.Proofs.YtahjndignkhmoaaGreatDoor
open Go.RowKit

/-! ### the first two colons -/
def Cut2At (s : List UInt8) (i : Nat) (p : Int) : Prop :=
  (∃ a b, p = ((a : List UInt8).length : Int) ∧ Hostp.cut2 s = some (a, b)) ∨ (p = -1 ∧ Hostp.cut2 s = (Hostp.cut2 (s.drop i)).map fun x => (s.take i ++ x.1, x.2))
theorem cut2_start (s : List UInt8) : Cut2At s 0 (-1) := .inr ⟨rfl, by
  rw [List.drop_zero]
  cases Hostp.cut2 s <;> simp⟩
theorem cut2_hit {s r : List UInt8} {i : Nat} (h : s.drop i = 58 :: 58 :: r) (hc : Cut2At s i (-1)) : Cut2At s (i + 1) (i : Int) := by
  have hl := congrArg List.length h
  simp only [List.length_drop, List.length_cons] at hl
  rcases hc with ⟨a, b, h1, _⟩ | ⟨_, e⟩
  · omega
  · refine .inl ⟨s.take i, r, by rw [List.length_take, Nat.min_eq_left (by omega)], ?_⟩
    rw [e, h, Hostp.cut2, if_pos ⟨rfl, rfl⟩]
    simp
theorem cut2_next {s r : List UInt8} {c d : UInt8} {i : Nat} {p : Int} (h : s.drop i = c :: d :: r) (hno : 0 ≤ p ∨ ¬ (c = 58 ∧ d = 58)) (hc : Cut2At s i p) : Cut2At s (i + 1) p := by
  rcases hc with h1 | ⟨hp, e⟩
  · exact .inl h1
  · rcases hno with h0 | hno
    · omega
    · refine .inr ⟨hp, ?_⟩
      have hl := congrArg List.length h
      simp only [List.length_drop, List.length_cons] at hl
      have hi : i < s.length := by omega
      have h2 := h
      rw [List.drop_eq_getElem_cons hi] at h2
      injection h2 with h3 h4
      rw [e, h, Hostp.cut2, if_neg hno, h4, List.take_succ_eq_append_getElem hi, h3, Option.map_map]
      cases Hostp.cut2 (d :: r) <;> simp
theorem cut2_end {s : List UInt8} {i : Nat} {p : Int} (hc : Cut2At s i p) (h : s.length ≤ i + 1) : (∃ a b, p = ((a : List UInt8).length : Int) ∧ Hostp.cut2 s = some (a, b)) ∨ (p = -1 ∧ Hostp.cut2 s = none) := by
  rcases hc with h1 | ⟨hp, e⟩
  · exact .inl h1
  · refine .inr ⟨hp, ?_⟩
    have hl : (s.drop i).length ≤ 1 := by rw [List.length_drop]; omega
    rw [e]
    match s.drop i, hl with
    | [], _ => rfl
    | [_], _ => rfl
theorem cut2_lo {s : List UInt8} {i : Nat} {p : Int} (hc : Cut2At s i p) : -1 ≤ p := by
  rcases hc with ⟨a, b, h1, _⟩ | ⟨h1, _⟩ <;> omega

/-! ### a row over another -/
def over (v : List Int) (off : Nat) (l : List Int) (i : Nat) : List Int := v.take off ++ (l.take i ++ v.drop (off + i))
theorem over_zero (v : List Int) (off : Nat) (l : List Int) : over v off l 0 = v := by
  unfold over
  rw [List.take_zero, List.nil_append, Nat.add_zero, List.take_append_drop]
theorem over_len (v l : List Int) (off i : Nat) (h : off + l.length ≤ v.length) (hi : i ≤ l.length) : (over v off l i).length = v.length := by
  unfold over
  simp only [List.length_append, List.length_take, List.length_drop]
  omega
theorem over_step (v l : List Int) (off i : Nat) (h : off + l.length ≤ v.length) (hi : i < l.length) : over v off l (i + 1) = (over v off l i).set (off + i) l[i] := by
  unfold over
  have h1 : (v.take off).length = off := by rw [List.length_take]; omega
  have h2 : (l.take i).length = i := by rw [List.length_take]; omega
  rw [List.set_append_right _ _ (by omega), h1, show off + i - off = i by omega, List.set_append_right _ _ (by omega), h2, Nat.sub_self, List.take_succ_eq_append_getElem hi, List.drop_eq_getElem_cons (show off + i < v.length by omega), List.set_cons_zero, List.append_assoc]
  rfl
theorem over_one (l : List Int) (h : l.length = 8) : over (List.replicate 8 0) 0 l 8 = l := by
  unfold over
  rw [List.take_zero, List.nil_append, List.drop_eq_nil_of_le (by simp), List.append_nil, List.take_of_length_le (by omega)]
theorem over_two (l m : List Int) (h : l.length + m.length ≤ 7) : over (over (List.replicate 8 0) 0 l l.length) (8 - m.length) m m.length = l ++ List.replicate (8 - l.length - m.length) 0 ++ m := by
  unfold over
  simp only [List.take_zero, List.nil_append, Nat.zero_add, List.take_length, List.drop_replicate]
  rw [List.take_append, List.take_of_length_le (show l.length ≤ 8 - m.length by omega), List.take_replicate, Nat.min_eq_left (by omega), List.drop_append, List.drop_eq_nil_of_le (show l.length ≤ 8 - m.length + m.length by omega), List.drop_replicate,
    show 8 - l.length - (8 - m.length + m.length - l.length) = 0 by omega, show 8 - m.length - l.length = 8 - l.length - m.length by omega]
  simp
def Row8 (w : World) (B : Nat) (v : List Int) : Prop := w.heap[B]? = some (.cells (v.map U16).toArray 25 (0, 0))
theorem Row8.set {w : World} {B : Nat} {v : List Int} (h : Row8 w B v) (j : Nat) (x : Int) : Row8 (w.setCell ⟨B, j, none⟩ (U16 x)) B (v.set j x) := by
  unfold Row8
  have := row_set h j (U16 x)
  rw [this]
  congr 2
  exact Array.ext' (by simp)
theorem Row8.at {w : World} {B : Nat} {v : List Int} (h : Row8 w B v) (j : Nat) (hj : j < v.length) : w.cell? ⟨B, j, none⟩ = some (U16 v[j]) ∧ w.frozen? ⟨B, j, none⟩ = false := by
  refine ⟨?_, by unfold Row8 at h; simp [World.frozen?, h]⟩
  rw [Lib.cell_of_heap h]
  simp [hj]
/-- a slice of the call's own, for reading -/
def SliceOf (w : World) (K : Nat) (sp : Option Addr) (l : List Int) : Prop := ∀ (j : Nat) x, l[j]? = some x → ∃ g, sp = some ⟨g, 0, none⟩ ∧ K ≤ g ∧ w.cell? ⟨g, j, none⟩ = some (U16 x)
theorem slice_of {w : World} {K : Nat} {v : Value} {l : List Int} (h : w.ownsRow K 24 1 v l.length (l.map U16)) : ∃ sp cap, v = .slice sp l.length cap ∧ l.length ≤ cap ∧ SliceOf w K sp l := by
  rcases h.2 with ⟨rfl, h0⟩ | ⟨g, cap, cur, rfl, hg, hgg, hcap⟩
  · have h0' : l.length = 0 := by simpa using h0
    exact ⟨none, 0, by rw [h0'], by omega, fun j x hx => by rw [List.eq_nil_of_length_eq_zero h0'] at hx; simp at hx⟩
  · refine ⟨_, cap, rfl, hcap.1, fun j x hx => ⟨g, rfl, hg, ?_⟩⟩
    have := h.cells (g := g) rfl j (U16 x) (by rw [List.getElem?_map, hx]; rfl)
    rw [show (⟨g, 0, none⟩ : Addr).add j = ⟨g, j, none⟩ by unfold Addr.add; split <;> simp_all] at this
    exact this
theorem SliceOf.same {w w' : World} {K : Nat} {sp : Option Addr} {l : List Int} (h : SliceOf w K sp l) (hs : ∀ k, K ≤ k → k < w.heap.size → w'.heap[k]? = w.heap[k]?) : SliceOf w' K sp l := fun j x hx => by
  obtain ⟨g, h1, h2, h3⟩ := h j x hx
  exact ⟨g, h1, h2, (World.cell?_of_block (hs g h2 (World.block_lt_of_cell? w _ h3))).trans h3⟩

set_option maxHeartbeats 16000000 in
set_option maxRecDepth 100000 in
theorem rV6 (s : List UInt8) (r : Option (List Int)) (w : World) (hl : s.length ≤ 4194304) (hr : Hid (Hostp.v6 s = r)) :
    Calls Tryz.prog 13 #[S s] w fun e w' => e = .returned (v6V r) ∧ Below w.heap.size w w' := by
  have h8 : ((w.alloc (.cells Z8 25)).alloc (.cells Z8 25)).heap[w.heap.size]? = some (.cells Z8 25 (0, 0)) := by
    rw [Below.heap_alloc _ _ _ (by simp)]; exact heap_alloc_last _ _
  have h1 : ((w.alloc (.cells Z8 25)).alloc (.cells Z8 25)).heap[w.heap.size + 1]? = some (.cells Z8 25 (0, 0)) := by
    have := heap_alloc_last (w.alloc (.cells Z8 25)) (.cells Z8 25)
    simpa using this
  have hbl : Below w.heap.size w ((w.alloc (.cells Z8 25)).alloc (.cells Z8 25)) := ((Below.refl _ _).alloc (Nat.le_refl _) _).alloc (by simp) _
  have hsz : ((w.alloc (.cells Z8 25)).alloc (.cells Z8 25)).heap.size = w.heap.size + 2 := by simp
  go_enter Tryz.func13, Tryz.ntmps13
  go_wp2_with fail
  obtain ⟨w1, hw1⟩ : ∃ x, x = (w.alloc (.cells Z8 25)).alloc (.cells Z8 25) := ⟨_, rfl⟩
  rw [← hw1] at h8 h1 hbl hsz ⊢
  obtain ⟨B, hB⟩ : ∃ B, w.heap.size = B := ⟨_, rfl⟩
  rw [hB] at h8 h1 hbl hsz ⊢
  have HB := hide hB
  have H8 := hide h8
  have H1 := hide h1
  have HSZ := hide hsz
  clear hw1 hB h8 h1 hsz
  go_loopg [5, 6] s.length (fun g s5 s6 wx => ∃ (i : Nat) (p : Int), i + g = s.length ∧ s6 = .int .i64 i ∧ s5 = .int .i64 p ∧ Hid (Cut2At s i p) ∧ wx = w1)
  case atStart => exact ⟨0, -1, by omega, rfl, rfl, cut2_start s, rfl⟩
  case round =>
    obtain ⟨i, p, hi, rfl, rfl, hC, rfl⟩ := hrel
    have hp1 := cut2_lo hC.out
    by_cases hlt : i + 1 < s.length
    · obtain ⟨c, hc⟩ : ∃ c, s[i] = c := ⟨_, rfl⟩
      obtain ⟨d, hd⟩ : ∃ d, s[i + 1] = d := ⟨_, rfl⟩
      have hdr : s.drop i = c :: d :: s.drop (i + 2) := by
        rw [List.drop_eq_getElem_cons (by omega : i < s.length), hc, List.drop_eq_getElem_cons hlt, hd]
      have HDR := hide hdr
      have ti : ((i : Int) + 1).toNat = i + 1 := by omega
      have tj : (i : Int) + 1 < (s.length : Int) := by omega
      clear hdr
      by_cases h1 : c = 58
      · subst h1
        by_cases h2 : d = 58
        · subst h2
          by_cases h0 : 0 ≤ p
          · have hn := cut2_next HDR.out (.inl h0) hC.out
            have HN := hide hn
            clear hn
            go_wp2_with fail
            go_roundg (gk - 1)
            case measure => omega
            case rel => exact ⟨i + 1, p, by omega, by go_num, rfl, HN, rfl⟩
          · have hpm : p = -1 := by omega
            subst hpm
            have hn := cut2_hit HDR.out hC.out
            have HN := hide hn
            clear hn h0 hp1
            go_wp2_with fail
            go_roundg (gk - 1)
            case measure => omega
            case rel => exact ⟨i + 1, i, by omega, by go_num, rfl, HN, rfl⟩
        · have hn := cut2_next HDR.out (.inr fun q => h2 q.2) hC.out
          have HN := hide hn
          have b2 : ((d.toNat : Int) == 58) = false := beq_eq_false_iff_ne.2 (fun h => h2 (UInt8.toNat_inj.1 (by show d.toNat = 58; omega)))
          clear hn h2
          go_wp2_with fail
          go_roundg (gk - 1)
          case measure => omega
          case rel => exact ⟨i + 1, p, by omega, by go_num, rfl, HN, rfl⟩
      · have hn := cut2_next HDR.out (.inr fun q => h1 q.1) hC.out
        have HN := hide hn
        have b1 : ((c.toNat : Int) == 58) = false := beq_eq_false_iff_ne.2 (fun h => h1 (UInt8.toNat_inj.1 (by show c.toNat = 58; omega)))
        clear hn h1
        go_wp2_with fail
        go_roundg (gk - 1)
        case measure => omega
        case rel => exact ⟨i + 1, p, by omega, by go_num, rfl, HN, rfl⟩
    · have hti : ¬ (i : Int) + 1 < (s.length : Int) := by omega
      rcases cut2_end hC.out (by omega) with ⟨a, b, rfl, hcut⟩ | ⟨rfl, hcut⟩
      · obtain ⟨hsab, _⟩ := (Hostp.index2 s).2 a b hcut
        have hsl := congrArg List.length hsab
        simp only [List.length_append, List.length_cons] at hsl
        obtain ⟨q1, hq1⟩ : ∃ q, Hostp.groups a false = q := ⟨_, rfl⟩
        obtain ⟨q2, hq2⟩ : ∃ q, Hostp.groups b true = q := ⟨_, rfl⟩
        have hr2 := hr.out
        unfold Hostp.v6 at hr2
        rw [hcut] at hr2
        simp only [hq1, hq2] at hr2
        have HQ1 := hide hq1
        have HQ2 := hide hq2
        have HR := hide hr2
        have hta : List.take a.length s = a := by rw [hsab, List.take_left]
        have htb : List.drop (a.length + 2) s = b := by rw [hsab, ← List.drop_drop, List.drop_left]; rfl
        obtain ⟨A, hA⟩ : ∃ A, a.length = A := ⟨_, rfl⟩
        rw [hA] at hta htb hsl ⊢
        have HA := hide hA
        have tA : ((A : Int) + 2).toNat = A + 2 := by omega
        have tB : (A : Int) + 2 ≤ (s.length : Int) := by omega
        have tC : (A : Int) ≤ (s.length : Int) := by omega
        have HSL := hide hsl
        have HTA := hide hta
        have HTB := hide htb
        clear hq1 hq2 hr2 hcut hC hsab hA hsl hta htb hlt
        go_wp2_with fail
        rw [HTA.out]
        refine (rGroups a false q1 _ (by have := HA.out; omega) HQ1).mono ?_
        rintro e w2 ⟨hE1, hb2⟩
        have hs2 := hb2.size
        have hbw2 : Below B w w2 := hbl.trans (hb2.mono (by have := HSZ.out; omega))
        have h82 := (hb2.block B (by have := HSZ.out; omega)).trans H8.out
        have h12 := (hb2.block (B + 1) (by have := HSZ.out; omega)).trans H1.out
        rw [HSZ.out] at hE1 hs2
        clear hti
        rcases hE1 with ⟨l, v1, rfl, rfl, hown1⟩ | ⟨rfl, rfl⟩
        · obtain ⟨sp1, cap1, rfl, hcp1, hsp1⟩ := slice_of hown1
          go_wp2_with fail
          rw [HTB.out]
          refine (rGroups b true q2 _ (by have := HSL.out; omega) HQ2).mono ?_
          rintro e w3 ⟨hE2, hb3⟩
          have hs3 := hb3.size
          have hbw3 : Below B w w3 := hbw2.trans (hb3.mono (by omega))
          have h83 := (hb3.block B (by omega)).trans h82
          have h13 := (hb3.block (B + 1) (by omega)).trans h12
          have hsp13 := hsp1.same (fun k _ hk => hb3.block k hk)
          clear h82 h12 hown1 hsp1
          rcases hE2 with ⟨m, v2, rfl, rfl, hown2⟩ | ⟨rfl, rfl⟩
          · obtain ⟨sp2, cap2, rfl, hcp2, hsp2⟩ := slice_of hown2
            obtain ⟨nl, hnl⟩ : ∃ n, l.length = n := ⟨_, rfl⟩
            obtain ⟨nm, hnm⟩ : ∃ n, m.length = n := ⟨_, rfl⟩
            have hr2 := HR.out
            simp only [hnl, hnm] at hr2
            have HNL := hide hnl
            have HNM := hide hnm
            rw [hnl] at hcp1 ⊢
            rw [hnm] at hcp2 ⊢
            have bl := Hostp.groups_len a false l HQ1.out
            have bm := Hostp.groups_len b true m HQ2.out
            have al := HA.out
            have bl2 := HSL.out
            rw [hnl] at bl
            rw [hnm] at bm
            have hnl0 : nl ≤ 4194306 := by omega
            have hnm0 : nm ≤ 4194306 := by omega
            clear hown2 hnl hnm bl bm al bl2
            by_cases hle : nl + nm ≤ 7
            · rw [if_pos hle] at hr2
              obtain rfl : some (l ++ List.replicate (8 - nl - nm) 0 ++ m) = r := hr2
              have HSP1 := hide hsp13
              have HSP2 := hide hsp2
              have H83 := hide h83
              have hrow : Row8 w3 (B + 1) (over (List.replicate 8 0) 0 l 0) := by rw [over_zero]; exact h13
              have HROW := hide hrow
              clear hr hsp13 hsp2 h83 h13 HR hrow
              go_wp2_with fail
              go_loopg [14] nl (fun g s14 wx => ∃ (k : Nat), k + g = nl ∧ s14 = .int .i64 k ∧ Hid (Row8 wx (B + 1) (over (List.replicate 8 0) 0 l k)) ∧ Hid (∀ k, k ≠ B + 1 → wx.heap[k]? = w3.heap[k]?) ∧ Below B w wx)
              case atStart => exact ⟨0, by omega, rfl, HROW, fun _ _ => rfl, hbw3⟩
              case round =>
                obtain ⟨k, hk, rfl, hR, hO, hbx⟩ := hrel
                clear HROW
                by_cases hlk : k < nl
                · have hkl : k < l.length := by rw [HNL.out]; exact hlk
                  obtain ⟨x, hx⟩ : ∃ x, l[k] = x := ⟨_, rfl⟩
                  obtain ⟨g, hg, hgK, hcx⟩ := HSP1.out k x (by rw [List.getElem?_eq_getElem hkl, hx])
                  subst hg
                  have hcx2 := (World.cell?_of_block (hO.out g (by omega))).trans hcx
                  obtain ⟨hc1, hf1⟩ := hR.out.at k (by rw [over_len _ _ _ _ (by rw [HNL.out, List.length_replicate]; omega) (by omega), List.length_replicate]; omega)
                  have hstep := over_step (List.replicate 8 0) l 0 k (by rw [HNL.out, List.length_replicate]; omega) hkl
                  rw [Nat.zero_add, hx] at hstep
                  have hR2 := hR.out.set k x
                  rw [← hstep] at hR2
                  have hO2 : Hid (∀ j, j ≠ B + 1 → (wr.setCell ⟨B + 1, k, none⟩ (U16 x)).heap[j]? = w3.heap[j]?) := fun j hj => (Below.heap_setCell _ _ _ _ hj).trans (hO.out j hj)
                  have HR2 := hide hR2
                  have tk : (k : Int) < 8 := by omega
                  clear hR hstep hR2 hcx hx hO
                  go_wp2_with fail
                  go_roundg (gk - 1)
                  case measure => omega
                  case rel => exact ⟨k + 1, by omega, by go_num, HR2, hO2, hbx.setCell (by show B ≤ B + 1; omega) _⟩
                · have e : k = nl := by omega
                  subst e
                  obtain ⟨V, hV⟩ : ∃ V, over (List.replicate 8 0) 0 l k = V := ⟨_, rfl⟩
                  have hVl : V.length = 8 := by rw [← hV, over_len _ _ _ _ (by rw [HNL.out, List.length_replicate]; omega) (by have := HNL.out; omega), List.length_replicate]
                  rw [hV] at hR
                  have HV := hide hV
                  have HVL := hide hVl
                  have hrow : Row8 wr (B + 1) (over V (8 - nm) m 0) := by rw [over_zero]; exact hR.out
                  have HROW := hide hrow
                  have h83 := (hO.out B (by omega)).trans H83.out
                  have hsp2 := HSP2.out.same (fun j h1 h2 => hO.out j (by omega))
                  have HSP22 := hide hsp2
                  have H832 := hide h83
                  clear hR hV hVl hrow h83 hsp2 hO HSP1 HSP2
                  obtain ⟨wo, rfl⟩ : ∃ wo : World, wo = wr := ⟨_, rfl⟩
                  go_wp2_with fail
                  go_loopg [15] nm (fun g s15 wx => ∃ (j : Nat), j + g = nm ∧ s15 = .int .i64 j ∧ Hid (Row8 wx (B + 1) (over V (8 - nm) m j)) ∧ Hid (∀ k, k ≠ B + 1 → wx.heap[k]? = wo.heap[k]?) ∧ Below B w wx)
                  case atStart => exact ⟨0, by omega, rfl, HROW, fun _ _ => rfl, hbx⟩
                  case round =>
                    obtain ⟨j, hj, rfl, hR, hO, hby⟩ := hrel
                    clear HROW
                    by_cases hlj : j < nm
                    · have hjl : j < m.length := by rw [HNM.out]; exact hlj
                      obtain ⟨x, hx⟩ : ∃ x, m[j] = x := ⟨_, rfl⟩
                      obtain ⟨g, hg, hgK, hcx⟩ := HSP22.out j x (by rw [List.getElem?_eq_getElem hjl, hx])
                      subst hg
                      have hcx2 := (World.cell?_of_block (hO.out g (by omega))).trans hcx
                      obtain ⟨hc1, hf1⟩ := hR.out.at (8 - nm + j) (by rw [over_len _ _ _ _ (by rw [HNM.out, HVL.out]; omega) (by omega), HVL.out]; omega)
                      have hstep := over_step V m (8 - nm) j (by rw [HNM.out, HVL.out]; omega) hjl
                      rw [hx] at hstep
                      have hR2 := hR.out.set (8 - nm + j) x
                      rw [← hstep] at hR2
                      have hO2 : Hid (∀ k, k ≠ B + 1 → (wr.setCell ⟨B + 1, 8 - nm + j, none⟩ (U16 x)).heap[k]? = wo.heap[k]?) := fun k hk => (Below.heap_setCell _ _ _ _ hk).trans (hO.out k hk)
                      have HR2 := hide hR2
                      have tk : (8 : Int) - (nm : Int) + (j : Int) < 8 := by omega
                      have tk0 : (0 : Int) ≤ (8 : Int) - (nm : Int) + (j : Int) := by omega
                      have tn : ((8 : Int) - (nm : Int) + (j : Int)).toNat = 8 - nm + j := by omega
                      clear hR hstep hR2 hcx hx hO
                      go_wp2_with fail
                      go_roundg (gk - 1)
                      case measure => omega
                      case rel => exact ⟨j + 1, by omega, by go_num, HR2, hO2, hby.setCell (by show B ≤ B + 1; omega) _⟩
                    · have e : j = nm := by omega
                      subst e
                      have h2 := over_two l m (by rw [HNL.out, HNM.out]; exact hle)
                      rw [HNL.out, HNM.out, HV.out] at h2
                      have hrow := hR.out
                      rw [h2] at hrow
                      obtain ⟨n0, n1, n2, n3, n4, n5, n6, n7, hC⟩ := list8 (l := l ++ List.replicate (8 - k - j) 0 ++ m) (by simp; rw [HNL.out, HNM.out]; omega)
                      rw [hC] at hrow
                      have hrow2 : wr.heap[B + 1]? = some (.cells #[U16 n0, U16 n1, U16 n2, U16 n3, U16 n4, U16 n5, U16 n6, U16 n7] 25 (0, 0)) := hrow
                      have h8x := (hO.out B (by omega)).trans H832.out
                      have HCC := hide hC
                      clear hR hrow h2 hC hO
                      obtain ⟨⟨c0, c1, c2, c3, c4, c5, c6, c7⟩, hf⟩ := cells8' hrow2
                      obtain ⟨⟨b0, b1, b2, b3, b4, b5, b6, b7⟩, hfb⟩ := cells8' h8x
                      go_wp2_with fail
                      have k8 := put8_heap h8x (U16 n0) (U16 n1) (U16 n2) (U16 n3) (U16 n4) (U16 n5) (U16 n6) (U16 n7)
                      have kb := put8_below hby (Nat.le_refl _) (U16 n0) (U16 n1) (U16 n2) (U16 n3) (U16 n4) (U16 n5) (U16 n6) (U16 n7)
                      change bodyPost _ _ _ _ _ (put8 wr B (U16 n0) (U16 n1) (U16 n2) (U16 n3) (U16 n4) (U16 n5) (U16 n6) (U16 n7))
                      generalize put8 wr B (U16 n0) (U16 n1) (U16 n2) (U16 n3) (U16 n4) (U16 n5) (U16 n6) (U16 n7) = w9 at *
                      clear c0 c1 c2 c3 c4 c5 c6 c7 hf b0 b1 b2 b3 b4 b5 b6 b7 hfb
                      obtain ⟨⟨q0, q1, q2, q3, q4, q5, q6, q7⟩, qf⟩ := cells8' k8
                      refine bodyPost_ret (v := v6V (some [n0, n1, n2, n3, n4, n5, n6, n7])) (by simp [results, Tryz.results13, go_sem, v6V, q0, q1, q2, q3, q4, q5, q6, q7]) rfl ?_
                      exact ⟨by rw [HCC.out], by rw [HB.out]; exact kb⟩
            · rw [if_neg hle] at hr2
              obtain rfl : none = r := hr2
              clear hr HR
              obtain ⟨⟨c0, c1, c2, c3, c4, c5, c6, c7⟩, hf⟩ := cells8' h13
              obtain ⟨⟨b0, b1, b2, b3, b4, b5, b6, b7⟩, hfb⟩ := cells8' h83
              go_wp2_with fail
              have k8 := put8_heap h83 (U16 0) (U16 0) (U16 0) (U16 0) (U16 0) (U16 0) (U16 0) (U16 0)
              have kb := put8_below hbw3 (Nat.le_refl _) (U16 0) (U16 0) (U16 0) (U16 0) (U16 0) (U16 0) (U16 0) (U16 0)
              change bodyPost _ _ _ _ _ (put8 w3 B (U16 0) (U16 0) (U16 0) (U16 0) (U16 0) (U16 0) (U16 0) (U16 0))
              generalize put8 w3 B (U16 0) (U16 0) (U16 0) (U16 0) (U16 0) (U16 0) (U16 0) (U16 0) = w9 at *
              clear c0 c1 c2 c3 c4 c5 c6 c7 hf b0 b1 b2 b3 b4 b5 b6 b7 hfb
              obtain ⟨⟨q0, q1, q2, q3, q4, q5, q6, q7⟩, qf⟩ := cells8' k8
              refine bodyPost_ret (v := v6V none) (by simp [results, Tryz.results13, go_sem, v6V, q0, q1, q2, q3, q4, q5, q6, q7]) rfl ?_
              exact ⟨rfl, by rw [HB.out]; exact kb⟩
          · obtain rfl : none = r := HR.out
            clear hr HR
            obtain ⟨⟨c0, c1, c2, c3, c4, c5, c6, c7⟩, hf⟩ := cells8' h13
            obtain ⟨⟨b0, b1, b2, b3, b4, b5, b6, b7⟩, hfb⟩ := cells8' h83
            go_wp2_with fail
            have k8 := put8_heap h83 (U16 0) (U16 0) (U16 0) (U16 0) (U16 0) (U16 0) (U16 0) (U16 0)
            have kb := put8_below hbw3 (Nat.le_refl _) (U16 0) (U16 0) (U16 0) (U16 0) (U16 0) (U16 0) (U16 0) (U16 0)
            change bodyPost _ _ _ _ _ (put8 w3 B (U16 0) (U16 0) (U16 0) (U16 0) (U16 0) (U16 0) (U16 0) (U16 0))
            generalize put8 w3 B (U16 0) (U16 0) (U16 0) (U16 0) (U16 0) (U16 0) (U16 0) (U16 0) = w9 at *
            clear c0 c1 c2 c3 c4 c5 c6 c7 hf b0 b1 b2 b3 b4 b5 b6 b7 hfb
            obtain ⟨⟨q0, q1, q2, q3, q4, q5, q6, q7⟩, qf⟩ := cells8' k8
            refine bodyPost_ret (v := v6V none) (by simp [results, Tryz.results13, go_sem, v6V, q0, q1, q2, q3, q4, q5, q6, q7]) rfl ?_
            exact ⟨rfl, by rw [HB.out]; exact kb⟩
        · go_wp2_with fail
          rw [HTB.out]
          refine (rGroups b true q2 _ (by have := HSL.out; omega) HQ2).mono ?_
          rintro e w3 ⟨hE2, hb3⟩
          have hs3 := hb3.size
          have hbw3 : Below B w w3 := hbw2.trans (hb3.mono (by omega))
          have h83 := (hb3.block B (by omega)).trans h82
          have h13 := (hb3.block (B + 1) (by omega)).trans h12
          obtain rfl : none = r := HR.out
          clear h82 h12 hr HR
          rcases hE2 with ⟨m, v2, rfl, rfl, hown2⟩ | ⟨rfl, rfl⟩
          all_goals
            obtain ⟨⟨c0, c1, c2, c3, c4, c5, c6, c7⟩, hf⟩ := cells8' h13
            obtain ⟨⟨b0, b1, b2, b3, b4, b5, b6, b7⟩, hfb⟩ := cells8' h83
            go_wp2_with fail
            have k8 := put8_heap h83 (U16 0) (U16 0) (U16 0) (U16 0) (U16 0) (U16 0) (U16 0) (U16 0)
            have kb := put8_below hbw3 (Nat.le_refl _) (U16 0) (U16 0) (U16 0) (U16 0) (U16 0) (U16 0) (U16 0) (U16 0)
            change bodyPost _ _ _ _ _ (put8 w3 B (U16 0) (U16 0) (U16 0) (U16 0) (U16 0) (U16 0) (U16 0) (U16 0))
            generalize put8 w3 B (U16 0) (U16 0) (U16 0) (U16 0) (U16 0) (U16 0) (U16 0) (U16 0) = w9 at *
            clear c0 c1 c2 c3 c4 c5 c6 c7 hf b0 b1 b2 b3 b4 b5 b6 b7 hfb
            obtain ⟨⟨q0, q1, q2, q3, q4, q5, q6, q7⟩, qf⟩ := cells8' k8
            refine bodyPost_ret (v := v6V none) (by simp [results, Tryz.results13, go_sem, v6V, q0, q1, q2, q3, q4, q5, q6, q7]) rfl ?_
            exact ⟨rfl, by rw [HB.out]; exact kb⟩
      · obtain ⟨q1, hq1⟩ : ∃ q, Hostp.groups s true = q := ⟨_, rfl⟩
        have hr2 := hr.out
        unfold Hostp.v6 at hr2
        rw [hcut] at hr2
        simp only [hq1] at hr2
        have HQ1 := hide hq1
        have HR := hide hr2
        clear hq1 hr2 hcut hC hp1
        go_wp2_with fail
        refine (rGroups s true q1 _ hl HQ1).mono ?_
        rintro e w2 ⟨hE1, hb2⟩
        have hs2 := hb2.size
        have hbw2 : Below B w w2 := hbl.trans (hb2.mono (by have := HSZ.out; omega))
        have h82 := (hb2.block B (by have := HSZ.out; omega)).trans H8.out
        have h12 := (hb2.block (B + 1) (by have := HSZ.out; omega)).trans H1.out
        rw [HSZ.out] at hE1 hs2
        rcases hE1 with ⟨l, v1, rfl, rfl, hown1⟩ | ⟨rfl, rfl⟩
        · obtain ⟨sp1, cap1, rfl, hcp1, hsp1⟩ := slice_of hown1
          obtain ⟨nl, hnl⟩ : ∃ n, l.length = n := ⟨_, rfl⟩
          have hr2 := HR.out
          simp only [hnl] at hr2
          have HNL := hide hnl
          rw [hnl] at hcp1 ⊢
          clear hown1 hnl
          by_cases hle : nl = 8
          · subst hle
            rw [if_pos rfl] at hr2
            obtain rfl : some l = r := hr2
            have HSP1 := hide hsp1
            have H83 := hide h82
            have hrow : Row8 w2 (B + 1) (over (List.replicate 8 0) 0 l 0) := by rw [over_zero]; exact h12
            have HROW := hide hrow
            clear hr hsp1 h82 h12 HR hrow
            go_wp2_with fail
            go_loopg [9] 8 (fun g s9 wx => ∃ (k : Nat), k + g = 8 ∧ s9 = .int .i64 k ∧ Hid (Row8 wx (B + 1) (over (List.replicate 8 0) 0 l k)) ∧ Hid (∀ k, k ≠ B + 1 → wx.heap[k]? = w2.heap[k]?) ∧ Below B w wx)
            case atStart => exact ⟨0, by omega, rfl, HROW, fun _ _ => rfl, hbw2⟩
            case round =>
              obtain ⟨k, hk, rfl, hR, hO, hbx⟩ := hrel
              clear HROW
              by_cases hlk : k < 8
              · have hkl : k < l.length := by rw [HNL.out]; exact hlk
                obtain ⟨x, hx⟩ : ∃ x, l[k] = x := ⟨_, rfl⟩
                obtain ⟨g, hg, hgK, hcx⟩ := HSP1.out k x (by rw [List.getElem?_eq_getElem hkl, hx])
                subst hg
                have hcx2 := (World.cell?_of_block (hO.out g (by omega))).trans hcx
                obtain ⟨hc1, hf1⟩ := hR.out.at k (by rw [over_len _ _ _ _ (by rw [HNL.out, List.length_replicate]; omega) (by omega), List.length_replicate]; omega)
                have hstep := over_step (List.replicate 8 0) l 0 k (by rw [HNL.out, List.length_replicate]; omega) hkl
                rw [Nat.zero_add, hx] at hstep
                have hR2 := hR.out.set k x
                rw [← hstep] at hR2
                have hO2 : Hid (∀ j, j ≠ B + 1 → (wr.setCell ⟨B + 1, k, none⟩ (U16 x)).heap[j]? = w2.heap[j]?) := fun j hj => (Below.heap_setCell _ _ _ _ hj).trans (hO.out j hj)
                have HR2 := hide hR2
                have tk : (k : Int) < 8 := by omega
                clear hR hstep hR2 hcx hx hO
                go_wp2_with fail
                go_roundg (gk - 1)
                case measure => omega
                case rel => exact ⟨k + 1, by omega, by go_num, HR2, hO2, hbx.setCell (by show B ≤ B + 1; omega) _⟩
              · have e : k = 8 := by omega
                subst e
                have hrow := hR.out
                rw [over_one l HNL.out] at hrow
                obtain ⟨n0, n1, n2, n3, n4, n5, n6, n7, rfl⟩ := list8 (l := l) HNL.out
                have hrow2 : wr.heap[B + 1]? = some (.cells #[U16 n0, U16 n1, U16 n2, U16 n3, U16 n4, U16 n5, U16 n6, U16 n7] 25 (0, 0)) := hrow
                have h8x := (hO.out B (by omega)).trans H83.out
                clear hR hrow hO
                obtain ⟨⟨c0, c1, c2, c3, c4, c5, c6, c7⟩, hf⟩ := cells8' hrow2
                obtain ⟨⟨b0, b1, b2, b3, b4, b5, b6, b7⟩, hfb⟩ := cells8' h8x
                go_wp2_with fail
                have k8 := put8_heap h8x (U16 n0) (U16 n1) (U16 n2) (U16 n3) (U16 n4) (U16 n5) (U16 n6) (U16 n7)
                have kb := put8_below hbx (Nat.le_refl _) (U16 n0) (U16 n1) (U16 n2) (U16 n3) (U16 n4) (U16 n5) (U16 n6) (U16 n7)
                change bodyPost _ _ _ _ _ (put8 wr B (U16 n0) (U16 n1) (U16 n2) (U16 n3) (U16 n4) (U16 n5) (U16 n6) (U16 n7))
                generalize put8 wr B (U16 n0) (U16 n1) (U16 n2) (U16 n3) (U16 n4) (U16 n5) (U16 n6) (U16 n7) = w9 at *
                clear c0 c1 c2 c3 c4 c5 c6 c7 hf b0 b1 b2 b3 b4 b5 b6 b7 hfb
                obtain ⟨⟨q0, q1, q2, q3, q4, q5, q6, q7⟩, qf⟩ := cells8' k8
                refine bodyPost_ret (v := v6V (some [n0, n1, n2, n3, n4, n5, n6, n7])) (by simp [results, Tryz.results13, go_sem, v6V, q0, q1, q2, q3, q4, q5, q6, q7]) rfl ?_
                exact ⟨rfl, by rw [HB.out]; exact kb⟩
          · rw [if_neg hle] at hr2
            obtain rfl : none = r := hr2
            have hne8 : ((nl : Int) != 8) = true := bne_iff_ne.2 (by omega)
            clear hr HR hle
            obtain ⟨⟨c0, c1, c2, c3, c4, c5, c6, c7⟩, hf⟩ := cells8' h12
            obtain ⟨⟨b0, b1, b2, b3, b4, b5, b6, b7⟩, hfb⟩ := cells8' h82
            go_wp2_with fail
            have k8 := put8_heap h82 (U16 0) (U16 0) (U16 0) (U16 0) (U16 0) (U16 0) (U16 0) (U16 0)
            have kb := put8_below hbw2 (Nat.le_refl _) (U16 0) (U16 0) (U16 0) (U16 0) (U16 0) (U16 0) (U16 0) (U16 0)
            change bodyPost _ _ _ _ _ (put8 w2 B (U16 0) (U16 0) (U16 0) (U16 0) (U16 0) (U16 0) (U16 0) (U16 0))
            generalize put8 w2 B (U16 0) (U16 0) (U16 0) (U16 0) (U16 0) (U16 0) (U16 0) (U16 0) = w9 at *
            clear c0 c1 c2 c3 c4 c5 c6 c7 hf b0 b1 b2 b3 b4 b5 b6 b7 hfb
            obtain ⟨⟨q0, q1, q2, q3, q4, q5, q6, q7⟩, qf⟩ := cells8' k8
            refine bodyPost_ret (v := v6V none) (by simp [results, Tryz.results13, go_sem, v6V, q0, q1, q2, q3, q4, q5, q6, q7]) rfl ?_
            exact ⟨rfl, by rw [HB.out]; exact kb⟩
        · obtain rfl : none = r := HR.out
          clear hr HR
          obtain ⟨⟨c0, c1, c2, c3, c4, c5, c6, c7⟩, hf⟩ := cells8' h12
          obtain ⟨⟨b0, b1, b2, b3, b4, b5, b6, b7⟩, hfb⟩ := cells8' h82
          go_wp2_with fail
          have k8 := put8_heap h82 (U16 0) (U16 0) (U16 0) (U16 0) (U16 0) (U16 0) (U16 0) (U16 0)
          have kb := put8_below hbw2 (Nat.le_refl _) (U16 0) (U16 0) (U16 0) (U16 0) (U16 0) (U16 0) (U16 0) (U16 0)
          change bodyPost _ _ _ _ _ (put8 w2 B (U16 0) (U16 0) (U16 0) (U16 0) (U16 0) (U16 0) (U16 0) (U16 0))
          generalize put8 w2 B (U16 0) (U16 0) (U16 0) (U16 0) (U16 0) (U16 0) (U16 0) (U16 0) = w9 at *
          clear c0 c1 c2 c3 c4 c5 c6 c7 hf b0 b1 b2 b3 b4 b5 b6 b7 hfb
          obtain ⟨⟨q0, q1, q2, q3, q4, q5, q6, q7⟩, qf⟩ := cells8' k8
          refine bodyPost_ret (v := v6V none) (by simp [results, Tryz.results13, go_sem, v6V, q0, q1, q2, q3, q4, q5, q6, q7]) rfl ?_
          exact ⟨rfl, by rw [HB.out]; exact kb⟩
end Go.Proofs.YtahjndignkhmoaaGreatDoor
