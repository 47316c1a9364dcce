/- Whether an element's attributes may be. -/
import Derived.Test.YtagkdmolgmhmdaaGreatDoorSg
import Derived.Test.YtagkdmolgmhmdaaGreatDoorDc
import Derived.Deep.RegionHeld3
import Derived.RegionTactic
namespace Go.Proofs.YtagkdmolgmhmdaaGreatDoor
open Go.RowKit Go.WideMaps

def pairs2 (l : List Dm.A) : List (List UInt8 × List UInt8) := l.map fun a => (a.sp, a.nm)
theorem attrsOk_step (seen : List (List UInt8 × List UInt8)) (a : Dm.A) (r : List Dm.A) :
    Dm.attrsOk seen (a :: r) = (a.nm != [] && (a.sp == [] || Dm.aspaces.contains a.sp) && !seen.contains (a.sp, a.nm) && Dm.attrsOk (seen ++ [(a.sp, a.nm)]) r) := by rw [Dm.attrsOk]

set_option maxRecDepth 100000 in
set_option maxHeartbeats 4000000 in
theorem attrs (v : Value) (l : List Dm.A) (w : World) (ht : Tab w) (hr : RdA w v l) (hl : l.length ≤ 1048576) (hlim : ∀ a ∈ l, a.Lim 9223372036854775807) :
    Calls Tryz.prog 54 #[v] w (Fresh (.bool (Dm.attrsOk [] l)) w) := by
  obtain ⟨aa, ac, rfl⟩ := hr.length
  have hmm := @run_makeMap Tryz.prog
  obtain ⟨R, hR⟩ : ∃ R, Dm.attrsOk [] l = R := ⟨_, rfl⟩
  rw [hR]
  have HR := hide hR
  have HL := hide hlim
  have HT := hide ht
  have HRD := hide hr
  clear hR hlim ht hr
  have hb1 : Below w.heap.size w (w.alloc (.map #[] 0)) := (Below.refl _ _).alloc (Nat.le_refl _) _
  have hs1 := hide (Seen.new w)
  go_enter Tryz.func54, Tryz.ntmps54
  go_wp2_with fail
  go_loopg [10] l.length (fun g s10 wx => ∃ i : Nat, i + g = l.length ∧ s10 = .int .i64 i ∧ Hid (Seen wx w.heap.size i (pairs2 (l.take i))) ∧ Hid (R = Dm.attrsOk (pairs2 (l.take i)) (l.drop i)) ∧ Below w.heap.size w wx)
  case atStart => exact ⟨0, by omega, rfl, by simpa [Hid, pairs2] using hs1.out, by unfold Hid; rw [← HR.out]; rfl, hb1⟩
  case round =>
    obtain ⟨i, hi, rfl, hseen, hres, hbx⟩ := hrel
    by_cases hlt : i < l.length
    · obtain ⟨a, ha⟩ : ∃ a, l[i]? = some a := ⟨l[i], List.getElem?_eq_getElem hlt⟩
      obtain ⟨b, o, rfl, c0, c1, c2⟩ := (HRD.out.below hbx).at ha
      obtain ⟨l1, l2, l3⟩ := HL.out a (List.mem_of_getElem? ha)
      have HA := hide (p := l[i]? = some a) ha
      have hdrop : l.drop i = a :: l.drop (i + 1) := by
        rw [List.drop_eq_getElem_cons hlt]
        congr 1
        have := List.getElem?_eq_getElem hlt
        rw [ha] at this
        exact (Option.some.inj this).symm
      have HD := hide hdrop
      clear ha hdrop
      go_upto_region 6 with (fail)
      have hbe : Below wr.heap.size wr ((wr.alloc (.cells #[S a.sp, S a.nm, S a.vl] 43)).alloc (.cells #[S a.sp, S a.nm] 86)) := ((Below.refl _ wr).alloc (Nat.le_refl _) _).alloc (by simp) _
      have hA1 : ((wr.alloc (.cells #[S a.sp, S a.nm, S a.vl] 43)).alloc (.cells #[S a.sp, S a.nm] 86)).heap[wr.heap.size]? = some (.cells #[S a.sp, S a.nm, S a.vl] 43 (0, 0)) := by
        rw [Below.heap_alloc _ _ _ (by simp)]; exact heap_alloc_last _ _
      have hA2 : ((wr.alloc (.cells #[S a.sp, S a.nm, S a.vl] 43)).alloc (.cells #[S a.sp, S a.nm] 86)).heap[wr.heap.size + 1]? = some (.cells #[S a.sp, S a.nm] 86 (0, 0)) := by
        rw [show wr.heap.size + 1 = (wr.alloc (.cells #[S a.sp, S a.nm, S a.vl] 43)).heap.size by simp]; exact heap_alloc_last _ _
      generalize hgen : (wr.alloc (.cells #[S a.sp, S a.nm, S a.vl] 43)).alloc (.cells #[S a.sp, S a.nm] 86) = w2 at hbe hA1 hA2 ⊢
      have hs2 : w2.heap.size = wr.heap.size + 2 := by rw [← hgen]; simp
      have hseen2 := hide (hseen.out.below hbe)
      have hb2 : Below w.heap.size w w2 := hbx.trans (hbe.mono hbx.size)
      have ht2 := hide (HT.out.below hb2)
      have hK : w.heap.size < wr.heap.size := hseen.out.lt
      obtain ⟨r, hr⟩ : ∃ r, (pairs2 (l.take i)).contains (a.sp, a.nm) = r := ⟨_, rfl⟩
      have HS2 := hide hs2
      have hstep : Hid (R = (a.nm != [] && (a.sp == [] || Dm.aspaces.contains a.sp) && !r && Dm.attrsOk (pairs2 (l.take (i + 1))) (l.drop (i + 1)))) := by
        unfold Hid
        rw [hres.out, HD.out, attrsOk_step, hr]
        unfold pairs2
        rw [List.take_add_one, HA.out, List.map_append]
        rfl
      have HRR := hide hr
      clear hgen hr c0 c1 c2 hs2
      have d0 : w2.cell? ⟨wr.heap.size, 0, none⟩ = some (S a.sp) := by rw [Lib.cell_of_heap hA1]; rfl
      have d1 : w2.cell? ⟨wr.heap.size, 1, none⟩ = some (S a.nm) := by rw [Lib.cell_of_heap hA1]; rfl
      have e0 : w2.cell? ⟨wr.heap.size + 1, 0, none⟩ = some (S a.sp) := by rw [Lib.cell_of_heap hA2]; rfl
      have e1 : w2.cell? ⟨wr.heap.size + 1, 1, none⟩ = some (S a.nm) := by rw [Lib.cell_of_heap hA2]; rfl
      have HA1 := hide hA1
      have HA2 := hide hA2
      clear hA1 hA2
      obtain ⟨sp, nm, vl⟩ := a
      simp only at d0 d1 e0 e1 l1 l2 l3 hstep HRR
      by_cases c1 : nm = []
      · have HE : Hid (R = false) := by unfold Hid; rw [hstep.out, c1]; rfl
        subst c1
        go_wp2_with fail
        go_quiet (fail)
        go_wp2_with fail
        go_ret
        exact ⟨by rw [HE.out]; rfl, below_drewN hb2 _⟩
      have n1 : (nm == []) = false := by rw [beq_eq_false_iff_ne]; exact c1
      have n2 : (nm != []) = true := by rw [bne, n1]; rfl
      by_cases c2 : sp = []
      · subst c2
        have hlk : ∀ n, Sem.run Tryz.prog (Instr.lookup 85 (.map (some w.heap.size)) (.agg #[S [], S nm]) false) (w2.drewN n) = .ok (.int .i64 (if r then 1 else 0)) (w2.drewN n) := fun n => by
          rw [← HRR.out]
          exact (hseen2.out.below (belowN w2 n)).look (by simp) l2
        cases r with
        | true =>
          simp only [if_true] at hlk
          go_wp2_with fail
          go_quiet (fail)
          go_wp2_with fail
          go_ret
          exact ⟨by rw [hstep.out, Bool.not_true, Bool.and_false, Bool.false_and]; rfl, below_drewN hb2 _⟩
        | false =>
          simp only [Bool.false_eq_true, if_false] at hlk
          go_wp2_with fail
          go_quiet (fail)
          go_wp2_with fail
          have hWb := belowN w2 nq
          generalize w2.drewN nq = W at hWb ⊢
          clear hlk
          have hbW : Below w.heap.size w W := hb2.trans (hWb.mono (by have := HS2.out; omega))
          have hsW := hide ((hseen2.out.below hWb).below ((Below.refl _ W).drew))
          obtain ⟨v0, st, x1, x2, q1, q2, q3, q4, q5, q6⟩ := hsW.out.bump (by unfold maxLen; omega) l1 l2 HRR.out
          have hl0 := hsW.out.look l1 l2
          rw [HRR.out] at hl0
          simp only [Bool.false_eq_true, if_false] at hl0
          have k0 : W.cell? ⟨wr.heap.size + 1, 0, none⟩ = some (S []) := (hWb.cell (World.block_lt_of_cell? w2 _ e0)).trans e0
          have k1 : W.cell? ⟨wr.heap.size + 1, 1, none⟩ = some (S nm) := (hWb.cell (World.block_lt_of_cell? w2 _ e1)).trans e1
          have j0 : x1.cell? ⟨wr.heap.size + 1, 0, none⟩ = some (S []) := (World.cell?_of_block (q2.block _ (World.block_lt_of_cell? W.drew _ k0) (by simp; omega))).trans k0
          have j1 : x1.cell? ⟨wr.heap.size + 1, 1, none⟩ = some (S nm) := (World.cell?_of_block (q2.block _ (World.block_lt_of_cell? W.drew _ k1) (by simp; omega))).trans k1
          have HQ5 := hide q5
          have HQ6 := hide q6
          clear q2 q5 q6 d0 d1 e0 e1
          go_region
          all_goals
            go_wp2_with fail
            go_roundg (gk - 1)
            case measure => omega
            case rel =>
              refine ⟨i + 1, by omega, by go_num, ?_, ?_, (below_drewN hbW 1).grown HQ6.out hbW.size (fun k hk => by cases hk; exact Nat.le_refl _)⟩
              · have h5 := HQ5.out
                unfold Hid
                unfold pairs2 at h5 ⊢
                rw [List.take_add_one, HA.out, List.map_append]
                exact h5
              · unfold Hid
                rw [hstep.out, n2]
                first | rfl | (simp [HIN.out])
      have m1 : (sp == []) = false := by rw [beq_eq_false_iff_ne]; exact c2
      have m2 : (sp != []) = true := by rw [bne, m1]; rfl
      have HALL : Hid (∀ W, Below w2.heap.size w2 W → W.cell? ⟨wr.heap.size, 0, none⟩ = some (S sp) ∧ W.cell? ⟨wr.heap.size, 1, none⟩ = some (S nm) ∧ W.cell? ⟨wr.heap.size + 1, 0, none⟩ = some (S sp) ∧ W.cell? ⟨wr.heap.size + 1, 1, none⟩ = some (S nm) ∧
          (Instr.lookup 85 (.map (some w.heap.size)) (.agg #[S sp, S nm]) false).run Tryz.prog W = .ok (.int .i64 (if r then 1 else 0)) W) := fun W hW => by
        have st := Stay.of_below hW
        refine ⟨st _ _ _ d0, st _ _ _ d1, st _ _ _ e0, st _ _ _ e1, ?_⟩
        rw [← HRR.out]
        exact (hseen2.out.below hW).look l1 l2
      obtain ⟨q, hq⟩ : ∃ q, Dm.aspaces.contains sp = q := ⟨_, rfl⟩
      have HIN := hide hq
      clear hq
      have hsz2 : wr.heap.size ≤ w2.heap.size := by have := HS2.out; omega
      cases q with
      | false =>
        have HE : Hid (R = false) := by unfold Hid; rw [hstep.out, HIN.out, m1]; simp
        go_wp2_with fail
        first | go_region_with (go_at_call 39; refine Calls.mono (set_aspace _ (ht2.out.below (Below.refl _ _).drew)) ?_; rintro e w3 ⟨rfl, hown3, hb3'⟩; have hb3 : Below w2.heap.size w2 w3 := ((Below.refl _ w2).drew).trans hb3'; have h47 : (Instr.lookup 47 (.map (some w2.heap.size)) (S sp) false).run Tryz.prog w3 = _ := set_look hown3 l1; rw [HIN.out] at h47; simp only [Bool.false_eq_true, if_false] at h47; obtain ⟨x0, x1, x2, x3, h85⟩ := HALL.out _ hb3) | fail
        all_goals
          go_simp
          go_wp2_with fail
          go_ret
          exact ⟨by rw [HE.out]; rfl, hb2.trans (hb3.mono (by omega))⟩
      | true =>
        cases r with
        | true =>
          have HE : Hid (R = false) := by unfold Hid; rw [hstep.out]; simp
          go_wp2_with fail
          first | go_region_with (go_at_call 39; refine Calls.mono (set_aspace _ (ht2.out.below (Below.refl _ _).drew)) ?_; rintro e w3 ⟨rfl, hown3, hb3'⟩; have hb3 : Below w2.heap.size w2 w3 := ((Below.refl _ w2).drew).trans hb3'; have h47 : (Instr.lookup 47 (.map (some w2.heap.size)) (S sp) false).run Tryz.prog w3 = _ := set_look hown3 l1; rw [HIN.out] at h47; simp only [if_true] at h47; obtain ⟨x0, x1, x2, x3, h85⟩ := HALL.out _ hb3; simp only [if_true] at h85) | fail
          all_goals
            go_wp2_with fail
            go_ret
            exact ⟨by rw [HE.out]; rfl, hb2.trans (hb3.mono (by omega))⟩
        | false =>
          go_wp2_with fail
          first | go_region_with (go_at_call 39; refine Calls.mono (set_aspace _ (ht2.out.below (Below.refl _ _).drew)) ?_; rintro e w3 ⟨rfl, hown3, hb3'⟩; have hb3 : Below w2.heap.size w2 w3 := ((Below.refl _ w2).drew).trans hb3'; have h47 : (Instr.lookup 47 (.map (some w2.heap.size)) (S sp) false).run Tryz.prog w3 = _ := set_look hown3 l1; rw [HIN.out] at h47; simp only [if_true] at h47; obtain ⟨x0, x1, x2, x3, h85⟩ := HALL.out _ hb3; simp only [Bool.false_eq_true, if_false] at h85) | fail
          all_goals
            clear h47 x0 x1 x2 x3 h85
            have hWb := hb3
            go_simp
            go_wp2_with fail
            generalize w3 = W at hWb ⊢
            have hbW : Below w.heap.size w W := hb2.trans (hWb.mono (by have := HS2.out; omega))
            have hsW := hide ((hseen2.out.below hWb).below ((Below.refl _ W).drew))
            obtain ⟨v0, st, x1, x2, q1, q2, q3, q4, q5, q6⟩ := hsW.out.bump (by unfold maxLen; omega) l1 l2 HRR.out
            have hl0 := hsW.out.look l1 l2
            rw [HRR.out] at hl0
            simp only [Bool.false_eq_true, if_false] at hl0
            have k0 : W.cell? ⟨wr.heap.size + 1, 0, none⟩ = some (S sp) := (hWb.cell (World.block_lt_of_cell? w2 _ e0)).trans e0
            have k1 : W.cell? ⟨wr.heap.size + 1, 1, none⟩ = some (S nm) := (hWb.cell (World.block_lt_of_cell? w2 _ e1)).trans e1
            have j0 : x1.cell? ⟨wr.heap.size + 1, 0, none⟩ = some (S sp) := (World.cell?_of_block (q2.block _ (World.block_lt_of_cell? W.drew _ k0) (by simp; omega))).trans k0
            have j1 : x1.cell? ⟨wr.heap.size + 1, 1, none⟩ = some (S nm) := (World.cell?_of_block (q2.block _ (World.block_lt_of_cell? W.drew _ k1) (by simp; omega))).trans k1
            have HQ5 := hide q5
            have HQ6 := hide q6
            clear q2 q5 q6 d0 d1 e0 e1
            go_region
            all_goals
              go_wp2_with fail
              go_roundg (gk - 1)
              case measure => omega
              case rel =>
                refine ⟨i + 1, by omega, by go_num, ?_, ?_, (below_drewN hbW 1).grown HQ6.out hbW.size (fun k hk => by cases hk; exact Nat.le_refl _)⟩
                · have h5 := HQ5.out
                  unfold Hid
                  unfold pairs2 at h5 ⊢
                  rw [List.take_add_one, HA.out, List.map_append]
                  exact h5
                · unfold Hid
                  rw [hstep.out, n2, HIN.out, Bool.or_true]
                  rfl
    · have HE : Hid (R = true) := by
        unfold Hid
        rw [hres.out, List.drop_eq_nil_of_le (by omega)]
        rfl
      go_wp2_with fail
      go_ret
      exact ⟨by rw [HE.out]; rfl, hbx⟩
end Go.Proofs.YtagkdmolgmhmdaaGreatDoor
