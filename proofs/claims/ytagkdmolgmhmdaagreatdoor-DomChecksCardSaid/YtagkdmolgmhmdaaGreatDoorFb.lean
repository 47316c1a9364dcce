/- The document's answer: may an element's attributes be? -/
import Derived.Test.YtagkdmolgmhmdaaGreatDoorWk
namespace Go.Proofs.YtagkdmolgmhmdaaGreatDoor
open Go.RowKit

def aspaces4 : List (List UInt8) := [[], [120, 108, 105, 110, 107], [120, 109, 108], [120, 109, 108, 110, 115]]
theorem aspaces4_eq (s : List UInt8) : aspaces4.contains s = (s == [] || Dm.aspaces.contains s) := by
  rw [show aspaces4 = [] :: Dm.aspaces from rfl, List.contains_cons]
set_option maxRecDepth 100000 in
set_option maxHeartbeats 16000000 in
theorem rAttrs (v : Value) (l : List Dm.A) (w : World) (hr : RdA w v l) (hl : l.length ≤ 1048576) :
    Calls Tryz.prog 56 #[v] w (Fresh (.bool (Dm.attrsOk [] l)) w) := by
  obtain ⟨aa, ac, rfl⟩ := hr.length
  obtain ⟨R, hR⟩ : ∃ R, Dm.attrsOk [] l = R := ⟨_, rfl⟩
  rw [hR]
  have HR := hide hR
  have HRD := hide hr
  clear hR hr
  go_enter Tryz.func56, Tryz.ntmps56
  go_wp2_with fail
  go_loopg [3] l.length (fun g s3 wx => ∃ i : Nat, i + g = l.length ∧ s3 = .int .i64 i ∧ Hid (R = Dm.attrsOk (pairs2 (l.take i)) (l.drop i)) ∧ Below w.heap.size w wx)
  case atStart => exact ⟨0, by omega, rfl, by unfold Hid; rw [← HR.out]; rfl, Below.refl _ _⟩
  case round =>
    obtain ⟨i, hi, rfl, hres, hbx⟩ := hrel
    obtain ⟨g0, hg0⟩ : ∃ x, x = gk := ⟨_, rfl⟩
    rw [← hg0] at hi
    have HG0 := hide hg0
    clear hg0
    by_cases hlt : i < l.length
    · obtain ⟨a, hx⟩ : ∃ a, l[i]? = some a := ⟨l[i], List.getElem?_eq_getElem hlt⟩
      obtain ⟨b, o, rfl, c0, c1, c2⟩ := (HRD.out.below hbx).at hx
      have HX := hide hx
      have hstep : Hid (R = (a.nm != [] && (a.sp == [] || Dm.aspaces.contains a.sp) && !(pairs2 (l.take i)).contains (a.sp, a.nm) && Dm.attrsOk (pairs2 (l.take (i + 1))) (l.drop (i + 1)))) := by
        unfold Hid
        rw [hres.out, drop_cons hx, attrsOk_step]
        unfold pairs2
        rw [List.take_add_one, hx, List.map_append]
        rfl
      clear hx hres
      obtain ⟨sp, nm, vl⟩ := a
      simp only at c0 c1 c2 hstep
      by_cases hn : nm = []
      · have HE : Hid (R = false) := by unfold Hid; rw [hstep.out, hn]; simp
        subst hn
        go_wp2_with fail
        go_ret
        exact ⟨by rw [HE.out]; rfl, hbx⟩
      have hnb : (nm == []) = false := by simpa using hn
      obtain ⟨q, hq⟩ : ∃ q, aspaces4.contains sp = q := ⟨_, rfl⟩
      have hq2 := hq
      rw [aspaces4_eq] at hq2
      have HQ := hide hq2
      have hcall := hide (among sp aspaces4 wr.heap.size 4 4 (wr.alloc (.cells (aspaces4.map S).toArray 9)) rfl (by decide) (words_new wr aspaces4 9))
      rw [hq] at hcall
      have hal := (Below.refl wr.heap.size wr).alloc (Nat.le_refl _) (.cells (aspaces4.map S).toArray 9)
      have HAL := hide hal
      have hsx := hbx.size
      have hb3 := hide (hbx.trans (hal.mono hsx))
      clear hq hq2 hal
      cases q with
      | false =>
        have HE : Hid (R = false) := by unfold Hid; rw [hstep.out, HQ.out]; simp
        go_wp2_with fail
        refine Calls.mono hcall.out ?_
        rintro e w3 ⟨rfl, rfl⟩
        go_wp2_with fail
        go_ret
        exact ⟨by rw [HE.out]; rfl, hb3.out⟩
      | true =>
        go_wp2_with fail
        refine Calls.mono hcall.out ?_
        rintro e w3 ⟨rfl, hw3⟩
        have hz3 : Below wr.heap.size wr w3 := by rw [← hw3]; exact HAL.out
        have hb3w : Below w.heap.size w w3 := by rw [← hw3]; exact hb3.out
        have HZ3 := hide hz3
        have HB3 := hide hb3w
        clear hw3 hz3 hb3w c0 c1 c2
        go_wp2_with fail
        go_loopg [4] i (fun g s4 wx => ∃ (k p : Nat), k + g = i ∧ s4 = .int .i64 k ∧ wx = w3.drewN p ∧ Hid ((pairs2 (l.take k)).contains (sp, nm) = false))
        case atStart => exact ⟨0, 0, by omega, rfl, rfl, rfl⟩
        case round =>
          obtain ⟨k, p, hk, rfl, rfl, hno⟩ := hrel
          by_cases hklt : k < i
          · obtain ⟨y, hy⟩ : ∃ y, l[k]? = some y := ⟨l[k], List.getElem?_eq_getElem (by omega)⟩
            have hrdr := (HRD.out.below hbx).below HZ3.out
            obtain ⟨b1, o1, e1, m0, m1, m2⟩ := hrdr.at hy
            obtain ⟨b2, o2, e2, n0, n1, n2⟩ := hrdr.at HX.out
            injection e1 with e1
            injection e1 with e1 e1'
            subst e1; subst e1'
            injection e2 with e2
            injection e2 with e2 e2'
            subst e2; subst e2'
            have HY := hide hy
            clear hy hrdr
            obtain ⟨sp', nm', vl'⟩ := y
            simp only at m0 m1 n0 n1
            by_cases h1 : sp' = sp
            · by_cases h2 : nm' = nm
              · have HE : Hid (R = false) := by
                  have : (pairs2 (l.take i)).contains (sp, nm) = true := by
                    rw [List.contains_eq_mem, decide_eq_true_eq]
                    unfold pairs2
                    refine List.mem_map.2 ⟨⟨sp', nm', vl'⟩, ?_, by rw [h1, h2]⟩
                    exact List.mem_of_getElem? (i := k) (by rw [List.getElem?_take, if_pos hklt]; exact HY.out)
                  unfold Hid
                  rw [hstep.out, this]
                  simp
                subst h1; subst h2
                go_wp2_with fail
                go_quiet (fail)
                go_wp2_with fail
                go_ret
                exact ⟨by rw [HE.out]; rfl, by first | exact below_drewN HB3.out _ | exact below_drewN (below_drewN HB3.out _) _⟩
              · have h2b : (nm' == nm) = false := by simpa using h2
                have HN : Hid ((pairs2 (l.take (k + 1))).contains (sp, nm) = false) := by
                  have h3 := hno.out
                  unfold Hid
                  unfold pairs2 at h3 ⊢
                  rw [List.take_add_one, HY.out, List.map_append, List.contains_eq_mem, decide_eq_false_iff_not] at *
                  intro h
                  rcases List.mem_append.1 h with h | h
                  · exact h3 h
                  · simp at h
                    exact h2 h.2.symm
                subst h1
                go_wp2_with fail
                go_quiet (fail)
                go_wp2_with fail
                go_roundg (gk - 1)
                case measure => omega
                case rel => exact ⟨k + 1, _, by omega, by go_num, by first | rfl | exact World.drewN_drewN _ _ _, HN.out⟩
            · have h1b : (sp' == sp) = false := by simpa using h1
              have HN : Hid ((pairs2 (l.take (k + 1))).contains (sp, nm) = false) := by
                have h3 := hno.out
                unfold Hid
                unfold pairs2 at h3 ⊢
                rw [List.take_add_one, HY.out, List.map_append, List.contains_eq_mem, decide_eq_false_iff_not] at *
                intro h
                rcases List.mem_append.1 h with h | h
                · exact h3 h
                · simp at h
                  exact h1 h.1.symm
              go_wp2_with fail
              go_quiet (fail)
              go_wp2_with fail
              go_roundg (gk - 1)
              case measure => omega
              case rel => exact ⟨k + 1, _, by omega, by go_num, by first | rfl | exact World.drewN_drewN _ _ _, HN.out⟩
          · obtain rfl : k = i := by omega
            have HF : Hid (R = Dm.attrsOk (pairs2 (l.take (k + 1))) (l.drop (k + 1))) := by
              unfold Hid
              rw [hstep.out, hno.out, HQ.out, bne, hnb]
              simp
            go_wp2_with fail
            go_roundg (g0 - 1)
            case measure => have := HG0.out; omega
            case rel => exact ⟨k + 1, by omega, by go_num, HF.out, below_drewN HB3.out _⟩
    · have HE : Hid (R = true) := by
        unfold Hid
        rw [hres.out, List.drop_eq_nil_of_le (by omega)]
        rfl
      go_wp2_with fail
      go_ret
      exact ⟨by rw [HE.out]; rfl, hbx⟩
end Go.Proofs.YtagkdmolgmhmdaaGreatDoor
