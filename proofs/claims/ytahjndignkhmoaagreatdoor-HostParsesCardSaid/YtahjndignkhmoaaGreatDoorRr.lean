/- The reference: a host, read. (Printed by genRr.py.) -/
import Derived.Test.YtahjndignkhmoaaGreatDoorRp
import Derived.Test.YtahjndignkhmoaaGreatDoorRn
import Derived.Test.YtahjndignkhmoaaGreatDoorRi
import Derived.Test.YtahjndignkhmoaaGreatDoorRj
import Derived.Test.YtahjndignkhmoaaGreatDoorRg
namespace Go.Proofs.YtahjndignkhmoaaGreatDoor
open Go.RowKit

/-! ### plain laws -/
namespace Hostp
def badS (sp : Bool) (c : UInt8) : Bool := bad c || sp && (decide (c.toNat < 32) || decide (126 < c.toNat) || c == 37)
/-- what is made of a text that has no bad byte -/
def fin (sp : Bool) (t : List UInt8) : Option Host :=
  if sp = false then (if t = [] then some .empty else some (.opaque_ (pEnc t)))
  else (if t = [] then none else if numericP (lower t) = false then some (.domain (lower t)) else (v4 (lower t)).map Host.four)
def src (sp : Bool) (s : List UInt8) : List UInt8 := if sp = true then pDec s else s
theorem bad_low (c : UInt8) : (bad (lowB c) || decide ((lowB c).toNat < 32) || decide (126 < (lowB c).toNat) || lowB c == 37) = (bad c || decide (c.toNat < 32) || decide (126 < c.toNat) || c == 37) := by
  have : ∀ n : Fin 256, (bad (lowB (UInt8.ofNat n.val)) || decide ((lowB (UInt8.ofNat n.val)).toNat < 32) || decide (126 < (lowB (UInt8.ofNat n.val)).toNat) || lowB (UInt8.ofNat n.val) == 37) = (bad (UInt8.ofNat n.val) || decide ((UInt8.ofNat n.val).toNat < 32) || decide (126 < (UInt8.ofNat n.val).toNat) || UInt8.ofNat n.val == 37) := by decide +kernel
  have := this ⟨c.toNat, c.toNat_lt⟩
  simpa using this
theorem any_low (t : List UInt8) : (lower t).any (fun c => bad c || decide (c.toNat < 32) || decide (126 < c.toNat) || c == 37) = t.any (badS true) := by
  unfold lower
  rw [List.any_map]
  congr 1
  funext c
  show (bad (lowB c) || decide ((lowB c).toNat < 32) || decide (126 < (lowB c).toNat) || lowB c == 37) = _
  rw [bad_low]
  unfold badS
  simp only [Bool.true_and, Bool.or_assoc]
theorem parse_fin (s : List UInt8) (sp : Bool) (h : s.head? ≠ some 91) : parse s sp = if (src sp s).any (badS sp) = true then none else fin sp (src sp s) := by
  rw [parse, if_neg h]
  cases sp with
  | false =>
    rw [if_pos rfl]
    have e : badS false = bad := by
      funext c
      unfold badS
      simp
    show (if s.any bad = true then none else _) = if s.any (badS false) = true then none else fin false s
    rw [e]
    rfl
  | true =>
    rw [if_neg (by decide)]
    show _ = if (pDec s).any (badS true) = true then none else fin true (pDec s)
    rw [any_low]
    unfold fin
    rw [if_neg (show ¬ true = false by decide)]
    by_cases h1 : pDec s = []
    · rw [h1]; rfl
    · have h2 : lower (pDec s) ≠ [] := fun q => h1 ((lower_nil _).1 q)
      rw [if_neg h1]
      by_cases h3 : (pDec s).any (badS true) = true
      · rw [if_pos (.inr h3), if_pos h3]
      · rw [if_neg (by rintro (q | q); exact h2 q; exact h3 q), if_neg h3]
theorem any_take_all (f : UInt8 → Bool) (t : List UInt8) (i : Nat) (h : ∀ x ∈ t.take i, f x = false) (hi : t.length ≤ i) : t.any f = false := by
  rw [List.any_eq_false]
  intro x hx
  rw [List.take_of_length_le hi] at h
  rw [h x hx]; decide
theorem any_hit (f : UInt8 → Bool) (t : List UInt8) (i : Nat) (hi : i < t.length) (h : f t[i] = true) : t.any f = true := List.any_eq_true.2 ⟨t[i], List.getElem_mem hi, h⟩
theorem take_all_succ (f : UInt8 → Bool) (t : List UInt8) (i : Nat) (hi : i < t.length) (h : ∀ x ∈ t.take i, f x = false) (hc : f t[i] = false) : ∀ x ∈ t.take (i + 1), f x = false := fun x hx => by
  rw [List.take_succ_eq_append_getElem hi] at hx
  rcases List.mem_append.1 hx with hx | hx
  · exact h x hx
  · rw [List.mem_singleton.1 hx]; exact hc
end Hostp

set_option maxHeartbeats 16000000 in
set_option maxRecDepth 100000 in
theorem rParse (s : List UInt8) (sp : Bool) (r : Option Hostp.Host) (w : World) (hl : s.length ≤ 1048576) (hr : Hid (Hostp.parse s sp = r)) :
    Calls Tryz.prog 9 #[S s, .bool sp] w fun e w' => e = .returned (hV r) ∧ Below w.heap.size w w' := by
  have hnew : (w.alloc (.cells zeroHost 27)).heap[w.heap.size]? = some (.cells zeroHost 27 (0, 0)) := heap_alloc_last _ _
  have hnb : Below w.heap.size w (w.alloc (.cells zeroHost 27)) := (Below.refl _ _).alloc (Nat.le_refl _) _
  obtain ⟨w1, hw1⟩ : ∃ x, x = w.alloc (.cells zeroHost 27) := ⟨_, rfl⟩
  have HW1 := hide hw1
  obtain ⟨B, hB⟩ : ∃ B, w.heap.size = B := ⟨_, rfl⟩
  rw [← hw1] at hnew hnb
  rw [hB] at hnew hnb
  have HB := hide hB
  have hsz : B < w1.heap.size := heap_lt hnew
  clear hw1 hB
  by_cases h91 : s.head? = some 91
  · have hp := hr.out
    rw [Hostp.parse, if_pos h91] at hp
    obtain ⟨t, rfl⟩ : ∃ t, s = 91 :: t := by
      cases s with
      | nil => cases h91
      | cons c l => rw [List.head?_cons] at h91; injection h91 with h; subst h; exact ⟨l, rfl⟩
    obtain ⟨s, hs⟩ : ∃ s, (91 : UInt8) :: t = s := ⟨_, rfl⟩
    have hsl : s.length = t.length + 1 := by rw [← hs]; rfl
    have hlt0 : 0 < s.length := by omega
    have h0 : s[0]'hlt0 = 91 := by simp [← hs]
    rw [hs] at hp hl ⊢
    obtain ⟨n, hn⟩ : ∃ n, t.length = n := ⟨_, rfl⟩
    rw [hn] at hsl
    have hltn : n < s.length := by omega
    obtain ⟨b, hb⟩ : ∃ b, s[n]'hltn = b := ⟨_, rfl⟩
    have hlast : s.getLast? = some b := by rw [List.getLast?_eq_getElem?, hsl, Nat.add_sub_cancel, List.getElem?_eq_getElem (by omega), hb]
    rw [hlast] at hp
    have HS := hide hs
    have HN := hide hn
    have HSL := hide hsl
    have hsl1 : (0 : Int) < (s.length : Int) := by omega
    have ti : ((s.length : Int) - 1).toNat = n := by omega
    have tb : (s.length : Int) - 1 < (s.length : Int) := by omega
    have tb0 : (0 : Int) ≤ (s.length : Int) - 1 := by omega
    clear h91 hr hs hn hsl hlast
    by_cases h93 : b = 93
    · subst h93
      have hn0 : 1 ≤ n := by
        rcases Nat.eq_zero_or_pos n with e | e
        · subst e
          rw [h0] at hb
          exact absurd hb (by decide)
        · exact e
      rw [if_pos ⟨rfl, by rw [HSL.out]; omega⟩] at hp
      obtain ⟨q, hq⟩ : ∃ q, (s.drop 1).dropLast = q := ⟨_, rfl⟩
      obtain ⟨x, hx⟩ : ∃ x, Hostp.v6 q = x := ⟨_, rfl⟩
      rw [hq, hx] at hp
      have hq2 : List.take (n - 1) s.tail = q := by
        rw [← hq, List.dropLast_eq_take, List.length_drop, HSL.out, List.drop_one]; rfl
      have hql : q.length ≤ 4194304 := by
        rw [← hq2]
        simp only [List.length_take, List.length_tail]
        omega
      have HX := hide hx
      have HQ := hide hq2
      have tb1 : (1 : Int) ≤ (s.length : Int) - 1 := by have := HSL.out; omega
      clear hq hx hq2
      obtain ⟨⟨c0, c1, c2, c3, c4, c5, c6, c7, c8, c9, c10⟩, hf⟩ := cells11 hnew
      go_enter Tryz.func9, Tryz.ntmps9
      go_wp2_with fail
      rw [← HW1.out, HQ.out, HB.out]
      refine (rV6 q x _ hql HX).mono ?_
      rintro e w3 ⟨rfl, hb3⟩
      have h3 := (hb3.block B hsz).trans hnew
      have hs3 := hb3.size
      have hbw3 : Below B w w3 := hnb.trans (hb3.mono (by omega))
      have hlt3 : B < w3.heap.size := heap_lt h3
      clear c0 c1 c2 c3 c4 c5 c6 c7 c8 c9 c10 hf hb3 hnew hnb
      obtain ⟨⟨c0, c1, c2, c3, c4, c5, c6, c7, c8, c9, c10⟩, hf⟩ := cells11 h3
      cases x with
      | none =>
        rw [Option.map_none] at hp
        subst hp
        unfold v6V
        go_wp2_with fail
        have k3_1 := put11_heap h3 (.int .u8 0) (S []) (.int .u32 0) (U16 0) (U16 0) (U16 0) (U16 0) (U16 0) (U16 0) (U16 0) (U16 0)
        have kb_1 := put11_below hbw3 (Nat.le_refl _) (.int .u8 0) (S []) (.int .u32 0) (U16 0) (U16 0) (U16 0) (U16 0) (U16 0) (U16 0) (U16 0) (U16 0)
        change bodyPost _ _ _ _ _ (World.alloc (put11 w3 B (.int .u8 0) (S []) (.int .u32 0) (U16 0) (U16 0) (U16 0) (U16 0) (U16 0) (U16 0) (U16 0) (U16 0)) (.cells Z8 25))
        have k4_1 := (Below.heap_alloc (put11 w3 B (.int .u8 0) (S []) (.int .u32 0) (U16 0) (U16 0) (U16 0) (U16 0) (U16 0) (U16 0) (U16 0) (U16 0)) (.cells Z8 25) B (heap_lt k3_1)).trans k3_1
        have kc_1 := kb_1.alloc (Nat.le_of_lt (heap_lt k3_1)) (.cells Z8 25)
        generalize World.alloc (put11 w3 B (.int .u8 0) (S []) (.int .u32 0) (U16 0) (U16 0) (U16 0) (U16 0) (U16 0) (U16 0) (U16 0) (U16 0)) (.cells Z8 25) = w99 at *
        obtain ⟨⟨q0, q1, q2, q3, q4, q5, q6, q7, q8, q9, q10⟩, qf⟩ := cells11 k4_1
        refine bodyPost_ret (v := hV none) (by simp [results, Tryz.results9, go_sem, hV, q0, q1, q2, q3, q4, q5, q6, q7, q8, q9, q10]) rfl ?_
        exact ⟨rfl, by rw [HB.out]; exact kc_1⟩
      | some l =>
        rw [Option.map_some] at hp
        subst hp
        obtain ⟨n0, n1, n2, n3, n4, n5, n6, n7, rfl⟩ := list8 (Hostp.v6_range q l HX.out).1
        unfold v6V
        clear HX
        simp only [List.map_cons, List.map_nil]
        go_wp2_with fail
        have k3_2 := put11_heap h3 (.int .u8 4) (S []) (.int .u32 0) (U16 n0) (U16 n1) (U16 n2) (U16 n3) (U16 n4) (U16 n5) (U16 n6) (U16 n7)
        have kb_2 := put11_below hbw3 (Nat.le_refl _) (.int .u8 4) (S []) (.int .u32 0) (U16 n0) (U16 n1) (U16 n2) (U16 n3) (U16 n4) (U16 n5) (U16 n6) (U16 n7)
        change bodyPost _ _ _ _ _ (World.alloc (put11 w3 B (.int .u8 4) (S []) (.int .u32 0) (U16 n0) (U16 n1) (U16 n2) (U16 n3) (U16 n4) (U16 n5) (U16 n6) (U16 n7)) (.cells (U8 n0 n1 n2 n3 n4 n5 n6 n7) 25))
        have k4_2 := (Below.heap_alloc (put11 w3 B (.int .u8 4) (S []) (.int .u32 0) (U16 n0) (U16 n1) (U16 n2) (U16 n3) (U16 n4) (U16 n5) (U16 n6) (U16 n7)) (.cells (U8 n0 n1 n2 n3 n4 n5 n6 n7) 25) B (heap_lt k3_2)).trans k3_2
        have kc_2 := kb_2.alloc (Nat.le_of_lt (heap_lt k3_2)) (.cells (U8 n0 n1 n2 n3 n4 n5 n6 n7) 25)
        generalize World.alloc (put11 w3 B (.int .u8 4) (S []) (.int .u32 0) (U16 n0) (U16 n1) (U16 n2) (U16 n3) (U16 n4) (U16 n5) (U16 n6) (U16 n7)) (.cells (U8 n0 n1 n2 n3 n4 n5 n6 n7) 25) = w99 at *
        obtain ⟨⟨q0, q1, q2, q3, q4, q5, q6, q7, q8, q9, q10⟩, qf⟩ := cells11 k4_2
        refine bodyPost_ret (v := hV (some (.eight [n0, n1, n2, n3, n4, n5, n6, n7]))) (by simp [results, Tryz.results9, go_sem, hV, q0, q1, q2, q3, q4, q5, q6, q7, q8, q9, q10]) rfl ?_
        exact ⟨rfl, by rw [HB.out]; exact kc_2⟩
    · rw [if_neg (fun q => h93 (by injection q.1))] at hp
      subst hp
      have b1 : ((b.toNat : Int) != 93) = true := bne_iff_ne.2 (fun h => h93 (UInt8.toNat_inj.1 (by show b.toNat = 93; omega)))
      have b2 : ¬ (b.toNat : Int) = 93 := fun h => h93 (UInt8.toNat_inj.1 (by show b.toNat = 93; omega))
      clear h93
      obtain ⟨⟨c0, c1, c2, c3, c4, c5, c6, c7, c8, c9, c10⟩, hf⟩ := cells11 hnew
      go_enter Tryz.func9, Tryz.ntmps9
      go_wp2_with fail
      rw [← HW1.out, HB.out]
      refine bodyPost_ret (v := hV none) (by simp [results, Tryz.results9, go_sem, hV, c0, c1, c2, c3, c4, c5, c6, c7, c8, c9, c10]) rfl ?_
      exact ⟨rfl, hnb⟩
  · have hp := hr.out
    rw [Hostp.parse_fin s sp h91] at hp
    obtain ⟨t, ht⟩ : ∃ t, Hostp.src sp s = t := ⟨_, rfl⟩
    rw [ht] at hp
    have htl : t.length ≤ 1048576 := by
      rw [← ht]
      unfold Hostp.src
      split
      · have := Hostp.pDec_le _ s (Nat.le_refl _); omega
      · exact hl
    have HT := hide ht
    have HP := hide hp
    have HH := hide h91
    have HNEW := hide hnew
    have HNB := hide hnb
    clear hr hp ht h91 hnew hnb
    have hpre : ∀ (Q : Prop), (s = [] → Q) → (∀ c l, s = c :: l → c ≠ 91 → Q) → Q := fun Q h1 h2 => by
      cases s with
      | nil => exact h1 rfl
      | cons c l => exact h2 c l rfl (fun e => HH.out (by rw [e]; rfl))
    have hhead : (s = [] ∨ ∃ c l, s = c :: l ∧ ((c.toNat : Int) == 91) = false ∧ ¬ (c.toNat : Int) = 91) := by
      refine hpre _ .inl (fun c l e hc => .inr ⟨c, l, e, beq_eq_false_iff_ne.2 (fun h => hc (UInt8.toNat_inj.1 (by show c.toNat = 91; omega))), fun h => hc (UInt8.toNat_inj.1 (by show c.toNat = 91; omega))⟩)
    clear hpre
    cases sp with
    | false =>
      have hw1B : w1.heap[B]? = some (.cells zeroHost 27 (0, 0)) := HNEW.out
      have hbw1 : Below B w w1 := HNB.out
      clear HNEW HNB
      have hst : s = t := HT.out
      subst hst
      rcases hhead with hs0 | ⟨c0, l0, hs0, hc0, hc1⟩
      · subst hs0
        go_enter Tryz.func9, Tryz.ntmps9
        go_wp2_with fail
        rw [← HW1.out, HB.out]
        obtain rfl : some Hostp.Host.empty = r := HP.out
        go_loopg [8] 0 (fun _ s8 wx => s8 = .int .i64 0 ∧ wx = w1)
        case atStart => exact ⟨rfl, rfl⟩
        case round =>
          obtain ⟨rfl, rfl⟩ := hrel
          obtain ⟨⟨c0, c1, c2, c3, c4, c5, c6, c7, c8, c9, c10⟩, hf⟩ := cells11 hw1B
          go_wp2_with fail
          have k3_3 := put11_heap hw1B (.int .u8 5) (S []) (.int .u32 0) (U16 0) (U16 0) (U16 0) (U16 0) (U16 0) (U16 0) (U16 0) (U16 0)
          have kb_3 := put11_below hbw1 (Nat.le_refl _) (.int .u8 5) (S []) (.int .u32 0) (U16 0) (U16 0) (U16 0) (U16 0) (U16 0) (U16 0) (U16 0) (U16 0)
          change bodyPost _ _ _ _ _ (put11 wr B (.int .u8 5) (S []) (.int .u32 0) (U16 0) (U16 0) (U16 0) (U16 0) (U16 0) (U16 0) (U16 0) (U16 0))
          generalize put11 wr B (.int .u8 5) (S []) (.int .u32 0) (U16 0) (U16 0) (U16 0) (U16 0) (U16 0) (U16 0) (U16 0) (U16 0) = w99 at *
          obtain ⟨⟨q0, q1, q2, q3, q4, q5, q6, q7, q8, q9, q10⟩, qf⟩ := cells11 k3_3
          refine bodyPost_ret (v := hV (some .empty)) (by simp [results, Tryz.results9, go_sem, hV, q0, q1, q2, q3, q4, q5, q6, q7, q8, q9, q10]) rfl ?_
          exact ⟨rfl, by rw [HB.out]; exact kb_3⟩
      · have hlt0 : 0 < s.length := by rw [hs0]; simp
        have h0 : s[0]'hlt0 = c0 := by simp [hs0]
        have hsl1 : (0 : Int) < (s.length : Int) := by omega
        clear hs0
        go_enter Tryz.func9, Tryz.ntmps9
        go_wp2_with fail
        rw [← HW1.out, HB.out]
        clear hc0 hc1 h0 hsl1
        obtain ⟨t, rfl⟩ : ∃ t, t = s := ⟨_, rfl⟩
        go_loopg [8] t.length (fun g s8 wx => ∃ (i : Nat), i + g = t.length ∧ s8 = .int .i64 i ∧ Hid (∀ x ∈ t.take i, Hostp.badS false x = false) ∧ wx = w1)
        case atStart => exact ⟨0, by omega, rfl, by unfold Hid; simp, rfl⟩
        case round =>
          obtain ⟨i, hi, rfl, hno, rfl⟩ := hrel
          by_cases hlt : i < t.length
          · obtain ⟨c, hc⟩ : ∃ c, t[i] = c := ⟨_, rfl⟩
            have hhit : Hostp.badS false c = true → none = r := fun h => by
              have hp := HP.out
              rw [if_pos (Hostp.any_hit (Hostp.badS false) t i hlt (by rw [hc]; exact h))] at hp
              exact hp
            have hmiss : Hostp.badS false c = false → ∀ x ∈ t.take (i + 1), Hostp.badS false x = false := fun h => Hostp.take_all_succ _ t i hlt hno.out (by rw [hc]; exact h)
            have HHIT := hide hhit
            have HMISS := hide hmiss
            have hcb := u8_lt c
            obtain ⟨b, hb⟩ : ∃ b, Hostp.bad c = b := ⟨_, rfl⟩
            have HBAD := hide hb
            clear hhit hmiss hb
            go_wp2_with fail
            refine (rForbidden c _).mono ?_
            rintro e w2 ⟨rfl, rfl⟩
            rw [HBAD.out]
            cases b with
            | true =>
              obtain rfl : none = r := HHIT.out (by unfold Hostp.badS; rw [HBAD.out]; rfl)
              obtain ⟨⟨c0, c1, c2, c3, c4, c5, c6, c7, c8, c9, c10⟩, hf⟩ := cells11 hw1B
              go_wp2_with fail
              have k3_4 := put11_heap hw1B (.int .u8 0) (S []) (.int .u32 0) (U16 0) (U16 0) (U16 0) (U16 0) (U16 0) (U16 0) (U16 0) (U16 0)
              have kb_4 := put11_below hbw1 (Nat.le_refl _) (.int .u8 0) (S []) (.int .u32 0) (U16 0) (U16 0) (U16 0) (U16 0) (U16 0) (U16 0) (U16 0) (U16 0)
              change bodyPost _ _ _ _ _ (put11 wr B (.int .u8 0) (S []) (.int .u32 0) (U16 0) (U16 0) (U16 0) (U16 0) (U16 0) (U16 0) (U16 0) (U16 0))
              generalize put11 wr B (.int .u8 0) (S []) (.int .u32 0) (U16 0) (U16 0) (U16 0) (U16 0) (U16 0) (U16 0) (U16 0) (U16 0) = w99 at *
              obtain ⟨⟨q0, q1, q2, q3, q4, q5, q6, q7, q8, q9, q10⟩, qf⟩ := cells11 k3_4
              refine bodyPost_ret (v := hV none) (by simp [results, Tryz.results9, go_sem, hV, q0, q1, q2, q3, q4, q5, q6, q7, q8, q9, q10]) rfl ?_
              exact ⟨rfl, by rw [HB.out]; exact kb_4⟩
            | false =>
              have hm := HMISS.out (by unfold Hostp.badS; rw [HBAD.out]; rfl)
              have HM := hide hm
              clear hm
              go_wp2_with fail
              go_roundg (gk - 1)
              case measure => omega
              case rel => exact ⟨i + 1, by omega, by go_num, HM, rfl⟩
          · have e : i = t.length := by omega
            subst e
            have hp := HP.out
            rw [if_neg (by rw [Hostp.any_take_all (Hostp.badS false) t _ hno.out (Nat.le_refl _)]; decide)] at hp
            unfold Hostp.fin at hp
            clear hno
            rw [if_pos rfl] at hp
            cases t with
            | nil =>
              rw [if_pos rfl] at hp
              subst hp
              obtain ⟨⟨c0, c1, c2, c3, c4, c5, c6, c7, c8, c9, c10⟩, hf⟩ := cells11 hw1B
              go_wp2_with fail
              have k3_5 := put11_heap hw1B (.int .u8 5) (S []) (.int .u32 0) (U16 0) (U16 0) (U16 0) (U16 0) (U16 0) (U16 0) (U16 0) (U16 0)
              have kb_5 := put11_below hbw1 (Nat.le_refl _) (.int .u8 5) (S []) (.int .u32 0) (U16 0) (U16 0) (U16 0) (U16 0) (U16 0) (U16 0) (U16 0) (U16 0)
              change bodyPost _ _ _ _ _ (put11 wr B (.int .u8 5) (S []) (.int .u32 0) (U16 0) (U16 0) (U16 0) (U16 0) (U16 0) (U16 0) (U16 0) (U16 0))
              generalize put11 wr B (.int .u8 5) (S []) (.int .u32 0) (U16 0) (U16 0) (U16 0) (U16 0) (U16 0) (U16 0) (U16 0) (U16 0) = w99 at *
              obtain ⟨⟨q0, q1, q2, q3, q4, q5, q6, q7, q8, q9, q10⟩, qf⟩ := cells11 k3_5
              refine bodyPost_ret (v := hV (some .empty)) (by simp [results, Tryz.results9, go_sem, hV, q0, q1, q2, q3, q4, q5, q6, q7, q8, q9, q10]) rfl ?_
              exact ⟨rfl, by rw [HB.out]; exact kb_5⟩
            | cons t0 t1 =>
              rw [if_neg (by simp)] at hp
              obtain ⟨x, hx⟩ : ∃ x, Hostp.pEnc (t0 :: t1) = x := ⟨_, rfl⟩
              rw [hx] at hp
              have HX := hide hx
              subst hp
              clear hx
              go_wp2_with fail
              refine (rEncode (t0 :: t1) x _ htl HX).mono ?_
              rintro e w5 ⟨rfl, hb5⟩
              have h5 := (hb5.block B (heap_lt hw1B)).trans hw1B
              have hbw5 : Below B w w5 := hbw1.trans (hb5.mono (Nat.le_of_lt (heap_lt hw1B)))
              clear hb5
              obtain ⟨⟨c0, c1, c2, c3, c4, c5, c6, c7, c8, c9, c10⟩, hf⟩ := cells11 h5
              go_wp2_with fail
              have k3_6 := put11_heap h5 (.int .u8 2) (S x) (.int .u32 0) (U16 0) (U16 0) (U16 0) (U16 0) (U16 0) (U16 0) (U16 0) (U16 0)
              have kb_6 := put11_below hbw5 (Nat.le_refl _) (.int .u8 2) (S x) (.int .u32 0) (U16 0) (U16 0) (U16 0) (U16 0) (U16 0) (U16 0) (U16 0) (U16 0)
              change bodyPost _ _ _ _ _ (put11 w5 B (.int .u8 2) (S x) (.int .u32 0) (U16 0) (U16 0) (U16 0) (U16 0) (U16 0) (U16 0) (U16 0) (U16 0))
              generalize put11 w5 B (.int .u8 2) (S x) (.int .u32 0) (U16 0) (U16 0) (U16 0) (U16 0) (U16 0) (U16 0) (U16 0) (U16 0) = w99 at *
              obtain ⟨⟨q0, q1, q2, q3, q4, q5, q6, q7, q8, q9, q10⟩, qf⟩ := cells11 k3_6
              refine bodyPost_ret (v := hV (some (.opaque_ x))) (by simp [results, Tryz.results9, go_sem, hV, q0, q1, q2, q3, q4, q5, q6, q7, q8, q9, q10]) rfl ?_
              exact ⟨rfl, by rw [HB.out]; exact kb_6⟩
    | true =>
      have hw1B : w1.heap[B]? = some (.cells zeroHost 27 (0, 0)) := HNEW.out
      have hbw1 : Below B w w1 := HNB.out
      clear HNEW HNB
      have hst : Hid (Hostp.pDec s = t) := HT.out
      rcases hhead with hs0 | ⟨c0, l0, hs0, hc0, hc1⟩
      · subst hs0
        go_enter Tryz.func9, Tryz.ntmps9
        go_wp2_with fail
        rw [← HW1.out, HB.out]
        refine (rDecode [] t _ (by decide) hst).mono ?_
        rintro e w2 ⟨rfl, hb2⟩
        have h2 := (hb2.block B hsz).trans hw1B
        have hbw2 : Below B w w2 := hbw1.trans (hb2.mono (by omega))
        clear hb2 hw1B hbw1
        go_wp2_with fail
        go_loopg [8] t.length (fun g s8 wx => ∃ (i : Nat), i + g = t.length ∧ s8 = .int .i64 i ∧ Hid (∀ x ∈ t.take i, Hostp.badS true x = false) ∧ wx = w2)
        case atStart => exact ⟨0, by omega, rfl, by unfold Hid; simp, rfl⟩
        case round =>
          obtain ⟨i, hi, rfl, hno, rfl⟩ := hrel
          by_cases hlt : i < t.length
          · obtain ⟨c, hc⟩ : ∃ c, t[i] = c := ⟨_, rfl⟩
            have hhit : Hostp.badS true c = true → none = r := fun h => by
              have hp := HP.out
              rw [if_pos (Hostp.any_hit (Hostp.badS true) t i hlt (by rw [hc]; exact h))] at hp
              exact hp
            have hmiss : Hostp.badS true c = false → ∀ x ∈ t.take (i + 1), Hostp.badS true x = false := fun h => Hostp.take_all_succ _ t i hlt hno.out (by rw [hc]; exact h)
            have HHIT := hide hhit
            have HMISS := hide hmiss
            have hcb := u8_lt c
            obtain ⟨b, hb⟩ : ∃ b, Hostp.bad c = b := ⟨_, rfl⟩
            have HBAD := hide hb
            clear hhit hmiss hb
            go_wp2_with fail
            refine (rForbidden c _).mono ?_
            rintro e w2 ⟨rfl, rfl⟩
            rw [HBAD.out]
            cases b with
            | true =>
              obtain rfl : none = r := HHIT.out (by unfold Hostp.badS; rw [HBAD.out]; rfl)
              obtain ⟨⟨c0, c1, c2, c3, c4, c5, c6, c7, c8, c9, c10⟩, hf⟩ := cells11 h2
              go_wp2_with fail
              have k3_7 := put11_heap h2 (.int .u8 0) (S []) (.int .u32 0) (U16 0) (U16 0) (U16 0) (U16 0) (U16 0) (U16 0) (U16 0) (U16 0)
              have kb_7 := put11_below hbw2 (Nat.le_refl _) (.int .u8 0) (S []) (.int .u32 0) (U16 0) (U16 0) (U16 0) (U16 0) (U16 0) (U16 0) (U16 0) (U16 0)
              change bodyPost _ _ _ _ _ (put11 wr B (.int .u8 0) (S []) (.int .u32 0) (U16 0) (U16 0) (U16 0) (U16 0) (U16 0) (U16 0) (U16 0) (U16 0))
              generalize put11 wr B (.int .u8 0) (S []) (.int .u32 0) (U16 0) (U16 0) (U16 0) (U16 0) (U16 0) (U16 0) (U16 0) (U16 0) = w99 at *
              obtain ⟨⟨q0, q1, q2, q3, q4, q5, q6, q7, q8, q9, q10⟩, qf⟩ := cells11 k3_7
              refine bodyPost_ret (v := hV none) (by simp [results, Tryz.results9, go_sem, hV, q0, q1, q2, q3, q4, q5, q6, q7, q8, q9, q10]) rfl ?_
              exact ⟨rfl, by rw [HB.out]; exact kb_7⟩
            | false =>
              by_cases h32 : c.toNat < 32
              · obtain rfl : none = r := HHIT.out (by unfold Hostp.badS; rw [HBAD.out, decide_eq_true h32]; rfl)
                obtain ⟨⟨c0, c1, c2, c3, c4, c5, c6, c7, c8, c9, c10⟩, hf⟩ := cells11 h2
                go_wp2_with fail
                have k3_8 := put11_heap h2 (.int .u8 0) (S []) (.int .u32 0) (U16 0) (U16 0) (U16 0) (U16 0) (U16 0) (U16 0) (U16 0) (U16 0)
                have kb_8 := put11_below hbw2 (Nat.le_refl _) (.int .u8 0) (S []) (.int .u32 0) (U16 0) (U16 0) (U16 0) (U16 0) (U16 0) (U16 0) (U16 0) (U16 0)
                change bodyPost _ _ _ _ _ (put11 wr B (.int .u8 0) (S []) (.int .u32 0) (U16 0) (U16 0) (U16 0) (U16 0) (U16 0) (U16 0) (U16 0) (U16 0))
                generalize put11 wr B (.int .u8 0) (S []) (.int .u32 0) (U16 0) (U16 0) (U16 0) (U16 0) (U16 0) (U16 0) (U16 0) (U16 0) = w99 at *
                obtain ⟨⟨q0, q1, q2, q3, q4, q5, q6, q7, q8, q9, q10⟩, qf⟩ := cells11 k3_8
                refine bodyPost_ret (v := hV none) (by simp [results, Tryz.results9, go_sem, hV, q0, q1, q2, q3, q4, q5, q6, q7, q8, q9, q10]) rfl ?_
                exact ⟨rfl, by rw [HB.out]; exact kb_8⟩
              · by_cases h126 : 126 < c.toNat
                · obtain rfl : none = r := HHIT.out (by unfold Hostp.badS; rw [HBAD.out, decide_eq_true h126, Bool.or_true]; rfl)
                  obtain ⟨⟨c0, c1, c2, c3, c4, c5, c6, c7, c8, c9, c10⟩, hf⟩ := cells11 h2
                  go_wp2_with fail
                  have k3_9 := put11_heap h2 (.int .u8 0) (S []) (.int .u32 0) (U16 0) (U16 0) (U16 0) (U16 0) (U16 0) (U16 0) (U16 0) (U16 0)
                  have kb_9 := put11_below hbw2 (Nat.le_refl _) (.int .u8 0) (S []) (.int .u32 0) (U16 0) (U16 0) (U16 0) (U16 0) (U16 0) (U16 0) (U16 0) (U16 0)
                  change bodyPost _ _ _ _ _ (put11 wr B (.int .u8 0) (S []) (.int .u32 0) (U16 0) (U16 0) (U16 0) (U16 0) (U16 0) (U16 0) (U16 0) (U16 0))
                  generalize put11 wr B (.int .u8 0) (S []) (.int .u32 0) (U16 0) (U16 0) (U16 0) (U16 0) (U16 0) (U16 0) (U16 0) (U16 0) = w99 at *
                  obtain ⟨⟨q0, q1, q2, q3, q4, q5, q6, q7, q8, q9, q10⟩, qf⟩ := cells11 k3_9
                  refine bodyPost_ret (v := hV none) (by simp [results, Tryz.results9, go_sem, hV, q0, q1, q2, q3, q4, q5, q6, q7, q8, q9, q10]) rfl ?_
                  exact ⟨rfl, by rw [HB.out]; exact kb_9⟩
                · by_cases h37 : c = 37
                  · subst h37
                    obtain rfl : none = r := HHIT.out (by unfold Hostp.badS; rw [HBAD.out]; rfl)
                    obtain ⟨⟨c0, c1, c2, c3, c4, c5, c6, c7, c8, c9, c10⟩, hf⟩ := cells11 h2
                    go_wp2_with fail
                    have k3_10 := put11_heap h2 (.int .u8 0) (S []) (.int .u32 0) (U16 0) (U16 0) (U16 0) (U16 0) (U16 0) (U16 0) (U16 0) (U16 0)
                    have kb_10 := put11_below hbw2 (Nat.le_refl _) (.int .u8 0) (S []) (.int .u32 0) (U16 0) (U16 0) (U16 0) (U16 0) (U16 0) (U16 0) (U16 0) (U16 0)
                    change bodyPost _ _ _ _ _ (put11 wr B (.int .u8 0) (S []) (.int .u32 0) (U16 0) (U16 0) (U16 0) (U16 0) (U16 0) (U16 0) (U16 0) (U16 0))
                    generalize put11 wr B (.int .u8 0) (S []) (.int .u32 0) (U16 0) (U16 0) (U16 0) (U16 0) (U16 0) (U16 0) (U16 0) (U16 0) = w99 at *
                    obtain ⟨⟨q0, q1, q2, q3, q4, q5, q6, q7, q8, q9, q10⟩, qf⟩ := cells11 k3_10
                    refine bodyPost_ret (v := hV none) (by simp [results, Tryz.results9, go_sem, hV, q0, q1, q2, q3, q4, q5, q6, q7, q8, q9, q10]) rfl ?_
                    exact ⟨rfl, by rw [HB.out]; exact kb_10⟩
                  · have hm := HMISS.out (by unfold Hostp.badS; rw [HBAD.out, decide_eq_false h32, decide_eq_false h126, beq_eq_false_iff_ne.2 h37]; rfl)
                    have b1 : ((c.toNat : Int) == 37) = false := beq_eq_false_iff_ne.2 (fun h => h37 (UInt8.toNat_inj.1 (by show c.toNat = 37; omega)))
                    have b2 : ¬ (c.toNat : Int) = 37 := fun h => h37 (UInt8.toNat_inj.1 (by show c.toNat = 37; omega))
                    have HM := hide hm
                    clear hm h37
                    go_wp2_with fail
                    go_roundg (gk - 1)
                    case measure => omega
                    case rel => exact ⟨i + 1, by omega, by go_num, HM, rfl⟩
          · have e : i = t.length := by omega
            subst e
            have hp := HP.out
            rw [if_neg (by rw [Hostp.any_take_all (Hostp.badS true) t _ hno.out (Nat.le_refl _)]; decide)] at hp
            unfold Hostp.fin at hp
            clear hno
            rw [if_neg (show ¬ true = false by decide)] at hp
            cases t with
            | nil =>
              rw [if_pos rfl] at hp
              subst hp
              obtain ⟨⟨c0, c1, c2, c3, c4, c5, c6, c7, c8, c9, c10⟩, hf⟩ := cells11 h2
              go_wp2_with fail
              have k3_11 := put11_heap h2 (.int .u8 0) (S []) (.int .u32 0) (U16 0) (U16 0) (U16 0) (U16 0) (U16 0) (U16 0) (U16 0) (U16 0)
              have kb_11 := put11_below hbw2 (Nat.le_refl _) (.int .u8 0) (S []) (.int .u32 0) (U16 0) (U16 0) (U16 0) (U16 0) (U16 0) (U16 0) (U16 0) (U16 0)
              change bodyPost _ _ _ _ _ (put11 wr B (.int .u8 0) (S []) (.int .u32 0) (U16 0) (U16 0) (U16 0) (U16 0) (U16 0) (U16 0) (U16 0) (U16 0))
              generalize put11 wr B (.int .u8 0) (S []) (.int .u32 0) (U16 0) (U16 0) (U16 0) (U16 0) (U16 0) (U16 0) (U16 0) (U16 0) = w99 at *
              obtain ⟨⟨q0, q1, q2, q3, q4, q5, q6, q7, q8, q9, q10⟩, qf⟩ := cells11 k3_11
              refine bodyPost_ret (v := hV none) (by simp [results, Tryz.results9, go_sem, hV, q0, q1, q2, q3, q4, q5, q6, q7, q8, q9, q10]) rfl ?_
              exact ⟨rfl, by rw [HB.out]; exact kb_11⟩
            | cons t0 t1 =>
              rw [if_neg (by simp)] at hp
              obtain ⟨x, hx⟩ : ∃ x, Hostp.lower (t0 :: t1) = x := ⟨_, rfl⟩
              have hxl : x.length ≤ 1048576 := by rw [← hx, Hostp.lower_len]; exact htl
              rw [hx] at hp
              have HX := hide hx
              obtain ⟨bn, hbn⟩ : ∃ b, Hostp.numericP x = b := ⟨_, rfl⟩
              rw [hbn] at hp
              have HBN := hide hbn
              clear hx hbn
              go_wp2_with fail
              refine (rLower (t0 :: t1) x _ (Nat.le_trans htl (by decide)) HX).mono ?_
              rintro e w5 ⟨rfl, hb5⟩
              have h5 := (hb5.block B (heap_lt h2)).trans h2
              have hbw5 : Below B w w5 := hbw2.trans (hb5.mono (Nat.le_of_lt (heap_lt h2)))
              clear hb5
              go_wp2_with fail
              refine (rNumeric x bn _ (by omega) HBN).mono ?_
              rintro e w6 ⟨rfl, hb6⟩
              have h6 := (hb6.block B (heap_lt h5)).trans h5
              have hbw6 : Below B w w6 := hbw5.trans (hb6.mono (Nat.le_of_lt (heap_lt h5)))
              clear hb6 h5 hbw5
              cases bn with
              | false =>
                rw [if_pos rfl] at hp
                subst hp
                obtain ⟨⟨c0, c1, c2, c3, c4, c5, c6, c7, c8, c9, c10⟩, hf⟩ := cells11 h6
                go_wp2_with fail
                have k3_12 := put11_heap h6 (.int .u8 1) (S x) (.int .u32 0) (U16 0) (U16 0) (U16 0) (U16 0) (U16 0) (U16 0) (U16 0) (U16 0)
                have kb_12 := put11_below hbw6 (Nat.le_refl _) (.int .u8 1) (S x) (.int .u32 0) (U16 0) (U16 0) (U16 0) (U16 0) (U16 0) (U16 0) (U16 0) (U16 0)
                change bodyPost _ _ _ _ _ (put11 w6 B (.int .u8 1) (S x) (.int .u32 0) (U16 0) (U16 0) (U16 0) (U16 0) (U16 0) (U16 0) (U16 0) (U16 0))
                generalize put11 w6 B (.int .u8 1) (S x) (.int .u32 0) (U16 0) (U16 0) (U16 0) (U16 0) (U16 0) (U16 0) (U16 0) (U16 0) = w99 at *
                obtain ⟨⟨q0, q1, q2, q3, q4, q5, q6, q7, q8, q9, q10⟩, qf⟩ := cells11 k3_12
                refine bodyPost_ret (v := hV (some (.domain x))) (by simp [results, Tryz.results9, go_sem, hV, q0, q1, q2, q3, q4, q5, q6, q7, q8, q9, q10]) rfl ?_
                exact ⟨rfl, by rw [HB.out]; exact kb_12⟩
              | true =>
                rw [if_neg (by decide)] at hp
                obtain ⟨n, hn⟩ : ∃ n, Hostp.v4 x = n := ⟨_, rfl⟩
                rw [hn] at hp
                have HN := hide hn
                clear hn
                go_wp2_with fail
                refine (rV4 x n _ (by omega) HN).mono ?_
                rintro e w7 ⟨rfl, hb7⟩
                have h7 := (hb7.block B (heap_lt h6)).trans h6
                have hbw7 : Below B w w7 := hbw6.trans (hb7.mono (Nat.le_of_lt (heap_lt h6)))
                clear hb7 h6 hbw6
                obtain ⟨⟨c0, c1, c2, c3, c4, c5, c6, c7, c8, c9, c10⟩, hf⟩ := cells11 h7
                cases n with
                | none =>
                  rw [Option.map_none] at hp
                  subst hp
                  unfold v4V
                  go_wp2_with fail
                  have k3_13 := put11_heap h7 (.int .u8 0) (S []) (.int .u32 0) (U16 0) (U16 0) (U16 0) (U16 0) (U16 0) (U16 0) (U16 0) (U16 0)
                  have kb_13 := put11_below hbw7 (Nat.le_refl _) (.int .u8 0) (S []) (.int .u32 0) (U16 0) (U16 0) (U16 0) (U16 0) (U16 0) (U16 0) (U16 0) (U16 0)
                  change bodyPost _ _ _ _ _ (put11 w7 B (.int .u8 0) (S []) (.int .u32 0) (U16 0) (U16 0) (U16 0) (U16 0) (U16 0) (U16 0) (U16 0) (U16 0))
                  generalize put11 w7 B (.int .u8 0) (S []) (.int .u32 0) (U16 0) (U16 0) (U16 0) (U16 0) (U16 0) (U16 0) (U16 0) (U16 0) = w99 at *
                  obtain ⟨⟨q0, q1, q2, q3, q4, q5, q6, q7, q8, q9, q10⟩, qf⟩ := cells11 k3_13
                  refine bodyPost_ret (v := hV none) (by simp [results, Tryz.results9, go_sem, hV, q0, q1, q2, q3, q4, q5, q6, q7, q8, q9, q10]) rfl ?_
                  exact ⟨rfl, by rw [HB.out]; exact kb_13⟩
                | some m =>
                  rw [Option.map_some] at hp
                  subst hp
                  unfold v4V
                  go_wp2_with fail
                  have k3_14 := put11_heap h7 (.int .u8 3) (S []) (.int .u32 m) (U16 0) (U16 0) (U16 0) (U16 0) (U16 0) (U16 0) (U16 0) (U16 0)
                  have kb_14 := put11_below hbw7 (Nat.le_refl _) (.int .u8 3) (S []) (.int .u32 m) (U16 0) (U16 0) (U16 0) (U16 0) (U16 0) (U16 0) (U16 0) (U16 0)
                  change bodyPost _ _ _ _ _ (put11 w7 B (.int .u8 3) (S []) (.int .u32 m) (U16 0) (U16 0) (U16 0) (U16 0) (U16 0) (U16 0) (U16 0) (U16 0))
                  generalize put11 w7 B (.int .u8 3) (S []) (.int .u32 m) (U16 0) (U16 0) (U16 0) (U16 0) (U16 0) (U16 0) (U16 0) (U16 0) = w99 at *
                  obtain ⟨⟨q0, q1, q2, q3, q4, q5, q6, q7, q8, q9, q10⟩, qf⟩ := cells11 k3_14
                  refine bodyPost_ret (v := hV (some (.four m))) (by simp [results, Tryz.results9, go_sem, hV, q0, q1, q2, q3, q4, q5, q6, q7, q8, q9, q10]) rfl ?_
                  exact ⟨rfl, by rw [HB.out]; exact kb_14⟩
      · have hlt0 : 0 < s.length := by rw [hs0]; simp
        have h0 : s[0]'hlt0 = c0 := by simp [hs0]
        have hsl1 : (0 : Int) < (s.length : Int) := by omega
        clear hs0
        go_enter Tryz.func9, Tryz.ntmps9
        go_wp2_with fail
        rw [← HW1.out, HB.out]
        clear hc0 hc1 h0 hsl1
        refine (rDecode s t _ hl hst).mono ?_
        rintro e w2 ⟨rfl, hb2⟩
        have h2 := (hb2.block B hsz).trans hw1B
        have hbw2 : Below B w w2 := hbw1.trans (hb2.mono (by omega))
        clear hb2 hw1B hbw1
        go_wp2_with fail
        go_loopg [8] t.length (fun g s8 wx => ∃ (i : Nat), i + g = t.length ∧ s8 = .int .i64 i ∧ Hid (∀ x ∈ t.take i, Hostp.badS true x = false) ∧ wx = w2)
        case atStart => exact ⟨0, by omega, rfl, by unfold Hid; simp, rfl⟩
        case round =>
          obtain ⟨i, hi, rfl, hno, rfl⟩ := hrel
          by_cases hlt : i < t.length
          · obtain ⟨c, hc⟩ : ∃ c, t[i] = c := ⟨_, rfl⟩
            have hhit : Hostp.badS true c = true → none = r := fun h => by
              have hp := HP.out
              rw [if_pos (Hostp.any_hit (Hostp.badS true) t i hlt (by rw [hc]; exact h))] at hp
              exact hp
            have hmiss : Hostp.badS true c = false → ∀ x ∈ t.take (i + 1), Hostp.badS true x = false := fun h => Hostp.take_all_succ _ t i hlt hno.out (by rw [hc]; exact h)
            have HHIT := hide hhit
            have HMISS := hide hmiss
            have hcb := u8_lt c
            obtain ⟨b, hb⟩ : ∃ b, Hostp.bad c = b := ⟨_, rfl⟩
            have HBAD := hide hb
            clear hhit hmiss hb
            go_wp2_with fail
            refine (rForbidden c _).mono ?_
            rintro e w2 ⟨rfl, rfl⟩
            rw [HBAD.out]
            cases b with
            | true =>
              obtain rfl : none = r := HHIT.out (by unfold Hostp.badS; rw [HBAD.out]; rfl)
              obtain ⟨⟨c0, c1, c2, c3, c4, c5, c6, c7, c8, c9, c10⟩, hf⟩ := cells11 h2
              go_wp2_with fail
              have k3_15 := put11_heap h2 (.int .u8 0) (S []) (.int .u32 0) (U16 0) (U16 0) (U16 0) (U16 0) (U16 0) (U16 0) (U16 0) (U16 0)
              have kb_15 := put11_below hbw2 (Nat.le_refl _) (.int .u8 0) (S []) (.int .u32 0) (U16 0) (U16 0) (U16 0) (U16 0) (U16 0) (U16 0) (U16 0) (U16 0)
              change bodyPost _ _ _ _ _ (put11 wr B (.int .u8 0) (S []) (.int .u32 0) (U16 0) (U16 0) (U16 0) (U16 0) (U16 0) (U16 0) (U16 0) (U16 0))
              generalize put11 wr B (.int .u8 0) (S []) (.int .u32 0) (U16 0) (U16 0) (U16 0) (U16 0) (U16 0) (U16 0) (U16 0) (U16 0) = w99 at *
              obtain ⟨⟨q0, q1, q2, q3, q4, q5, q6, q7, q8, q9, q10⟩, qf⟩ := cells11 k3_15
              refine bodyPost_ret (v := hV none) (by simp [results, Tryz.results9, go_sem, hV, q0, q1, q2, q3, q4, q5, q6, q7, q8, q9, q10]) rfl ?_
              exact ⟨rfl, by rw [HB.out]; exact kb_15⟩
            | false =>
              by_cases h32 : c.toNat < 32
              · obtain rfl : none = r := HHIT.out (by unfold Hostp.badS; rw [HBAD.out, decide_eq_true h32]; rfl)
                obtain ⟨⟨c0, c1, c2, c3, c4, c5, c6, c7, c8, c9, c10⟩, hf⟩ := cells11 h2
                go_wp2_with fail
                have k3_16 := put11_heap h2 (.int .u8 0) (S []) (.int .u32 0) (U16 0) (U16 0) (U16 0) (U16 0) (U16 0) (U16 0) (U16 0) (U16 0)
                have kb_16 := put11_below hbw2 (Nat.le_refl _) (.int .u8 0) (S []) (.int .u32 0) (U16 0) (U16 0) (U16 0) (U16 0) (U16 0) (U16 0) (U16 0) (U16 0)
                change bodyPost _ _ _ _ _ (put11 wr B (.int .u8 0) (S []) (.int .u32 0) (U16 0) (U16 0) (U16 0) (U16 0) (U16 0) (U16 0) (U16 0) (U16 0))
                generalize put11 wr B (.int .u8 0) (S []) (.int .u32 0) (U16 0) (U16 0) (U16 0) (U16 0) (U16 0) (U16 0) (U16 0) (U16 0) = w99 at *
                obtain ⟨⟨q0, q1, q2, q3, q4, q5, q6, q7, q8, q9, q10⟩, qf⟩ := cells11 k3_16
                refine bodyPost_ret (v := hV none) (by simp [results, Tryz.results9, go_sem, hV, q0, q1, q2, q3, q4, q5, q6, q7, q8, q9, q10]) rfl ?_
                exact ⟨rfl, by rw [HB.out]; exact kb_16⟩
              · by_cases h126 : 126 < c.toNat
                · obtain rfl : none = r := HHIT.out (by unfold Hostp.badS; rw [HBAD.out, decide_eq_true h126, Bool.or_true]; rfl)
                  obtain ⟨⟨c0, c1, c2, c3, c4, c5, c6, c7, c8, c9, c10⟩, hf⟩ := cells11 h2
                  go_wp2_with fail
                  have k3_17 := put11_heap h2 (.int .u8 0) (S []) (.int .u32 0) (U16 0) (U16 0) (U16 0) (U16 0) (U16 0) (U16 0) (U16 0) (U16 0)
                  have kb_17 := put11_below hbw2 (Nat.le_refl _) (.int .u8 0) (S []) (.int .u32 0) (U16 0) (U16 0) (U16 0) (U16 0) (U16 0) (U16 0) (U16 0) (U16 0)
                  change bodyPost _ _ _ _ _ (put11 wr B (.int .u8 0) (S []) (.int .u32 0) (U16 0) (U16 0) (U16 0) (U16 0) (U16 0) (U16 0) (U16 0) (U16 0))
                  generalize put11 wr B (.int .u8 0) (S []) (.int .u32 0) (U16 0) (U16 0) (U16 0) (U16 0) (U16 0) (U16 0) (U16 0) (U16 0) = w99 at *
                  obtain ⟨⟨q0, q1, q2, q3, q4, q5, q6, q7, q8, q9, q10⟩, qf⟩ := cells11 k3_17
                  refine bodyPost_ret (v := hV none) (by simp [results, Tryz.results9, go_sem, hV, q0, q1, q2, q3, q4, q5, q6, q7, q8, q9, q10]) rfl ?_
                  exact ⟨rfl, by rw [HB.out]; exact kb_17⟩
                · by_cases h37 : c = 37
                  · subst h37
                    obtain rfl : none = r := HHIT.out (by unfold Hostp.badS; rw [HBAD.out]; rfl)
                    obtain ⟨⟨c0, c1, c2, c3, c4, c5, c6, c7, c8, c9, c10⟩, hf⟩ := cells11 h2
                    go_wp2_with fail
                    have k3_18 := put11_heap h2 (.int .u8 0) (S []) (.int .u32 0) (U16 0) (U16 0) (U16 0) (U16 0) (U16 0) (U16 0) (U16 0) (U16 0)
                    have kb_18 := put11_below hbw2 (Nat.le_refl _) (.int .u8 0) (S []) (.int .u32 0) (U16 0) (U16 0) (U16 0) (U16 0) (U16 0) (U16 0) (U16 0) (U16 0)
                    change bodyPost _ _ _ _ _ (put11 wr B (.int .u8 0) (S []) (.int .u32 0) (U16 0) (U16 0) (U16 0) (U16 0) (U16 0) (U16 0) (U16 0) (U16 0))
                    generalize put11 wr B (.int .u8 0) (S []) (.int .u32 0) (U16 0) (U16 0) (U16 0) (U16 0) (U16 0) (U16 0) (U16 0) (U16 0) = w99 at *
                    obtain ⟨⟨q0, q1, q2, q3, q4, q5, q6, q7, q8, q9, q10⟩, qf⟩ := cells11 k3_18
                    refine bodyPost_ret (v := hV none) (by simp [results, Tryz.results9, go_sem, hV, q0, q1, q2, q3, q4, q5, q6, q7, q8, q9, q10]) rfl ?_
                    exact ⟨rfl, by rw [HB.out]; exact kb_18⟩
                  · have hm := HMISS.out (by unfold Hostp.badS; rw [HBAD.out, decide_eq_false h32, decide_eq_false h126, beq_eq_false_iff_ne.2 h37]; rfl)
                    have b1 : ((c.toNat : Int) == 37) = false := beq_eq_false_iff_ne.2 (fun h => h37 (UInt8.toNat_inj.1 (by show c.toNat = 37; omega)))
                    have b2 : ¬ (c.toNat : Int) = 37 := fun h => h37 (UInt8.toNat_inj.1 (by show c.toNat = 37; omega))
                    have HM := hide hm
                    clear hm h37
                    go_wp2_with fail
                    go_roundg (gk - 1)
                    case measure => omega
                    case rel => exact ⟨i + 1, by omega, by go_num, HM, rfl⟩
          · have e : i = t.length := by omega
            subst e
            have hp := HP.out
            rw [if_neg (by rw [Hostp.any_take_all (Hostp.badS true) t _ hno.out (Nat.le_refl _)]; decide)] at hp
            unfold Hostp.fin at hp
            clear hno
            rw [if_neg (show ¬ true = false by decide)] at hp
            cases t with
            | nil =>
              rw [if_pos rfl] at hp
              subst hp
              obtain ⟨⟨c0, c1, c2, c3, c4, c5, c6, c7, c8, c9, c10⟩, hf⟩ := cells11 h2
              go_wp2_with fail
              have k3_19 := put11_heap h2 (.int .u8 0) (S []) (.int .u32 0) (U16 0) (U16 0) (U16 0) (U16 0) (U16 0) (U16 0) (U16 0) (U16 0)
              have kb_19 := put11_below hbw2 (Nat.le_refl _) (.int .u8 0) (S []) (.int .u32 0) (U16 0) (U16 0) (U16 0) (U16 0) (U16 0) (U16 0) (U16 0) (U16 0)
              change bodyPost _ _ _ _ _ (put11 wr B (.int .u8 0) (S []) (.int .u32 0) (U16 0) (U16 0) (U16 0) (U16 0) (U16 0) (U16 0) (U16 0) (U16 0))
              generalize put11 wr B (.int .u8 0) (S []) (.int .u32 0) (U16 0) (U16 0) (U16 0) (U16 0) (U16 0) (U16 0) (U16 0) (U16 0) = w99 at *
              obtain ⟨⟨q0, q1, q2, q3, q4, q5, q6, q7, q8, q9, q10⟩, qf⟩ := cells11 k3_19
              refine bodyPost_ret (v := hV none) (by simp [results, Tryz.results9, go_sem, hV, q0, q1, q2, q3, q4, q5, q6, q7, q8, q9, q10]) rfl ?_
              exact ⟨rfl, by rw [HB.out]; exact kb_19⟩
            | cons t0 t1 =>
              rw [if_neg (by simp)] at hp
              obtain ⟨x, hx⟩ : ∃ x, Hostp.lower (t0 :: t1) = x := ⟨_, rfl⟩
              have hxl : x.length ≤ 1048576 := by rw [← hx, Hostp.lower_len]; exact htl
              rw [hx] at hp
              have HX := hide hx
              obtain ⟨bn, hbn⟩ : ∃ b, Hostp.numericP x = b := ⟨_, rfl⟩
              rw [hbn] at hp
              have HBN := hide hbn
              clear hx hbn
              go_wp2_with fail
              refine (rLower (t0 :: t1) x _ (Nat.le_trans htl (by decide)) HX).mono ?_
              rintro e w5 ⟨rfl, hb5⟩
              have h5 := (hb5.block B (heap_lt h2)).trans h2
              have hbw5 : Below B w w5 := hbw2.trans (hb5.mono (Nat.le_of_lt (heap_lt h2)))
              clear hb5
              go_wp2_with fail
              refine (rNumeric x bn _ (by omega) HBN).mono ?_
              rintro e w6 ⟨rfl, hb6⟩
              have h6 := (hb6.block B (heap_lt h5)).trans h5
              have hbw6 : Below B w w6 := hbw5.trans (hb6.mono (Nat.le_of_lt (heap_lt h5)))
              clear hb6 h5 hbw5
              cases bn with
              | false =>
                rw [if_pos rfl] at hp
                subst hp
                obtain ⟨⟨c0, c1, c2, c3, c4, c5, c6, c7, c8, c9, c10⟩, hf⟩ := cells11 h6
                go_wp2_with fail
                have k3_20 := put11_heap h6 (.int .u8 1) (S x) (.int .u32 0) (U16 0) (U16 0) (U16 0) (U16 0) (U16 0) (U16 0) (U16 0) (U16 0)
                have kb_20 := put11_below hbw6 (Nat.le_refl _) (.int .u8 1) (S x) (.int .u32 0) (U16 0) (U16 0) (U16 0) (U16 0) (U16 0) (U16 0) (U16 0) (U16 0)
                change bodyPost _ _ _ _ _ (put11 w6 B (.int .u8 1) (S x) (.int .u32 0) (U16 0) (U16 0) (U16 0) (U16 0) (U16 0) (U16 0) (U16 0) (U16 0))
                generalize put11 w6 B (.int .u8 1) (S x) (.int .u32 0) (U16 0) (U16 0) (U16 0) (U16 0) (U16 0) (U16 0) (U16 0) (U16 0) = w99 at *
                obtain ⟨⟨q0, q1, q2, q3, q4, q5, q6, q7, q8, q9, q10⟩, qf⟩ := cells11 k3_20
                refine bodyPost_ret (v := hV (some (.domain x))) (by simp [results, Tryz.results9, go_sem, hV, q0, q1, q2, q3, q4, q5, q6, q7, q8, q9, q10]) rfl ?_
                exact ⟨rfl, by rw [HB.out]; exact kb_20⟩
              | true =>
                rw [if_neg (by decide)] at hp
                obtain ⟨n, hn⟩ : ∃ n, Hostp.v4 x = n := ⟨_, rfl⟩
                rw [hn] at hp
                have HN := hide hn
                clear hn
                go_wp2_with fail
                refine (rV4 x n _ (by omega) HN).mono ?_
                rintro e w7 ⟨rfl, hb7⟩
                have h7 := (hb7.block B (heap_lt h6)).trans h6
                have hbw7 : Below B w w7 := hbw6.trans (hb7.mono (Nat.le_of_lt (heap_lt h6)))
                clear hb7 h6 hbw6
                obtain ⟨⟨c0, c1, c2, c3, c4, c5, c6, c7, c8, c9, c10⟩, hf⟩ := cells11 h7
                cases n with
                | none =>
                  rw [Option.map_none] at hp
                  subst hp
                  unfold v4V
                  go_wp2_with fail
                  have k3_21 := put11_heap h7 (.int .u8 0) (S []) (.int .u32 0) (U16 0) (U16 0) (U16 0) (U16 0) (U16 0) (U16 0) (U16 0) (U16 0)
                  have kb_21 := put11_below hbw7 (Nat.le_refl _) (.int .u8 0) (S []) (.int .u32 0) (U16 0) (U16 0) (U16 0) (U16 0) (U16 0) (U16 0) (U16 0) (U16 0)
                  change bodyPost _ _ _ _ _ (put11 w7 B (.int .u8 0) (S []) (.int .u32 0) (U16 0) (U16 0) (U16 0) (U16 0) (U16 0) (U16 0) (U16 0) (U16 0))
                  generalize put11 w7 B (.int .u8 0) (S []) (.int .u32 0) (U16 0) (U16 0) (U16 0) (U16 0) (U16 0) (U16 0) (U16 0) (U16 0) = w99 at *
                  obtain ⟨⟨q0, q1, q2, q3, q4, q5, q6, q7, q8, q9, q10⟩, qf⟩ := cells11 k3_21
                  refine bodyPost_ret (v := hV none) (by simp [results, Tryz.results9, go_sem, hV, q0, q1, q2, q3, q4, q5, q6, q7, q8, q9, q10]) rfl ?_
                  exact ⟨rfl, by rw [HB.out]; exact kb_21⟩
                | some m =>
                  rw [Option.map_some] at hp
                  subst hp
                  unfold v4V
                  go_wp2_with fail
                  have k3_22 := put11_heap h7 (.int .u8 3) (S []) (.int .u32 m) (U16 0) (U16 0) (U16 0) (U16 0) (U16 0) (U16 0) (U16 0) (U16 0)
                  have kb_22 := put11_below hbw7 (Nat.le_refl _) (.int .u8 3) (S []) (.int .u32 m) (U16 0) (U16 0) (U16 0) (U16 0) (U16 0) (U16 0) (U16 0) (U16 0)
                  change bodyPost _ _ _ _ _ (put11 w7 B (.int .u8 3) (S []) (.int .u32 m) (U16 0) (U16 0) (U16 0) (U16 0) (U16 0) (U16 0) (U16 0) (U16 0))
                  generalize put11 w7 B (.int .u8 3) (S []) (.int .u32 m) (U16 0) (U16 0) (U16 0) (U16 0) (U16 0) (U16 0) (U16 0) (U16 0) = w99 at *
                  obtain ⟨⟨q0, q1, q2, q3, q4, q5, q6, q7, q8, q9, q10⟩, qf⟩ := cells11 k3_22
                  refine bodyPost_ret (v := hV (some (.four m))) (by simp [results, Tryz.results9, go_sem, hV, q0, q1, q2, q3, q4, q5, q6, q7, q8, q9, q10]) rfl ?_
                  exact ⟨rfl, by rw [HB.out]; exact kb_22⟩
end Go.Proofs.YtahjndignkhmoaaGreatDoor
