/- A replacer writes a text into a slice of bytes. -/
import Derived.Test.YtojgcangnkjmjaaGreatDoorRw
import Derived.Deep.RegionHeld3
import Derived.OwnWalk
import Derived.Lib.BufferRead
import Derived.Deep.WholeRow
namespace Go.Proofs.YtojgcangnkjmjaaGreatDoor
open Go.RowKit

abbrev SWv (A : Nat) : Value := .iface 236 (.pointer (some ⟨A, 0, none⟩))
set_option maxRecDepth 100000 in
theorem getSW (A : Nat) (w : World) : Calls Tryz.prog 211 #[SWv A] w (Ret (SWv A) w) := by
  have hta : ∀ W : World, Sem.run Tryz.prog (Instr.typeAssert (SWv A) 238 240 true) W = .ok (.tuple #[SWv A, .bool true]) W := fun W => by kernel_rfl
  go_enter Tryz.func211, Tryz.ntmps211
  go_wp2
  go_ret
  exact Ret.of rfl

theorem owns_below {w w' : World} {B : Nat} {e : TypeId} {size : Nat} {v : Value} {n : Nat} {xs : List Value} (h : w.ownsRow B e size v n xs) (hb : Below w.heap.size w w') : w'.ownsRow B e size v n xs := by
  rcases h.2 with ⟨hv, h0⟩ | ⟨g, cap, cur, hv, hg, hgg, hr⟩
  · exact ⟨h.1, .inl ⟨hv, h0⟩⟩
  · exact ⟨h.1, .inr ⟨g, cap, cur, hv, hg, (hb.block g (heap_lt hgg)).trans hgg, hr⟩⟩
theorem SW.below {K A : Nat} {acc : List UInt8} {w w' : World} (h : SW K A acc w) (hb : Below w.heap.size w w') : SW K A acc w' := by
  obtain ⟨v, hA, hKA, hown⟩ := h
  exact ⟨v, (hb.block A (heap_lt hA)).trans hA, hKA, owns_below hown hb⟩

set_option maxHeartbeats 4000000 in
set_option maxRecDepth 100000 in
theorem genWrite (R A K : Nat) (look : UInt8 → Option Rp.Nd) (s u : List UInt8) (w : World) (hg : Gen w R look) (hp : Hid (∀ c nd, look c = some nd → 0 ≤ nd.p1 ∧ ∀ d p2 v2, nd.nx = some (d, p2, v2) → 0 < p2)) (hl : s.length ≤ 1048576) (hul : u.length ≤ 140737488355328) (hu : Hid (Rp.repl look 0 s = u)) (hK : Hid (w.heap.size = K)) (w0 : World) (hw0 : Below K w w0) (hsw : SW K A [] w0) :
    Calls Tryz.prog 210 #[.pointer (some ⟨R, 0, none⟩), SWv A, S s] w0 fun e w' => (∃ n : Nat, e = .returned (.tuple #[.int .i64 n, .nilIface])) ∧ SW K A u w' ∧ Below K w w' := by
  go_enter Tryz.func210, Tryz.ntmps210
  go_wp2_with fail
  refine (getSW A _).mono ?_
  rintro e w2 ⟨rfl, rfl⟩
  go_wp2_with fail
  go_loopg [6, 7, 9, 11, 12] (s.length + 1) (fun g s6 s7 s9 s11 s12 wx => ∃ (i last : Nat) (acc : List UInt8), i + g = s.length + 1 ∧ s12 = .int .i64 i ∧ s9 = .int .i64 last ∧ s6 = .int .i64 acc.length ∧ s7 = .nilIface ∧ s11 = .bool false ∧ SW K A acc wx ∧ Below K w wx ∧ Hid ((i ≤ s.length ∧ last ≤ i ∧ acc ++ ((s.drop last).take (i - last) ++ Rp.repl look 0 (s.drop i)) = u) ∨ (i = s.length + 1 ∧ last ≤ s.length ∧ acc ++ s.drop last = u)))
  case atStart => exact ⟨0, 0, [], by omega, rfl, rfl, rfl, rfl, rfl, hsw, hw0, .inl ⟨Nat.zero_le _, Nat.le_refl _, by simpa using hu.out⟩⟩
  case round =>
    obtain ⟨i, last, acc, hi, rfl, rfl, rfl, rfl, rfl, hSW, hB, hd⟩ := hrel
    have hgx := hg.below (by rw [hK.out]; exact hB)
    have hsz : K ≤ wr.heap.size := by have := hB.size; rw [hK.out] at this; exact this
    clear hsw hw0
    rcases hd.out with ⟨hle, hla, hacc⟩ | ⟨rfl, hla, hacc⟩
    · have haccl : acc.length ≤ 140737488355328 := by rw [← hacc, List.length_append] at hul; omega
      by_cases hlt : i < s.length
      · obtain ⟨c, hc⟩ : ∃ c, s[i] = c := ⟨_, rfl⟩
        have hcons : s.drop i = c :: s.drop (i + 1) := by rw [List.drop_eq_getElem_cons hlt, hc]
        have hgy := hgx
        obtain ⟨T, k, f, hk, g1, g4, g5, gf, gl⟩ := hgy
        obtain ⟨hcf, hck⟩ := gf c
        have hlc := gl c
        obtain ⟨ix, hix⟩ : ∃ x, f c = x := ⟨_, rfl⟩
        rw [hix] at hcf hck hlc
        have hcb := u8_lt c
        have bi0 : (0 : Int) ≤ (i : Int) := by omega
        have bi1 : (i : Int) < (s.length : Int) := by omega
        have bc0 : (0 : Int) ≤ (c.toNat : Int) := by omega
        clear gf gl hix
        cases e : look c with
        | none =>
          have hstep : acc ++ ((s.drop last).take (i + 1 - last) ++ Rp.repl look 0 (s.drop (i + 1))) = u := by
            rw [← hacc, hcons, Rp.repl_miss (by rw [Rp.lk, e])]
            have h1 : (s.drop last).take (i + 1 - last) = (s.drop last).take (i - last) ++ [c] := by
              rw [show i + 1 - last = (i - last) + 1 by omega, List.take_succ_eq_append_getElem (by rw [List.length_drop]; omega), List.getElem_drop]
              congr 2
              rw [← hc]
              congr 1
              omega
            rw [h1]; simp
          have HS := hide hstep
          rw [e] at hlc
          clear hstep hacc hd e hcons
          rcases hlc with rfl | ⟨hlt2, hn⟩
          · go_wp2_with fail
            go_quiet (fail)
            go_wp2_with fail
            go_roundg (gk - 1)
            case measure => omega
            case rel => exact ⟨i + 1, last, acc, by omega, by go_num, rfl, rfl, rfl, rfl, hSW.below (belowN _ _), hB.trans ((belowN wr nq).mono hsz), .inl ⟨by omega, by omega, HS.out⟩⟩
          · have b1 : ((ix : Int) == (k : Int)) = false := beq_eq_false_iff_ne.2 (by omega)
            go_wp2_with fail
            go_quiet (fail)
            go_wp2_with fail
            go_roundg (gk - 1)
            case measure => omega
            case rel => exact ⟨i + 1, last, acc, by omega, by go_num, rfl, rfl, rfl, rfl, hSW.below (belowN _ _), hB.trans ((belowN wr nq).mono hsz), .inl ⟨by omega, by omega, HS.out⟩⟩
        | some nd =>
          rw [e] at hlc
          obtain ⟨hlt2, N, hn, hNd⟩ := hlc
          have b1 : ((ix : Int) == (k : Int)) = false := beq_eq_false_iff_ne.2 (by omega)
          obtain ⟨x, hx⟩ : ∃ x, Rp.lk look (s.drop i) = x := ⟨_, rfl⟩
          have HX := hide hx
          have hdl : (s.drop i).length ≤ 9223372036854775807 := by rw [List.length_drop]; omega
          have HACC := hide hacc
          have HCONS := hide hcons
          clear hx hd e hacc hcons
          go_wp2_with fail
          go_quiet (fail)
          go_wp2_with fail
          refine (rLookup R look (s.drop i) x _ (hgx.below (belowN _ _)) hp hdl HX).mono ?_
          rintro e w2 ⟨rfl, hb2⟩
          have hbw2 : Below wr.heap.size wr w2 := (belowN wr nq).trans hb2
          have hSW2 := hSW.below hbw2
          have hB2 : Below K w w2 := hB.trans (hbw2.mono hsz)
          have hsz2 : K ≤ w2.heap.size := by have := hB2.size; rw [hK.out] at this; exact this
          clear hb2 hcf g1 g4 g5 hn hNd hgx
          cases x with
          | none =>
            have hstep : acc ++ ((s.drop last).take (i + 1 - last) ++ Rp.repl look 0 (s.drop (i + 1))) = u := by
              rw [← HACC.out, HCONS.out, Rp.repl_miss (by rw [← HCONS.out]; exact HX.out)]
              have h1 : (s.drop last).take (i + 1 - last) = (s.drop last).take (i - last) ++ [c] := by
                rw [show i + 1 - last = (i - last) + 1 by omega, List.take_succ_eq_append_getElem (by rw [List.length_drop]; omega), List.getElem_drop]
                congr 2
                rw [← hc]
                congr 1
                omega
              rw [h1]; simp
            have HS := hide hstep
            clear hstep
            unfold lkV
            go_wp2_with fail
            go_roundg (gk - 1)
            case measure => omega
            case rel => exact ⟨i + 1, last, acc, by omega, by go_num, rfl, rfl, rfl, rfl, hSW2, hB2, .inl ⟨by omega, by omega, HS.out⟩⟩
          | some z =>
            obtain ⟨v, n⟩ := z
            obtain ⟨hn1, hn2⟩ := Rp.lk_len HX.out
            rw [List.length_drop] at hn2
            have hrest := HACC.out
            rw [Rp.repl_hit HX.out, List.drop_drop] at hrest
            obtain ⟨mid, hmid⟩ : ∃ m, (s.drop last).take (i - last) = m := ⟨_, rfl⟩
            rw [hmid] at hrest
            have hlen1 := congrArg List.length hrest
            simp only [List.length_append] at hlen1
            have HR := hide hrest
            have HMID := hide hmid
            have hmf : ∀ (fn : Fn) (first cap : Array Value) (w : World), (Instr.makeFunc fn first cap).run Tryz.prog w = .ok (.func fn first cap) w := fun _ _ _ _ => rfl
            have hna : ∀ W : World, Sem.run Tryz.prog (nilAhead 347 236 (.pointer (some ⟨A, 0, none⟩)) "WriteString") W = .ok (some false) W := fun W => by kernel_rfl
            have hme : ∀ W : World, Sem.run Tryz.prog (method 347 236 (.pointer (some ⟨A, 0, none⟩)) "WriteString") W = .ok (226, .pointer (some ⟨A, 0, none⟩)) W := fun W => by kernel_rfl
            have nb : ((n : Int) == 0) = false := beq_eq_false_iff_ne.2 (by omega)
            have bl1 : (last : Int) ≤ (i : Int) := by omega
            have bl0 : (0 : Int) ≤ (last : Int) := by omega
            have bl2 : (i : Int) ≤ (s.length : Int) := by omega
            clear hrest hmid hc bi0 bi1 bc0 hcb b1
            unfold lkV
            go_wp2_with fail
            go_region_held3 (fun _ => True) (trivial) ((go_at_call 226; refine (swWrite K A acc (List.take (i - last) (List.drop last s)) _ (hSW2.below (Below.refl _ _).drew) (by rw [HMID.out]; omega)).mono ?_; rintro e w3 ⟨rfl, hSW3, hB3⟩; rw [HMID.out] at hSW3 ⊢))
            all_goals
              have hB3' : Below K w w3 := hB2.trans (((Below.refl K w2).drew).trans hB3)
              clear hmf
              go_wp2_with fail
              refine (swWrite K A (acc ++ mid) v _ hSW3 (by rw [List.length_append]; omega)).mono ?_
              rintro e w4 ⟨rfl, hSW4, hB4⟩
              go_wp2_with fail
              go_roundg (gk - n)
              (case measure => omega)
              (case rel => exact ⟨i + n, i + n, acc ++ mid ++ v, by omega, by go_num, by go_num, by simp only [List.length_append]; go_num, rfl, rfl, hSW4, hB3'.trans hB4, .inl ⟨by omega, Nat.le_refl _, by rw [Nat.sub_self, List.take_zero, List.nil_append, List.append_assoc, List.append_assoc]; exact HR.out⟩⟩)
      · have hie : i = s.length := by omega
        subst hie
        have hstep : acc ++ s.drop last = u := by
          rw [← hacc, List.drop_length, Rp.repl, List.append_nil, List.take_of_length_le (by rw [List.length_drop]; exact Nat.le_refl _)]
        have HS := hide hstep
        clear hd hacc hstep
        go_wp2_with fail
        refine (rLookup R look [] none _ hgx hp (by simp) rfl).mono ?_
        rintro e w2 ⟨rfl, hb2⟩
        have hSW2 := hSW.below hb2
        have hB2 : Below K w w2 := hB.trans (hb2.mono hsz)
        clear hgx hb2
        unfold lkV
        go_wp2_with fail
        go_roundg (gk - 1)
        case measure => omega
        case rel => exact ⟨s.length + 1, last, acc, by omega, by go_num, rfl, rfl, rfl, rfl, hSW2, hB2, .inr ⟨rfl, hla, HS.out⟩⟩
    · have haccl := congrArg List.length hacc
      rw [List.length_append, List.length_drop] at haccl
      have HS := hide hacc
      clear hd hacc hgx
      by_cases hls : last = s.length
      · subst hls
        have hS2 := HS.out
        rw [List.drop_length, List.append_nil] at hS2
        subst hS2
        go_wp2_with fail
        refine bodyPost_ret (v := .tuple #[.int .i64 acc.length, .nilIface]) (by simp [results, Tryz.results210, go_sem]) rfl ?_
        exact ⟨⟨_, rfl⟩, hSW, hB⟩
      · have hne : ((last : Int) != (s.length : Int)) = true := bne_iff_ne.2 (by omega)
        have hmf : ∀ (fn : Fn) (first cap : Array Value) (w : World), (Instr.makeFunc fn first cap).run Tryz.prog w = .ok (.func fn first cap) w := fun _ _ _ _ => rfl
        have hna : ∀ W : World, Sem.run Tryz.prog (nilAhead 347 236 (.pointer (some ⟨A, 0, none⟩)) "WriteString") W = .ok (some false) W := fun W => by kernel_rfl
        have hme : ∀ W : World, Sem.run Tryz.prog (method 347 236 (.pointer (some ⟨A, 0, none⟩)) "WriteString") W = .ok (226, .pointer (some ⟨A, 0, none⟩)) W := fun W => by kernel_rfl
        have bl1 : (last : Int) ≤ (s.length : Int) := by omega
        have bl0 : (0 : Int) ≤ (last : Int) := by omega
        obtain ⟨mid, hmid⟩ : ∃ m, s.drop last = m := ⟨_, rfl⟩
        have hml : mid.length = s.length - last := by rw [← hmid, List.length_drop]
        have HMID := hide hmid
        clear hmid hls
        go_wp2_with fail
        go_region_held3 (fun _ => True) (trivial) ((go_at_call 226; refine (swWrite K A acc (List.drop last s) _ (hSW.below (Below.refl _ _).drew) (by rw [HMID.out]; omega)).mono ?_; rintro e w3 ⟨rfl, hSW3, hB3⟩; rw [HMID.out] at hSW3 ⊢))
        all_goals
          have hB3' : Below K w w3 := hB.trans (((Below.refl K wr).drew).trans hB3)
          have hu3 : acc ++ mid = u := by rw [← HMID.out]; exact HS.out
          rw [hu3] at hSW3
          clear hmf hu3
          go_wp2_with fail
          refine bodyPost_ret (v := .tuple #[.int .i64 ((acc.length + mid.length : Nat) : Int), .nilIface]) (by simp [results, Tryz.results210, go_sem, hml]) rfl ?_
          exact ⟨⟨_, rfl⟩, hSW3, hB3'⟩
end Go.Proofs.YtojgcangnkjmjaaGreatDoor
namespace Go.Proofs.YtojgcangnkjmjaaGreatDoor
open Go.RowKit

theorem sw_text {w : World} {B : Nat} {v : Value} {l : List UInt8} (h : w.ownsRow B 5 1 v l.length (l.map B8)) : (convert 235 9 v).run Tryz.prog w = .ok (S l) w := by
  rcases h.2 with ⟨rfl, h0⟩ | ⟨g, cap, cur, rfl, hg, hgg, _⟩
  · have : l = [] := List.eq_nil_of_length_eq_zero (by omega)
    subst this
    exact Lib.run_convert_nil_bytes w _ _ 5 0 Tryz.underlying235 Tryz.underlying5 Tryz.underlying9
  · have hc := h.cells (g := g) rfl
    exact run_convert_bytes_back w 235 9 5 ⟨g, 0, none⟩ cap l Tryz.underlying235 Tryz.underlying5 Tryz.underlying9 (fun j hj => hc j _ (by rw [List.getElem?_map, List.getElem?_eq_getElem hj]; rfl))

set_option maxHeartbeats 2000000 in
set_option maxRecDepth 100000 in
theorem genReplace (R : Nat) (look : UInt8 → Option Rp.Nd) (s u : List UInt8) (w : World) (hg : Gen w R look) (hp : Hid (∀ c nd, look c = some nd → 0 ≤ nd.p1 ∧ ∀ d p2 v2, nd.nx = some (d, p2, v2) → 0 < p2)) (hl : s.length ≤ 1048576) (hul : u.length ≤ 140737488355328) (hu : Hid (Rp.repl look 0 s = u)) :
    Calls Tryz.prog 209 #[.pointer (some ⟨R, 0, none⟩), S s] w (Fresh (S u) w) := by
  obtain ⟨i0, hi, hz0, hz1, hz2⟩ := info_parts info_byte
  obtain ⟨K, hK⟩ : ∃ K, w.heap.size = K := ⟨_, rfl⟩
  have HK := hide hK
  clear hK
  go_enter Tryz.func209, Tryz.ntmps209
  go_wp2_with (refine wpList_make_own _ rfl _ _ 235 rfl w.heap.size 5 i0 (.int .u8 0) 1 Tryz.underlying235 hi hz0 hz1 .i64 .i64 _ s.length rfl rfl rfl (by rw [hz2]; omega) (by unfold maxLen; omega) (Nat.le_refl _) ?_)
  intro w1 hown1 hgrow1
  have hb1 : Below w.heap.size w w1 := (Below.refl _ w).grown hgrow1 (Nat.le_refl _) (fun k hk => by cases hk)
  have hs1 := hb1.size
  rw [HK.out] at hown1 hb1 hs1
  have hnew : (w1.alloc (.cells #[.slice (some ⟨K, 0, none⟩) 0 s.length] 235)).heap[w1.heap.size]? = some (.cells #[.slice (some ⟨K, 0, none⟩) 0 s.length] 235 (0, 0)) := heap_alloc_last _ _
  have hbn : Below K w (w1.alloc (.cells #[.slice (some ⟨K, 0, none⟩) 0 s.length] 235)) := hb1.alloc hs1 _
  have hownn := owns_below hown1 ((Below.refl _ w1).alloc (Nat.le_refl _) (.cells #[.slice (some ⟨K, 0, none⟩) 0 s.length] 235))
  rw [HK.out]
  clear hgrow1 hown1
  go_wp2_with fail
  obtain ⟨w2, hw2⟩ : ∃ x, x = w1.alloc (.cells #[.slice (some ⟨K, 0, none⟩) 0 s.length] 235) := ⟨_, rfl⟩
  obtain ⟨A, hA⟩ : ∃ x, w1.heap.size = x := ⟨_, rfl⟩
  rw [← hw2] at hnew hbn hownn ⊢
  rw [hA] at hnew hs1 ⊢
  clear hw2 hA hb1
  have hSW : SW K A [] w2 := ⟨_, hnew, hs1, hownn⟩
  refine (genWrite R A K look s u w hg hp hl hul hu HK w2 hbn hSW).mono ?_
  rintro e w3 ⟨⟨n, rfl⟩, ⟨v, hA3, hKA, hown3⟩, hb3⟩
  have c3 : w3.cell? ⟨A, 0, none⟩ = some v := by rw [Lib.cell_of_heap hA3]; rfl
  have hcv := sw_text hown3
  clear hA3 hown3 hnew hbn hownn hSW
  go_wp2_with fail
  go_ret
  exact ⟨rfl, by rw [HK.out]; exact hb3⟩
end Go.Proofs.YtojgcangnkjmjaaGreatDoor
