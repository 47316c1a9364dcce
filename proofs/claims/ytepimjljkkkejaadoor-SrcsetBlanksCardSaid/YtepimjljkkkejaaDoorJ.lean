/- The two states of the machine, and the taking of words. -/
import Derived.Test.YtepimjljkkkejaaDoorI
import Derived.Deep.CutBlock
namespace Go.Proofs.YtepimjljkkkejaaDoor
open Go.RowKit

/-- a state of the machine as a value: outside of brackets, within -/
def stV (inn : Bool) (b : Nat) : Value := if inn then .func (.func 49) #[.pointer (some ⟨b, 0, none⟩)] #[] else .func (.func 27) #[.pointer (some ⟨b, 0, none⟩)] #[]

theorem neq_fn (k : FuncId) (p : Value) (u : World) : Sem.run Tryd.prog (binOp .neq 61 (.func (.func k) #[p] #[]) .nilFunc) u = .ok (.bool true) u := by kernel_rfl
theorem neq_nil (u : World) : Sem.run Tryd.prog (binOp .neq 61 .nilFunc .nilFunc) u = .ok (.bool false) u := by kernel_rfl
attribute [go_sem] neq_fn neq_nil
theorem stV_true (b : Nat) : stV true b = .func (.func 49) #[.pointer (some ⟨b, 0, none⟩)] #[] := rfl
theorem stV_false (b : Nat) : stV false b = .func (.func 27) #[.pointer (some ⟨b, 0, none⟩)] #[] := rfl

set_option maxHeartbeats 1000000 in
set_option maxRecDepth 100000 in
theorem within_any (B b : Nat) (s : List UInt8) (ws : List (List UInt8)) (bs : List UInt8) (c : UInt8) (w : World) (h : Rd B b s ws bs w) (hlen : bs.length ≤ 1048576) :
    Calls Tryd.prog 49 #[.pointer (some ⟨b, 0, none⟩), B8 c] w fun e w' => e = .returned (stV (!(c == 41)) b) ∧ Rd B b s ws (bs ++ [c]) w' ∧ Keep B w w' := by
  have e41 : ((c.toNat : Int) == 41) = (c == 41) := u8_eq c 41 (by decide)
  cases h41 : (c == 41) <;> rw [h41] at e41
  all_goals
    go_enter Tryd.func49, Tryd.ntmps49
    go_wp2_with fail
    refine (writeByte B b s ws bs c _ h hlen).mono ?_
    rintro e w1 ⟨rfl, h1, hk1⟩
    go_wp2_with fail
    go_ret
    exact ⟨rfl, h1, hk1⟩

set_option maxHeartbeats 1000000 in
set_option maxRecDepth 100000 in
theorem plain_comma (b : Nat) (w : World) :
    Calls Tryd.prog 27 #[.pointer (some ⟨b, 0, none⟩), .int .u8 44] w (Ret .nilFunc w) := by
  go_enter Tryd.func27, Tryd.ntmps27
  go_wp2_with fail
  go_ret
  exact ⟨rfl, rfl⟩

set_option maxHeartbeats 1000000 in
set_option maxRecDepth 100000 in
theorem plain_blank (B b : Nat) (s : List UInt8) (ws : List (List UInt8)) (bs : List UInt8) (c : UInt8) (w : World) (h : Rd B b s ws bs w) (hlen : bs.length ≤ 1048576) (hws : ws.length ≤ 1048576) (hc : Srcp.sp c = true) (h44 : (c == 44) = false) :
    Calls Tryd.prog 27 #[.pointer (some ⟨b, 0, none⟩), B8 c] w fun e w' => e = .returned (stV false b) ∧ Rd B b s (Srcp.pushW ws bs) [] w' ∧ Keep B w w' := by
  have e44 : ((c.toNat : Int) == 44) = (c == 44) := u8_eq c 44 (by decide)
  rw [h44] at e44
  have hsp := space_u8 c w
  rw [hc] at hsp
  have HS := hide hsp
  have hlt := u8_lt c
  clear hsp hc h44
  go_enter Tryd.func27, Tryd.ntmps27
  go_wp2_with fail
  refine (Hid.out HS).mono ?_
  rintro e w' ⟨rfl, rfl⟩
  go_wp2_with fail
  refine (shut B b s ws bs _ h hlen hws).mono ?_
  rintro e w1 ⟨rfl, h1, hk1⟩
  go_wp2_with fail
  go_ret
  exact ⟨rfl, h1, hk1⟩

set_option maxHeartbeats 1000000 in
set_option maxRecDepth 100000 in
theorem plain_other (B b : Nat) (s : List UInt8) (ws : List (List UInt8)) (bs : List UInt8) (c : UInt8) (w : World) (h : Rd B b s ws bs w) (hlen : bs.length ≤ 1048576) (hc : Srcp.sp c = false) (h44 : (c == 44) = false) :
    Calls Tryd.prog 27 #[.pointer (some ⟨b, 0, none⟩), B8 c] w fun e w' => e = .returned (stV (c == 40) b) ∧ Rd B b s ws (bs ++ [c]) w' ∧ Keep B w w' := by
  have e44 : ((c.toNat : Int) == 44) = (c == 44) := u8_eq c 44 (by decide)
  have e40 : ((c.toNat : Int) == 40) = (c == 40) := u8_eq c 40 (by decide)
  rw [h44] at e44
  have hsp := space_u8 c w
  rw [hc] at hsp
  have HS := hide hsp
  have hlt := u8_lt c
  clear hsp hc h44
  cases h40 : (c == 40) <;> rw [h40] at e40
  all_goals
    go_enter Tryd.func27, Tryd.ntmps27
    go_wp2_with fail
    refine (Hid.out HS).mono ?_
    rintro e w' ⟨rfl, rfl⟩
    go_wp2_with fail
    refine (writeByte B b s ws bs c _ h hlen).mono ?_
    rintro e w1 ⟨rfl, h1, hk1⟩
    go_wp2_with fail
    go_ret
    exact ⟨rfl, h1, hk1⟩

theorem Rd.setWords {B b : Nat} {s : List UInt8} {ws : List (List UInt8)} {bs : List UInt8} {w : World} (h : Rd B b s ws bs w) : Rd B b s [] bs (w.setCell ⟨b, 1, none⟩ (.slice none 0 0)) ∧ Keep B w (w.setCell ⟨b, 1, none⟩ (.slice none 0 0)) := by
  obtain ⟨p, hp, hB, vw, vb, hb, how, hob⟩ := h
  refine ⟨⟨p, hp, hB, .slice none 0 0, vb, ?_, World.ownsRow_nil _ _ _ _, owns_other hob hb (by decide) (by simp [World.setCell]) (fun j hj => Below.heap_setCell _ _ _ _ hj)⟩, (Keep.refl B w).setCell (p := ⟨b, 1, none⟩) hB hb (.inl rfl) _⟩
  simp [World.setCell, Array.getElem?_modify, hb]
theorem Rd.setText {B b : Nat} {s : List UInt8} {ws : List (List UInt8)} {bs : List UInt8} {w : World} (h : Rd B b s ws bs w) (t : List UInt8) : Rd B b t ws bs (w.setCell ⟨b, 0, none⟩ (S t)) ∧ Keep B w (w.setCell ⟨b, 0, none⟩ (S t)) := by
  obtain ⟨p, hp, hB, vw, vb, hb, how, hob⟩ := h
  refine ⟨⟨p, hp, hB, vw, vb, ?_, owns_other how hb (by decide) (by simp [World.setCell]) (fun j hj => Below.heap_setCell _ _ _ _ hj), owns_other hob hb (by decide) (by simp [World.setCell]) (fun j hj => Below.heap_setCell _ _ _ _ hj)⟩, (Keep.refl B w).setCell (p := ⟨b, 0, none⟩) hB hb (.inl rfl) _⟩
  simp [World.setCell, Array.getElem?_modify, hb]
theorem Rd.cell0 {B b : Nat} {s : List UInt8} {ws : List (List UInt8)} {bs : List UInt8} {w : World} (h : Rd B b s ws bs w) : w.cell? ⟨b, 0, none⟩ = some (S s) ∧ w.frozen? ⟨b, 0, none⟩ = false ∧ w.frozen? ⟨b, 1, none⟩ = false ∧ b < w.heap.size ∧ B ≤ b := by
  obtain ⟨p, hp, hB, vw, vb, hb, how, hob⟩ := h
  exact ⟨by rw [Lib.cell_of_heap hb]; rfl, by simp [World.frozen?, hb], by simp [World.frozen?, hb], heap_lt hb, hB⟩
theorem Rd.words {B b : Nat} {s : List UInt8} {ws : List (List UInt8)} {bs : List UInt8} {w : World} (h : Rd B b s ws bs w) : ∃ vw, w.cell? ⟨b, 1, none⟩ = some vw ∧ w.ownsRow B 9 1 vw ws.length (ws.map S) := by
  obtain ⟨p, hp, hB, vw, vb, hb, how, hob⟩ := h
  exact ⟨vw, by rw [Lib.cell_of_heap hb]; rfl, how⟩

set_option maxHeartbeats 2000000 in
set_option maxRecDepth 100000 in
theorem take_any (B b : Nat) (l : List UInt8) (us : List (List UInt8)) (ws : List (List UInt8)) (r : List UInt8) (w : World) (h : Rd B b l us [] w) (hl : l.length ≤ 1048576) (hr : Hid (Srcp.words false [] [] l = (ws, r))) :
    Calls Tryd.prog 15 #[.pointer (some ⟨b, 0, none⟩)] w fun e w' => e = .returned (.tuple #[]) ∧ Rd B b r ws [] w' ∧ Keep B w w' := by
  obtain ⟨vw, c1, _⟩ := h.words
  obtain ⟨c0, f0, f1, hlt, hB⟩ := h.cell0
  obtain ⟨h2, hk2⟩ := h.setWords
  have c2 := h2.cell0.1
  clear h
  go_enter Tryd.func15, Tryd.ntmps15
  go_upto_block 0 with fail
  go_cut [2] (fun s2 wx => ∃ (n : Nat) (word : List UInt8) (vs : List (List UInt8)), n ≤ l.length ∧ s2 = .int .i64 n ∧ Hid ((Srcp.pushW vs word, l.drop n) = (ws, r)) ∧ Rd B b l vs word wx ∧ Keep B w wx ∧ word.length ≤ l.length ∧ vs.length ≤ l.length)
  case first =>
    generalize w.setCell ⟨b, 1, none⟩ (.slice none 0 0) = w0 at *
    go_wp2_with fail
    go_loopg [2, 3] (l.length + 1) (fun g s2 s3 wx => ∃ (n : Nat) (word : List UInt8) (vs : List (List UInt8)), n ≤ l.length ∧ s2 = .int .i64 n ∧ Rd B b l vs word wx ∧ Keep B w wx ∧ word.length ≤ n ∧ vs.length ≤ n ∧
      ((∃ inn, s3 = stV inn b ∧ n + g = l.length + 1 ∧ Hid (Srcp.words inn word vs (l.drop n) = (ws, r))) ∨ (s3 = .nilFunc ∧ Hid ((Srcp.pushW vs word, l.drop n) = (ws, r)))))
    case atStart => exact ⟨0, [], [], by omega, rfl, h2, hk2, by simp, by simp, .inl ⟨false, rfl, by omega, hr⟩⟩
    case round =>
      obtain ⟨n, word, vs, hn, rfl, hrd, hkp, hwl, hvl, hor⟩ := hrel
      have c0' := hrd.cell0.1
      clear c0 f0 f1 c1 c2 h2 hk2
      rcases hor with ⟨inn, rfl, hg, hw⟩ | ⟨rfl, hw⟩
      · by_cases hlt2 : n < l.length
        · obtain ⟨x, hx⟩ : ∃ x, l[n] = x := ⟨_, rfl⟩
          have hdr : l.drop n = x :: l.drop (n + 1) := by rw [← hx]; exact List.drop_eq_getElem_cons hlt2
          have hw' := hw.out
          rw [hdr, Srcp.words] at hw'
          clear hw hdr
          cases inn with
          | true =>
            have HW : Hid (Srcp.words (!(x == 41)) (word ++ [x]) vs (l.drop (n + 1)) = (ws, r)) := by
              unfold Hid
              rw [← hw']
              simp only [Bool.not_true, Bool.false_and, Bool.false_eq_true, if_false]
              congr 1
              cases h41 : (x == 41)
              · simp
              · have := eq_of_beq h41; subst this; rfl
            clear hw'
            rw [stV_true]
            go_wp2_with fail
            refine (within_any B b l vs word x _ hrd (by omega)).mono ?_
            rintro e w1 ⟨rfl, h3, hk3⟩
            go_wp2_with fail
            go_roundg (gk - 1)
            case measure => omega
            case rel => exact ⟨n + 1, word ++ [x], vs, by omega, by go_num, h3, hkp.trans hk3, by simp; omega, by omega, .inl ⟨_, rfl, by omega, HW.out⟩⟩
          | false =>
            cases h44 : (x == 44)
            · cases hsp : Srcp.sp x
              · have HW : Hid (Srcp.words (x == 40) (word ++ [x]) vs (l.drop (n + 1)) = (ws, r)) := by
                  unfold Hid
                  rw [← hw', h44, hsp]
                  simp only [Bool.and_false, Bool.false_eq_true, if_false]
                  congr 1
                  cases h40 : (x == 40)
                  · simp
                  · rfl
                clear hw'
                rw [stV_false]
                go_wp2_with fail
                refine (plain_other B b l vs word x _ hrd (by omega) hsp h44).mono ?_
                rintro e w1 ⟨rfl, h3, hk3⟩
                go_wp2_with fail
                go_roundg (gk - 1)
                case measure => omega
                case rel => exact ⟨n + 1, word ++ [x], vs, by omega, by go_num, h3, hkp.trans hk3, by simp; omega, by omega, .inl ⟨_, rfl, by omega, HW.out⟩⟩
              · have HW : Hid (Srcp.words false [] (Srcp.pushW vs word) (l.drop (n + 1)) = (ws, r)) := by
                  unfold Hid
                  rw [← hw', h44, hsp]
                  rfl
                clear hw'
                have hpl := pushW_len vs word
                rw [stV_false]
                go_wp2_with fail
                refine (plain_blank B b l vs word x _ hrd (by omega) (by omega) hsp h44).mono ?_
                rintro e w1 ⟨rfl, h3, hk3⟩
                go_wp2_with fail
                go_roundg (gk - 1)
                case measure => omega
                case rel => exact ⟨n + 1, [], Srcp.pushW vs word, by omega, by go_num, h3, hkp.trans hk3, by simp, by omega, .inl ⟨_, rfl, by omega, HW.out⟩⟩
            · have HW : Hid ((Srcp.pushW vs word, l.drop (n + 1)) = (ws, r)) := by
                unfold Hid
                rw [← hw', h44]
                rfl
              have hx44 : x = 44 := eq_of_beq h44
              clear hw'
              subst hx44
              rw [stV_false]
              go_wp2_with fail
              refine (plain_comma b _).mono ?_
              rintro e w1 ⟨rfl, rfl⟩
              go_wp2_with fail
              go_roundg (gk - 1)
              case measure => omega
              case rel => exact ⟨n + 1, word, vs, by omega, by go_num, hrd, hkp, by omega, by omega, .inr ⟨rfl, HW.out⟩⟩
        · have hdn : l.drop n = [] := List.drop_eq_nil_of_le (by omega)
          have HW : Hid ((Srcp.pushW vs word, l.drop n) = (ws, r)) := by
            unfold Hid
            rw [← hw.out, hdn, Srcp.words]
          clear hw hdn
          cases inn
          all_goals first | rw [stV_true] | rw [stV_false]
          all_goals
            go_wp2_with fail
            go_meet
            exact ⟨n, word, vs, hn, rfl, HW.out, hrd, hkp, by omega, by omega⟩
      · go_wp2_with fail
        go_meet
        exact ⟨n, word, vs, hn, rfl, hw.out, hrd, hkp, by omega, by omega⟩
  case rest =>
    obtain ⟨n, word, vs, hn, rfl, hw, hrd, hkp, hwl, hvl⟩ := hcut
    clear c0 f0 f1 c1 c2 h2 hk2
    go_wp2_with fail
    refine (shut B b l vs word _ hrd (by omega) (by omega)).mono ?_
    rintro e w1 ⟨rfl, h3, hk3⟩
    obtain ⟨d0, g0, g1, hlt3, _⟩ := h3.cell0
    obtain ⟨h4, hk4⟩ := h3.setText (l.drop n)
    go_wp2_with fail
    go_end0
    refine ⟨rfl, ?_, (hkp.trans hk3).trans hk4⟩
    have e := hw.out
    injection e with e1 e2
    rw [← e1, ← e2]
    exact h4
end Go.Proofs.YtepimjljkkkejaaDoor
