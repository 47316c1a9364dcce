/- The document's answer: its box for a thing; the rest of a URL that is none. -/
import Derived.Test.YtojgcangnkjmjaaGreatDoorXe
import Derived.Test.YtojgcangnkjmjaaGreatDoorK
import Derived.Test.YtojgcangnkjmjaaGreatDoorG
namespace Go.Proofs.YtojgcangnkjmjaaGreatDoor
open Go.RowKit

/-- a thing's value: its token, where it ends, open, in -/
abbrev HV (x : Cssp.Tk) (e : Int) (o n : Bool) : Value := .agg #[.int .u8 x.kind, S x.t, S x.u, .bool x.flag, .int .i64 e, .bool o, .bool n]
abbrev zeroH : Obj := .cells #[.int .u8 0, S [], S [], .bool false, .int .i64 0, .bool false, .bool false] 59
/-- its box, as it is laid -/
def Zh (w : World) (B : Nat) : Prop := w.heap[B]? = some (.cells #[.int .u8 0, S [], S [], .bool false, .int .i64 0, .bool false, .bool false] 59 (0, 0))
theorem Zh.cells {w : World} {B : Nat} (h : Zh w B) : w.cell? ⟨B, 0, none⟩ = some (.int .u8 0) ∧ w.cell? ⟨B, 1, none⟩ = some (S []) ∧ w.cell? ⟨B, 2, none⟩ = some (S []) ∧ w.cell? ⟨B, 3, none⟩ = some (.bool false) ∧
    w.cell? ⟨B, 4, none⟩ = some (.int .i64 0) ∧ w.cell? ⟨B, 5, none⟩ = some (.bool false) ∧ w.cell? ⟨B, 6, none⟩ = some (.bool false) := by
  have h' : w.heap[B]? = _ := h
  refine ⟨?_, ?_, ?_, ?_, ?_, ?_, ?_⟩ <;> simp [World.cell?, h']
theorem Zh.frozen {w : World} {B : Nat} (h : Zh w B) (k : Nat) : w.frozen? ⟨B, k, none⟩ = false := by
  have h' : w.heap[B]? = _ := h
  simp [World.frozen?, h']
theorem Zh.lt {w : World} {B : Nat} (h : Zh w B) : B < w.heap.size := heap_lt h
theorem Zh.below {w w' : World} {B : Nat} (h : Zh w B) (hb : Below w.heap.size w w') : Zh w' B := (hb.block B h.lt).trans h
theorem Zh.new (w : World) : Zh (w.alloc zeroH) w.heap.size := by
  show (w.heap.push _)[w.heap.size]? = _
  simp
def putH (w : World) (B : Nat) (x : Cssp.Tk) (e : Int) (o n : Bool) : World :=
  ((((((w.setCell ⟨B, 0, none⟩ (.int .u8 x.kind)).setCell ⟨B, 1, none⟩ (S x.t)).setCell ⟨B, 2, none⟩ (S x.u)).setCell ⟨B, 3, none⟩ (.bool x.flag)).setCell ⟨B, 4, none⟩ (.int .i64 e)).setCell ⟨B, 5, none⟩ (.bool o)).setCell ⟨B, 6, none⟩ (.bool n)
theorem putH_cells {w : World} {B : Nat} (h : Zh w B) (x : Cssp.Tk) (e : Int) (o n : Bool) : (putH w B x e o n).cell? ⟨B, 0, none⟩ = some (.int .u8 x.kind) ∧ (putH w B x e o n).cell? ⟨B, 1, none⟩ = some (S x.t) ∧ (putH w B x e o n).cell? ⟨B, 2, none⟩ = some (S x.u) ∧
    (putH w B x e o n).cell? ⟨B, 3, none⟩ = some (.bool x.flag) ∧ (putH w B x e o n).cell? ⟨B, 4, none⟩ = some (.int .i64 e) ∧ (putH w B x e o n).cell? ⟨B, 5, none⟩ = some (.bool o) ∧ (putH w B x e o n).cell? ⟨B, 6, none⟩ = some (.bool n) := by
  have h' : w.heap[B]? = _ := h
  have h2 : (putH w B x e o n).heap[B]? = some (.cells #[.int .u8 x.kind, S x.t, S x.u, .bool x.flag, .int .i64 e, .bool o, .bool n] 59 (0, 0)) := by
    simp [putH, World.setCell, Array.getElem?_modify, h']
  refine ⟨?_, ?_, ?_, ?_, ?_, ?_, ?_⟩ <;> simp [World.cell?, h2]
theorem putH_below {w0 w : World} {B : Nat} (h : Below w0.heap.size w0 w) (hB : w0.heap.size ≤ B) (x : Cssp.Tk) (e : Int) (o n : Bool) : Below w0.heap.size w0 (putH w B x e o n) :=
  ((((((h.setCell (p := ⟨B, 0, none⟩) hB _).setCell (p := ⟨B, 1, none⟩) hB _).setCell (p := ⟨B, 2, none⟩) hB _).setCell (p := ⟨B, 3, none⟩) hB _).setCell (p := ⟨B, 4, none⟩) hB _).setCell (p := ⟨B, 5, none⟩) hB _).setCell (p := ⟨B, 6, none⟩) hB _

set_option maxRecDepth 100000 in
set_option maxHeartbeats 1000000 in
theorem rBad (s : List UInt8) (i : Nat) (w : World) (hl : s.length ≤ 1048576) (hi : i ≤ s.length) (R : Nat × Bool × Bool) (hR : Hid (Cssp.bad (s.drop i) = R)) :
    Calls Tryz.prog 114 #[S s, .int .i64 i] w (Fresh (HV (Cssp.tk 9 []) ((i + R.1 : Nat) : Int) R.2.1 R.2.2) w) := by
  have hz := Zh.new w
  have hal := (Below.refl w.heap.size w).alloc (Nat.le_refl _) zeroH
  go_enter Tryz.func114, Tryz.ntmps114
  go_wp2_with fail
  change Code.wp _ _ _ _ (w.alloc zeroH)
  generalize hgen : w.alloc zeroH = w1 at hz hal ⊢
  clear hgen
  have HZ1 := hide hz
  have HB1 := hide hal
  clear hz hal
  go_loopg [1, 5] (s.length - i) (fun g s1 s5 wx => ∃ (j : Nat) (op : Bool), s1 = .int .i64 j ∧ s5 = .bool op ∧ g + j = s.length ∧ i ≤ j ∧
    Hid ((op = false ∧ R = (j - i + (Cssp.bad (s.drop j)).1, (Cssp.bad (s.drop j)).2)) ∨ (op = true ∧ j = s.length ∧ R = (j - i, true, true))) ∧ Hid (Zh wx w.heap.size) ∧ Hid (Below w.heap.size w wx))
  case atStart => exact ⟨i, false, rfl, rfl, by omega, Nat.le_refl _, .inl ⟨rfl, by rw [hR.out]; simp⟩, HZ1, HB1⟩
  case round =>
    obtain ⟨j, op, rfl, rfl, hgj, hij, hSt, hZ, hbx⟩ := hrel
    by_cases hj : j < s.length
    · have b1 : (j : Int) < (s.length : Int) := by omega
      have b0 : (0 : Int) ≤ (j : Int) := by omega
      have hSt2 : R = (j - i + (Cssp.bad (s.drop j)).1, (Cssp.bad (s.drop j)).2) := by
        rcases hSt.out with ⟨_, h⟩ | ⟨_, h, _⟩
        · exact h
        · omega
      have HE := hide (rEscape s j wr (by omega) (by omega))
      have hd0 : Cssp.escAt (s.drop j) 0 = Cssp.escAt s j := by rw [Cssp.escAt_drop, Nat.add_zero]
      obtain ⟨c, hc⟩ : ∃ c, s[j] = c := ⟨_, rfl⟩
      have hdj : s.drop j = c :: s.drop (j + 1) := by rw [← hc]; exact List.drop_eq_getElem_cons hj
      have hbc := Cssp.bad_cons c (s.drop (j + 1))
      rw [← hdj] at hbc
      have hwr : wrap64 ((j : Int) + 1) = (j : Int) + 1 := by unfold wrap64; omega
      by_cases h41 : c = 41
      · have q1 : ((c.toNat : Int) == 41) = true := u8t h41
        rw [if_pos h41] at hbc
        have hR2 : R = (j - i + 1, false, false) := by rw [hSt2, hbc]
        subst hR2
        clear hbc hdj hd0 hSt hSt2 h41 hR
        obtain ⟨z0, z1, z2, z3, z4, z5, z6⟩ := hZ.out.cells
        have g0 := hZ.out.frozen 0
        have g1 := hZ.out.frozen 1
        have g2 := hZ.out.frozen 2
        have g3 := hZ.out.frozen 3
        have g4 := hZ.out.frozen 4
        have g5 := hZ.out.frozen 5
        have g6 := hZ.out.frozen 6
        go_wp2_with fail
        refine HE.out.mono ?_
        rintro e w' ⟨rfl, rfl⟩
        go_wp2_with fail
        change bodyPost _ _ _ _ ⟨_, _⟩ (putH wr w.heap.size (Cssp.tk 9 []) ((j : Int) + 1) false false)
        obtain ⟨q0, q1, q2, q3, q4, q5, q6⟩ := putH_cells hZ.out (Cssp.tk 9 []) ((j : Int) + 1) false false
        refine bodyPost_ret (v := HV (Cssp.tk 9 []) ((j : Int) + 1) false false) (by simp [results, Tryz.results114, go_sem, q0, q1, q2, q3, q4, q5, q6]) rfl ?_
        exact ⟨by rw [show (j : Int) + 1 = ((i + (j - i + 1) : Nat) : Int) by omega], putH_below hbx.out (Nat.le_refl _) _ _ _ _⟩
      have q1 : ((c.toNat : Int) == 41) = false := u8f h41
      rw [if_neg h41] at hbc
      cases he : Cssp.escAt s j with
      | true =>
        rw [he] at hd0 HE
        rw [if_pos hd0] at hbc
        obtain ⟨E, hE⟩ : ∃ E, Cssp.esc (s.drop j) = E := ⟨_, rfl⟩
        have hdl : (s.drop j).length = s.length - j := List.length_drop
        have hE1 := Cssp.esc_pos (s.drop j)
        have hE2 := (Cssp.esc_len (s.drop j)).2 (by omega)
        have hE4 := Cssp.esc_open (s.drop j)
        rw [hE] at hE1 hE2 hE4 hbc
        rw [List.drop_drop] at hE4 hbc
        have HEs := hide (rEscaped s j wr hl hj E hE)
        have hEk : j + E.k ≤ s.length := by omega
        have hnext : Hid ((E.o = false ∧ R = (j + E.k - i + (Cssp.bad (s.drop (j + E.k))).1, (Cssp.bad (s.drop (j + E.k))).2)) ∨ (E.o = true ∧ j + E.k = s.length ∧ R = (j + E.k - i, true, true))) := by
          unfold Hid
          cases ho : E.o with
          | true =>
            rw [if_pos ho] at hbc
            have h2 := congrArg List.length (hE4 ho)
            rw [List.length_drop, List.length_nil] at h2
            exact .inr ⟨rfl, by omega, by rw [hSt2, hbc]; simp only [Prod.mk.injEq, and_true]; omega⟩
          | false =>
            rw [if_neg (by rw [ho]; decide)] at hbc
            exact .inl ⟨rfl, by rw [hSt2, hbc]; simp only [Prod.mk.injEq, and_true]; omega⟩
        clear hE hE4 hdl hd0 hbc hdj hSt hSt2 he h41
        obtain ⟨Et, Ek, Eo⟩ := E
        simp only at hE1 hE2 hnext HEs hEk
        go_wp2_with fail
        refine HE.out.mono ?_
        rintro e w' ⟨rfl, rfl⟩
        go_wp2_with fail
        refine HEs.out.mono ?_
        rintro e w2 ⟨rfl, hb2⟩
        have HB2 : Hid (Below w.heap.size w w2) := hbx.out.trans (hb2.mono hbx.out.size)
        have HZ2 : Hid (Zh w2 w.heap.size) := hZ.out.below hb2
        clear hb2 HEs HE
        go_wp2_with fail
        go_roundg (gk - Ek)
        case measure => omega
        case rel => exact ⟨j + Ek, Eo, rfl, rfl, by omega, by omega, hnext, HZ2, HB2⟩
      | false =>
        rw [he] at hd0 HE
        rw [if_neg (by rw [hd0]; decide)] at hbc
        have HNX : Hid (R = (j + 1 - i + (Cssp.bad (s.drop (j + 1))).1, (Cssp.bad (s.drop (j + 1))).2)) := by
          unfold Hid
          rw [hSt2, hbc]; simp only [Prod.mk.injEq, and_true]; omega
        clear hd0 hbc hdj hSt hSt2 he h41
        go_wp2_with fail
        refine HE.out.mono ?_
        rintro e w' ⟨rfl, rfl⟩
        go_wp2_with fail
        go_roundg (gk - 1)
        case measure => omega
        case rel => exact ⟨j + 1, false, by go_num, rfl, by omega, by omega, .inl ⟨rfl, HNX.out⟩, hZ, hbx⟩
    · have b1 : ¬ (j : Int) < (s.length : Int) := by omega
      have hdj : s.drop j = [] := List.drop_eq_nil_of_le (by omega)
      have hR2 : R = (j - i, op, true) := by
        rcases hSt.out with ⟨h1, h2⟩ | ⟨h1, _, h2⟩
        · rw [h2, hdj, Cssp.bad_nil, h1]; simp
        · rw [h2, h1]
      subst hR2
      have hjl : j = s.length := by omega
      clear hdj hSt hR
      obtain ⟨z0, z1, z2, z3, z4, z5, z6⟩ := hZ.out.cells
      have g0 := hZ.out.frozen 0
      have g1 := hZ.out.frozen 1
      have g2 := hZ.out.frozen 2
      have g3 := hZ.out.frozen 3
      have g4 := hZ.out.frozen 4
      have g5 := hZ.out.frozen 5
      have g6 := hZ.out.frozen 6
      go_wp2_with fail
      change bodyPost _ _ _ _ ⟨_, _⟩ (putH wr w.heap.size (Cssp.tk 9 []) (s.length : Int) op true)
      obtain ⟨q0, q1, q2, q3, q4, q5, q6⟩ := putH_cells hZ.out (Cssp.tk 9 []) (s.length : Int) op true
      refine bodyPost_ret (v := HV (Cssp.tk 9 []) (s.length : Int) op true) (by simp [results, Tryz.results114, go_sem, q0, q1, q2, q3, q4, q5, q6]) rfl ?_
      exact ⟨by rw [show (s.length : Int) = ((i + (j - i) : Nat) : Int) by omega], putH_below hbx.out (Nat.le_refl _) _ _ _ _⟩
end Go.Proofs.YtojgcangnkjmjaaGreatDoor
namespace Go.Proofs.YtojgcangnkjmjaaGreatDoor
open Go.RowKit

theorem Cssp.shut_cons (c : UInt8) (r : List UInt8) : Cssp.shut (c :: r) = if c = 42 ∧ r.head? = some 47 then some 0 else (Cssp.shut r).map (· + 1) := rfl
theorem take_two {L : List UInt8} {a b : UInt8} : L.take 2 = [a, b] ↔ ∃ r, L = a :: b :: r := by
  constructor
  · intro h
    match L, h with
    | x :: y :: r, h => simp at h; exact ⟨r, by rw [h.1, h.2]⟩
  · rintro ⟨r, rfl⟩; rfl
/-- what the search answers, from place k on -/
def shutC (s : List UInt8) (k : Nat) : Int := match Cssp.shut (s.drop k) with
  | none => -1
  | some m => ((k + m + 2 : Nat) : Int)
theorem shutC_hit {s : List UInt8} {k : Nat} (h : (s.drop k).take 2 = [42, 47]) : shutC s k = ((k + 2 : Nat) : Int) := by
  obtain ⟨r, hr⟩ := take_two.1 h
  unfold shutC
  rw [hr, Cssp.shut_cons, if_pos ⟨rfl, rfl⟩]
theorem shutC_miss {s : List UInt8} {k : Nat} (hk : k + 2 ≤ s.length) (h : ¬ (s.drop k).take 2 = [42, 47]) : shutC s k = shutC s (k + 1) := by
  have hd : s.drop k = s[k]'(by omega) :: s.drop (k + 1) := List.drop_eq_getElem_cons (by omega)
  unfold shutC
  rw [hd, Cssp.shut_cons, if_neg (by
    rintro ⟨h1, h2⟩
    apply h
    rw [take_two, hd, h1]
    cases hr : s.drop (k + 1) with
    | nil => rw [hr] at h2; cases h2
    | cons y r => rw [hr] at h2; simp at h2; exact ⟨r, by rw [h2]⟩)]
  cases Cssp.shut (s.drop (k + 1)) with
  | none => rfl
  | some m => simp only [Option.map_some]; congr 1; omega
theorem shutC_end {s : List UInt8} {k : Nat} (hk : s.length < k + 2) : shutC s k = -1 := by
  have hl : (s.drop k).length ≤ 1 := by rw [List.length_drop]; omega
  unfold shutC
  cases hd : s.drop k with
  | nil => rfl
  | cons c r =>
    rw [hd] at hl
    cases r with
    | nil => rw [Cssp.shut_cons, if_neg (by rintro ⟨_, h⟩; cases h)]; rfl
    | cons y r => simp at hl
set_option maxRecDepth 100000 in
theorem rNoComment (s : List UInt8) (i : Nat) (w : World) (hl : s.length ≤ 1048576) (hi : i ≤ s.length) (h : ¬ (s.drop i).take 2 = [47, 42]) :
    Calls Tryz.prog 29 #[S s, .int .i64 i] w (Ret (.int .i64 (-2)) w) := by
  have hwr : wrap64 ((i : Int) + 2) = (i : Int) + 2 := by unfold wrap64; omega
  go_enter Tryz.func29, Tryz.ntmps29
  by_cases hk : s.length < i + 2
  · have b1 : (s.length : Int) < (i : Int) + 2 := by omega
    go_wp2_with fail
    go_ret
    exact Ret.of rfl
  · have b1 : ¬ (s.length : Int) < (i : Int) + 2 := by omega
    have b2 : (i : Int) + 2 ≤ (s.length : Int) := by omega
    have b3 : (i : Int) ≤ (i : Int) + 2 := by omega
    have b0 : (0 : Int) ≤ (i : Int) := by omega
    have q1 : ((s.drop i).take 2 == [47, 42]) = false := by simpa using h
    have q2 : ((s.drop i).take 2 != [47, 42]) = true := by simpa using h
    clear h hk
    go_wp2_with fail
    go_ret
    exact Ret.of rfl
set_option maxRecDepth 100000 in
theorem rComment (s : List UInt8) (i : Nat) (w : World) (hl : s.length ≤ 1048576) (hi : i + 2 ≤ s.length) (h : (s.drop i).take 2 = [47, 42]) (C : Int) (hC : Hid (shutC s (i + 2) = C)) :
    Calls Tryz.prog 29 #[S s, .int .i64 i] w (Ret (.int .i64 C) w) := by
  have hwr : wrap64 ((i : Int) + 2) = (i : Int) + 2 := by unfold wrap64; omega
  have b1 : ¬ (s.length : Int) < (i : Int) + 2 := by omega
  have b2 : (i : Int) + 2 ≤ (s.length : Int) := by omega
  have b3 : (i : Int) ≤ (i : Int) + 2 := by omega
  have b0 : (0 : Int) ≤ (i : Int) := by omega
  go_enter Tryz.func29, Tryz.ntmps29
  go_wp2_with fail
  go_loopg [5] (s.length - (i + 2)) (fun g s5 wx => ∃ k : Nat, s5 = .int .i64 k ∧ g + k = s.length ∧ i + 2 ≤ k ∧ w = wx ∧ Hid (shutC s k = C))
  case atStart => exact ⟨i + 2, by go_num, by omega, by omega, rfl, hC⟩
  case round =>
    obtain ⟨k, rfl, hgk, hik, hwx, hSt⟩ := hrel
    subst hwx
    have hwr2 : wrap64 ((k : Int) + 2) = (k : Int) + 2 := by unfold wrap64; omega
    have hwr3 : wrap64 ((k : Int) + 1) = (k : Int) + 1 := by unfold wrap64; omega
    by_cases hk : k + 2 ≤ s.length
    · have c2 : (k : Int) + 2 ≤ (s.length : Int) := by omega
      have c3 : (k : Int) ≤ (k : Int) + 2 := by omega
      have c0 : (0 : Int) ≤ (k : Int) := by omega
      by_cases hh : (s.drop k).take 2 = [42, 47]
      · have hCv := hSt.out
        rw [shutC_hit hh] at hCv
        have HCV := hide hCv
        clear hCv
        go_wp2_with fail
        go_ret
        exact Ret.of (by rw [← HCV.out]; rfl)
      · have q1 : ((s.drop k).take 2 == [42, 47]) = false := by simpa using hh
        have hn := hSt.out
        rw [shutC_miss hk hh] at hn
        have HN := hide hn
        clear hn hh
        go_wp2_with fail
        go_roundg (gk - 1)
        case measure => omega
        case rel => exact ⟨k + 1, by go_num, by omega, by omega, rfl, HN⟩
    · have c2 : ¬ (k : Int) + 2 ≤ (s.length : Int) := by omega
      have hCv := hSt.out
      rw [shutC_end (by omega)] at hCv
      subst hCv
      go_wp2_with fail
      go_ret
      exact Ret.of rfl
end Go.Proofs.YtojgcangnkjmjaaGreatDoor
namespace Go.Proofs.YtojgcangnkjmjaaGreatDoor
open Go.RowKit

set_option maxHeartbeats 2000000 in
set_option maxRecDepth 100000 in
theorem rLower (s : List UInt8) (u : List UInt8) (w : World) (hl : s.length ≤ 4194304) (hu : Hid (Cssp.lower s = u)) :
    Calls Tryz.prog 87 #[S s] w (Fresh (S u) w) := by
  have hr := rowAt_new w s
  have hb := below_bytes w 5 ⟨s.toArray⟩
  have hcv := Lib.run_convert_string_bytes (P := Tryz.prog) w 9 32 5 ⟨s.toArray⟩ Tryz.underlying9 Tryz.underlying32 Tryz.underlying5
  rw [bl_size] at hcv
  obtain ⟨B, hB⟩ : ∃ B, B = w.heap.size := ⟨_, rfl⟩
  obtain ⟨w1, hw1⟩ : ∃ x, x = Lib.bytesWorld w 5 ⟨s.toArray⟩ := ⟨_, rfl⟩
  obtain ⟨cap, hcap⟩ : ∃ x, x = grownCap w s.length 0 5 := ⟨_, rfl⟩
  rw [← hw1, ← hB] at hr hb
  rw [← hw1, ← hB, ← hcap] at hcv
  have hB' := hide hB
  clear hw1 hB hcap
  go_enter Tryz.func87, Tryz.ntmps87
  go_wp2_with fail
  clear hcv
  go_loopg [4] s.length (fun g s4 wx => ∃ (i : Nat), i + g = s.length ∧ s4 = .int .i64 i ∧ RowAt wx B ((s.take i).map Cssp.lowB ++ s.drop i) ∧ Below B w wx)
  case atStart => exact ⟨0, by omega, rfl, by simpa using hr, hb⟩
  case round =>
    obtain ⟨i, hi, rfl, hrx, hbx⟩ := hrel
    clear hr hb
    by_cases hlt : i < s.length
    · have hlen : ((s.take i).map Cssp.lowB ++ s.drop i).length = s.length := by simp; omega
      have hc0 := hrx.cell i (by rw [hlen]; exact hlt)
      have hf0 := hrx.free i (by rw [hlen]; exact hlt)
      obtain ⟨c, hc⟩ : ∃ c, s[i] = c := ⟨_, rfl⟩
      have hx : ((s.take i).map Cssp.lowB ++ s.drop i)[i]'(by rw [hlen]; exact hlt) = c := by
        rw [List.getElem_append_right (by simp; omega)]
        simp [Nat.min_eq_left (Nat.le_of_lt hlt), hc]
      rw [hx] at hc0
      have hstep : (s.take (i + 1)).map Cssp.lowB ++ s.drop (i + 1) = ((s.take i).map Cssp.lowB ++ s.drop i).set i (Cssp.lowB c) := by
        rw [List.set_append_right _ _ (by simp; omega), List.take_succ_eq_append_getElem hlt, List.drop_eq_getElem_cons hlt, hc]
        simp [Nat.min_eq_left (Nat.le_of_lt hlt)]
      have hsame : Cssp.lowB c = c → (s.take (i + 1)).map Cssp.lowB ++ s.drop (i + 1) = (s.take i).map Cssp.lowB ++ s.drop i := fun e => by
        rw [List.take_succ_eq_append_getElem hlt, List.drop_eq_getElem_cons hlt, hc]
        simp [e]
      have HS := hide hstep
      have HE := hide hsame
      have hcb := u8_lt c
      clear hstep hx hc hlen hsame
      by_cases h65 : 65 ≤ c.toNat ∧ c.toNat ≤ 90
      · obtain ⟨h1, h2⟩ := h65
        have hv : ((Cssp.lowB c).toNat : Int) = (c.toNat : Int) + 32 := by
          unfold Cssp.lowB
          rw [if_pos ⟨h1, h2⟩, UInt8.toNat_ofNat_of_lt' (by show c.toNat + 32 < 256; omega)]
          omega
        have hr2 := hrx.set i (Cssp.lowB c)
        rw [← HS.out] at hr2
        have HR2 := hide hr2
        have HV := hide hv
        clear hr2 hv
        go_wp2_with fail
        rw [← HV.out]
        go_roundg (gk - 1)
        case measure => omega
        case rel => exact ⟨i + 1, by omega, by go_num, HR2.out, hbx.setCell (Nat.le_refl _) _⟩
      · have h3 : c.toNat < 65 ∨ (65 ≤ c.toNat ∧ 90 < c.toNat) := by omega
        have hr2 := hrx
        rw [← HE.out (lowB_miss c h65)] at hr2
        have HR2 := hide hr2
        clear h65 hr2
        rcases h3 with h3 | ⟨h3, h4⟩
        all_goals
          go_wp2_with fail
          go_roundg (gk - 1)
          (case measure => omega)
          (case rel => exact ⟨i + 1, by omega, by go_num, HR2.out, hbx⟩)
    · have e : i = s.length := by omega
      subst e
      rw [List.take_length, List.drop_length, List.append_nil] at hrx
      have hcv := run_convert_bytes_back (P := Tryz.prog) wr 32 9 5 ⟨B, 0, none⟩ cap (Cssp.lower s) Tryz.underlying32 Tryz.underlying5 Tryz.underlying9 (fun j hj => by
        have := hrx.cell j hj
        rw [show (⟨B, 0, none⟩ : Addr).add j = ⟨B, j, none⟩ by unfold Addr.add; split <;> simp_all]
        exact this)
      rw [show (Cssp.lower s).length = s.length by simp [Cssp.lower]] at hcv
      go_wp2_with fail
      go_ret
      exact ⟨by rw [← hu.out]; rfl, by rw [← hB'.out]; exact hbx⟩
end Go.Proofs.YtojgcangnkjmjaaGreatDoor
namespace Go.Proofs.YtojgcangnkjmjaaGreatDoor
open Go.RowKit

def longN (c : UInt8) : Nat := if c.toNat < 128 then 1 else if 194 ≤ c.toNat ∧ c.toNat < 224 then 2 else if 224 ≤ c.toNat ∧ c.toNat < 240 then 3 else if 240 ≤ c.toNat ∧ c.toNat < 245 then 4 else 0
set_option maxRecDepth 100000 in
theorem rLong (c : UInt8) (w : World) : Calls Tryz.prog 111 #[.int .u8 c.toNat] w (Ret (.int .i64 (longN c : Int)) w) := by
  have hc := u8_lt c
  go_enter Tryz.func111, Tryz.ntmps111
  go_wp2
  all_goals go_ret
  all_goals refine Ret.of (v_i ?_)
  all_goals unfold longN
  all_goals (repeat' split)
  all_goals first | rfl | (exfalso; omega) | omega
end Go.Proofs.YtojgcangnkjmjaaGreatDoor
