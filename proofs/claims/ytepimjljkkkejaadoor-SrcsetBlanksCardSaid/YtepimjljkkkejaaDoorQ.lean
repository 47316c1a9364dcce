/- Lists of candidates written, by the reference. -/
import Derived.Test.YtepimjljkkkejaaDoorP
namespace Go.Proofs.YtepimjljkkkejaaDoor
open Go.RowKit

theorem show_snoc : ∀ (l : List Srcp.Cand) (x : Srcp.Cand), Srcp.show_ (l ++ [x]) = (if l = [] then [] else Srcp.show_ l ++ [44, 32]) ++ Srcp.showC x
  | [], x => rfl
  | [c], x => rfl
  | c :: d :: l, x => by
    have := show_snoc (d :: l) x
    rw [if_neg (by simp)] at this
    rw [if_neg (by simp), List.cons_append, List.cons_append, Srcp.show_, ← List.cons_append, this, Srcp.show_]
    simp
theorem show_take_le : ∀ (m l : List Srcp.Cand), (Srcp.show_ l).length ≤ (Srcp.show_ (l ++ m)).length
  | [], l => by simp
  | x :: m, l => by
    have h := show_take_le m (l ++ [x])
    rw [List.append_assoc, List.singleton_append] at h
    refine Nat.le_trans ?_ h
    rw [show_snoc]
    split
    · rename_i h; rw [h]; simp [Srcp.show_]
    · simp only [List.length_append]; omega

set_option maxHeartbeats 2000000 in
theorem rShow_lit (b o cap : Nat) (l : List Srcp.Cand) (w : World) (hl : l.length ≤ 1048576) (hb : b < w.heap.size) (hL : (Srcp.show_ l).length ≤ 140737488355328)
    (h1 : ∀ (i : Nat) (c : Srcp.Cand), l[i]? = some c → w.cell? ⟨b, o + i * 3, none⟩ = some (S c.url) ∧ w.cell? ⟨b, o + i * 3 + 1, none⟩ = some (B8 c.kind) ∧ w.cell? ⟨b, o + i * 3 + 2, none⟩ = some (S c.text)) :
    Calls Tryd.prog 12 #[.slice (some ⟨b, o, none⟩) l.length cap] w (Fresh (S (Srcp.show_ l)) w) := by
  have HL := hide hL
  clear hL
  go_enter Tryd.func12, Tryd.ntmps12
  go_wp2_with fail
  go_loopg [3, 4] l.length (fun g s3 s4 wx => ∃ (i : Nat) (acc : List UInt8), i + g = l.length ∧ s3 = S acc ∧ s4 = .int .i64 i ∧ Hid (acc = Srcp.show_ (l.take i)) ∧ Below w.heap.size w wx)
  case atStart => exact ⟨0, [], by omega, rfl, rfl, rfl, Below.refl _ _⟩
  case round =>
    obtain ⟨i, acc, hi', rfl, rfl, hacc, hbl⟩ := hrel
    by_cases hlt : i < l.length
    · obtain ⟨x, hx⟩ : ∃ x, l[i] = x := ⟨_, rfl⟩
      have hx' : l[i]? = some x := by rw [List.getElem?_eq_getElem hlt, hx]
      have htk : Srcp.show_ (l.take (i + 1)) = (if i = 0 then [] else acc ++ [44, 32]) ++ Srcp.showC x := by
        rw [List.take_add_one, hx', show Option.toList (some x) = [x] from rfl, show_snoc, hacc.out]
        by_cases h0 : i = 0
        · subst h0; simp
        · rw [if_neg h0, if_neg (by intro e; rw [List.take_eq_nil_iff] at e; rcases e with e | e; exact h0 e; subst e; simp at hlt)]
      have hle : (Srcp.show_ (l.take (i + 1))).length ≤ 140737488355328 := by
        have := show_take_le (l.drop (i + 1)) (l.take (i + 1))
        rw [List.take_append_drop] at this
        exact Nat.le_trans this HL.out
      obtain ⟨c0, c1, c2⟩ := h1 i x hx'
      have d0 : wr.cell? ⟨b, o + i * 3, none⟩ = some (S x.url) := (hbl.cell hb).trans c0
      have d1 : wr.cell? ⟨b, o + i * 3 + 1, none⟩ = some (B8 x.kind) := (hbl.cell hb).trans c1
      have d2 : wr.cell? ⟨b, o + i * 3 + 2, none⟩ = some (S x.text) := (hbl.cell hb).trans c2
      have hbs := hbl.size
      have hb' : b < wr.heap.size := by omega
      have d2' : ∀ ob : Obj, (wr.alloc ob).drew.cell? ⟨b, o + i * 3 + 2, none⟩ = some (S x.text) := fun ob => ((Below.refl wr.heap.size wr |>.alloc (Nat.le_refl _) ob).drew.cell hb').trans d2
      have d1' : ∀ ob : Obj, (wr.alloc ob).drew.cell? ⟨b, o + i * 3 + 1, none⟩ = some (B8 x.kind) := fun ob => ((Below.refl wr.heap.size wr |>.alloc (Nat.le_refl _) ob).drew.cell hb').trans d1
      have hcv := fun W : World => byte_string (W.alloc (.cells #[B8 x.kind] 5)).drew x.kind W.heap.size (by rw [World.cell?_drew, World.cell?_alloc_at _ _ _ _ rfl]; rfl)
      clear h1 hx hx' c0 c1 c2
      by_cases h0 : i = 0
      · have ha : acc = [] := by rw [hacc.out, h0]; rfl
        subst ha
        rw [if_pos h0, List.nil_append] at htk
        subst h0
        simp only [Nat.zero_mul, Nat.add_zero] at d0 d1 d2 d1' d2'
        by_cases hke : x.kind = 0
        · rw [show Srcp.showC x = x.url from by unfold Srcp.showC; rw [if_pos hke]] at htk
          have HT := hide htk
          rw [htk] at hle
          try simp only [List.length_append, List.length_cons, List.length_nil] at hle
          have hk0 : ((x.kind.toNat : Int) != 0) = false := by rw [hke]; decide
          clear htk hke hcv
          go_wp2_with fail
          go_roundg (gk - 1)
          case measure => omega
          case rel => exact ⟨1, x.url, by omega, by first | rfl | (simp), by go_num, HT.out.symm, by (repeat (first | (with_reducible exact Below.refl _ _) | (with_reducible assumption) | (with_reducible refine Below.drew ?_) | ((with_reducible refine Below.setCell ?_ ?_ _); rotate_left; (focus (first | omega | (simp; done) | (simp; omega)))) | ((with_reducible refine Below.alloc ?_ ?_ _); rotate_left; (focus (first | omega | (simp; done) | (simp; omega))))))⟩
        · rw [show Srcp.showC x = x.url ++ [32] ++ x.text ++ [x.kind] from by unfold Srcp.showC; rw [if_neg hke]] at htk
          have HT := hide htk
          rw [htk] at hle
          try simp only [List.length_append, List.length_cons, List.length_nil] at hle
          have hk0 : ((x.kind.toNat : Int) != 0) = true := by
            rw [bne_iff_ne]; intro e; exact hke (u8_inj (b := 0) e)
          clear htk hke
          go_wp2_with fail
          go_region
          go_wp2_with fail
          go_roundg (gk - 1)
          case measure => omega
          case rel => exact ⟨1, (x.url ++ [32] ++ x.text ++ [x.kind]), by omega, by first | rfl | (simp), by go_num, HT.out.symm, by (repeat (first | (with_reducible exact Below.refl _ _) | (with_reducible assumption) | (with_reducible refine Below.drew ?_) | ((with_reducible refine Below.setCell ?_ ?_ _); rotate_left; (focus (first | omega | (simp; done) | (simp; omega)))) | ((with_reducible refine Below.alloc ?_ ?_ _); rotate_left; (focus (first | omega | (simp; done) | (simp; omega))))))⟩
      · rw [if_neg h0] at htk
        by_cases hke : x.kind = 0
        · rw [show Srcp.showC x = x.url from by unfold Srcp.showC; rw [if_pos hke]] at htk
          have HT := hide htk
          rw [htk] at hle
          simp only [List.length_append, List.length_cons, List.length_nil] at hle
          have hk0 : ((x.kind.toNat : Int) != 0) = false := by rw [hke]; decide
          have h0' : decide ((0 : Int) < (i : Int)) = true := by simp; omega
          clear htk hke hcv
          go_wp2_with fail
          go_roundg (gk - 1)
          case measure => omega
          case rel => exact ⟨i + 1, acc ++ [44, 32] ++ x.url, by omega, by first | rfl | (simp), by go_num, HT.out.symm, by (repeat (first | (with_reducible exact Below.refl _ _) | (with_reducible assumption) | (with_reducible refine Below.drew ?_) | ((with_reducible refine Below.setCell ?_ ?_ _); rotate_left; (focus (first | omega | (simp; done) | (simp; omega)))) | ((with_reducible refine Below.alloc ?_ ?_ _); rotate_left; (focus (first | omega | (simp; done) | (simp; omega))))))⟩
        · rw [show Srcp.showC x = x.url ++ [32] ++ x.text ++ [x.kind] from by unfold Srcp.showC; rw [if_neg hke]] at htk
          have HT := hide htk
          rw [htk] at hle
          simp only [List.length_append, List.length_cons, List.length_nil] at hle
          have hk0 : ((x.kind.toNat : Int) != 0) = true := by
            rw [bne_iff_ne]; intro e; exact hke (u8_inj (b := 0) e)
          clear htk hke
          go_wp2_with fail
          go_region
          go_wp2_with fail
          go_roundg (gk - 1)
          case measure => omega
          case rel => exact ⟨i + 1, acc ++ [44, 32] ++ (x.url ++ [32] ++ x.text ++ [x.kind]), by omega, by first | rfl | (simp), by go_num, HT.out.symm, by (repeat (first | (with_reducible exact Below.refl _ _) | (with_reducible assumption) | (with_reducible refine Below.drew ?_) | ((with_reducible refine Below.setCell ?_ ?_ _); rotate_left; (focus (first | omega | (simp; done) | (simp; omega)))) | ((with_reducible refine Below.alloc ?_ ?_ _); rotate_left; (focus (first | omega | (simp; done) | (simp; omega))))))⟩
    · have hil : i = l.length := by omega
      subst hil
      have ha : acc = Srcp.show_ l := by have := hacc.out; rwa [List.take_length] at this
      subst ha
      clear h1 HL hacc
      go_wp2_with fail
      go_ret
      exact ⟨rfl, hbl⟩

theorem rShow (v : Value) (l : List Srcp.Cand) (w : World) (h : RC w v l) (hl : l.length ≤ 1048576) (hL : (Srcp.show_ l).length ≤ 140737488355328) :
    Calls Tryd.prog 12 #[v] w (Fresh (S (Srcp.show_ l)) w) := by
  rcases h with ⟨rfl, a, c, rfl⟩ | ⟨b, o, cap, rfl, hlt, hc⟩
  · clear hl hL
    go_enter Tryd.func12, Tryd.ntmps12
    go_wp2_with fail
    go_loopg [3, 4] 0 (fun g s3 s4 wx => s3 = S [] ∧ s4 = .int .i64 0 ∧ wx = w)
    case atStart => exact ⟨rfl, rfl, rfl⟩
    case round =>
      obtain ⟨rfl, rfl, rfl⟩ := hrel
      go_wp2_with fail
      go_ret
      exact ⟨rfl, Below.refl _ _⟩
  · exact rShow_lit b o cap l w hl hlt hL hc
end Go.Proofs.YtepimjljkkkejaaDoor
