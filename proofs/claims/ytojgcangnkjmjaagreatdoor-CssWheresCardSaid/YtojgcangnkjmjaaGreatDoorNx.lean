/- next: the token that stands at the beginning. -/
import Derived.Test.YtojgcangnkjmjaaGreatDoorTk
import Derived.Shelf.Abstract
namespace Go.Proofs.YtojgcangnkjmjaaGreatDoor
open Go.RowKit Go.Shelf

theorem marks_known : ∀ n : Fin 256, Cssp.marks.contains (UInt8.ofNat n.val) = true → lkT known (UInt8.ofNat n.val) = some kMark := by decide +kernel
theorem none_known : ∀ n : Fin 256, (Cssp.blank (UInt8.ofNat n.val) = false ∧ UInt8.ofNat n.val ≠ 34 ∧ UInt8.ofNat n.val ≠ 39 ∧ UInt8.ofNat n.val ≠ 35 ∧ UInt8.ofNat n.val ≠ 64 ∧ Cssp.marks.contains (UInt8.ofNat n.val) = false) → lkT known (UInt8.ofNat n.val) = none := by decide +kernel
theorem blank_known : ∀ n : Fin 256, Cssp.blank (UInt8.ofNat n.val) = true → lkT known (UInt8.ofNat n.val) = some kSpace := by decide +kernel
theorem ofNat_id (c : UInt8) : UInt8.ofNat c.toNat = c := UInt8.ofNat_toNat
/-- the taker of a byte takes the token that stands there -/
theorem known_calls (c : UInt8) (r : List UInt8) (b : Nat) (hl : (c :: r).length ≤ 1048576) :
    (∃ f, lkT known c = some f ∧ Enters Tryz.prog f ∧ ∀ (W : World) (t : List UInt8), Lx W b (c :: r) false false t → Calls Tryz.prog f #[.pointer (some ⟨b, 0, none⟩)] W (TokP (Cssp.one (c :: r)) (c :: r) W b)) ∨
    (lkT known c = none ∧ Cssp.one (c :: r) = Cssp.other (c :: r)) := by
  have hone := Cssp.one_eq (c :: r)
  have hat : Cssp.at_ (c :: r) 0 = c := rfl
  rw [hat] at hone
  by_cases c1 : Cssp.blank c = true
  · rw [if_pos c1] at hone
    left
    refine ⟨kSpace, ?_, enters_of Tryz.func41 (by kernel_rfl) rfl, fun W t h => ?_⟩
    · have := blank_known ⟨c.toNat, c.toNat_lt⟩
      simp only [ofNat_id] at this
      exact this c1
    · rw [hone]
      exact space_ (c :: r) t b W h (by omega)
  rw [if_neg c1] at hone
  by_cases c2 : c = 34 ∨ c = 39
  · rw [if_pos c2] at hone
    left
    refine ⟨kText, ?_, enters_of Tryz.func38 (by kernel_rfl) rfl, fun W t h => ?_⟩
    · rcases c2 with rfl | rfl <;> rfl
    · rw [hone]
      exact text_ (c :: r) t b c r W h rfl c2 hl
  rw [if_neg c2] at hone
  by_cases c3 : c = 35
  · rw [if_pos c3] at hone
    left
    refine ⟨kHash, by rw [c3]; rfl, enters_of Tryz.func39 (by kernel_rfl) rfl, fun W t h => ?_⟩
    rw [hone]
    cases hx : (Cssp.isAt Cssp.goesOn (c :: r) 1 || Cssp.escAt (c :: r) 1) with
    | true => rw [if_pos rfl]; exact hash_yes (c :: r) t b W h (by simp) hl hx
    | false => rw [if_neg (by decide)]; exact hash_no (c :: r) t b W h (by simp) hl hx
  rw [if_neg c3] at hone
  by_cases c4 : c = 64
  · rw [if_pos c4] at hone
    left
    refine ⟨kAt, by rw [c4]; rfl, enters_of Tryz.func40 (by kernel_rfl) rfl, fun W t h => ?_⟩
    rw [hone]
    cases hx : Cssp.identAt (c :: r) 1 with
    | true => rw [if_pos rfl]; exact at_yes (c :: r) t b W h (by simp) hl hx
    | false => rw [if_neg (by decide)]; exact at_no (c :: r) t b W h (by simp) hl hx
  rw [if_neg c4] at hone
  by_cases c5 : Cssp.marks.contains c = true
  · rw [if_pos c5] at hone
    left
    refine ⟨kMark, ?_, enters_of Tryz.func42 (by kernel_rfl) rfl, fun W t h => ?_⟩
    · have := marks_known ⟨c.toNat, c.toNat_lt⟩
      simp only [ofNat_id] at this
      exact this c5
    · rw [hone]
      exact mark_ (c :: r) t b W h (by simp)
  rw [if_neg c5] at hone
  right
  refine ⟨?_, hone⟩
  have := none_known ⟨c.toNat, c.toNat_lt⟩
  simp only [ofNat_id] at this
  exact this ⟨eq_false_of_ne_true c1, fun h => c2 (.inl h), fun h => c2 (.inr h), c3, c4, eq_false_of_ne_true c5⟩
set_option maxRecDepth 100000 in
set_option maxHeartbeats 2000000 in
theorem next_ (c : UInt8) (r t : List UInt8) (b B : Nat) (i o : Bool) (w : World) (h : Lx w b (c :: r) i o t) (hk : KM w B known) (hne : B ≠ b) (hl : (c :: r).length ≤ 1048576) :
    Calls Tryz.prog 26 #[.pointer (some ⟨b, 0, none⟩), .map (some B)] w (TokP (Cssp.one (c :: r)) (c :: r) w b) := by
  have hz := Zt.new w
  have hal := (Below.refl w.heap.size w).alloc (Nat.le_refl _) (.cells #[.int .u8 0, S [], S [], .bool false] 27)
  have hx := h.below hal
  have hlt := h.lt
  have hK1 := hk.below hal
  obtain ⟨X, hX⟩ : ∃ X, Cssp.one (c :: r) = X := ⟨_, rfl⟩
  have hkc := known_calls c r b hl
  have hoth := fun (W : World) (tt : List UInt8) (hW : Lx W b (c :: r) false false tt) => other_ (c :: r) tt b W hW (by simp) hl
  rw [hX] at hkc ⊢
  have HX0 := hide hX
  obtain ⟨xx, uk, uo, ui, ue⟩ := X
  go_enter Tryz.func26, Tryz.ntmps26
  go_upto_region 1 with (fail)
  change Code.wp _ _ _ _ (w.alloc (.cells #[.int .u8 0, S [], S [], .bool false] 27))
  generalize hgen : w.alloc (.cells #[.int .u8 0, S [], S [], .bool false] 27) = w1 at hz hal hx hK1 ⊢
  clear hgen h hk hX
  have hsz1 := hal.size
  have hx3 := (hx.set1 false).set2 false
  have hu3 := ((Upto.of_below hal : Upto b w w1).setCell 1 (.bool false)).setCell 2 (.bool false)
  have hu13 := (((Upto.refl b w1).setCell 1 (.bool false)).setCell 2 (.bool false))
  have hz3 := hz.upto hu13 (by omega)
  have hK3 := hK1.upto hu13 hne
  obtain ⟨c0, c1, c2, c3⟩ := hx.cells
  have f1 := hx.frozen 1
  have f2 := hx.frozen 2
  go_upto_region 2 with (fail)
  change Code.wp _ _ _ _ ((w1.setCell ⟨b, 1, none⟩ (.bool false)).setCell ⟨b, 2, none⟩ (.bool false))
  generalize hgen : (w1.setCell ⟨b, 1, none⟩ (.bool false)).setCell ⟨b, 2, none⟩ (.bool false) = w3 at hx3 hu3 hz3 hK3 ⊢
  clear hgen c0 c1 c2 c3 f1 f2 hx hu13 hz hal hK1
  obtain ⟨c0, c1, c2, c3⟩ := hx3.cells
  have HX3 := hide hx3
  have HU3 := hide hu3
  have HZ3 := hide hz3
  clear hx3 hu3 hz3
  have hs3 := HU3.out.size
  rcases hkc with ⟨f, hf, hen, hcall⟩ | ⟨hf, heq⟩
  · have hlk := hK3.look c hf
    have HT := hide (hcall w3 t HX3.out)
    have hen' : ∀ (args : Array Value) (W : World), (callFunc f args).run Tryz.prog W = .ok (.enter f args) W := hen
    clear hcall hK3 hf hoth hen
    go_wp2_with fail
    refine HT.out.mono ?_
    rintro e w4 ⟨tz, ⟨rfl, hx, hu⟩, htl⟩
    have HX4 := hide hx
    have HU4 := hide (HU3.out.trans hu)
    have HZ4 := hide (HZ3.out.upto hu (by omega))
    have HTL := hide htl
    clear HT hx hu htl hlk hen'
    obtain ⟨z0, z1, z2, z3⟩ := HZ4.out.cells
    have g0 := HZ4.out.frozen 0
    have g1 := HZ4.out.frozen 1
    have g2 := HZ4.out.frozen 2
    have g3 := HZ4.out.frozen 3
    go_wp2_with fail
    change bodyPost _ _ _ _ ⟨_, _⟩ (putT w4 w.heap.size xx)
    obtain ⟨q0, q1, q2, q3⟩ := putT_cells HZ4.out xx
    obtain ⟨e1, e2⟩ := putT_keep HU4.out HX4.out hlt (Nat.le_refl _) xx
    refine bodyPost_ret (v := TV xx) (by simp [results, Tryz.results26, go_sem, q0, q1, q2, q3]) rfl ?_
    exact ⟨tz, ⟨rfl, e1, e2⟩, HTL.out⟩
  · have hlk := hK3.miss c hf
    have hT0 := hoth w3 t HX3.out
    rw [← heq] at hT0
    have HT := hide hT0
    clear hK3 hf hoth hT0 heq
    go_wp2_with fail
    refine HT.out.mono ?_
    rintro e w4 ⟨tz, ⟨rfl, hx, hu⟩, htl⟩
    have HX4 := hide hx
    have HU4 := hide (HU3.out.trans hu)
    have HZ4 := hide (HZ3.out.upto hu (by omega))
    have HTL := hide htl
    clear HT hx hu htl hlk
    obtain ⟨z0, z1, z2, z3⟩ := HZ4.out.cells
    have g0 := HZ4.out.frozen 0
    have g1 := HZ4.out.frozen 1
    have g2 := HZ4.out.frozen 2
    have g3 := HZ4.out.frozen 3
    go_wp2_with fail
    change bodyPost _ _ _ _ ⟨_, _⟩ (putT w4 w.heap.size xx)
    obtain ⟨q0, q1, q2, q3⟩ := putT_cells HZ4.out xx
    obtain ⟨e1, e2⟩ := putT_keep HU4.out HX4.out hlt (Nat.le_refl _) xx
    refine bodyPost_ret (v := TV xx) (by simp [results, Tryz.results26, go_sem, q0, q1, q2, q3]) rfl ?_
    exact ⟨tz, ⟨rfl, e1, e2⟩, HTL.out⟩
end Go.Proofs.YtojgcangnkjmjaaGreatDoor
