/- Percent signs written: the set of controls. -/
import Derived.Test.YtahjndignkhmoaaGreatDoorC
import Derived.Deep.RegionHeld3
namespace Go.Proofs.YtahjndignkhmoaaGreatDoor
open Go.RowKit

set_option maxRecDepth 100000 in
theorem inCtl (c : UInt8) (w : World) : Calls Tryz.prog 73 #[B8 c, .int .u8 0] w (Ret (.bool (Hostp.ctl c)) w) := by
  have hc := u8_lt c
  go_enter Tryz.func73, Tryz.ntmps73
  go_wp2
  all_goals go_ret
  all_goals refine Ret.of (v_b ?_)
  all_goals unfold Hostp.ctl
  all_goals rw [Bool.eq_iff_iff]
  all_goals simp only [Bool.or_eq_true, decide_eq_true_eq, Bool.false_eq_true, false_iff, true_iff]
  all_goals omega

theorem copyCheck2 (B b : Nat) (bs : List UInt8) (w : World) (h : Bld B b bs w) :
    Calls Tryz.prog 75 #[.pointer (some ⟨b, 0, none⟩)] w fun e w' => e = .returned (.tuple #[]) ∧ BldAt B b bs w' ∧ Keep B w w' ∧ ∀ p : Addr, p.block ≠ b → w'.cell? p = w.cell? p := by
  rcases h with h | h
  · have h' := h
    obtain ⟨hB, v, hb, hown, hne⟩ := h
    refine (copyCheck_fresh b w h'.cell0 h'.shape (by simp [World.frozen?, hb])).mono ?_
    rintro e w' ⟨rfl, rfl⟩
    refine ⟨rfl, ⟨hB, v, by simp [World.setCell, Array.getElem?_modify, hb], hown.kept (set0_kept _) (.inr hne), hne⟩, (Keep.refl B w).setCell (p := ⟨b, 0, none⟩) hB hb (.inl rfl) _, fun p hp => ?_⟩
    exact World.cell?_of_block (Below.heap_setCell _ _ _ _ hp)
  · refine (copyCheck_used b w h.cell0).mono ?_
    rintro e w' ⟨rfl, rfl⟩
    exact ⟨rfl, h, Keep.refl _ _, fun _ _ => rfl⟩

set_option maxHeartbeats 2000000 in
set_option maxRecDepth 100000 in
theorem writeRow (B b g : Nat) (bs l : List UInt8) (w : World) (h : Bld B b bs w) (hBw : B ≤ w.heap.size) (_ : 0 < l.length) (hlen : bs.length + l.length ≤ 140737488355328) (hg : g ≠ b)
    (hc : ∀ (j : Nat) u, (l.map B8)[j]? = some u → w.cell? ((⟨g, 0, none⟩ : Addr).add j) = some u) :
    Calls Tryz.prog 74 #[.pointer (some ⟨b, 0, none⟩), .slice (some ⟨g, 0, none⟩) l.length l.length] w fun e w' => (∃ u, e = .returned u) ∧ BldAt B b (bs ++ l) w' ∧ Keep B w w' := by
  obtain ⟨i0, hi, hz0, hz1, hz2⟩ := info_parts info_byte
  have hcl : (Lib.byteCells bs).length = bs.length := by simp [Lib.byteCells]
  go_enter Tryz.func74, Tryz.ntmps74
  go_wp2_with fail
  refine (copyCheck2 B b bs _ h).mono ?_
  rintro e w1 ⟨rfl, h1, hk1, hsame⟩
  obtain ⟨hB, v, hbk, hown, hne⟩ := h1
  have c1 : w1.cell? ⟨b, 1, none⟩ = some v := by rw [Lib.cell_of_heap hbk]; rfl
  have hsz1 := hk1.below.size
  have hlt : b < w1.heap.size := heap_lt hbk
  have hc1 : ∀ (j : Nat) u, (l.map B8)[j]? = some u → w1.cell? ((⟨g, 0, none⟩ : Addr).add j) = some u := fun j u hu => by
    have hblk : ((⟨g, 0, none⟩ : Addr).add j).block = g := by
      unfold Addr.add
      split <;> rfl
    rw [hsame _ (by rw [hblk]; exact hg)]; exact hc j u hu
  have HC1 := hide hc1
  clear hc1 hc hsame
  go_wp2_with (at_builtin; refine wpList_append_own _ rfl _ _ 40 rfl B 5 i0 (.int .u8 0) 1 1 Tryz.underlying40 hi hz0 hz1 hz2 rfl (by decide) _ _ _ rfl hown ⟨g, 0, none⟩ l.length l.length (l.map B8) rfl (by simp) HC1.out ?c2 ?c3 ?c4 ?c5 ?_)
  case c2 =>
    intro u hu
    obtain ⟨x, _, rfl⟩ := List.mem_map.1 hu
    rfl
  case c3 => unfold maxLen; omega
  case c4 => omega
  case c5 => omega
  intro v' w2 hown' hgrow _
  have hb2 : w2.heap[b]? = some (Obj.cells #[.pointer (some ⟨b, 0, none⟩), v] 78 (0, 0)) := by
    rw [hgrow.block b hlt (fun e => hne e.symm)]; exact hbk
  have d1 : w2.cell? ⟨b, 1, none⟩ = some v := by rw [Lib.cell_of_heap hb2]; rfl
  have f1 : w2.frozen? ⟨b, 1, none⟩ = false := by simp [World.frozen?, hb2]
  have hk2 : Keep B w w2 := hk1.grown hown hgrow (by omega) (.inr rfl)
  have hne' : v'.ownBlock ≠ some b := fun e => by
    obtain ⟨x, hx⟩ := ownsRow_kind hown' b e
    rw [hb2] at hx
    injection hx with hx
    injection hx with _ hx _
    exact absurd hx (by decide)
  have hcells : Lib.byteCells bs ++ l.map B8 = Lib.byteCells (bs ++ l) := by simp [Lib.byteCells]
  have hown2 : w2.ownsRow B 5 1 v' (Lib.byteCells (bs ++ l)).length (Lib.byteCells (bs ++ l)) := by
    rw [← hcells]; simpa [hcl] using hown'
  obtain ⟨ao, n', cap, rfl⟩ : ∃ ao n' cap, v' = .slice ao n' cap := by
    rcases hown2.2 with ⟨hv, _⟩ | ⟨g, cap, cur, hv, _⟩
    · exact ⟨_, _, _, hv⟩
    · exact ⟨_, _, _, hv⟩
  clear hown hgrow hk1 h hbk c1 hown'
  go_wp2_with fail
  go_ret2
  exact ⟨⟨_, rfl⟩, ⟨hB, _, by simp [World.setCell, Array.getElem?_modify, hb2], hown2.kept (set1_kept _) (.inr hne'), hne'⟩, hk2.setCell (p := ⟨b, 1, none⟩) hB hb2 (.inl rfl) _⟩

theorem cell_row3 (w : World) (T : TypeId) (x y z : UInt8) : ∀ (j : Nat) (u : Value), ([x, y, z].map B8)[j]? = some u → (w.alloc (.cells #[B8 x, B8 y, B8 z] T)).drew.cell? ((⟨w.heap.size, 0, none⟩ : Addr).add j) = some u := by
  intro j u hu
  show (w.alloc _).cell? _ = _
  match j, hu with
  | 0, hu => simp at hu; subst hu; rw [show (⟨w.heap.size, 0, none⟩ : Addr).add 0 = ⟨w.heap.size, 0, none⟩ by simp [Addr.add], World.cell?_alloc_at _ _ _ _ rfl]; rfl
  | 1, hu => simp at hu; subst hu; rw [show (⟨w.heap.size, 0, none⟩ : Addr).add 1 = ⟨w.heap.size, 1, none⟩ by simp [Addr.add], World.cell?_alloc_at _ _ _ _ rfl]; rfl
  | 2, hu => simp at hu; subst hu; rw [show (⟨w.heap.size, 0, none⟩ : Addr).add 2 = ⟨w.heap.size, 2, none⟩ by simp [Addr.add], World.cell?_alloc_at _ _ _ _ rfl]; rfl
theorem hexU_at : ∀ n : Fin 16, ([48, 49, 50, 51, 52, 53, 54, 55, 56, 57, 65, 66, 67, 68, 69, 70] : List UInt8)[n.val]? = some (Hostp.hexU n.val) := by decide
theorem hexU_get (m n : Nat) (e : m = n) (hn : n < 16) (h) : ([48, 49, 50, 51, 52, 53, 54, 55, 56, 57, 65, 66, 67, 68, 69, 70] : List UInt8)[m]'h = Hostp.hexU n := by
  subst e
  have := hexU_at ⟨m, hn⟩
  rw [List.getElem?_eq_getElem h] at this
  injection this
theorem and15 : ∀ n : Fin 256, bits BinOp.and .u8 (n.val : Int) 15 = ((n.val % 16 : Nat) : Int) := by decide +kernel

set_option maxRecDepth 100000 in
set_option maxHeartbeats 2000000 in
theorem pEncode (s : List UInt8) (u : List UInt8) (w : World) (hl : s.length ≤ 1048576) (hu : Hid (Hostp.pEnc s = u)) :
    Calls Tryz.prog 45 #[S s, .int .u8 0] w (Fresh (S u) w) := by
  have hbl := bld_new w
  have hsz : (w.alloc (.cells #[.pointer none, .slice none 0 0] 78)).heap.size = w.heap.size + 1 := by simp
  have hb1 : Below w.heap.size w (w.alloc (.cells #[.pointer none, .slice none 0 0] 78)) := (Below.refl _ _).alloc (Nat.le_refl _) _
  go_enter Tryz.func45, Tryz.ntmps45
  go_wp2_with fail
  obtain ⟨w1, hw1⟩ : ∃ x, x = w.alloc (.cells #[.pointer none, .slice none 0 0] 78) := ⟨_, rfl⟩
  rw [← hw1] at hbl hsz hb1 ⊢
  obtain ⟨B, hB⟩ : ∃ B, B = w.heap.size := ⟨_, rfl⟩
  rw [← hB] at hbl hsz hb1 ⊢
  clear hw1
  go_loopg [10] s.length (fun g s10 wx => ∃ (i : Nat) (acc : List UInt8), i + g = s.length ∧ s10 = .int .i64 i ∧ acc.length ≤ 3 * i ∧ Hid (acc ++ Hostp.pEnc (s.drop i) = u) ∧ Bld B B acc wx ∧ Below B w wx ∧ B < wx.heap.size)
  case atStart => exact ⟨0, [], by omega, rfl, by simp, by unfold Hid; simpa using hu.out, hbl, hb1, by omega⟩
  case round =>
    obtain ⟨i, acc, hi, rfl, hal, hd, hbx, hbe, hsx⟩ := hrel
    have hB' := hide hB
    clear hsz hbl hb1 hB
    by_cases hlt : i < s.length
    · obtain ⟨c, hc⟩ : ∃ c, s[i] = c := ⟨_, rfl⟩
      have hcons : s.drop i = c :: s.drop (i + 1) := by rw [List.drop_eq_getElem_cons hlt, hc]
      have hd2 := hd.out
      rw [hcons, Hostp.pEnc] at hd2
      have hcb := u8_lt c
      clear hd hcons
      cases hctl : Hostp.ctl c
      · rw [hctl, if_neg (by decide)] at hd2
        have HD2 := hide hd2
        clear hd2
        go_wp2_with fail
        refine (inCtl c _).mono ?_
        rintro e w2 ⟨rfl, rfl⟩
        rw [hctl]
        go_wp2_with fail
        refine (writeByte B B acc c _ hbx (by omega) (by omega)).mono ?_
        rintro e w3 ⟨rfl, hb3, hk3⟩
        have hs3 := hk3.below.size
        go_wp2_with fail
        go_roundg (gk - 1)
        case measure => omega
        case rel => exact ⟨i + 1, acc ++ [c], by omega, by go_num, by simp only [List.length_append, List.length_cons, List.length_nil]; omega, by unfold Hid; rw [← HD2.out]; simp, .inr hb3, hbe.trans hk3.below, by omega⟩
      · rw [hctl, if_pos rfl] at hd2
        have HD2 := hide hd2
        have ha := and15 ⟨c.toNat, c.toNat_lt⟩
        simp only at ha
        have hq0 : (0 : Int) ≤ (c.toNat : Int) / 16 := by omega
        have hq1 : (c.toNat : Int) / 16 < 16 := by omega
        have hr0 : (0 : Int) ≤ (c.toNat : Int) % 16 := by omega
        have hr1 : (c.toNat : Int) % 16 < 16 := by omega
        have hx1 : ∀ h, ([48, 49, 50, 51, 52, 53, 54, 55, 56, 57, 65, 66, 67, 68, 69, 70] : List UInt8)[((c.toNat : Int) / 16).toNat]'h = Hostp.hexU (c.toNat / 16) := fun h => hexU_get _ (c.toNat / 16) (by omega) (by omega) h
        have hx2 : ∀ h, ([48, 49, 50, 51, 52, 53, 54, 55, 56, 57, 65, 66, 67, 68, 69, 70] : List UInt8)[((c.toNat : Int) % 16).toNat]'h = Hostp.hexU (c.toNat % 16) := fun h => hexU_get _ (c.toNat % 16) (by omega) (by omega) h
        have HX := hide (And.intro hx1 hx2)
        clear hd2 hx1 hx2
        go_wp2_with fail
        refine (inCtl c _).mono ?_
        rintro e w2 ⟨rfl, rfl⟩
        rw [hctl]
        go_wp2_with fail
        go_region_held3 (fun _ => True) (trivial) ((go_at_call 74; refine (writeRow B B wr.heap.size acc [37, _, _] _ (bld_below hbx (((Below.refl _ _).alloc (Nat.le_refl _) _).drew)) (by simp; omega) (by simp) (by simp; omega) (by omega) (cell_row3 wr _ _ _ _)).mono ?_; rintro e w4 ⟨⟨u0, rfl⟩, hb4, hk4⟩))
        all_goals (
          have hs4 := hk4.below.size
          have hw4 : Below B w w4 := hbe.trans ((((Below.refl B wr).alloc (by omega) _).drew).trans hk4.below)
          rw [HX.out.1, HX.out.2] at hb4
          clear HX
          have hE : acc ++ [37, Hostp.hexU (c.toNat / 16), Hostp.hexU (c.toNat % 16)] ++ Hostp.pEnc (List.drop (i + 1) s) = u := by rw [← HD2.out]; simp
          have HE := hide hE
          clear hE hk4
          go_wp2_with fail
          go_roundg (gk - 1)
          (case measure => omega)
          (case rel => exact ⟨i + 1, acc ++ [37, Hostp.hexU (c.toNat / 16), Hostp.hexU (c.toNat % 16)], by omega, by go_num, by simp only [List.length_append, List.length_cons, List.length_nil]; omega, HE, .inr hb4, hw4, by simp at hs4; omega⟩))
    · have hd2 := hd.out
      rw [List.drop_eq_nil_of_le (by omega), Hostp.pEnc, List.append_nil] at hd2
      subst hd2
      clear hd
      go_wp2_with fail
      refine (Tryz.Builder_String_any B B acc _ hbx (by omega)).mono ?_
      rintro e w4 ⟨rfl, hb4⟩
      go_wp2_with fail
      go_ret
      exact ⟨rfl, by rw [← hB'.out]; exact hbe.trans hb4⟩
end Go.Proofs.YtahjndignkhmoaaGreatDoor
