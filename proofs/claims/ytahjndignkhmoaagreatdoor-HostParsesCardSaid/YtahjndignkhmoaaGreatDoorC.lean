/- Percent signs decoded. -/
import Derived.Test.YtahjndignkhmoaaGreatDoorB
import Derived.Test.YtahjndignkhmoaaGreatDoorFour
import Derived.Deep.QuietTactic
import Derived.BigQuiet
import Derived.Lib.AppendIntMem
namespace Go.Proofs.YtahjndignkhmoaaGreatDoor
open Go.RowKit

/-- what lies in the library's variables -/
structure Tab (w : World) : Prop where
  max : ∃ m : Int, w.cell? ⟨0, 0, none⟩ = some (.int .i64 m)
  syn : ∃ t p, w.cell? ⟨1, 0, none⟩ = some (.iface t p)
  rng : ∃ t p, w.cell? ⟨2, 0, none⟩ = some (.iface t p)
  pow : Lib.TabIs Tryz.prog w "internal/strconv.uint64pow10" .u64 Lib.pow10Tab
theorem cell_below {w w' : World} {p : Addr} {v : Value} (h : w.cell? p = some v) (hb : Below w.heap.size w w') : w'.cell? p = some v := (hb.cell (World.block_lt_of_cell? w _ h)).trans h
theorem Tab.below {w w' : World} (h : Tab w) (hb : Below w.heap.size w w') : Tab w' := by
  obtain ⟨⟨m, hm⟩, ⟨t1, p1, h1⟩, ⟨t2, p2, h2⟩, h3⟩ := h
  exact ⟨⟨m, cell_below hm hb⟩, ⟨t1, p1, cell_below h1 hb⟩, ⟨t2, p2, cell_below h2 hb⟩, Lib.tabBelow_of_tabIs h3 w' hb⟩
theorem belowN (w : World) (n : Nat) : Below w.heap.size w (w.drewN n) := ⟨rfl, rfl, rfl, Nat.le_refl _, fun _ _ => rfl⟩
theorem owns_below {w w' : World} {B : Nat} {e : TypeId} {size : Nat} {v : Value} {n : Nat} {xs : List Value} (h : w.ownsRow B e size v n xs) (hb : Below w.heap.size w w') : w'.ownsRow B e size v n xs := by
  refine ⟨h.1, ?_⟩
  rcases h.2 with h0 | ⟨g, cap, cur, hv, hg, hh, r⟩
  · exact .inl h0
  · exact .inr ⟨g, cap, cur, hv, hg, (hb.block g (heap_lt hh)).trans hh, r⟩
theorem bld_below {B b : Nat} {bs : List UInt8} {w w' : World} (h : Bld B b bs w) (hb : Below w.heap.size w w') : Bld B b bs w' := by
  rcases h with ⟨hB, v, hh, ho, hn⟩ | ⟨hB, v, hh, ho, hn⟩
  · exact .inl ⟨hB, v, (hb.block b (heap_lt hh)).trans hh, owns_below ho hb, hn⟩
  · exact .inr ⟨hB, v, (hb.block b (heap_lt hh)).trans hh, owns_below ho hb, hn⟩
theorem sCut (l q a r : List UInt8) (b : Bool) (m : Int) (w : World) (hl : l.length < 4294967281) (hm : w.cell? ⟨0, 0, none⟩ = some (.int .i64 m)) (hn : Hid (Lib.cut l q = (a, r, b))) :
    Calls Tryz.prog 35 #[S l, S q] w fun e w' => e = .returned (.tuple #[S a, S r, .bool b]) ∧ ∃ n, w.drewN n = w' :=
  (Tryz.strings_Cut ⟨l.toArray⟩ ⟨q.toArray⟩ m w (by rw [bl_size]; exact hl) hm).mono fun _ _ h => ⟨by
    have e : Lib.cut (⟨l.toArray⟩ : ByteArray).data.toList (⟨q.toArray⟩ : ByteArray).data.toList = (a, r, b) := hn.out
    rw [h.1, e], h.2.imp fun _ h => h.symm⟩
theorem cut_no (c : UInt8) (l : List UInt8) (h : ∀ b ∈ l, b ≠ c) : Lib.cut l [c] = (l, [], false) := by
  unfold Lib.cut
  rw [Hostp.index_no c l h, if_neg (by decide)]
theorem cut_at (c : UInt8) (a r : List UInt8) (h : ∀ b ∈ a, b ≠ c) : Lib.cut (a ++ c :: r) [c] = (a, r, true) := by
  unfold Lib.cut
  rw [Hostp.index_at c a r h, if_pos (by omega), Int.toNat_natCast, List.take_left, List.length_singleton, ← List.drop_drop, List.drop_left]
  rfl
theorem quiet_left {P : Program} {f : FuncId} {args : Array Value} {w : World} {n : Nat} {v : Value}
    (h : Calls P f args (w.drewN n) (Ret v (w.drewN n))) : Calls P f args (w.drewN n) fun e w'' => e = .returned v ∧ ∃ m, w'' = w.drewN m :=
  h.mono fun _ _ ⟨he, hm⟩ => ⟨he, n, hm.symm⟩
theorem or16 : ∀ a b : Fin 16, bits BinOp.or .i64 ((a.val : Int) * 16) (b.val : Int) = (a.val : Int) * 16 + b.val := by decide +kernel

set_option maxRecDepth 100000 in
set_option maxHeartbeats 2000000 in
theorem pDecode (s : List UInt8) (u : List UInt8) (w : World) (hl : s.length ≤ 1048576) (ht : Tab w) (hu : Hid (Hostp.pDec s = u)) :
    Calls Tryz.prog 20 #[S s] w (Fresh (S u) w) := by
  have hbl := bld_new w
  have Ht := hide ht
  have hsz : (w.alloc (.cells #[.pointer none, .slice none 0 0] 78)).heap.size = w.heap.size + 1 := by simp
  have hb1 : Below w.heap.size w (w.alloc (.cells #[.pointer none, .slice none 0 0] 78)) := (Below.refl _ _).alloc (Nat.le_refl _) _
  clear ht
  go_enter Tryz.func20, Tryz.ntmps20
  go_wp2_with fail
  obtain ⟨w1, hw1⟩ : ∃ x, x = w.alloc (.cells #[.pointer none, .slice none 0 0] 78) := ⟨_, rfl⟩
  rw [← hw1] at hbl hsz hb1 ⊢
  obtain ⟨B, hB⟩ : ∃ B, B = w.heap.size := ⟨_, rfl⟩
  rw [← hB] at hbl hsz hb1 ⊢
  clear hw1
  go_loopg [0] s.length (fun g s0 wx => ∃ (l acc : List UInt8), l.length = g ∧ s0 = S l ∧ acc.length + l.length ≤ s.length ∧ Hid (acc ++ Hostp.pDec l = u) ∧ Bld B B acc wx ∧ Below B w wx ∧ B < wx.heap.size)
  case atStart => exact ⟨s, [], rfl, rfl, by simp, by unfold Hid; rw [List.nil_append]; exact hu.out, hbl, hb1, by omega⟩
  case round =>
    obtain ⟨l, acc, hlg, rfl, hal, hd, hbx, hbe, hsx⟩ := hrel
    have htr : Tab wr := Ht.out.below (by rw [← hB]; exact hbe)
    obtain ⟨m, hm⟩ := htr.max
    have hB' := hide hB
    clear hsz hbl hb1 hB htr
    rcases Hostp.part 37 l with hno | ⟨a, r, rfl, ha⟩
    · have e := hd.out
      rw [Hostp.pDec_no l hno] at e
      have Hc := hide (cut_no 37 l hno)
      clear hno
      go_wp2_with fail
      refine (sCut l [37] l [] false m _ (by omega) hm Hc).mono ?_
      rintro e w2 ⟨rfl, q, rfl⟩
      go_wp2_with fail
      refine (writeString B B acc l _ (bld_below hbx (belowN wr q)) (by show B ≤ wr.heap.size; omega) (by omega)).mono ?_
      rintro e w3 ⟨rfl, hb3, hk3⟩
      have hs3 : wr.heap.size ≤ w3.heap.size := hk3.below.size
      go_wp2_with fail
      refine (Tryz.Builder_String_any B B (acc ++ l) _ (.inr hb3) (by omega)).mono ?_
      rintro e w4 ⟨rfl, hb4⟩
      go_wp2_with fail
      go_ret
      exact ⟨by rw [← e]; rfl, by rw [← hB'.out]; exact hbe.trans (((belowN wr q).mono (by omega)).trans (hk3.below.trans hb4))⟩
    · have Hc := hide (cut_at 37 a r ha)
      have hd2 := hd.out
      rw [Hostp.pDec_app a _ ha] at hd2
      have HD2 := hide hd2
      simp only [List.length_append, List.length_cons] at hlg hal
      clear ha hd hd2
      go_wp2_with fail
      refine (sCut _ [37] a r true m _ (by simp; omega) hm Hc).mono ?_
      rintro e w2 ⟨rfl, q, rfl⟩
      go_wp2_with fail
      refine (writeString B B acc a _ (bld_below hbx (belowN wr q)) (by show B ≤ wr.heap.size; omega) (by omega)).mono ?_
      rintro e w3 ⟨rfl, hb3, hk3⟩
      have hs3 : wr.heap.size ≤ w3.heap.size := hk3.below.size
      have hbe3 : Below B w w3 := hbe.trans (((belowN wr q).mono (by omega)).trans hk3.below)
      have HBX := hide hbx
      clear hbx hk3 hm hbe
      by_cases h2 : r.length < 2
      · have HS := hide (Hostp.pDec_short r h2)
        go_wp2_with fail
        refine (writeByte B B (acc ++ a) 37 _ (.inr hb3) (by omega) (by simp only [List.length_append]; omega)).mono ?_
        rintro e w4 ⟨rfl, hb4, hk4⟩
        have hs4 : w3.heap.size ≤ w4.heap.size := hk4.below.size
        go_wp2_with fail
        go_roundg r.length
        case measure => omega
        case rel => exact ⟨r, acc ++ a ++ [37], rfl, rfl, by simp only [List.length_append, List.length_cons, List.length_nil]; omega, by unfold Hid; rw [← HD2.out, HS.out]; simp, .inr hb4, hbe3.trans hk4.below, by omega⟩
      · obtain ⟨x, y, t, rfl⟩ : ∃ x y t, r = x :: y :: t := by
          match r, h2 with
          | [], h => simp at h
          | [x], h => simp at h
          | x :: y :: t, _ => exact ⟨x, y, t, rfl⟩
        have hx := hex_ge x
        have hy := hex_ge y
        simp only [List.length_cons] at hlg hal
        have hcx := u8_lt x
        have hcy := u8_lt y
        obtain ⟨x0, x1⟩ := hx
        obtain ⟨y0, y1⟩ := hy
        clear h2
        go_wp2_with fail
        go_quiet ((go_at_call 48; exact quiet_left (tHex _ _)))
        have hbl4 := bld_below (B := B) (b := B) (.inr hb3) (belowN w3 nq)
        have hbe4 : Below B w (w3.drewN nq) := hbe3.trans ((belowN w3 nq).mono (by omega))
        obtain ⟨w4, hw4⟩ : ∃ z, z = w3.drewN nq := ⟨_, rfl⟩
        have hs4 : w3.heap.size = w4.heap.size := by rw [hw4]; rfl
        rw [← hw4] at hbl4 hbe4 ⊢
        have HB3 := hide hb3
        clear hb3 hbe3 hw4
        generalize hX : Hostp.hex x = X at x0 x1 ⊢
        generalize hY : Hostp.hex y = Y at y0 y1 ⊢
        by_cases hh : 0 ≤ X ∧ 0 ≤ Y
        · have HS := hide (Hostp.pDec_hit x y t (by rw [hX]; exact hh.1) (by rw [hY]; exact hh.2))
          obtain ⟨hX0, hY0⟩ := hh
          have ho : bits BinOp.or .i64 (X * 16) Y = X * 16 + Y := by
            have := or16 ⟨X.toNat, by omega⟩ ⟨Y.toNat, by omega⟩
            simp only at this
            rwa [Int.toNat_of_nonneg hX0, Int.toNat_of_nonneg hY0] at this
          obtain ⟨z, hz⟩ : ∃ z, UInt8.ofNat (X * 16 + Y).toNat = z := ⟨_, rfl⟩
          have hzz : (z.toNat : Int) = X * 16 + Y := by
            rw [← hz, UInt8.toNat_ofNat_of_lt' (by show (X * 16 + Y).toNat < 256; omega)]; omega
          have HX := hide hX
          have HY := hide hY
          have HZ := hide hz
          clear hX hY hz
          have hzz' := hide hzz
          clear hzz
          go_wp2_with fail
          rw [← hzz'.out]
          refine (writeByte B B (acc ++ a) z _ hbl4 (by omega) (by simp only [List.length_append]; omega)).mono ?_
          rintro e w5 ⟨rfl, hb5, hk5⟩
          have hs5 : w4.heap.size ≤ w5.heap.size := hk5.below.size
          go_wp2_with fail
          go_roundg t.length
          case measure => omega
          case rel => exact ⟨t, acc ++ a ++ [z], rfl, by first | rfl | simp, by simp only [List.length_append, List.length_cons, List.length_nil]; omega, by unfold Hid; rw [← HD2.out, HS.out, HX.out, HY.out, HZ.out]; simp, .inr hb5, hbe4.trans hk5.below, by omega⟩
        · have HS := hide (Hostp.pDec_miss x y t (by rw [hX, hY]; exact hh))
          have HX := hide hX
          have HY := hide hY
          have hh2 : X < 0 ∨ (0 ≤ X ∧ Y < 0) := by omega
          clear hX hY hh
          rcases hh2 with hh2 | ⟨hh1, hh2⟩
          all_goals
            first
            | (go_wp2_with fail
               refine (writeByte B B (acc ++ a) 37 _ hbl4 (by omega) (by simp only [List.length_append]; omega)).mono ?_
               rintro e w5 ⟨rfl, hb5, hk5⟩
               have hs5 : w4.heap.size ≤ w5.heap.size := hk5.below.size
               go_wp2_with fail
               go_roundg (t.length + 2)
               case measure => omega
               case rel => exact ⟨x :: y :: t, acc ++ a ++ [37], rfl, rfl, by simp only [List.length_append, List.length_cons, List.length_nil]; omega, by unfold Hid; rw [← HD2.out, HS.out]; simp, .inr hb5, hbe4.trans hk5.below, by omega⟩)
end Go.Proofs.YtahjndignkhmoaaGreatDoor
