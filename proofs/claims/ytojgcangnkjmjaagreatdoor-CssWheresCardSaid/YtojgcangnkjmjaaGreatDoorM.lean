/- text: a string. (Printed by genCssM.py.) -/
import Derived.Test.YtojgcangnkjmjaaGreatDoorL
import Derived.Deep.QuietTactic
import Derived.BigQuiet
import Derived.Deep.RegionHeld3
import Derived.StillTailTactics
namespace Go.Proofs.YtojgcangnkjmjaaGreatDoor
open Go.RowKit

theorem enc_quote {q : UInt8} (h : q = 34 ∨ q = 39) : Utf8.encode (q.toNat : Int) = ⟨[q].toArray⟩ := by
  rcases h with rfl | rfl <;> kernel_rfl
theorem trim_nil (q : UInt8) : Lib.trimPrefix [] [q] = [] := by simp [Lib.trimPrefix]
theorem trim_cons (q : UInt8) (r : List UInt8) : Lib.trimPrefix (q :: r) [q] = r := by simp [Lib.trimPrefix, Lib.hasPrefix]
theorem trimC (l : List UInt8) (q : UInt8) (w : World) (hq : q = 34 ∨ q = 39) : Calls Tryz.prog 67 #[S l, .string (Utf8.encode (q.toNat : Int))] w (Ret (S (Lib.trimPrefix l [q])) w) := by
  rw [enc_quote hq]
  exact (Tryz.strings_TrimPrefix ⟨l.toArray⟩ ⟨[q].toArray⟩ w).mono fun _ _ h => ⟨h.1, h.2.symm⟩
/-- a byte's box -/
def Qx (w : World) (B : Nat) (q : UInt8) : Prop := w.heap[B]? = some (.cells #[.int .u8 q.toNat] 5 (0, 0))
theorem Qx.cell {w : World} {B : Nat} {q : UInt8} (h : Qx w B q) : w.cell? ⟨B, 0, none⟩ = some (.int .u8 q.toNat) := by
  have h' : w.heap[B]? = _ := h
  simp [World.cell?, h']
theorem Qx.upto {w w' : World} {B b : Nat} {q : UInt8} (h : Qx w B q) (hu : Upto b w w') (hb : B ≠ b) : Qx w' B q := (hu.2 B (heap_lt h) hb).trans h
theorem Qx.new (w : World) (q : UInt8) : Qx (w.alloc (.cells #[.int .u8 q.toNat] 5)) w.heap.size q := by
  show (w.heap.push _)[w.heap.size]? = _
  simp
/-- where a string's loop stands: on its way; or all is read and the last escape could go on -/
def StrAt (q : UInt8) (s1 l acc tt : List UInt8) (oo : Bool) : Prop :=
  (oo = false ∧ ∃ k, s1.drop k = l ∧ k + l.length = s1.length ∧ Cssp.textX q s1 = (Cssp.textX q l).on acc k) ∨
  (l = [] ∧ oo = true ∧ ∃ e, Cssp.textX q s1 = ⟨false, acc, s1.length, true, true, e⟩ ∧ tt = s1.drop e)
set_option maxRecDepth 100000 in
set_option maxHeartbeats 8000000 in
theorem text_ (s t : List UInt8) (b : Nat) (q : UInt8) (s1 : List UInt8) (w : World) (h : Lx w b s false false t) (hs : s = q :: s1) (hq : q = 34 ∨ q = 39) (hl : s.length ≤ 1048576) :
    Calls Tryz.prog 38 #[.pointer (some ⟨b, 0, none⟩)] w (TokP (Cssp.text s) s w b) := by
  have hT : Cssp.text s = ⟨if (Cssp.textX q s1).bad = true then Cssp.tk 7 [] else Cssp.tk 6 (Cssp.textX q s1).t, (Cssp.textX q s1).k + 1, (Cssp.textX q s1).o, (Cssp.textX q s1).i, (Cssp.textX q s1).e + 1⟩ := by
    rw [hs, Cssp.text]
    have e1 : Cssp.at_ (q :: s1) 0 = q := rfl
    have e2 : Cssp.textF q ((q :: s1).length + 1) s1 = Cssp.textX q s1 := Cssp.textF_fuel q _ _ s1 (by simp; omega) (Nat.lt_succ_self _)
    simp only [e1, List.drop_succ_cons, List.drop_zero, e2]
  have hsd : ∀ k, s.drop (k + 1) = s1.drop k := fun k => by rw [hs, List.drop_succ_cons]
  have hs1 : 1 ≤ s.length := by rw [hs]; simp
  have hl1 : s1.length + 1 = s.length := by rw [hs]; simp
  obtain ⟨X, hX⟩ : ∃ X, Cssp.textX q s1 = X := ⟨_, rfl⟩
  have hXl := (Cssp.textX_len q s1.length s1 (Nat.le_refl _))
  rw [hX] at hT hXl
  have HTT := hide hT
  have HSD := hide hsd
  have HX := hide hX
  have htk : s.take 1 = [q] := by rw [hs]; rfl
  have htd : s.drop 1 = s1 := by rw [hs]; rfl
  have hT1 : ∀ w1, Lx w1 b s false false t → Calls Tryz.prog 63 #[.pointer (some ⟨b, 0, none⟩), .int .i64 1] w1 (Left (S [q]) w1 b s1 false false t) := fun w1 hx => by
    have := take_ s t b 1 false false w1 hx hs1
    rw [htk, htd] at this
    exact this
  have HT1 := hide hT1
  clear hT hsd hX hs htk htd hT1
  have hz := Zt.new w
  have hal := (Below.refl w.heap.size w).alloc (Nat.le_refl _) (.cells #[.int .u8 0, S [], S [], .bool false] 27)
  have hx := h.below hal
  have hlt := h.lt
  go_enter Tryz.func38, Tryz.ntmps38
  go_upto_region 1 with (fail)
  change Code.wp _ _ _ _ (w.alloc (.cells #[.int .u8 0, S [], S [], .bool false] 27))
  obtain ⟨w1, hw1⟩ : ∃ x, x = w.alloc (.cells #[.int .u8 0, S [], S [], .bool false] 27) := ⟨_, rfl⟩
  rw [← hw1] at hz hal hx ⊢
  clear hw1 h
  have HC1 := hide (HT1.out w1 hx)
  have HZ1 := hide hz
  have HU1 := hide (p := Upto b w w1) (Upto.of_below hal)
  have hsz1 := hal.size
  have hzlt := hz.lt
  clear hz hal hx HT1
  go_wp2_with fail
  refine HC1.out.mono ?_
  rintro e w2 ⟨rfl, hx, hu⟩
  have HX2 := hide hx
  have HU2 := hide (HU1.out.trans hu)
  have HZ2 := hide (HZ1.out.upto hu (by omega))
  have hsz2 := hu.size
  clear HC1 hx hu
  go_upto_region 2 with (fail)
  change Code.wp _ _ _ _ (w2.alloc (.cells #[.int .u8 q.toNat] 5))
  have hqx := Qx.new w2 q
  have hal := (Below.refl w2.heap.size w2).alloc (Nat.le_refl _) (.cells #[.int .u8 q.toNat] 5)
  generalize hgen : w2.alloc (.cells #[.int .u8 q.toNat] 5) = w4 at hqx hal ⊢
  clear hgen
  have HX4 := hide (HX2.out.below hal)
  have HU4 := hide (HU2.out.trans (Upto.of_below hal))
  have HZ4 := hide (HZ2.out.below hal)
  have HQ4 := hide hqx
  have hsz4 := hal.size
  have hqlt : w2.heap.size < w4.heap.size := heap_lt hqx
  clear hal hqx
  go_upto_region 3 with (fail)
  change Code.wp _ _ _ _ (w4.alloc (.cells #[.pointer none, .slice none 0 0] 99))
  have hbl := bld_new w4
  have hal := (Below.refl w4.heap.size w4).alloc (Nat.le_refl _) (.cells #[.pointer none, .slice none 0 0] 99)
  generalize hgen : w4.alloc (.cells #[.pointer none, .slice none 0 0] 99) = w5 at hbl hal ⊢
  clear hgen
  have HX5 := hide (HX4.out.below hal)
  have HU5 := hide (p := Upto b w4 w5) (Upto.of_below hal)
  have HB5 := hide hbl
  clear hal hbl
  have HST : Hid (StrAt q s1 s1 [] t false) := .inl ⟨rfl, 0, rfl, by omega, (Cssp.on_nil _).symm⟩
  go_wp2_with fail
  go_loopg [8] s.length (fun g _ wx => ∃ (l acc tt : List UInt8) (oo : Bool), l.length ≤ g ∧ g ≤ s.length ∧ Hid (Lx wx b l false oo tt) ∧ Hid (Bld w4.heap.size w4.heap.size acc wx) ∧ Hid (Upto b w4 wx) ∧ Hid (StrAt q s1 l acc tt oo) ∧ acc.length ≤ 8388608)
  case atStart => exact ⟨s1, [], t, false, by omega, Nat.le_refl _, HX5.out, HB5.out, HU5.out, HST.out, by simp⟩
  case round =>
    obtain ⟨l, acc, tt, oo, hlg, hgs, hLx, hBld, hUp, hSt, hacc⟩ := hrel
    have hll : l.length ≤ 1048576 := by omega
    have hqr := HQ4.out.upto hUp.out (by omega)
    have cq := hqr.cell
    have HQR := hide hqr
    have hmf : ∀ (fn : Fn) (first cap : Array Value) (w : World), (Instr.makeFunc fn first cap).run Tryz.prog w = .ok (.func fn first cap) w := fun _ _ _ _ => rfl
    have HW := hide (whileText l tt b false oo wr hLx.out (by omega) q w2.heap.size cq)
    obtain ⟨n, hn⟩ : ∃ n, Cssp.run (Cssp.strU q) l = n := ⟨_, rfl⟩
    have hnl2 := Cssp.run_le (Cssp.strU q) l
    have hstop := Cssp.run_drop (Cssp.strU q) l
    have hrun := Cssp.textX_run q l
    rw [hn] at HW hnl2 hstop hrun
    obtain ⟨m, hm⟩ : ∃ m, l.drop n = m := ⟨_, rfl⟩
    rw [hm] at HW hrun
    have hml : m.length + n = l.length := by rw [← hm, List.length_drop]; omega
    have HM := hide hm
    have hm0 : Hid (∀ c r, m = c :: r → Cssp.strU q c = false) := by
      unfold Hid
      intro c r e
      have hh := hstop
      unfold Cssp.isAt at hh
      have hg : l[n]? = some c := by
        have : (l.drop n)[0]? = some c := by rw [hm, e]; rfl
        rwa [List.getElem?_drop, Nat.add_zero] at this
      rw [hg] at hh
      exact hh
    have hSt2 : Hid (StrAt q s1 m (acc ++ l.take n) tt oo) := by
      unfold Hid
      rcases hSt.out with ⟨rfl, k, h1, h2, h3⟩ | ⟨rfl, rfl, e, h1, h2⟩
      · refine .inl ⟨rfl, k + n, ?_, by omega, ?_⟩
        · rw [← List.drop_drop, h1, hm]
        · rw [h3, hrun, Cssp.on_on]
      · have hn0 : n = 0 := by rw [← hn]; rfl
        subst hn0
        have hme : m = [] := by rw [← hm]; rfl
        refine .inr ⟨hme, rfl, e, ?_, h2⟩
        rw [h1]
        simp
    have htl : (l.take n).length ≤ 1048576 := by rw [List.length_take]; omega
    have htl2 : (l.take n).length = n := by rw [List.length_take]; omega
    clear hstop hrun hm hn hqr
    go_wp2_with fail
    refine HW.out.mono ?_
    rintro e w6 ⟨rfl, hLx6, hU6⟩
    have hB6 := bld_upto hBld.out hU6 (by omega)
    have HLX6 := hide hLx6
    have HUP6 := hide (hUp.out.trans hU6)
    have HWS := hide (writeString w4.heap.size w4.heap.size acc (l.take n) w6 hB6 HUP6.out.size (by omega))
    clear HW hLx6 hU6 hB6 cq
    go_wp2_with fail
    refine HWS.out.mono ?_
    rintro e w7 ⟨rfl, hB7, hk7⟩
    have hLx7 := HLX6.out.keep hk7.below (by omega)
    have HUP7 := hide (HUP6.out.keep hk7.below)
    have HB7 := hide (p := Bld w4.heap.size w4.heap.size (acc ++ l.take n) w7) (.inr hB7)
    have hq7 := HQ4.out.upto HUP7.out (by omega)
    have cq := hq7.cell
    obtain ⟨c0, c1, c2, c3⟩ := hLx7.cells
    have f0 := hLx7.frozen 0
    have f1 := hLx7.frozen 1
    have f2 := hLx7.frozen 2
    have f3 := hLx7.frozen 3
    have HLX7 := hide hLx7
    clear HWS hB7 hk7 hLx7 hq7 HLX6 HUP6 hmf
    obtain ⟨A, hA⟩ : ∃ A, acc ++ l.take n = A := ⟨_, rfl⟩
    rw [hA] at HB7 hSt2
    have hAl : A.length = acc.length + n := by rw [← hA, List.length_append, htl2]
    clear hA HM
    cases m with
    | nil =>
      have hs1 := HLX7.out.set1 true
      have hu1 := HUP7.out.setCell 1 (.bool true)
      go_upto_region 10 with (fail)
      have hbk : Below w4.heap.size w7 (w7.setCell ⟨b, 1, none⟩ (.bool true)) → False ∨ True := fun _ => .inr trivial
      have hb8 := bld_upto HB7.out ((Upto.refl b w7).setCell 1 (.bool true)) (by omega)
      generalize hgen : w7.setCell ⟨b, 1, none⟩ (.bool true) = w8 at hs1 hu1 hb8 ⊢
      clear hgen hbk c0 c1 c2 c3 f0 f1 f2 f3 cq
      have HLX8 := hide hs1
      have HUP8 := hide hu1
      have HB8 := hide hb8
      have hq8 := HQ4.out.upto hu1 (by omega)
      have cq := hq8.cell
      obtain ⟨c0, c1, c2, c3⟩ := hs1.cells
      have f0 := hs1.frozen 0
      have HTR := fun W => hide (trimC [] q W hq)
      clear hs1 hu1 hb8 hq8
      have hqb := u8_lt q
      have hqn : (0 : Int) ≤ (q.toNat : Int) := by omega
      have hwq : IntKind.i32.wrap (q.toNat : Int) = (q.toNat : Int) := by rcases hq with rfl | rfl <;> rfl
      first | go_region_with (go_at_call 67; refine Calls.mono (HTR _).out ?_; rintro e w9 ⟨rfl, rfl⟩) | fail
      all_goals
        go_simp
        have hx9 := HLX8.out.set0 ([])
        have hu9 := HUP8.out.setCell 0 (S ([]))
        have hb9 := bld_upto HB8.out ((Upto.refl b w8).setCell 0 (S ([]))) (by omega)
        have hdw : ∀ W : World, Lx W b ([]) true oo tt → Lx W.drew b ([]) true oo tt := fun _ h => h
        have hdu : ∀ W : World, Upto b w4 W → Upto b w4 W.drew := fun _ h => ⟨h.1.drew, h.2⟩
        have hdb : ∀ W : World, Bld w4.heap.size w4.heap.size A W → Bld w4.heap.size w4.heap.size A W.drew := fun _ h => h
        obtain ⟨w9, hw9⟩ : ∃ x, x = (w8.setCell ⟨b, 0, none⟩ (S ([]))).drew := ⟨_, rfl⟩
        have HX9 := hide (p := Lx w9 b ([]) true oo tt) (by rw [hw9]; exact hdw _ hx9)
        have HU9 := hide (p := Upto b w4 w9) (by rw [hw9]; exact hdu _ hu9)
        have HB9 := hide (p := Bld w4.heap.size w4.heap.size A w9) (by rw [hw9]; exact hdb _ hb9)
        rw [show Lib.trimPrefix ([]) [q] = [] by exact trim_nil q]
        first
          | rw [show (w8.setCell ⟨b, 0, none⟩ (Value.string { data := ([]).toArray })).drew = w9 from hw9.symm]
          | rw [show w8.drew.setCell ⟨b, 0, none⟩ (Value.string { data := ([]).toArray }) = w9 from hw9.symm]
        clear hx9 hu9 hb9 hdw hdu hdb hw9 c0 c1 c2 c3 f0 cq
        have HST9 := hide (Tryz.Builder_String_any w4.heap.size w4.heap.size A w9 HB9.out HU9.out.size)
        go_wp2_with fail
        refine HST9.out.mono ?_
        rintro e w10 ⟨rfl, hb10⟩
        have HXE := hide (HX9.out.keep hb10 (by omega))
        have HUE := hide (HU9.out.keep hb10)
        clear HST9 hb10
        have hz := HZ4.out.upto HUE.out (by omega)
        obtain ⟨z0, z1, z2, z3⟩ := hz.cells
        have g0 := hz.frozen 0
        have g1 := hz.frozen 1
        have g2 := hz.frozen 2
        have g3 := hz.frozen 3
        have HZE := hide hz
        clear hz
        go_wp2_with fail
        refine (token_ 6 A w10 (by decide)).mono ?_
        rintro e wz ⟨rfl, hbz⟩
        have hzz := HZE.out.below hbz
        have HXZ := hide (HXE.out.below hbz)
        have HUZ := hide ((HU4.out.trans HUE.out).trans (Upto.of_below hbz))
        clear z0 z1 z2 z3 g0 g1 g2 g3
        obtain ⟨z0, z1, z2, z3⟩ := hzz.cells
        have g0 := hzz.frozen 0
        have g1 := hzz.frozen 1
        have g2 := hzz.frozen 2
        have g3 := hzz.frozen 3
        have HZZ := hide hzz
        clear hbz hzz
        go_wp2_with fail
        change bodyPost _ _ _ _ ⟨_, _⟩ (putT wz w.heap.size (Cssp.tk 6 A))
        obtain ⟨q0, q1, q2, q3⟩ := putT_cells HZZ.out (Cssp.tk 6 A)
        obtain ⟨e1, e2⟩ := putT_keep HUZ.out HXZ.out hlt (Nat.le_refl _) (Cssp.tk 6 A)
        refine bodyPost_ret (v := TV (Cssp.tk 6 A)) (by simp [results, Tryz.results38, go_sem, q0, q1, q2, q3]) rfl ?_
        rcases hSt2.out with ⟨rfl, k, h1, h2, h3⟩ | ⟨-, rfl, e, h1, h2⟩
        · have hXX : X = ⟨false, A, k, false, true, k⟩ := by
            rw [← HX.out, h3, Cssp.textX_nil]
            simp [Cssp.Tx.on]
          refine ⟨tt, ⟨?_, ?_, e2⟩, fun _ h => ?_⟩
          · rw [HTT.out, hXX]; rfl
          · rw [HTT.out, hXX]
            show Lx _ _ (s.drop (k + 1)) true false _
            rw [HSD.out, h1]
            exact e1
          · rw [HTT.out, hXX] at h
            cases h
        · have hXX : X = ⟨false, A, s1.length, true, true, e⟩ := by rw [← HX.out, h1]
          refine ⟨tt, ⟨?_, ?_, e2⟩, fun _ _ _ => ?_⟩
          · rw [HTT.out, hXX]; rfl
          · rw [HTT.out, hXX]
            show Lx _ _ (s.drop (s1.length + 1)) true true _
            rw [HSD.out, List.drop_length]
            exact e1
          · rw [HTT.out, hXX]
            show tt = s.drop (e + 1)
            rw [HSD.out, h2]
    | cons c r =>
      have hcs : Cssp.strU q c = false := hm0.out c r rfl
      obtain ⟨k, h1, h2, h3⟩ : ∃ k, s1.drop k = c :: r ∧ k + (c :: r).length = s1.length ∧ oo = false ∧ Cssp.textX q s1 = (Cssp.textX q (c :: r)).on A k := by
        rcases hSt2.out with ⟨h0, k, h1, h2, h3⟩ | ⟨h0, _⟩
        · exact ⟨k, h1, h2, h0, h3⟩
        · cases h0
      obtain ⟨rfl, h3⟩ := h3
      rw [HX.out] at h3
      have H1 := hide h1
      have H2 := hide h2
      have H3 := hide h3
      have hcb := u8_lt c
      have hqb := u8_lt q
      have hqn : (0 : Int) ≤ (q.toNat : Int) := by omega
      have hwq : IntKind.i32.wrap (q.toNat : Int) = (q.toNat : Int) := by rcases hq with rfl | rfl <;> rfl
      clear h1 h2 h3 hSt2 hm0
      by_cases hcq : c = q
      · have e1 : ((c.toNat : Int) == (q.toNat : Int)) = true := u8t hcq
        have HCQ := hide hcq
        clear hcq hcs
        go_upto_region 5 with (fail)
        go_quiet (fail)
        obtain ⟨w8, hw8⟩ : ∃ x, x = w7.drewN nq := ⟨_, rfl⟩
        have HLX8 := hide (p := Lx w8 b (c :: r) false false tt) (by rw [hw8]; exact HLX7.out)
        have HUP8 := hide (p := Upto b w4 w8) (by rw [hw8]; exact ⟨below_drewN HUP7.out.1 _, HUP7.out.2⟩)
        have HB8 := hide (p := Bld w4.heap.size w4.heap.size A w8) (by rw [hw8]; exact HB7.out)
        rw [← hw8]
        clear hw8 c0 c1 c2 c3 f0 f1 f2 f3 cq
        have hq8 := HQ4.out.upto HUP8.out (by omega)
        have cq := hq8.cell
        obtain ⟨c0, c1, c2, c3⟩ := HLX8.out.cells
        have f0 := HLX8.out.frozen 0
        have HTR := fun W => hide (trimC (c :: r) q W hq)
        clear hq8
        go_upto_region 10 with (fail)
        first | go_region_with (go_at_call 67; refine Calls.mono (HTR _).out ?_; rintro e w9 ⟨rfl, rfl⟩) | fail
        all_goals
          go_simp
          have hx9 := HLX8.out.set0 (r)
          have hu9 := HUP8.out.setCell 0 (S (r))
          have hb9 := bld_upto HB8.out ((Upto.refl b w8).setCell 0 (S (r))) (by omega)
          have hdw : ∀ W : World, Lx W b (r) false false tt → Lx W.drew b (r) false false tt := fun _ h => h
          have hdu : ∀ W : World, Upto b w4 W → Upto b w4 W.drew := fun _ h => ⟨h.1.drew, h.2⟩
          have hdb : ∀ W : World, Bld w4.heap.size w4.heap.size A W → Bld w4.heap.size w4.heap.size A W.drew := fun _ h => h
          obtain ⟨w9, hw9⟩ : ∃ x, x = (w8.setCell ⟨b, 0, none⟩ (S (r))).drew := ⟨_, rfl⟩
          have HX9 := hide (p := Lx w9 b (r) false false tt) (by rw [hw9]; exact hdw _ hx9)
          have HU9 := hide (p := Upto b w4 w9) (by rw [hw9]; exact hdu _ hu9)
          have HB9 := hide (p := Bld w4.heap.size w4.heap.size A w9) (by rw [hw9]; exact hdb _ hb9)
          rw [show Lib.trimPrefix (c :: r) [q] = r by rw [HCQ.out]; exact trim_cons q r]
          first
            | rw [show (w8.setCell ⟨b, 0, none⟩ (Value.string { data := (r).toArray })).drew = w9 from hw9.symm]
            | rw [show w8.drew.setCell ⟨b, 0, none⟩ (Value.string { data := (r).toArray }) = w9 from hw9.symm]
          clear hx9 hu9 hb9 hdw hdu hdb hw9 c0 c1 c2 c3 f0 cq
          have HST9 := hide (Tryz.Builder_String_any w4.heap.size w4.heap.size A w9 HB9.out HU9.out.size)
          go_wp2_with fail
          refine HST9.out.mono ?_
          rintro e w10 ⟨rfl, hb10⟩
          have HXE := hide (HX9.out.keep hb10 (by omega))
          have HUE := hide (HU9.out.keep hb10)
          clear HST9 hb10
          have hz := HZ4.out.upto HUE.out (by omega)
          obtain ⟨z0, z1, z2, z3⟩ := hz.cells
          have g0 := hz.frozen 0
          have g1 := hz.frozen 1
          have g2 := hz.frozen 2
          have g3 := hz.frozen 3
          have HZE := hide hz
          clear hz
          go_wp2_with fail
          refine (token_ 6 A w10 (by decide)).mono ?_
          rintro e wz ⟨rfl, hbz⟩
          have hzz := HZE.out.below hbz
          have HXZ := hide (HXE.out.below hbz)
          have HUZ := hide ((HU4.out.trans HUE.out).trans (Upto.of_below hbz))
          clear z0 z1 z2 z3 g0 g1 g2 g3
          obtain ⟨z0, z1, z2, z3⟩ := hzz.cells
          have g0 := hzz.frozen 0
          have g1 := hzz.frozen 1
          have g2 := hzz.frozen 2
          have g3 := hzz.frozen 3
          have HZZ := hide hzz
          clear hbz hzz
          go_wp2_with fail
          change bodyPost _ _ _ _ ⟨_, _⟩ (putT wz w.heap.size (Cssp.tk 6 A))
          obtain ⟨q0, q1, q2, q3⟩ := putT_cells HZZ.out (Cssp.tk 6 A)
          obtain ⟨e1, e2⟩ := putT_keep HUZ.out HXZ.out hlt (Nat.le_refl _) (Cssp.tk 6 A)
          refine bodyPost_ret (v := TV (Cssp.tk 6 A)) (by simp [results, Tryz.results38, go_sem, q0, q1, q2, q3]) rfl ?_
          have hXX : X = ⟨false, A, k + 1, false, false, k⟩ := by
            rw [H3.out, Cssp.textX_cons, if_pos HCQ.out]
            simp [Cssp.Tx.on, Nat.add_comm]
          refine ⟨tt, ⟨?_, ?_, e2⟩, fun h => ?_⟩
          · rw [HTT.out, hXX]; rfl
          · rw [HTT.out, hXX]
            show Lx _ _ (s.drop (k + 1 + 1)) false false _
            rw [HSD.out, ← List.drop_drop, H1.out]
            exact e1
          · rw [HTT.out, hXX] at h
            cases h
      · have e1 : ((c.toNat : Int) == (q.toNat : Int)) = false := u8f hcq
        by_cases hc10 : c = 10
        · have e2 : ((c.toNat : Int) == 10) = true := u8t hc10
          have HCQ := hide hcq
          have HC10 := hide hc10
          clear hcq hc10 hcs
          go_upto_region 5 with (fail)
          go_quiet (fail)
          obtain ⟨w8, hw8⟩ : ∃ x, x = w7.drewN nq := ⟨_, rfl⟩
          have HLX8 := hide (p := Lx w8 b (c :: r) false false tt) (by rw [hw8]; exact HLX7.out)
          have HUP8 := hide (p := Upto b w4 w8) (by rw [hw8]; exact ⟨below_drewN HUP7.out.1 _, HUP7.out.2⟩)
          have HB8 := hide (p := Bld w4.heap.size w4.heap.size A w8) (by rw [hw8]; exact HB7.out)
          rw [← hw8]
          clear hw8 c0 c1 c2 c3 f0 f1 f2 f3 cq
          obtain ⟨c0, c1, c2, c3⟩ := HLX8.out.cells
          have f1 := HLX8.out.frozen 1
          have f2 := HLX8.out.frozen 2
          have f3 := HLX8.out.frozen 3
          go_upto_region 12 with (fail)
          have HXE := HLX8
          have HUE := HUP8
          clear c0 c1 c2 c3 f1 f2 f3
          have hz := HZ4.out.upto HUE.out (by omega)
          obtain ⟨z0, z1, z2, z3⟩ := hz.cells
          have g0 := hz.frozen 0
          have g1 := hz.frozen 1
          have g2 := hz.frozen 2
          have g3 := hz.frozen 3
          have HZE := hide hz
          clear hz
          go_wp2_with fail
          refine (token_ 7 [] w8 (by decide)).mono ?_
          rintro e wz ⟨rfl, hbz⟩
          have hzz := HZE.out.below hbz
          have HXZ := hide (HXE.out.below hbz)
          have HUZ := hide ((HU4.out.trans HUE.out).trans (Upto.of_below hbz))
          clear z0 z1 z2 z3 g0 g1 g2 g3
          obtain ⟨z0, z1, z2, z3⟩ := hzz.cells
          have g0 := hzz.frozen 0
          have g1 := hzz.frozen 1
          have g2 := hzz.frozen 2
          have g3 := hzz.frozen 3
          have HZZ := hide hzz
          clear hbz hzz
          go_wp2_with fail
          change bodyPost _ _ _ _ ⟨_, _⟩ (putT wz w.heap.size (Cssp.tk 7 []))
          obtain ⟨q0, q1, q2, q3⟩ := putT_cells HZZ.out (Cssp.tk 7 [])
          obtain ⟨e1, e2⟩ := putT_keep HUZ.out HXZ.out hlt (Nat.le_refl _) (Cssp.tk 7 [])
          refine bodyPost_ret (v := TV (Cssp.tk 7 [])) (by simp [results, Tryz.results38, go_sem, q0, q1, q2, q3]) rfl ?_
          have hXX : X = ⟨true, A, k, false, false, k⟩ := by
            rw [H3.out, Cssp.textX_cons, if_neg HCQ.out, if_pos HC10.out]
            simp [Cssp.Tx.on]
          refine ⟨tt, ⟨?_, ?_, e2⟩, fun h => ?_⟩
          · rw [HTT.out, hXX]; rfl
          · rw [HTT.out, hXX]
            show Lx _ _ (s.drop (k + 1)) false false _
            rw [HSD.out, H1.out]
            exact e1
          · rw [HTT.out, hXX] at h
            cases h
        · have e2 : ((c.toNat : Int) == 10) = false := u8f hc10
          have hc92 : c = 92 := by
            have hh := hcs
            simp only [Cssp.strU, bne_iff_ne.2 hcq, bne_iff_ne.2 hc10, Bool.true_and] at hh
            exact (bne_eq_false_iff_eq).1 hh
          have HCQ := hide hcq
          have HC10 := hide hc10
          have HC92 := hide hc92
          clear hcq hc10 hcs hc92
          have hAX : A.length ≤ 4194304 := by
            have hh := congrArg (fun x => x.t.length) H3.out
            simp only [Cssp.Tx.on, List.length_append] at hh
            have := hXl.1
            omega
          go_upto_region 5 with (fail)
          go_quiet (fail)
          obtain ⟨w8, hw8⟩ : ∃ x, x = w7.drewN nq := ⟨_, rfl⟩
          have HLX8 := hide (p := Lx w8 b (c :: r) false false tt) (by rw [hw8]; exact HLX7.out)
          have HUP8 := hide (p := Upto b w4 w8) (by rw [hw8]; exact ⟨below_drewN HUP7.out.1 _, HUP7.out.2⟩)
          have HB8 := hide (p := Bld w4.heap.size w4.heap.size A w8) (by rw [hw8]; exact HB7.out)
          rw [← hw8]
          clear hw8 c0 c1 c2 c3 f0 f1 f2 f3 cq
          obtain ⟨c0, c1, c2, c3⟩ := HLX8.out.cells
          have f1 := HLX8.out.frozen 1
          have f2 := HLX8.out.frozen 2
          have f3 := HLX8.out.frozen 3
          cases r with
          | nil =>
            have hne : (([c] : List UInt8) == [92]) = true := by rw [HC92.out]; rfl
            have HTk := hide (take_ [c] tt b 1 false false w8 HLX8.out (by simp))
            go_wp2_with fail
            refine HTk.out.mono ?_
            rintro e w9 ⟨rfl, hx, hu⟩
            have hB9 := bld_upto HB8.out hu (by omega)
            obtain ⟨p0, p1, p2, p3⟩ := hx.cells
            have g3 := hx.frozen 3
            have hx3 := hx.set3 [c]
            have hu3 := (HUP8.out.trans hu).setCell 3 (S [c])
            have hB3 := bld_upto hB9 ((Upto.refl b w9).setCell 3 (S [c])) (by omega)
            have hlen := hml
            simp only [List.length_cons, List.length_nil] at hlen
            clear HTk hB9 c0 c1 c2 c3 f1 f2 f3 hml
            go_upto_region 14 with (fail)
            change Code.wp _ _ _ _ (w9.setCell ⟨b, 3, none⟩ (S [c]))
            generalize hgen : w9.setCell ⟨b, 3, none⟩ (S [c]) = wa at hx3 hu3 hB3 ⊢
            clear hgen p0 p1 p2 p3 g3 hx hu
            have hx2 := hide (hx3.set2 true)
            have hu2 := hide (hu3.setCell 2 (.bool true))
            have hB2 := hide (bld_upto hB3 ((Upto.refl b wa).setCell 2 (.bool true)) (by omega))
            obtain ⟨p0, p1, p2, p3⟩ := hx3.cells
            have g2 := hx3.frozen 2
            clear hx3 hu3 hB3
            go_wp2_with fail
            go_roundg (gk - 1)
            case measure => omega
            case rel =>
              refine ⟨[], A, [c], true, by simp, by omega, hx2.out, hB2.out, hu2.out, .inr ⟨rfl, rfl, k, ?_, ?_⟩, by omega⟩
              · have h2 := H2.out
                rw [HX.out, H3.out, Cssp.textX_cons, if_neg HCQ.out, if_neg HC10.out, if_pos HC92.out, if_pos rfl]
                simp only [List.length_cons, List.length_nil] at h2
                simp [Cssp.Tx.on]
                omega
              · exact H1.out.symm
          | cons d r2 =>
            have hne : ((c :: d :: r2 : List UInt8) == [92]) = false := by simp
            have hlen := hml
            simp only [List.length_cons] at hlen
            have HEA := escapeAt (c :: d :: r2) tt b 0 false false w8 HLX8.out (by simp only [List.length_cons]; omega)
            have hesc : Cssp.escAt (c :: d :: r2) 0 = !(d == 10) := esc_next (x := c) (y := d) rfl HC92.out rfl
            rw [hesc] at HEA
            have HEA' := hide HEA
            clear HEA c1 c2 c3 f1 f2 f3 hml
            go_wp2_with fail
            refine HEA'.out.mono ?_
            rintro e w' ⟨rfl, rfl⟩
            clear HEA' c0
            by_cases hd : d = 10
            · have hdb : (!(d == 10)) = false := by rw [hd]; rfl
              rw [hdb]
              have HTk := hide (take_ (c :: d :: r2) tt b 2 false false w8 HLX8.out (by simp))
              have HD := hide hd
              clear hd hdb hesc
              go_wp2_with fail
              refine HTk.out.mono ?_
              rintro e w9 ⟨rfl, hx, hu⟩
              have hB9 := hide (bld_upto HB8.out hu (by omega))
              have hx2 := hide hx
              have hu2 := hide (HUP8.out.trans hu)
              clear HTk hx hu
              go_wp2_with fail
              go_roundg (gk - 1)
              case measure => omega
              case rel =>
                refine ⟨r2, A, tt, false, by omega, by omega, hx2.out, hB9.out, hu2.out, .inl ⟨rfl, k + 2, ?_, ?_, ?_⟩, by omega⟩
                · rw [← List.drop_drop, H1.out]; rfl
                · have h2 := H2.out
                  simp only [List.length_cons] at h2
                  omega
                · rw [HX.out, H3.out, Cssp.textX_cons, if_neg HCQ.out, if_neg HC10.out, if_pos HC92.out, if_neg (by simp), HD.out, if_pos (show (10 :: r2 : List UInt8).head? = some 10 from rfl), Cssp.on_on]
                  simp
            · have hdb : (!(d == 10)) = true := by rw [beq_eq_false_iff_ne.2 hd]; rfl
              rw [hdb]
              have HEs := hide (escape_ (c :: d :: r2) tt b false false w8 HLX8.out (by simp) (by simp only [List.length_cons]; omega))
              have hek := Cssp.esc_pos (c :: d :: r2)
              have hel := Cssp.esc_len (c :: d :: r2)
              have hel2 := hel.2 (by simp)
              have heo := Cssp.esc_open (c :: d :: r2)
              have hdh : ¬ (d :: r2).head? = some 10 := by simpa using hd
              have HX3 := H3.out
              rw [Cssp.textX_cons, if_neg HCQ.out, if_neg HC10.out, if_pos HC92.out, if_neg (by simp), if_neg hdh] at HX3
              obtain ⟨E, hE⟩ : ∃ E, Cssp.esc (c :: d :: r2) = E := ⟨_, rfl⟩
              rw [hE] at HEs hek hel hel2 heo HX3
              have hel1 : E.t.length ≤ 4194304 := by
                have := hel.1
                simp only [List.length_cons] at hel2
                omega
              have HX3' := hide HX3
              have HEO := hide heo
              simp only [List.length_cons] at hel2
              clear hel hE hd hdb hesc hdh HX3 heo
              go_wp2_with fail
              refine HEs.out.mono ?_
              rintro e w9 ⟨rfl, hx, hu⟩
              have hB9 := bld_upto HB8.out hu (by omega)
              have HLX9 := hide hx
              have HUP9 := hide (HUP8.out.trans hu)
              have HWS := hide (writeString w4.heap.size w4.heap.size A E.t w9 hB9 HUP9.out.size (by omega))
              clear HEs hx hu hB9
              go_wp2_with fail
              refine HWS.out.mono ?_
              rintro e w10 ⟨rfl, hB10, hk10⟩
              have HLX10 := hide (HLX9.out.keep hk10.below (by omega))
              have HUP10 := hide (HUP9.out.keep hk10.below)
              have HB10 := hide (p := Bld w4.heap.size w4.heap.size (A ++ E.t) w10) (.inr hB10)
              clear HWS hB10 hk10
              go_wp2_with fail
              go_roundg (gk - 1)
              case measure => omega
              case rel =>
                cases ho : E.o with
                | true =>
                  have hnil := HEO.out ho
                  have hfull : E.k = r2.length + 1 + 1 := by
                    have := congrArg List.length hnil
                    rw [List.length_drop] at this
                    simp only [List.length_cons, List.length_nil] at this
                    omega
                  refine ⟨[], A ++ E.t, c :: d :: r2, true, by simp, by omega, ?_, HB10.out, HUP10.out, .inr ⟨rfl, rfl, k, ?_, H1.out.symm⟩, by rw [List.length_append]; omega⟩
                  · have := HLX10.out
                    rw [hnil, ho] at this
                    exact this
                  · have h2 := H2.out
                    simp only [List.length_cons] at h2
                    rw [HX.out, HX3'.out, if_pos ho]
                    simp [Cssp.Tx.on]
                    omega
                | false =>
                  refine ⟨(c :: d :: r2).drop E.k, A ++ E.t, c :: d :: r2, false, by rw [List.length_drop]; simp only [List.length_cons]; omega, by omega, ?_, HB10.out, HUP10.out, .inl ⟨rfl, k + E.k, ?_, ?_, ?_⟩, by rw [List.length_append]; omega⟩
                  · have := HLX10.out
                    rw [ho] at this
                    exact this
                  · rw [← List.drop_drop, H1.out]
                  · have h2 := H2.out
                    rw [List.length_drop]
                    simp only [List.length_cons] at h2 ⊢
                    omega
                  · rw [HX.out, HX3'.out, if_neg (by rw [ho]; decide), Cssp.on_on]
end Go.Proofs.YtojgcangnkjmjaaGreatDoor
