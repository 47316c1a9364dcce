/- text.Valid; what the chapter's examples fix: works. -/
import Derived.Test.YtojgcangnkjmjaaGreatDoorApi
import Derived.Test.YtojgcangnkjmjaaGreatDoorShelfV
import Derived.BigQuiet
namespace Go.Proofs.YtojgcangnkjmjaaGreatDoor
open Go.RowKit

theorem valid_ (s : List UInt8) (w : World) (ht : Tab w) (hl : s.length ≤ 9223372036854775807) : Calls Tryz.prog 17 #[S s] w (Fresh (.bool (Cssp.valid s)) w) := by
  have h := Tryz.utf8_ValidString ⟨s.toArray⟩ w (by rw [bl_size]; exact hl) ht.utf
  have e : Lib.validD (⟨s.toArray⟩ : ByteArray).data.toList = Cssp.valid s := Cssp.valid_lib s
  rw [e] at h
  have H := hide h
  clear h e
  go_enter Tryz.func17, Tryz.ntmps17
  go_wp2_with fail
  refine H.out.mono ?_
  rintro e w' ⟨rfl, hb⟩
  go_wp2_with fail
  go_ret
  exact ⟨rfl, hb⟩
/-- the chapter's examples -/
def ex1 : List UInt8 := [97, 58, 45, 49, 46, 53, 101, 51, 112, 120, 32, 35, 102, 48, 48]
def ex2 : List UInt8 := [92, 52, 49, 32, 98, 40, 47, 42, 42, 47, 39, 120]
def ex3 : List UInt8 := [34, 98]
def ex4 : List UInt8 := [34, 98, 92, 52]
def tk1 : List Cssp.Tk := [⟨2, [97], [], false⟩, ⟨16, [58], [], false⟩, ⟨13, [45, 49, 46, 53, 101, 51], [112, 120], false⟩, ⟨1, [], [], false⟩, ⟨5, [102, 48, 48], [], true⟩]
def tk2 : List Cssp.Tk := [⟨3, [65, 98], [], false⟩, ⟨6, [120], [], false⟩]
theorem rd1 : (Cssp.read ex1).l = tk1 := by decide +kernel
theorem rd2 : (Cssp.read ex2).l = tk2 := by decide +kernel
theorem rd3 : (Cssp.read ex3).w = ⟨3, 34⟩ := by decide +kernel
theorem rd4 : (Cssp.read ex4).w = ⟨6, 34⟩ := by decide +kernel
theorem slice_of {w : World} {base : Nat} {v : Value} {l : List Cssp.Tk} (h : w.ownsRow base 27 4 v l.length (tokCells l)) : ∃ ao cap, v = .slice ao l.length cap := by
  rcases h.2 with ⟨hv, h0⟩ | ⟨g, cap, cur, hv, _⟩
  · exact ⟨none, 0, by rw [hv, h0]⟩
  · exact ⟨_, _, hv⟩
theorem below_drawn {w w' : World} (h : ∃ n, w' = w.drewN n) : Below w.heap.size w w' := by
  obtain ⟨n, rfl⟩ := h
  exact belowN w n
set_option maxRecDepth 100000 in
set_option maxHeartbeats 4000000 in
theorem works_ (w : World) (ht : Tab w) : Calls Tryz.prog 9 #[] w (Fresh (.bool true) w) := by
  have hlt := ht.lt
  have H1 := hide (tokens_ ex1 w ht (by decide))
  rw [rd1] at H1
  have H2 := fun W (hT : Tab W) => hide (tokens_ ex2 W hT (by decide))
  rw [rd2] at H2
  have H3 := fun W (hT : Tab W) => hide (where_ ex3 W hT (by decide))
  rw [rd3] at H3
  have H4 := fun W (hT : Tab W) => hide (where_ ex4 W hT (by decide))
  rw [rd4] at H4
  go_enter Tryz.func9, Tryz.ntmps9
  go_wp2_with fail
  refine Calls.mono H1.out ?_
  rintro e w1 ⟨v1, rfl, ho1, hb1⟩
  obtain ⟨a1, c1, rfl⟩ := slice_of ho1
  have HR1 := hide (RT.of_own ho1)
  have HB1 := hide hb1
  have H2' := H2 w1 (ht.below (by omega) hb1)
  clear H1 H2 ho1 hb1
  go_wp2_with fail
  refine Calls.mono H2'.out ?_
  rintro e w2 ⟨v2, rfl, ho2, hb2⟩
  obtain ⟨a2, c2, rfl⟩ := slice_of ho2
  have HR2 := hide (RT.of_own ho2)
  have HR1' := hide (HR1.out.below hb2)
  have HB2 := hide (HB1.out.trans (hb2.mono HB1.out.size))
  have H3' := H3 w2 (ht.below (by omega) HB2.out)
  clear H2' H3 ho2 hb2 HR1 HB1
  go_wp2_with fail
  refine Calls.mono H3'.out ?_
  rintro e w3 ⟨rfl, hb3⟩
  have hal3 := (Below.refl _ w3).alloc (Nat.le_refl _) (.cells #[.int .u8 3, .int .u8 34] 36)
  have hw3 := Wx.new w3 3 34
  have hb34 := hb3.trans (hal3.mono hb3.size)
  have HR1 := hide (HR1'.out.below hb34)
  have HR2' := hide (HR2.out.below hb34)
  have HB3 := hide (HB2.out.trans (hb34.mono HB2.out.size))
  clear H3' HR1' HR2 HB2 hb34 hb3
  go_upto_region 4 with (fail)
  change Code.wp _ _ _ _ (w3.alloc (.cells #[.int .u8 3, .int .u8 34] 36))
  generalize hgen : w3.alloc (.cells #[.int .u8 3, .int .u8 34] 36) = w4 at hal3 hw3 HR1 HR2' HB3 ⊢
  clear hgen
  have HW3 := hide hw3
  have H4' := H4 w4 (ht.below (by omega) HB3.out)
  clear hw3 H4
  go_wp2_with fail
  refine Calls.mono H4'.out ?_
  rintro e w5 ⟨rfl, hb5⟩
  have hal5 := (Below.refl _ w5).alloc (Nat.le_refl _) (.cells #[.int .u8 6, .int .u8 34] 36)
  have hw5 := Wx.new w5 6 34
  have hb56 := hb5.trans (hal5.mono hb5.size)
  have hw35 := HW3.out.below hb56
  have HR1' := hide (HR1.out.below hb56)
  have HR2 := hide (HR2'.out.below hb56)
  have HB5 := hide (HB3.out.trans (hb56.mono HB3.out.size))
  clear H4' HR1 HR2' HB3 hb56 hb5 HW3 hal3
  go_upto_region 5 with (fail)
  change Code.wp _ _ _ _ (w5.alloc (.cells #[.int .u8 6, .int .u8 34] 36))
  generalize hgen : w5.alloc (.cells #[.int .u8 6, .int .u8 34] 36) = w6 at hal5 hw5 hw35 HR1' HR2 HB5 ⊢
  clear hgen
  have HW5 := hide hw5
  have HW35 := hide hw35
  clear hw5 hw35 hal5
  have hal7 := (Below.refl _ w6).alloc (Nat.le_refl _) (.cells (tokCells tk1).toArray 27)
  have hr7 := RT.of_row w6 tk1 5 (by decide)
  have HS7 := hide (same_any _ _ tk1 tk1 _ (HR1'.out.below hal7) hr7 (by decide) (by decide))
  clear hr7
  go_wp2_with fail
  refine Calls.mono HS7.out ?_
  rintro e w7 ⟨rfl, hd7⟩
  have hb7 := hal7.trans ((below_drawn hd7).mono hal7.size)
  have HR2' := hide (HR2.out.below hb7)
  have HW5' := hide (HW5.out.below hb7)
  have HW35' := hide (HW35.out.below hb7)
  have HB7 := hide (HB5.out.trans (hb7.mono HB5.out.size))
  clear HS7 hd7 hal7 hb7 HR2 HW5 HW35 HB5 HR1'
  have hal8 := (Below.refl _ w7).alloc (Nat.le_refl _) (.cells (tokCells tk2).toArray 27)
  have hr8 := RT.of_row w7 tk2 2 (by decide)
  have HS8 := hide (same_any _ _ tk2 tk2 _ (HR2'.out.below hal8) hr8 (by decide) (by decide))
  clear hr8
  go_wp2_with fail
  refine Calls.mono HS8.out ?_
  rintro e w8 ⟨rfl, hd8⟩
  have hb8 := hal8.trans ((below_drawn hd8).mono hal8.size)
  obtain ⟨y0, y1⟩ := (HW5'.out.below hb8).cells
  obtain ⟨z0, z1⟩ := (HW35'.out.below hb8).cells
  have HB8 := hide (HB7.out.trans (hb8.mono HB7.out.size))
  clear HS8 hd8 hal8 hb8 HW5' HW35' HB7 HR2'
  have e1 := fun W => where_eql 3 34 3 34 W
  have e2 := fun W => where_eql 6 34 6 34 W
  go_wp2_with fail
  go_ret
  exact ⟨by simp, HB8.out⟩
end Go.Proofs.YtojgcangnkjmjaaGreatDoor
