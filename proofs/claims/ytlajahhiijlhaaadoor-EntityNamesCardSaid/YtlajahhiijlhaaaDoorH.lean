/- The examples of the chapter: works returns true. -/
import Derived.Test.YtlajahhiijlhaaaDoorG
namespace Go.Proofs.YtlajahhiijlhaaaDoor
open Go.RowKit

set_option maxRecDepth 1000000 in
theorem ex_named : Entp.named [110, 111, 116, 105, 110, 59, 120] = (6, [226, 136, 137]) := by decide +kernel
set_option maxRecDepth 1000000 in
theorem ex_ref1 : Entp.refAt [38, 110, 111, 116, 105, 116] 0 false = (4, [194, 172]) := by decide +kernel
set_option maxRecDepth 1000000 in
theorem ex_ref2 : Entp.refAt [38, 110, 111, 116, 105, 116] 0 true = (0, []) := by decide +kernel
set_option maxRecDepth 1000000 in
theorem ex_ref3 : Entp.refAt [38, 35, 120, 56, 48, 59] 0 false = (6, [226, 130, 172]) := by decide +kernel
set_option maxRecDepth 1000000 in
theorem ex_ref4 : Entp.refAt [38, 35, 120, 71] 0 false = (0, []) := by decide +kernel
set_option maxRecDepth 1000000 in
theorem ex_dec : Entp.decode [97, 38, 108, 116, 59, 98, 38, 97, 109, 112, 99, 38, 35, 48, 59] false = [97, 60, 98, 38, 99, 239, 191, 189] := by decide +kernel
theorem ex_open1 : Entp.openAt [97, 38, 97, 109] 1 = true := by decide +kernel
theorem ex_open2 : Entp.openAt [38, 32] 0 = false := by decide +kernel

set_option maxRecDepth 100000 in
set_option maxHeartbeats 1000000 in
theorem works (w : World) (ht : Tab w) : Calls Tryd.prog 8 #[] w (Fresh (.bool true) w) := by
  have Ht := hide ht
  clear ht
  go_enter Tryd.func8, Tryd.ntmps8
  go_wp2_with fail
  refine (named [110, 111, 116, 105, 110, 59, 120] 6 [226, 136, 137] _ (by decide) Ht.out (hide ex_named)).mono ?_
  rintro e w1 ⟨rfl, hb1⟩
  go_wp2_with fail
  refine (ref [38, 110, 111, 116, 105, 116] 0 false 4 [194, 172] _ (by decide) (Ht.out.below hb1) (hide ex_ref1)).mono ?_
  rintro e w2 ⟨rfl, hb2⟩
  replace hb2 := hb1.trans (hb2.mono hb1.size)
  clear hb1
  go_wp2_with fail
  refine (ref [38, 110, 111, 116, 105, 116] 0 true 0 [] _ (by decide) (Ht.out.below hb2) (hide ex_ref2)).mono ?_
  rintro e w3 ⟨rfl, hb3⟩
  replace hb3 := hb2.trans (hb3.mono hb2.size)
  clear hb2
  go_wp2_with fail
  refine (ref [38, 35, 120, 56, 48, 59] 0 false 6 [226, 130, 172] _ (by decide) (Ht.out.below hb3) (hide ex_ref3)).mono ?_
  rintro e w4 ⟨rfl, hb4⟩
  replace hb4 := hb3.trans (hb4.mono hb3.size)
  clear hb3
  go_wp2_with fail
  refine (ref [38, 35, 120, 71] 0 false 0 [] _ (by decide) (Ht.out.below hb4) (hide ex_ref4)).mono ?_
  rintro e w5 ⟨rfl, hb5⟩
  replace hb5 := hb4.trans (hb5.mono hb4.size)
  clear hb4
  go_wp2_with fail
  refine (decode [97, 38, 108, 116, 59, 98, 38, 97, 109, 112, 99, 38, 35, 48, 59] false [97, 60, 98, 38, 99, 239, 191, 189] _ (by decide) (Ht.out.below hb5) (hide ex_dec)).mono ?_
  rintro e w6 ⟨rfl, hb6⟩
  replace hb6 := hb5.trans (hb6.mono hb5.size)
  clear hb5
  go_wp2_with fail
  refine (openAt [97, 38, 97, 109] 1 true _ (by decide) (hide ex_open1)).mono ?_
  rintro e w7 ⟨rfl, rfl⟩
  go_wp2_with fail
  refine (openAt [38, 32] 0 false _ (by decide) (hide ex_open2)).mono ?_
  rintro e w8 ⟨rfl, rfl⟩
  go_wp2_with fail
  go_ret
  exact ⟨rfl, hb6⟩
end Go.Proofs.YtlajahhiijlhaaaDoor
