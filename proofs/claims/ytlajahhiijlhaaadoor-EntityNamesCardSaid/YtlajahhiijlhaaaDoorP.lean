/- The laws EntityRefs and EntityDecodes. -/
import Derived.Test.YtlajahhiijlhaaaDoorO
namespace Go.Proofs.YtlajahhiijlhaaaDoor
open Go.RowKit

set_option maxRecDepth 100000 in
set_option maxHeartbeats 2000000 in
theorem law_refs (s : List UInt8) (at_ : Int) (attr : Bool) (n : Int) (w : World) (hs : s.length ≤ maxLen) (hn : -9223372036854775808 ≤ n ∧ n ≤ 9223372036854775807) (ht : Tab w) :
    Calls Tryd.prog 3 #[S s, .int .i64 at_, .bool attr, .int .i64 n] w (Fresh (.bool true) w) := by
  unfold maxLen at hs
  have Ht := hide ht
  have Hn := hide hn
  clear ht hn
  go_enter Tryd.func3, Tryd.ntmps3
  go_wp2_with fail
  refine (works _ Ht.out).mono ?_
  rintro e w1 ⟨rfl, hb1⟩
  have HB1 := hide hb1
  clear hb1
  by_cases hlen : 4096 < s.length
  · go_wp2_with fail
    go_ret
    exact ⟨rfl, HB1.out⟩
  obtain ⟨a, b, hab⟩ : ∃ a b, Entp.refAt s at_ attr = (a, b) := ⟨_, _, rfl⟩
  obtain ⟨c, d, hcd⟩ : ∃ c d, Entp.named s = (c, d) := ⟨_, _, rfl⟩
  obtain ⟨o, ho⟩ : ∃ o, Entp.openAt s at_ = o := ⟨_, rfl⟩
  have HAB := hide hab
  have HCD := hide hcd
  have HO := hide ho
  clear hab hcd ho
  go_wp2_with fail
  refine (ref s at_ attr a b _ (by omega) (Ht.out.below HB1.out) HAB).mono ?_
  rintro e w2 ⟨rfl, hb2⟩
  have HB2 := hide (HB1.out.trans (hb2.mono HB1.out.size))
  clear hb2
  go_wp2_with fail
  refine (rRef s at_ attr a b _ (by omega) HAB).mono ?_
  rintro e w3 ⟨rfl, hb3⟩
  have HB3 := hide (HB2.out.trans (hb3.mono HB2.out.size))
  clear hb3
  go_wp2_with fail
  refine (named s c d _ (by unfold maxLen; omega) (Ht.out.below HB3.out) HCD).mono ?_
  rintro e w4 ⟨rfl, hb4⟩
  have HB4 := hide (HB3.out.trans (hb4.mono HB3.out.size))
  clear hb4
  go_wp2_with fail
  refine (rNamed s c d _ (by omega) HCD).mono ?_
  rintro e w5 ⟨rfl, hb5⟩
  have HB5 := hide (HB4.out.trans (hb5.mono HB4.out.size))
  clear hb5
  go_wp2_with fail
  refine (openAt s at_ o _ (by omega) HO).mono ?_
  rintro e w6 ⟨rfl, rfl⟩
  go_wp2_with fail
  refine (rOpen s at_ o _ (by omega) HO).mono ?_
  rintro e w6 ⟨rfl, rfl⟩
  go_wp2_with fail
  refine (number n _ (Ht.out.below HB5.out) Hn.out).mono ?_
  rintro e w6 ⟨rfl, rfl⟩
  go_wp2_with fail
  refine (rNumber n _ Hn.out).mono ?_
  rintro e w7 ⟨rfl, hb7⟩
  have HB7 := hide (HB5.out.trans (hb7.mono HB5.out.size))
  clear hb7
  go_wp2_with fail
  go_ret
  exact ⟨by first | rfl | simp, HB7.out⟩

set_option maxRecDepth 100000 in
set_option maxHeartbeats 2000000 in
theorem law_decodes (s : List UInt8) (attr : Bool) (w : World) (hs : s.length ≤ maxLen) (ht : Tab w) :
    Calls Tryd.prog 4 #[S s, .bool attr] w (Fresh (.bool true) w) := by
  unfold maxLen at hs
  have Ht := hide ht
  clear ht
  go_enter Tryd.func4, Tryd.ntmps4
  go_wp2_with fail
  refine (works _ Ht.out).mono ?_
  rintro e w1 ⟨rfl, hb1⟩
  have HB1 := hide hb1
  clear hb1
  by_cases hlen : 16384 < s.length
  · go_wp2_with fail
    go_ret
    exact ⟨rfl, HB1.out⟩
  obtain ⟨u, hu⟩ : ∃ u, Entp.decode s attr = u := ⟨_, rfl⟩
  have HU := hide hu
  clear hu
  go_wp2_with fail
  refine (decode s attr u _ (by omega) (Ht.out.below HB1.out) HU).mono ?_
  rintro e w2 ⟨rfl, hb2⟩
  have HB2 := hide (HB1.out.trans (hb2.mono HB1.out.size))
  clear hb2
  go_wp2_with fail
  refine (rDecode s attr u _ (by omega) HU).mono ?_
  rintro e w3 ⟨rfl, hb3⟩
  have HB3 := hide (HB2.out.trans (hb3.mono HB2.out.size))
  clear hb3
  go_wp2_with fail
  go_ret
  exact ⟨by first | rfl | simp, HB3.out⟩
end Go.Proofs.YtlajahhiijlhaaaDoor
