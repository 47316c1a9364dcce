/- The laws SrcsetBack and SrcsetParses. -/
import Derived.Test.YtepimjljkkkejaaDoorS
namespace Go.Proofs.YtepimjljkkkejaaDoor
open Go.RowKit

set_option maxHeartbeats 1000000 in
theorem law_back (s : List UInt8) (w : World) (hs : s.length ≤ 9223372036854775807) : Calls Tryd.prog 4 #[S s] w (Fresh (.bool true) w) := by
  go_enter Tryd.func4, Tryd.ntmps4
  go_wp2_with fail
  refine (works _).mono ?_
  rintro e w1 ⟨rfl, hb1⟩
  by_cases hlen : 8192 < s.length
  · go_wp2_with fail
    go_ret
    exact ⟨rfl, hb1⟩
  · obtain ⟨R, hR⟩ : ∃ R, Srcp.parse s = R := ⟨_, rfl⟩
    obtain ⟨T, hT⟩ : ∃ T, Srcp.show_ R = T := ⟨_, rfl⟩
    have hwt := Srcp.parse_wt s
    have hback := Srcp.back s
    rw [hR, hT] at hwt hback
    have HB : Hid (Srcp.parse T = R) := hback
    have HR : Hid (Srcp.parse s = R) := hR
    have HT : Hid (Srcp.show_ R = T) := hT
    clear hR hT hback
    obtain ⟨hTl, hRl⟩ := hwt
    have hTl' : T.length ≤ 40960 := by omega
    have hRl' : R.length ≤ 8192 := by omega
    clear hTl hRl
    go_wp2_with fail
    refine (pParse s R _ (by omega) HR).mono ?_
    rintro e w2 ⟨v2, rfl, own2, hb2⟩
    have r2 := RC.of_own own2
    clear own2
    go_wp2_with fail
    refine (pShow v2 R _ r2 (by omega) (by rw [HT.out]; omega)).mono ?_
    rw [HT.out]
    rintro e w3 ⟨rfl, hb3⟩
    go_wp2_with fail
    refine (pParse T R _ (by omega) HB).mono ?_
    rintro e w4 ⟨v4, rfl, own4, hb4⟩
    have r4 := RC.of_own own4
    clear own4
    have r2' := r2.below (hb3.trans (hb4.mono hb3.size))
    go_wp2_with fail
    refine (same_any v2 v4 R R _ r2' r4 (by unfold maxLen; omega) (by unfold maxLen; omega)).mono ?_
    rintro e w5 ⟨rfl, n5, rfl⟩
    rw [decide_eq_true rfl]
    go_wp2_with fail
    refine (pShow v4 R _ (r4.drewN n5) (by omega) (by rw [HT.out]; omega)).mono ?_
    rw [HT.out]
    rintro e w6 ⟨rfl, hb6⟩
    go_wp2_with fail
    go_ret
    exact ⟨rfl, hb1.trans ((hb2.trans ((hb3.trans ((Below.drewN hb4 n5 |>.trans (hb6.mono hb4.size)).mono hb3.size)).mono hb2.size)).mono hb1.size)⟩
end Go.Proofs.YtepimjljkkkejaaDoor
