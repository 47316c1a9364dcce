/- The law's own trial: works. -/
import Derived.Test.YtepimjljkkkejaaDoorQ
namespace Go.Proofs.YtepimjljkkkejaaDoor
open Go.RowKit

def trialA : List UInt8 := [97, 32, 49, 120, 44, 32, 98, 32, 50, 46, 53, 120, 44, 99, 44, 100, 32, 49, 48, 48, 119, 32, 53, 48, 104, 32, 44, 32, 101]
def trialS : List UInt8 := [97, 32, 49, 120, 44, 32, 98, 32, 50, 46, 53, 120, 44, 32, 99, 44, 100, 32, 49, 48, 48, 119, 44, 32, 101]
def trialL : List Srcp.Cand := [⟨[97], 120, [49]⟩, ⟨[98], 120, [50, 46, 53]⟩, ⟨[99, 44, 100], 119, [49, 48, 48]⟩, ⟨[101], 0, []⟩]
theorem trial_parse : Srcp.parse trialA = trialL := by kernel_rfl
theorem trial_none : Srcp.parse [44, 32, 44] = [] := by kernel_rfl
theorem trial_show : Srcp.show_ trialL = trialS := by kernel_rfl
theorem RC.length {w : World} {v : Value} {l : List Srcp.Cand} (h : RC w v l) : ∃ a c, v = .slice a l.length c := by
  rcases h with ⟨rfl, a, c, rfl⟩ | ⟨b, o, cap, rfl, _⟩
  · exact ⟨a, c, rfl⟩
  · exact ⟨_, _, rfl⟩
theorem RC.drew {w : World} {v : Value} {l : List Srcp.Cand} (h : RC w v l) : RC w.drew v l := h
theorem Below.drewN {b : Nat} {w w' : World} (h : Below b w w') : ∀ n : Nat, Below b w (w'.drewN n)
  | 0 => h
  | n + 1 => (Below.drewN h n).drew
theorem RC.drewN {w : World} {v : Value} {l : List Srcp.Cand} (h : RC w v l) (n : Nat) : RC (w.drewN n) v l := h.below (Below.drewN (Below.refl _ _) n)
theorem trial_cells (w : World) : RC (w.alloc (.cells #[S [97], .int .u8 120, S [49], S [98], .int .u8 120, S [50, 46, 53], S [99, 44, 100], .int .u8 119, S [49, 48, 48], S [101], .int .u8 0, S []] 26)) (.slice (some ⟨w.heap.size, 0, none⟩) 4 4) trialL := by
  refine .inr ⟨w.heap.size, 0, 4, rfl, by simp, fun i c hc => ?_⟩
  match i with
  | 0 => injection hc with hc; subst hc; exact ⟨by rw [World.cell?_alloc_at _ _ _ _ rfl]; rfl, by rw [World.cell?_alloc_at _ _ _ _ rfl]; rfl, by rw [World.cell?_alloc_at _ _ _ _ rfl]; rfl⟩
  | 1 => injection hc with hc; subst hc; exact ⟨by rw [World.cell?_alloc_at _ _ _ _ rfl]; rfl, by rw [World.cell?_alloc_at _ _ _ _ rfl]; rfl, by rw [World.cell?_alloc_at _ _ _ _ rfl]; rfl⟩
  | 2 => injection hc with hc; subst hc; exact ⟨by rw [World.cell?_alloc_at _ _ _ _ rfl]; rfl, by rw [World.cell?_alloc_at _ _ _ _ rfl]; rfl, by rw [World.cell?_alloc_at _ _ _ _ rfl]; rfl⟩
  | 3 => injection hc with hc; subst hc; exact ⟨by rw [World.cell?_alloc_at _ _ _ _ rfl]; rfl, by rw [World.cell?_alloc_at _ _ _ _ rfl]; rfl, by rw [World.cell?_alloc_at _ _ _ _ rfl]; rfl⟩
  | n + 4 => cases hc

set_option maxHeartbeats 1000000 in
theorem works (w : World) : Calls Tryd.prog 7 #[] w (Fresh (.bool true) w) := by
  go_enter Tryd.func7, Tryd.ntmps7
  go_wp2_with fail
  refine (pParse trialA trialL _ (by decide) trial_parse).mono ?_
  rintro e w1 ⟨v1, rfl, own1, hb1⟩
  have r1 := RC.of_own own1
  clear own1
  go_wp2_with fail
  refine (pParse [44, 32, 44] [] _ (by decide) trial_none).mono ?_
  rintro e w2 ⟨v2, rfl, own2, hb2⟩
  obtain ⟨a2, c2, rfl⟩ := (RC.of_own own2).length
  replace r1 := r1.below hb2
  replace hb2 := hb1.trans (hb2.mono hb1.size)
  clear own2 hb1
  have r2 := trial_cells w2
  have hbs := hb2.size
  have r3 := r1.below ((Below.refl w2.heap.size w2).alloc (Nat.le_refl _) (.cells #[S [97], .int .u8 120, S [49], S [98], .int .u8 120, S [50, 46, 53], S [99, 44, 100], .int .u8 119, S [49, 48, 48], S [101], .int .u8 0, S []] 26))
  go_wp2_with fail
  refine (same_any v1 _ trialL trialL _ r3 r2 (by decide) (by decide)).mono ?_
  rintro e w3 ⟨rfl, n3, rfl⟩
  go_wp2_with fail
  refine (pShow v1 trialL _ (r3.drewN n3) (by decide) (by decide)).mono ?_
  rintro e w4 ⟨rfl, hb4⟩
  rw [trial_show]
  go_wp2_with fail
  go_ret
  exact ⟨rfl, hb2.trans ((Below.drewN ((Below.refl _ _).alloc (Nat.le_refl _) _) n3).trans (hb4.mono (by simp)) |>.mono hbs)⟩
end Go.Proofs.YtepimjljkkkejaaDoor
