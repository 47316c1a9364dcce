/- text.piece. -/
import Derived.Test.YtojgcangnkjmjaaGreatDoorPa
import Derived.Test.YtojgcangnkjmjaaGreatDoorBu
import Derived.Deep.Cut
import Derived.Deep.CutRange
import Derived.StillTailTactics
import Derived.Deep.LoopGhost
import Derived.Lib.Hide
namespace Go.Proofs.YtojgcangnkjmjaaGreatDoor
open Go.RowKit

/-- what must come, in a box of the walk's own -/
def Nx (w : World) (B k lo hi : Nat) : Prop := w.heap[B]? = some (.cells #[.int .i64 k, .int .u8 lo, .int .u8 hi] 150 (0, 0))
theorem Nx.cells {w : World} {B k lo hi : Nat} (h : Nx w B k lo hi) : w.cell? ⟨B, 0, none⟩ = some (.int .i64 k) ∧ w.cell? ⟨B, 1, none⟩ = some (.int .u8 lo) ∧ w.cell? ⟨B, 2, none⟩ = some (.int .u8 hi) := by
  have h' : w.heap[B]? = _ := h
  refine ⟨?_, ?_, ?_⟩ <;> simp [World.cell?, h']
theorem Nx.frozen {w : World} {B k lo hi : Nat} (h : Nx w B k lo hi) (j : Nat) : w.frozen? ⟨B, j, none⟩ = false := by
  have h' : w.heap[B]? = _ := h
  simp [World.frozen?, h']
theorem Nx.new (w : World) (k lo hi : Nat) : Nx (w.alloc (.cells #[.int .i64 k, .int .u8 lo, .int .u8 hi] 150)) w.heap.size k lo hi := by
  show (w.heap.push _)[w.heap.size]? = _
  simp
theorem Nx.below {w w' : World} {B k lo hi : Nat} (h : Nx w B k lo hi) (hb : Below w.heap.size w w') : Nx w' B k lo hi := (hb.block B (heap_lt h)).trans h
theorem Nx.put {w : World} {B k lo hi : Nat} (h : Nx w B k lo hi) (k' lo' hi' : Nat) : Nx (((w.setCell ⟨B, 0, none⟩ (.int .i64 k')).setCell ⟨B, 1, none⟩ (.int .u8 lo')).setCell ⟨B, 2, none⟩ (.int .u8 hi')) B k' lo' hi' := by
  have h' : w.heap[B]? = _ := h
  simp [Nx, World.setCell, Array.getElem?_modify, h']
theorem goOn_drop (k lo hi : Nat) (s : List UInt8) (n : Nat) (h : n < s.length) : Cssp.goOn (k + 1) lo hi n (s.drop n) = if s[n].toNat < lo ∨ hi < s[n].toNat then (n, false) else Cssp.goOn k 128 191 (n + 1) (s.drop (n + 1)) := by
  rw [List.drop_eq_getElem_cons h, Cssp.goOn]
set_option maxRecDepth 100000 in
set_option maxHeartbeats 4000000 in
theorem tPiece (s : List UInt8) (w : World) (h0 : s ≠ []) (hl : s.length ≤ 140737488355328) : Calls Tryz.prog 93 #[S s] w (Fresh (.tuple #[.int .i64 (Cssp.piece s).1, .bool (Cssp.piece s).2]) w) := by
  have hpos : 0 < s.length := List.length_pos_iff.2 h0
  obtain ⟨c, hc⟩ : ∃ c, s[0] = c := ⟨_, rfl⟩
  have hsd : s = c :: s.drop 1 := by
    have := List.drop_eq_getElem_cons (l := s) (i := 0) hpos
    rw [List.drop_zero, hc] at this
    exact this
  obtain ⟨P, hP⟩ : ∃ P, Cssp.first c = P := ⟨_, rfl⟩
  have hF := hide (tFirst c w)
  have hpc : Cssp.piece s = if P.2 = true then Cssp.goOn P.1.1 P.1.2.1 P.1.2.2 1 (s.drop 1) else (1, false) := by
    conv => lhs; rw [hsd]
    rw [Cssp.piece, hP]
  have hP3 : P.1.1 ≤ 3 ∧ P.1.2.1 < 256 ∧ P.1.2.2 < 256 := by
    rw [← hP]; unfold Cssp.first; (repeat' split) <;> exact ⟨by decide, by decide, by decide⟩
  rw [hP] at hF
  obtain ⟨⟨k, lo, hi⟩, ok⟩ := P
  obtain ⟨h3, hlo, hhi⟩ := hP3
  simp only at h3 hlo hhi hF hpc
  obtain ⟨R, hR⟩ : ∃ R, Cssp.piece s = R := ⟨_, rfl⟩
  rw [hR] at hpc ⊢
  have HPC := hide hpc
  have b0 : (0 : Int) < (s.length : Int) := by omega
  clear hsd hP hpc hR
  go_enter Tryz.func93, Tryz.ntmps93
  go_wp2_with fail
  refine hF.out.mono ?_
  rintro e w1 ⟨rfl, hb1⟩
  clear hF
  cases ok with
  | false =>
    have hr := HPC.out
    rw [if_neg (by decide)] at hr
    subst hr
    clear HPC
    go_wp2_with fail
    refine bodyPost_ret (v := .tuple #[.int .i64 ((1 : Nat) : Int), .bool false]) (by simp [results, Tryz.results93, go_sem]) rfl ⟨rfl, ?_⟩
    exact hb1.alloc hb1.size _
  | true =>
    have hr := HPC.out
    rw [if_pos rfl] at hr
    have HR := hide hr
    have hn := Nx.new w1 k lo hi
    have hb2 : Below w.heap.size w (w1.alloc (.cells #[.int .i64 k, .int .u8 lo, .int .u8 hi] 150)) := hb1.alloc hb1.size _
    clear HPC hr
    go_upto_region 2 with (fail)
    change Code.wp _ _ _ _ (w1.alloc (.cells #[.int .i64 k, .int .u8 lo, .int .u8 hi] 150))
    generalize hgen : w1.alloc (.cells #[.int .i64 k, .int .u8 lo, .int .u8 hi] 150) = w2 at hn hb2 ⊢
    clear hgen
    have HN := hide hn
    have HB := hide hb2
    have hsz1 := hb1.size
    clear hn hb2 hb1 hc
    go_wp2_with fail
    go_loopg [6] (s.length - 1) (fun g i wx => ∃ (n k lo hi : Nat), i = .int .i64 n ∧ g + n = s.length ∧ k ≤ 3 ∧ lo < 256 ∧ hi < 256 ∧ 1 ≤ n ∧ Hid (Nx wx w1.heap.size k lo hi) ∧ Hid (Below w.heap.size w wx) ∧ Hid (R = Cssp.goOn k lo hi n (s.drop n)))
    case atStart => exact ⟨1, k, lo, hi, rfl, by omega, h3, hlo, hhi, Nat.le_refl _, HN.out, HB.out, HR.out⟩
    case round =>
      obtain ⟨n, k', lo', hi', rfl, hgn, hk3, hl3, hh3, hn1, hNx, hBe, hSt⟩ := hrel
      obtain ⟨c0, c1, c2⟩ := hNx.out.cells
      cases k' with
      | zero =>
        have hr := hSt.out
        unfold Cssp.goOn at hr
        subst hr
        clear hSt
        go_wp2_with fail
        refine bodyPost_ret (v := .tuple #[.int .i64 (n : Int), .bool true]) (by simp [results, Tryz.results93, go_sem]) rfl ⟨rfl, hBe.out⟩
      | succ k' =>
        have hk0 : (0 : Int) < ((k' + 1 : Nat) : Int) := by omega
        by_cases hns : n = s.length
        · have q1 : ((n : Int) == (s.length : Int)) = true := by rw [beq_iff_eq]; omega
          have hr := hSt.out
          rw [List.drop_eq_nil_of_le (by omega)] at hr
          have hr : R = (n, false) := hr
          subst hr
          clear hSt hns
          go_wp2_with fail
          refine bodyPost_ret (v := .tuple #[.int .i64 (n : Int), .bool false]) (by simp [results, Tryz.results93, go_sem]) rfl ⟨rfl, hBe.out⟩
        · have hlt : n < s.length := by omega
          have q1 : ((n : Int) == (s.length : Int)) = false := by rw [beq_eq_false_iff_ne]; omega
          have b1 : (n : Int) < (s.length : Int) := by omega
          have b2 : (0 : Int) ≤ (n : Int) := by omega
          obtain ⟨x, hx⟩ : ∃ x, s[n] = x := ⟨_, rfl⟩
          have hr := hSt.out
          rw [goOn_drop k' lo' hi' s n hlt, hx] at hr
          have HR2 := hide hr
          have hM := fun W => hide (tMore k' lo' hi' x W (by omega) hl3 hh3)
          clear hr hSt hns
          have hk1 : ((k' + 1 : Nat) : Int) = (k' : Int) + 1 := by omega
          go_upto_region 9 with (fail)
          have hsB : w.heap.size ≤ w1.heap.size := hsz1
          clear c0 c1 c2
          go_cut [5] from 15 to 35 (fun s5 wx => s5 = .bool (!decide (x.toNat < lo' ∨ hi' < x.toNat)) ∧ Hid (if x.toNat < lo' ∨ hi' < x.toNat then Nx wx w1.heap.size (k' + 1) lo' hi' else Nx wx w1.heap.size k' 128 191) ∧ Hid (Below w.heap.size w wx))
          case first =>
            by_cases hcond : x.toNat < lo' ∨ hi' < x.toNat
            · have hMc : ∀ W, Calls Tryz.prog 122 #[NeedV (k' + 1) lo' hi', .int .u8 x.toNat] W (Fresh (.tuple #[NeedV (k' + 1) lo' hi', .bool false]) W) := fun W => by
                have := (hM W).out
                rw [if_pos hcond, decide_eq_true hcond] at this
                exact this
              have HC := hide hcond
              have HMc := fun W => hide (hMc W)
              obtain ⟨c0, c1, c2⟩ := hNx.out.cells
              have f0 := hNx.out.frozen 0
              have f1 := hNx.out.frozen 1
              have f2 := hNx.out.frozen 2
              clear hcond hMc hM
              go_region_with (go_at_call 122; refine Calls.mono (HMc _).out ?_; rintro e w3 ⟨rfl, hb3⟩; have hn3 := (hNx.out.below (Below.refl _ _).drew).below hb3; obtain ⟨d0, d1, d2⟩ := hn3.cells; have g0 := hn3.frozen 0; have g1 := hn3.frozen 1; have g2 := hn3.frozen 2)
              all_goals
                have hb4 : Below w.heap.size w w3 := hBe.out.drew.trans (hb3.mono hBe.out.size)
                have hn5 := hn3.put (k' + 1) lo' hi'
                have hb5 := ((hb4.setCell (p := ⟨w1.heap.size, 0, none⟩) hsB (.int .i64 ((k' + 1 : Nat) : Int))).setCell (p := ⟨w1.heap.size, 1, none⟩) hsB (.int .u8 lo')).setCell (p := ⟨w1.heap.size, 2, none⟩) hsB (.int .u8 hi')
                have HN5 := hide hn5
                have HB5 := hide hb5
                clear hn5 hb5 hb4 hn3 c0 c1 c2 f0 f1 f2 d0 d1 d2 hb3
                go_simp
                go_wp2_with fail
                go_meet
                case rel =>
                  have hcond := HC.out
                  refine ⟨by rw [decide_eq_true hcond]; rfl, ?_, HB5.out⟩
                  unfold Hid
                  rw [if_pos hcond]
                  exact HN5.out
            · have hMc : ∀ W, Calls Tryz.prog 122 #[NeedV (k' + 1) lo' hi', .int .u8 x.toNat] W (Fresh (.tuple #[NeedV k' 128 191, .bool true]) W) := fun W => by
                have := (hM W).out
                rw [if_neg hcond, decide_eq_false hcond] at this
                exact this
              have HC := hide hcond
              have HMc := fun W => hide (hMc W)
              obtain ⟨c0, c1, c2⟩ := hNx.out.cells
              have f0 := hNx.out.frozen 0
              have f1 := hNx.out.frozen 1
              have f2 := hNx.out.frozen 2
              clear hcond hMc hM
              go_region_with (go_at_call 122; refine Calls.mono (HMc _).out ?_; rintro e w3 ⟨rfl, hb3⟩; have hn3 := (hNx.out.below (Below.refl _ _).drew).below hb3; obtain ⟨d0, d1, d2⟩ := hn3.cells; have g0 := hn3.frozen 0; have g1 := hn3.frozen 1; have g2 := hn3.frozen 2)
              all_goals
                have hb4 : Below w.heap.size w w3 := hBe.out.drew.trans (hb3.mono hBe.out.size)
                have hn5 := hn3.put k' 128 191
                have hb5 := ((hb4.setCell (p := ⟨w1.heap.size, 0, none⟩) hsB (.int .i64 k')).setCell (p := ⟨w1.heap.size, 1, none⟩) hsB (.int .u8 (128 : Nat))).setCell (p := ⟨w1.heap.size, 2, none⟩) hsB (.int .u8 (191 : Nat))
                have HN5 := hide hn5
                have HB5 := hide hb5
                clear hn5 hb5 hb4 hn3 c0 c1 c2 f0 f1 f2 d0 d1 d2 hb3
                go_simp
                go_wp2_with fail
                go_meet
                case rel =>
                  have hcond := HC.out
                  refine ⟨by rw [decide_eq_false hcond]; rfl, ?_, HB5.out⟩
                  unfold Hid
                  rw [if_neg hcond]
                  exact HN5.out
          case rest =>
            obtain ⟨rfl, hNc, hBc⟩ := hcut
            clear hNx hBe
            by_cases hcond : x.toNat < lo' ∨ hi' < x.toNat
            · have hr := HR2.out
              rw [if_pos hcond] at hr
              rw [decide_eq_true hcond]
              subst hr
              clear hcond HR2 hNc hM
              go_wp2_with fail
              refine bodyPost_ret (v := .tuple #[.int .i64 (n : Int), .bool false]) (by simp [results, Tryz.results93, go_sem]) rfl ⟨rfl, hBc.out⟩
            · have hr := HR2.out
              have hn := hNc.out
              rw [if_neg hcond] at hr hn
              rw [decide_eq_false hcond]
              have HR3 := hide hr
              have HN3 := hide hn
              clear hcond HR2 hNc hM hr hn
              go_wp2_with fail
              go_roundg (gk - 1)
              case measure => omega
              case rel => exact ⟨n + 1, k', 128, 191, by go_num, by omega, by omega, by omega, by omega, by omega, HN3.out, hBc.out, HR3.out⟩
end Go.Proofs.YtojgcangnkjmjaaGreatDoor
