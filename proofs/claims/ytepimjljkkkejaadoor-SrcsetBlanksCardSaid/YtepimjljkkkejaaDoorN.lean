/- The program's Parse. -/
import Derived.Test.YtepimjljkkkejaaDoorM
namespace Go.Proofs.YtepimjljkkkejaaDoor
open Go.RowKit

abbrev SKP : List UInt8 := [9, 10, 12, 13, 32, 44]
theorem skp_contains (c : UInt8) : SKP.contains c = Srcp.skip c := by
  have all : ∀ n : Fin 256, SKP.contains (UInt8.ofNat n.val) = Srcp.skip (UInt8.ofNat n.val) := by decide +kernel
  have e : UInt8.ofNat c.toNat = c := by simp
  have := all ⟨c.toNat, c.toNat_lt⟩
  simpa only [e] using this
theorem trimLeftS_skp (l : List UInt8) : Lib.trimLeftS l SKP = l.dropWhile Srcp.skip := by
  unfold Lib.trimLeftS
  congr 1
  funext c
  exact skp_contains c

theorem Rd.new (w : World) (l : List UInt8) : Rd w.heap.size w.heap.size l [] [] (w.alloc (.cells #[S l, .slice none 0 0, .pointer none, .slice none 0 0] 42)) :=
  ⟨.pointer none, .inl rfl, Nat.le_refl _, _, _, heap_alloc_new w _, World.ownsRow_nil _ _ _ _, World.ownsRow_nil _ _ _ _⟩

set_option maxHeartbeats 4000000 in
set_option maxRecDepth 100000 in
theorem pParse (l : List UInt8) (R : List Srcp.Cand) (w : World) (hl : l.length ≤ 1048576) (hR : Hid (Srcp.parse l = R)) :
    Calls Tryd.prog 8 #[S l] w (CandsR R w) := by
  obtain ⟨i0, hi, hz0, hz1, hz2⟩ := info_parts info_cand
  have hr0 := Rd.new w l
  have hb0 : Below w.heap.size w (w.alloc (.cells #[S l, .slice none 0 0, .pointer none, .slice none 0 0] 42)) := (Below.refl _ _).alloc (Nat.le_refl _) _
  go_enter Tryd.func8, Tryd.ntmps8
  go_wp2_with fail
  go_loopg [2] l.length (fun g s2 wx => ∃ (s : List UInt8) (us : List (List UInt8)) (out : List Srcp.Cand), s.length ≤ g ∧ g ≤ l.length ∧ out.length + s.length ≤ l.length ∧ Rd w.heap.size w.heap.size s us [] wx ∧ wx.ownsRow w.heap.size 26 3 s2 out.length (candCells out) ∧
    Hid (R = out ++ Srcp.parse s) ∧ Below w.heap.size w wx)
  case atStart => exact ⟨l, [], [], Nat.le_refl _, Nat.le_refl _, by simp, hr0, World.ownsRow_nil _ _ _ _, hR.out.symm, hb0⟩
  case round =>
    obtain ⟨s, us, out, hg1, hg2, hol, hrd, hown, hd, hb⟩ := hrel
    obtain ⟨wo, rfl⟩ : ∃ wo : World, wo = wr := ⟨_, rfl⟩
    obtain ⟨c0, f0, f1, hlt, _⟩ := hrd.cell0
    obtain ⟨s1, hs1⟩ : ∃ s1, s.dropWhile Srcp.skip = s1 := ⟨_, rfl⟩
    have HT : Hid (Lib.trimLeftS s SKP = s1) := by unfold Hid; rw [trimLeftS_skp, hs1]
    have hsl : s1.length ≤ s.length := by rw [← hs1]; exact Srcp.dropWhile_len _ _
    have HS1 := hide hs1
    clear hs1 hr0 hb0
    go_wp2_with fail
    refine (trimLeft' s SKP s1 _ (by decide) (by decide) HT).mono ?_
    rintro e w1 ⟨rfl, hb1⟩
    have hrd1 := hrd.below hb1
    obtain ⟨d0, g0, g1, hlt1, _⟩ := hrd1.cell0
    obtain ⟨hrd2, hk2⟩ := hrd1.setText s1
    have hown2 := hk2.owns (ownsRow_below hown hb1) (by decide) (by decide) (by decide)
    have hb2 : Below w.heap.size w (w1.setCell ⟨w.heap.size, 0, none⟩ (S s1)) := (hb.trans (hb1.mono (by omega))).trans hk2.below
    have c2 := hrd2.cell0.1
    clear hrd hown hb hrd1 hk2 c0
    cases s1 with
    | nil =>
      have HR : Hid (R = out) := by unfold Hid; rw [hd.out, Srcp.parse_nil _ HS1.out, List.append_nil]
      go_wp2_with fail
      go_ret
      exact ⟨_, rfl, by rw [HR.out]; exact hown2, hb2⟩
    | cons a s1 =>
      generalize hs2 : a :: s1 = s2 at *
      have hne2 : s2.isEmpty = false := by rw [← hs2]; rfl
      have hne3 : s2 ≠ [] := by rw [← hs2]; simp
      have HNE := hide hne3
      clear hs2 hne3
      obtain ⟨u, hu⟩ : ∃ u, s2.takeWhile (fun c => !Srcp.sp c) = u := ⟨_, rfl⟩
      obtain ⟨r, hr⟩ : ∃ r, s2.dropWhile (fun c => !Srcp.sp c) = r := ⟨_, rfl⟩
      obtain ⟨c, hc⟩ : ∃ c, Srcp.trimC u = c := ⟨_, rfl⟩
      have HP : Hid (Srcp.parse s = (Srcp.one s2).1.toList ++ Srcp.parse (Srcp.one s2).2) := by
        unfold Hid
        rw [Srcp.parse_cons _ (by rw [HS1.out]; exact HNE.out), HS1.out]
      have hrest : (Srcp.one s2).2.length < s.length := by
        have := Srcp.rest_len s (by rw [HS1.out]; exact HNE.out)
        rwa [HS1.out] at this
      have hrl : r.length ≤ s2.length := by rw [← hr]; exact Srcp.dropWhile_len _ _
      have hone : Srcp.one s2 = if c = u then (Srcp.described c (Srcp.words false [] [] r).1, (Srcp.words false [] [] r).2) else (Srcp.described c [], r) := by
        unfold Srcp.one
        dsimp only
        rw [hu, hr, hc]
        split
        · rename_i e; rw [← e]
        · rfl
      obtain ⟨more, hmore⟩ : ∃ m, (c == u) = m := ⟨_, rfl⟩
      have HM := hide hmore
      clear hmore
      have HU := hide hu
      have HRR := hide hr
      have HC := hide hc
      have HONE := hide hone
      clear hu hr hc hone
      go_wp2_with fail
      refine (url_any w.heap.size w.heap.size s2 us u r c _ hrd2 (by omega) HU HRR HC).mono ?_
      rw [HM.out]
      rintro e w2 ⟨rfl, hrd3, hk3⟩
      obtain ⟨e0, k0, k1, hlt3, _⟩ := hrd3.cell0
      obtain ⟨vw, cw, _⟩ := hrd3.words
      obtain ⟨hrd4, hk4⟩ := hrd3.setWords
      have hown4 := (hk3.trans hk4).owns hown2 (by decide) (by decide) (by decide)
      have hb4 := hb2.trans (hk3.trans hk4).below
      clear hrd2 hown2 hb2 hrd3 hk3 hk4 c2 HU HC d0 g0 g1
      go_upto_if 33 with fail
      go_cut [2, 3, 4] (fun v2 v3 v4 wx => ∃ (ws : List (List UInt8)) (r2 : List UInt8), v2 = u2 ∧ v3 = .pointer (some ⟨w.heap.size, 0, none⟩) ∧ v4 = S c ∧ Rd w.heap.size w.heap.size r2 ws [] wx ∧ (∀ x ∈ ws, x.length ≤ maxLen) ∧ Hid (Srcp.one s2 = (Srcp.described c ws, r2)) ∧
        wx.ownsRow w.heap.size 26 3 u2 out.length (candCells out) ∧ Below w.heap.size w wx)
      case first =>
        cases more
        · have hne : Hid (c ≠ u) := fun e => by have := HM.out; rw [e] at this; simp at this
          go_wp2_with fail
          go_meet
          exact ⟨[], r, rfl, rfl, rfl, hrd4, by simp, by unfold Hid; rw [HONE.out, if_neg hne.out], hown4, hb4⟩
        · have he : Hid (c = u) := eq_of_beq HM.out
          obtain ⟨⟨ws, r2⟩, hwr⟩ : ∃ q, Srcp.words false [] [] r = q := ⟨_, rfl⟩
          have hea := words_each r false [] [] l.length (by simp) (by simp; omega)
          rw [hwr] at hea
          have HW := hide hwr
          clear hwr
          go_wp2_with fail
          refine (take_any w.heap.size w.heap.size r [] ws r2 _ hrd4 (by omega) HW).mono ?_
          rintro e w4 ⟨rfl, hrd5, hk5⟩
          go_wp2_with fail
          go_meet
          exact ⟨ws, r2, rfl, rfl, rfl, hrd5, fun x hx => Nat.le_trans (hea x hx) (by unfold maxLen; omega), by unfold Hid; rw [HONE.out, if_pos he.out, HW.out], hk5.owns hown4 (by decide) (by decide) (by decide), hb4.trans hk5.below⟩
      case rest =>
        obtain ⟨ws, r2, rfl, rfl, rfl, hrd5, hwl, hone2, hown5, hb5⟩ := hcut
        clear hrd4 hown4 hb4 HONE HRR f0 f1 e0 k0 k1 cw
        obtain ⟨vw5, cw5, how5⟩ := hrd5.words
        have hr2 : r2.length < s.length := by rw [hone2.out] at hrest; exact hrest
        have HP2 : Hid (R = (out ++ (Srcp.described c ws).toList) ++ Srcp.parse r2) := by
          unfold Hid; rw [hd.out, HP.out, hone2.out, List.append_assoc]
        have hsz5 : w.heap.size < wc.heap.size := hrd5.cell0.2.2.2.1
        clear hrest HP hd hone2
        go_wp2_with fail
        refine (pdescribed c ws w.heap.size vw5 _ how5 hwl).mono ?_
        rintro e w5 ⟨cd, rfl, hcd, hb6⟩
        have hrd6 := hrd5.below hb6
        have hown6 := ownsRow_below hown5 hb6
        have hb7 := hb5.trans (hb6.mono (by omega))
        clear hrd5 hown5 hb5 how5 cw5
        cases hdc : Srcp.described c ws with
        | none =>
          have HR2 : Hid (R = out ++ Srcp.parse r2) := by unfold Hid; rw [HP2.out, hdc]; simp
          clear hcd HP2 hdc
          go_wp2_with fail
          go_roundg r2.length
          case measure => omega
          case rel => exact ⟨r2, ws, out, Nat.le_refl _, by omega, by omega, hrd6.below ((Below.refl _ _).alloc (Nat.le_refl _) _), hown6.alloc _, HR2.out, hb7.alloc (by have := hb6.size; omega) _⟩
        | some c1 =>
          rw [hdc] at hcd
          have hcc : cd = c1 := by
            rcases hcd with h | h
            · cases h
            · injection h with h; exact h.symm
          subst hcc
          have HR2 : Hid (R = (out ++ [cd]) ++ Srcp.parse r2) := by unfold Hid; rw [HP2.out, hdc]; rfl
          clear hcd HP2 hdc
          have hsz6 : w.heap.size < w5.heap.size := by have := hb6.size; omega
          go_wp2_with (at_builtin; refine wpList_append_own _ rfl (.tmp 46) (.tmp 48) 22 rfl w.heap.size 26 i0 (.agg #[.string .empty, .int .u8 0, .string .empty]) 3 40 Tryd.underlying22 hi hz0 hz1 hz2 rfl (by decide) _ _ _ rfl ((hown6.alloc _).alloc _) ⟨w5.heap.size + 1, 0, none⟩ 1 1 [S cd.url, B8 cd.kind, S cd.text] rfl rfl ?c1 ?c2 ?c3 ?c4 ?c5 ?_)
          case c1 =>
            have := cell_three (w5.alloc (.cells #[S cd.url, B8 cd.kind, S cd.text] 26)) 26 (S cd.url) (B8 cd.kind) (S cd.text)
            simpa using this
          case c2 => intro u hu; simp at hu; rcases hu with rfl | rfl | rfl <;> rfl
          case c3 => unfold maxLen; omega
          case c4 => omega
          case c5 => simp; omega
          intro v' w6 hown' hgrow _
          have hb8 : Below w.heap.size w w6 := ((hb7.alloc (by omega) _).alloc (by simp; omega) _).grown hgrow (by simp; omega) (fun k hk => (hown6.lt k hk).1)
          have hown7 : w6.ownsRow w.heap.size 26 3 v' (out ++ [cd]).length (candCells (out ++ [cd])) := by rw [candCells_append, candCells_one]; simpa using hown'
          have hrd7 : Rd w.heap.size w.heap.size r2 ws [] w6 := by
            have h8 := (hrd6.below ((Below.refl _ _).alloc (Nat.le_refl _) (.cells #[S cd.url, B8 cd.kind, S cd.text] 26)))
            have h9 := (h8.below ((Below.refl _ _).alloc (Nat.le_refl _) (.cells #[S cd.url, B8 cd.kind, S cd.text] 26)))
            have hown8 := (hown6.alloc (.cells #[S cd.url, B8 cd.kind, S cd.text] 26)).alloc (.cells #[S cd.url, B8 cd.kind, S cd.text] 26)
            obtain ⟨p, hp, hB, x1, x2, q1, q2, q3⟩ := h9
            have far : ∀ (k : Nat) (cs : Array Value) (t : TypeId), ((w5.alloc (.cells #[S cd.url, B8 cd.kind, S cd.text] 26)).alloc (.cells #[S cd.url, B8 cd.kind, S cd.text] 26)).heap[k]? = some (Obj.cells cs t (0, 0)) → t ≠ 26 → w6.heap[k]? = some (Obj.cells cs t (0, 0)) := fun k cs t hk ht => by
              rw [hgrow.block k (heap_lt hk) (fun e => by
                obtain ⟨y, hy⟩ := ownsRow_kind hown8 k e.symm
                rw [hk] at hy
                injection hy with hy
                injection hy with _ hy _
                exact ht hy)]
              exact hk
            have keep : ∀ {e : TypeId} {v : Value} {n : Nat} {xs : List Value}, ((w5.alloc (.cells #[S cd.url, B8 cd.kind, S cd.text] 26)).alloc (.cells #[S cd.url, B8 cd.kind, S cd.text] 26)).ownsRow w.heap.size e 1 v n xs → e ≠ 26 → w6.ownsRow w.heap.size e 1 v n xs := fun ho he => by
              refine ⟨ho.1, ?_⟩
              rcases ho.2 with h0 | ⟨g, cap, cur, hv, hg, hg2, r⟩
              · exact .inl h0
              · exact .inr ⟨g, cap, cur, hv, hg, far _ _ _ hg2 he, r⟩
            exact ⟨p, hp, hB, x1, x2, far _ _ _ q1 (by decide), keep q2 (by decide), keep q3 (by decide)⟩
          clear hown6 hown' hgrow hrd6 hb7
          go_wp2_with fail
          go_roundg r2.length
          case measure => omega
          case rel => exact ⟨r2, ws, out ++ [cd], Nat.le_refl _, by omega, by simp; omega, hrd7, hown7, HR2.out, hb8⟩
end Go.Proofs.YtepimjljkkkejaaDoor
