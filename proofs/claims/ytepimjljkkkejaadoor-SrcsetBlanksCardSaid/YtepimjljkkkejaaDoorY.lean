/- The law SrcsetBlanks. (The steps through its region 16 are printed by genR16.py.) -/
import Derived.Test.YtepimjljkkkejaaDoorX
import Derived.Deep.CutBlock
import Derived.BigRegion
import Derived.Deep.RegionHeld3
namespace Go.Proofs.YtepimjljkkkejaaDoor
open Go.RowKit

/-- a slice that reads as a list of ints -/
def RI (w : World) (v : Value) (l : List Int) : Prop :=
  (l = [] ∧ ∃ a c, v = .slice a 0 c) ∨
  ∃ b o cap, v = .slice (some ⟨b, o, none⟩) l.length cap ∧ b < w.heap.size ∧ ∀ (i : Nat) (x : Int), l[i]? = some x → w.cell? ⟨b, o + i, none⟩ = some (.int .i64 x)
theorem RI.length {w : World} {v : Value} {l : List Int} (h : RI w v l) : ∃ a c, v = .slice a l.length c := by
  rcases h with ⟨rfl, a, c, rfl⟩ | ⟨b, o, cap, rfl, _⟩
  · exact ⟨a, c, rfl⟩
  · exact ⟨_, _, rfl⟩
theorem RI.below {w w' : World} {v : Value} {l : List Int} (h : RI w v l) (hb : Below w.heap.size w w') : RI w' v l := by
  rcases h with h | ⟨b, o, cap, rfl, hlt, hc⟩
  · exact .inl h
  · exact .inr ⟨b, o, cap, rfl, Nat.lt_of_lt_of_le hlt hb.size, fun i c hi => (hb.cell hlt).trans (hc i c hi)⟩
theorem RI.at {w : World} {a : Option Addr} {n c : Nat} {l : List Int} (h : RI w (.slice a n c) l) {i : Nat} {x : Int} (hx : l[i]? = some x) :
    ∃ b o, a = some ⟨b, o, none⟩ ∧ w.cell? ⟨b, o + i, none⟩ = some (.int .i64 x) := by
  rcases h with ⟨rfl, _⟩ | ⟨b, o, cap, h, _, hc⟩
  · simp at hx
  · injection h with h1 h2 h3
    exact ⟨b, o, h1, hc i x hx⟩

theorem blanked_snoc : ∀ (l : List (Nat × Srcp.Cand)) (g : Nat) (c : Srcp.Cand), Srcp.blanked (l ++ [(g, c)]) = Srcp.blanked l ++ Srcp.gapped g c
  | [], g, c => by simp [Srcp.blanked]
  | (h, d) :: l, g, c => by rw [List.cons_append, Srcp.blanked, blanked_snoc l g c, Srcp.blanked]; simp
theorem gapped_le (g : Nat) (c : Srcp.Cand) : (Srcp.gapped g c).length ≤ c.url.length + c.text.length + 10 := by
  unfold Srcp.gapped
  have hA : (Srcp.gapA g).length ≤ 3 := by match g with | 0 => decide | 1 => decide | 2 => decide | _ + 3 => exact (by decide : ([10, 44, 32] : List UInt8).length ≤ 3)
  have hB : (Srcp.gapB g).length ≤ 2 := by match g with | 0 => decide | 1 => decide | 2 => decide | _ + 3 => exact (by decide : ([32, 10] : List UInt8).length ≤ 2)
  have hC : (Srcp.gapC g).length ≤ 1 := by match g with | 0 => decide | 1 => decide | 2 => decide | _ + 3 => exact (by decide : ([] : List UInt8).length ≤ 1)
  have hD : (Srcp.gapD g).length ≤ 2 := by match g with | 0 => decide | 1 => decide | 2 => decide | _ + 3 => exact (by decide : ([44, 32] : List UInt8).length ≤ 2)
  split <;> simp only [List.length_append, List.length_cons, List.length_nil] <;> omega
theorem blanked_le : ∀ l : List (Nat × Srcp.Cand), (Srcp.blanked l).length ≤ Srcp.wgt (l.map (·.2)) + 6 * l.length
  | [] => by simp [Srcp.blanked]
  | (g, c) :: l => by
    have h1 := blanked_le l
    have h2 := gapped_le g c
    rw [Srcp.blanked, List.map_cons, Srcp.wgt]
    simp only [List.length_append, List.length_cons]; omega


theorem wpAnyH_mono {P : Program} {md : Region.Mode} {ops : Array Oper} {Q : Exit → Act → World → Prop} {S S' : World → Prop} (hSS : ∀ w, S' w → S w) : ∀ (fuel : Nat) (listed : Array Bool) (a : Act) (w : World), wpAnyH P md ops Q S' fuel listed a w → wpAnyH P md ops Q S fuel listed a w
  | 0, _, _, _, h => h
  | fuel + 1, _, _, _, h => ⟨h.1, fun i hi => wpOp_mono (fun a' w' h' => ⟨hSS _ h'.1, wpAnyH_mono hSS fuel _ a' w' h'.2⟩) (h.2 i hi)⟩

set_option maxRecDepth 100000 in
set_option maxHeartbeats 4000000 in
theorem law_blanks (s : List UInt8) (v : Value) (gs : List Int) (w : World) (hs : s.length ≤ 9223372036854775807) (hgs : gs.length ≤ 9223372036854775807) (hr : RI w v gs) :
    Calls Tryd.prog 6 #[S s, v] w (Fresh (.bool true) w) := by
  obtain ⟨al, cl, rfl⟩ := hr.length
  go_enter Tryd.func6, Tryd.ntmps6
  go_wp2_with fail
  refine (works _).mono ?_
  rintro e w1 ⟨rfl, hb1⟩
  replace hr := hr.below hb1
  by_cases hlen : 8192 < s.length
  · go_wp2_with fail
    go_ret
    exact ⟨rfl, hb1⟩
  by_cases hlen2 : 1000 < gs.length
  · go_wp2_with fail
    go_ret
    exact ⟨rfl, hb1⟩
  obtain ⟨R, hR⟩ : ∃ R, Srcp.parse s = R := ⟨_, rfl⟩
  have hwt := Srcp.parseF_wt (s.length + 1) s
  have hgood := Srcp.parse_good s
  rw [show Srcp.parseF (s.length + 1) s = R from hR] at hwt
  rw [hR] at hgood
  have HR : Hid (Srcp.parse s = R) := hR
  have HW : Hid (Srcp.wgt R ≤ 40960) := by unfold Hid; omega
  have HG : Hid (∀ x ∈ R, Srcp.Good x) := hgood
  have hRl : R.length ≤ 8192 := by omega
  clear hR hwt hgood
  go_wp2_with fail
  refine (pParse s R _ (by omega) HR).mono ?_
  rintro e w2 ⟨v2, rfl, own2, hb2⟩
  have r2 := RC.of_own own2
  clear own2
  obtain ⟨a2, c2, rfl⟩ := r2.length
  replace hr := hr.below hb2
  replace hb2 := hb1.trans (hb2.mono hb1.size)
  clear hb1 HR
  go_wp2_with fail
  go_loopg [7, 8] R.length (fun g s7 s8 wx => ∃ (i : Nat) (acc : List UInt8), i + g = R.length ∧ s7 = S acc ∧ s8 = .int .i64 i ∧ acc.length ≤ 200000 ∧ Hid (∃ zs : List (Nat × Srcp.Cand), acc = Srcp.blanked zs ∧ zs.map (·.2) = R.take i) ∧ Below w2.heap.size w2 wx)
  case atStart => exact ⟨0, [], by omega, rfl, rfl, by simp, ⟨[], rfl, rfl⟩, Below.refl _ _⟩
  case round =>
    obtain ⟨i, acc, hi, rfl, rfl, hal, hz, hbl⟩ := hrel
    by_cases hlt : i < R.length
    · obtain ⟨x, hx⟩ : ∃ x, R[i]? = some x := ⟨R[i], List.getElem?_eq_getElem hlt⟩
      obtain ⟨b, o, rfl, d0, d1, d2⟩ := (r2.below hbl).at hx
      have HX := hide hx
      have HR2 := hide r2
      have hri := hr.below hbl
      clear hx r2 hr
      go_upto_if 33 with (fail)
      go_cut [9] (fun s9 wx => ∃ g : Nat, g < 4 ∧ s9 = .int .i64 g ∧ wr = wx)
      case first =>
        clear d0 d1 d2
        by_cases hig : i < gs.length
        · obtain ⟨z, hz'⟩ : ∃ z, gs[i]? = some z := ⟨gs[i], List.getElem?_eq_getElem hig⟩
          obtain ⟨b', o', rfl, hc⟩ := hri.at hz'
          clear hz' hri
          go_wp2_with fail
          go_meet
          exact ⟨(z % 4294967296 % 4).toNat, by omega, by congr 1; omega, rfl⟩
        · clear hri
          go_wp2_with fail
          go_meet
          exact ⟨0, by omega, rfl, rfl⟩
      case rest =>
        obtain ⟨g, hg, rfl, rfl⟩ := hcut
        have hb' : b < wr.heap.size := by
          have := hri.length
          exact World.block_lt_of_cell? wr _ d0
        clear hri
        have hz2 : Hid (∃ zs : List (Nat × Srcp.Cand), acc ++ Srcp.gapped g x = Srcp.blanked zs ∧ zs.map (·.2) = R.take (i + 1)) := by
          obtain ⟨zs, e1, e2⟩ := hz.out
          exact ⟨zs ++ [(g, x)], by rw [e1, blanked_snoc], by rw [List.map_append, e2, List.take_add_one, HX.out]; rfl⟩
        have hlen2 : (acc ++ Srcp.gapped g x).length ≤ 200000 := by
          obtain ⟨zs, e1, e2⟩ := hz2.out
          have h1 := blanked_le zs
          have h2 : zs.length = (R.take (i + 1)).length := by rw [← e2, List.length_map]
          have h3 : Srcp.wgt (zs.map (·.2)) ≤ Srcp.wgt R := by
            rw [e2]
            have := Srcp.wgt_append (R.take (i + 1)) (R.drop (i + 1))
            rw [List.take_append_drop] at this
            omega
          have h4 := HW.out
          rw [List.length_take] at h2
          rw [e1]
          omega
        have HL := hide hlen2
        have hgl := gapped_le g x
        rw [List.length_append] at hlen2
        have hxl : x.url.length + x.text.length ≤ 100000 := by
          have h3 : Srcp.wgt (R.drop i) ≤ Srcp.wgt R := by
            have := Srcp.wgt_append (R.take i) (R.drop i)
            rw [List.take_append_drop] at this
            omega
          have h4 : R.drop i = x :: R.drop (i + 1) := by
            rw [List.drop_eq_getElem_cons hlt]
            have := HX.out
            rw [List.getElem?_eq_getElem hlt] at this
            injection this with this
            rw [this]
          rw [h4, Srcp.wgt] at h3
          have := HW.out
          omega
        clear hlen2 hgl
        have al : ∀ (W : World) (ob : Obj) (p : Addr) (u : Value), p.block < W.heap.size → W.cell? p = some u → (W.alloc ob).cell? p = some u := fun W ob p u hp hu => ((Below.refl W.heap.size W |>.alloc (Nat.le_refl _) ob).cell hp).trans hu
        have e0 : ∀ ob : Obj, (wr.alloc ob).drew.cell? ⟨b, o + i * 3, none⟩ = some (S x.url) := fun ob => al wr ob _ _ hb' d0
        clear al
        have hbs := hbl.size
        go_upto_region 14 with (fail)
        go_cut [7] (fun s7 wx => s7 = S (acc ++ Srcp.gapA g ++ x.url) ∧ Below wr.heap.size wr wx)
        case first =>
          clear d1 d2
          rcases (by omega : g = 0 ∨ g = 1 ∨ g = 2 ∨ g = 3) with rfl | rfl | rfl | rfl
          all_goals go_region
          all_goals go_wp2_with fail
          all_goals go_meet
          all_goals exact ⟨by simp [Srcp.gapA], by (repeat (first | (with_reducible exact Below.refl _ _) | (with_reducible assumption) | (with_reducible refine Below.drew ?_) | ((with_reducible refine Below.setCell ?_ ?_ _); rotate_left; (focus (first | omega | (simp; done) | (simp; omega)))) | ((with_reducible refine Below.alloc ?_ ?_ _); rotate_left; (focus (first | omega | (simp; done) | (simp; omega))))))⟩
        case rest =>
          obtain ⟨rfl, hb3⟩ := hcut
          have f0 := (hb3.cell hb').trans d0
          have f1 := (hb3.cell hb').trans d1
          have f2 := (hb3.cell hb').trans d2
          replace hb3 := hbl.trans (hb3.mono hbs)
          have hbs3 := hb3.size
          have hb4 : b < wc.heap.size := World.block_lt_of_cell? wc _ f0
          have hLA : (Srcp.gapA g).length ≤ 3 := by rcases (by omega : g = 0 ∨ g = 1 ∨ g = 2 ∨ g = 3) with rfl | rfl | rfl | rfl <;> decide
          clear d0 d1 d2 e0 hbl hbs hb'
          go_upto_if 58 with (fail)
          go_cut [7] (fun s7 wx => s7 = S (acc ++ Srcp.gapA g ++ x.url ++ (if x.kind = 0 then [] else Srcp.gapB g ++ x.text ++ [x.kind] ++ Srcp.gapC g)) ∧ Below wc.heap.size wc wx)
          case first =>
            by_cases hk : x.kind = 0
            · have hk0 : ((x.kind.toNat : Int) != 0) = false := by rw [hk]; decide
              have HK := hide hk
              clear hk
              go_wp2_with fail
              go_meet
              exact ⟨by rw [if_pos HK.out, List.append_nil], Below.refl _ _⟩
            · have hk0 : ((x.kind.toNat : Int) != 0) = true := by
                rw [bne_iff_ne]; intro e; exact hk (u8_inj (b := 0) e)
              have HK := hide hk
              clear hk
              have al : ∀ (X : World) (ob : Obj) (p : Addr) (u : Value), p.block < X.heap.size → X.drew.cell? p = some u → (X.alloc ob).drew.cell? p = some u := fun X ob p u hp hu => ((Below.refl X.heap.size X |>.alloc (Nat.le_refl _) ob).cell hp).trans hu
              have kA : ∀ (X : World) (k : Nat), k = X.heap.size → (X.alloc (.cells #[S [32], S [32, 32], S [9], S [32, 10]] 9)).drew.cell? ⟨k, g, none⟩ = some (S (Srcp.gapB g)) := fun X k hk => by
                subst hk
                show (X.alloc _).cell? _ = _
                rw [World.cell?_alloc_at _ _ _ _ rfl]
                rcases (by omega : g = 0 ∨ g = 1 ∨ g = 2 ∨ g = 3) with rfl | rfl | rfl | rfl <;> rfl
              have kC : ∀ (X : World) (k : Nat), k = X.heap.size → (X.alloc (.cells #[S [], S [32], S [12], S []] 9)).drew.cell? ⟨k, g, none⟩ = some (S (Srcp.gapC g)) := fun X k hk => by
                subst hk
                show (X.alloc _).cell? _ = _
                rw [World.cell?_alloc_at _ _ _ _ rfl]
                rcases (by omega : g = 0 ∨ g = 1 ∨ g = 2 ∨ g = 3) with rfl | rfl | rfl | rfl <;> rfl
              have kB : ∀ (X : World) (k : Nat), k = X.heap.size → (X.alloc (.cells #[B8 x.kind] 5)).drew.cell? ⟨k, 0, none⟩ = some (B8 x.kind) := fun X k hk => by
                subst hk
                show (X.alloc _).cell? _ = _
                rw [World.cell?_alloc_at _ _ _ _ rfl]; rfl
              have hg0 : (0 : Int) ≤ (g : Int) := by omega
              have hg4 : (g : Int) < 4 := by omega
              have hLB : (Srcp.gapB g).length ≤ 2 := by rcases (by omega : g = 0 ∨ g = 1 ∨ g = 2 ∨ g = 3) with rfl | rfl | rfl | rfl <;> decide
              have hLC : (Srcp.gapC g).length ≤ 1 := by rcases (by omega : g = 0 ∨ g = 1 ∨ g = 2 ∨ g = 3) with rfl | rfl | rfl | rfl <;> decide
              obtain ⟨T, hT⟩ : ∃ T, acc ++ Srcp.gapA g ++ x.url = T := ⟨_, rfl⟩
              have hTl : T.length ≤ 300010 := by rw [← hT]; simp only [List.length_append]; omega
              rw [hT]
              have HT := hide hT
              have hs1 : ¬ (9223372036854775807 < T.length + (Srcp.gapB g).length) := by omega
              have hs2 : ¬ (9223372036854775807 < T.length + (Srcp.gapB g).length + x.text.length) := by omega
              have hs2' : ¬ (9223372036854775807 < T.length + ((Srcp.gapB g).length + x.text.length)) := by omega
              have hs3 : ¬ (9223372036854775807 < T.length + (Srcp.gapB g).length + x.text.length + 1) := by omega
              have hs3' : ¬ (9223372036854775807 < T.length + ((Srcp.gapB g).length + x.text.length) + 1) := by omega
              have hs4 : ¬ (9223372036854775807 < T.length + (Srcp.gapB g).length + x.text.length + 1 + (Srcp.gapC g).length) := by omega
              have hs4' : ¬ (9223372036854775807 < T.length + ((Srcp.gapB g).length + (x.text.length + 1)) + (Srcp.gapC g).length) := by omega
              clear hT f0 hLA
              have AL := hide al
              have KA := hide kA
              have KB := hide kB
              have KC := hide kC
              clear al kA kB kC
              go_wp2_with fail
              have al := AL.out
              have kA := KA.out
              have kB := KB.out
              have kC := KC.out
              refine wp_region_noPanic ?_
              refine wp_region_held_drew (S := (fun w' : World => w'.cell? ⟨b, o + i * 3 + 1, none⟩ = some (B8 x.kind) ∧ w'.cell? ⟨b, o + i * 3 + 2, none⟩ = some (S x.text))) (by kernel_rfl) ⟨f1, f2⟩ (fun hHeld => ?_)
              refine wpAnyH_take (i := 0) (oi := ?o_1) (v := ?v_1) ?hi_1 (by kernel_rfl) (by kernel_rfl) (by kernel_rfl) (fun _ _ _ h => h) (Or.inl ⟨?hw_1, ?hy_1⟩) (by assumption) ?rest_1
              case hi_1 => (simp only [List.getElem?_toArray, List.getElem?_cons_succ, List.getElem?_cons_zero]; rfl)
              case hw_1 => rfl
              case hy_1 => (intro w hSw; (try dsimp only at hSw); go_simp; try with_reducible rfl)
              simp only [Act.put, List.setIfInBounds_toArray, List.set_cons_zero, List.set_cons_succ]
              refine wpAnyH_take (i := 2) (oi := ?o_2) (v := ?v_2) ?hi_2 (by kernel_rfl) (by kernel_rfl) (by kernel_rfl) (fun _ _ _ h => h) (Or.inl ⟨?hw_2, ?hy_2⟩) (by assumption) ?rest_2
              case hi_2 => (simp only [List.getElem?_toArray, List.getElem?_cons_succ, List.getElem?_cons_zero]; rfl)
              case hw_2 => rfl
              case hy_2 => (intro w hSw; (try dsimp only at hSw); go_simp; try with_reducible rfl)
              simp only [Act.put, List.setIfInBounds_toArray, List.set_cons_zero, List.set_cons_succ]
              refine wpAnyH_take (i := 6) (oi := ?o_3) (v := ?v_3) ?hi_3 (by kernel_rfl) (by kernel_rfl) (by kernel_rfl) (fun _ _ _ h => h) (Or.inl ⟨?hw_3, ?hy_3⟩) (by assumption) ?rest_3
              case hi_3 => (simp only [List.getElem?_toArray, List.getElem?_cons_succ, List.getElem?_cons_zero]; rfl)
              case hw_3 => rfl
              case hy_3 => (intro w hSw; (try dsimp only at hSw); go_simp; try with_reducible rfl)
              simp only [Act.put, List.setIfInBounds_toArray, List.set_cons_zero, List.set_cons_succ]
              refine wpAnyH_take (i := 7) (oi := ?o_4) (v := ?v_4) ?hi_4 (by kernel_rfl) (by kernel_rfl) (by kernel_rfl) (fun _ _ _ h => h) (Or.inl ⟨?hw_4, ?hy_4⟩) (by assumption) ?rest_4
              case hi_4 => (simp only [List.getElem?_toArray, List.getElem?_cons_succ, List.getElem?_cons_zero]; rfl)
              case hw_4 => rfl
              case hy_4 => (intro w hSw; (try dsimp only at hSw); go_simp; try with_reducible rfl)
              simp only [Act.put, List.setIfInBounds_toArray, List.set_cons_zero, List.set_cons_succ]
              refine wpAnyH_take (i := 8) (oi := ?o_5) (v := ?v_5) ?hi_5 (by kernel_rfl) (by kernel_rfl) (by kernel_rfl) (fun _ _ _ h => h) (Or.inl ⟨?hw_5, ?hy_5⟩) (by assumption) ?rest_5
              case hi_5 => (simp only [List.getElem?_toArray, List.getElem?_cons_succ, List.getElem?_cons_zero]; rfl)
              case hw_5 => rfl
              case hy_5 => (intro w hSw; (try dsimp only at hSw); go_simp; try with_reducible rfl)
              simp only [Act.put, List.setIfInBounds_toArray, List.set_cons_zero, List.set_cons_succ]
              refine wpAnyH_take (i := 9) (oi := ?o_6) (v := ?v_6) ?hi_6 (by kernel_rfl) (by kernel_rfl) (by kernel_rfl) (fun _ _ _ h => h) (Or.inl ⟨?hw_6, ?hy_6⟩) (by assumption) ?rest_6
              case hi_6 => (simp only [List.getElem?_toArray, List.getElem?_cons_succ, List.getElem?_cons_zero]; rfl)
              case hw_6 => rfl
              case hy_6 => (intro w hSw; (try dsimp only at hSw); go_simp; try with_reducible rfl)
              simp only [Act.put, List.setIfInBounds_toArray, List.set_cons_zero, List.set_cons_succ]
              refine wpAnyH_take (i := 10) (oi := ?o_7) (v := ?v_7) ?hi_7 (by kernel_rfl) (by kernel_rfl) (by kernel_rfl) (fun _ _ _ h => h) (Or.inl ⟨?hw_7, ?hy_7⟩) (by assumption) ?rest_7
              case hi_7 => (simp only [List.getElem?_toArray, List.getElem?_cons_succ, List.getElem?_cons_zero]; rfl)
              case hw_7 => rfl
              case hy_7 => (intro w hSw; (try dsimp only at hSw); go_simp; try with_reducible rfl)
              simp only [Act.put, List.setIfInBounds_toArray, List.set_cons_zero, List.set_cons_succ]
              refine wpAnyH_take (i := 12) (oi := ?o_8) (v := ?v_8) ?hi_8 (by kernel_rfl) (by kernel_rfl) (by kernel_rfl) (fun _ _ _ h => h) (Or.inl ⟨?hw_8, ?hy_8⟩) (by assumption) ?rest_8
              case hi_8 => (simp only [List.getElem?_toArray, List.getElem?_cons_succ, List.getElem?_cons_zero]; rfl)
              case hw_8 => rfl
              case hy_8 => (intro w hSw; (try dsimp only at hSw); go_simp; try with_reducible rfl)
              simp only [Act.put, List.setIfInBounds_toArray, List.set_cons_zero, List.set_cons_succ]
              refine wpAnyH_take (i := 13) (oi := ?o_9) (v := ?v_9) ?hi_9 (by kernel_rfl) (by kernel_rfl) (by kernel_rfl) (fun _ _ _ h => h) (Or.inl ⟨?hw_9, ?hy_9⟩) (by assumption) ?rest_9
              case hi_9 => (simp only [List.getElem?_toArray, List.getElem?_cons_succ, List.getElem?_cons_zero]; rfl)
              case hw_9 => rfl
              case hy_9 => (intro w hSw; (try dsimp only at hSw); go_simp; try with_reducible rfl)
              simp only [Act.put, List.setIfInBounds_toArray, List.set_cons_zero, List.set_cons_succ]
              refine wpAnyH_take (i := 14) (oi := ?o_10) (v := ?v_10) ?hi_10 (by kernel_rfl) (by kernel_rfl) (by kernel_rfl) (fun _ _ _ h => h) (Or.inl ⟨?hw_10, ?hy_10⟩) (by assumption) ?rest_10
              case hi_10 => (simp only [List.getElem?_toArray, List.getElem?_cons_succ, List.getElem?_cons_zero]; rfl)
              case hw_10 => rfl
              case hy_10 => (intro w hSw; (try dsimp only at hSw); go_simp; try with_reducible rfl)
              simp only [Act.put, List.setIfInBounds_toArray, List.set_cons_zero, List.set_cons_succ]
              refine wpAnyH_take (i := 15) (oi := ?o_11) (v := ?v_11) ?hi_11 (by kernel_rfl) (by kernel_rfl) (by kernel_rfl) (fun _ _ _ h => h) (Or.inl ⟨?hw_11, ?hy_11⟩) (by assumption) ?rest_11
              case hi_11 => (simp only [List.getElem?_toArray, List.getElem?_cons_succ, List.getElem?_cons_zero]; rfl)
              case hw_11 => rfl
              case hy_11 => (intro w hSw; (try dsimp only at hSw); go_simp; try with_reducible rfl)
              simp only [Act.put, List.setIfInBounds_toArray, List.set_cons_zero, List.set_cons_succ]
              refine wpAnyH_take (i := 16) (oi := ?o_12) (v := ?v_12) ?hi_12 (by kernel_rfl) (by kernel_rfl) (by kernel_rfl) (fun _ _ _ h => h) (Or.inl ⟨?hw_12, ?hy_12⟩) (by assumption) ?rest_12
              case hi_12 => (simp only [List.getElem?_toArray, List.getElem?_cons_succ, List.getElem?_cons_zero]; rfl)
              case hw_12 => rfl
              case hy_12 => (intro w hSw; (try dsimp only at hSw); go_simp; try with_reducible rfl)
              simp only [Act.put, List.setIfInBounds_toArray, List.set_cons_zero, List.set_cons_succ]
              refine wpAnyH_take (i := 21) (oi := ?o_13) (v := ?v_13) ?hi_13 (by kernel_rfl) (by kernel_rfl) (by kernel_rfl) (fun _ _ _ h => h) (Or.inl ⟨?hw_13, ?hy_13⟩) (by assumption) ?rest_13
              case hi_13 => (simp only [List.getElem?_toArray, List.getElem?_cons_succ, List.getElem?_cons_zero]; rfl)
              case hw_13 => rfl
              case hy_13 => (intro w hSw; (try dsimp only at hSw); go_simp; try with_reducible rfl)
              simp only [Act.put, List.setIfInBounds_toArray, List.set_cons_zero, List.set_cons_succ]
              refine wpAnyH_ready (rs := [1, 17, 20]) (by kernel_rfl) (by simp) ?_
              refine AllReadyH.cons (o := ?o_14) ?hi_14 (fun K hK => ?step_14) ?more_14
              case hi_14 => (simp only [List.getElem?_toArray, List.getElem?_cons_succ, List.getElem?_cons_zero]; rfl)
              case step_14 =>
                go_simp
                refine hK.out _ _ ⟨al _ _ _ _ (by (first | omega | (simp; done) | (simp; omega))) hHeld.1, al _ _ _ _ (by (first | omega | (simp; done) | (simp; omega))) hHeld.2⟩ (fun hHeld2 => ?_)
                refine wpAnyH_mono (S' := (fun w' : World => w'.cell? ⟨b, o + i * 3 + 1, none⟩ = some (B8 x.kind) ∧ w'.cell? ⟨b, o + i * 3 + 2, none⟩ = some (S x.text) ∧ w'.cell? ⟨wc.heap.size, g, none⟩ = some (S (Srcp.gapB g)))) (fun w h => ⟨h.1, h.2.1⟩) _ _ _ _ ?_
                have hHeld3 : (fun w' : World => w'.cell? ⟨b, o + i * 3 + 1, none⟩ = some (B8 x.kind) ∧ w'.cell? ⟨b, o + i * 3 + 2, none⟩ = some (S x.text) ∧ w'.cell? ⟨wc.heap.size, g, none⟩ = some (S (Srcp.gapB g))) _ := ⟨hHeld2.1, hHeld2.2, kA _ _ (by (first | omega | (simp; done) | (simp; omega)))⟩
                refine wpAnyH_take (i := 3) (oi := ?o_15) (v := ?v_15) ?hi_15 (by kernel_rfl) (by kernel_rfl) (by kernel_rfl) (fun _ _ _ h => h) (Or.inl ⟨?hw_15, ?hy_15⟩) (by assumption) ?rest_15
                case hi_15 => (simp only [List.getElem?_toArray, List.getElem?_cons_succ, List.getElem?_cons_zero]; rfl)
                case hw_15 => rfl
                case hy_15 => (intro w hSw; (try dsimp only at hSw); go_simp; try with_reducible rfl)
                simp only [Act.put, List.setIfInBounds_toArray, List.set_cons_zero, List.set_cons_succ]
                refine wpAnyH_take (i := 4) (oi := ?o_16) (v := ?v_16) ?hi_16 (by kernel_rfl) (by kernel_rfl) (by kernel_rfl) (fun _ _ _ h => h) (Or.inl ⟨?hw_16, ?hy_16⟩) (by assumption) ?rest_16
                case hi_16 => (simp only [List.getElem?_toArray, List.getElem?_cons_succ, List.getElem?_cons_zero]; rfl)
                case hw_16 => rfl
                case hy_16 => (intro w hSw; (try dsimp only at hSw); go_simp; try with_reducible rfl)
                simp only [Act.put, List.setIfInBounds_toArray, List.set_cons_zero, List.set_cons_succ]
                refine wpAnyH_take (i := 5) (oi := ?o_17) (v := ?v_17) ?hi_17 (by kernel_rfl) (by kernel_rfl) (by kernel_rfl) (fun _ _ _ h => h) (Or.inl ⟨?hw_17, ?hy_17⟩) (by assumption) ?rest_17
                case hi_17 => (simp only [List.getElem?_toArray, List.getElem?_cons_succ, List.getElem?_cons_zero]; rfl)
                case hw_17 => rfl
                case hy_17 => (intro w hSw; (try dsimp only at hSw); go_simp; try with_reducible rfl)
                simp only [Act.put, List.setIfInBounds_toArray, List.set_cons_zero, List.set_cons_succ]
                refine wpAnyH_take (i := 11) (oi := ?o_18) (v := ?v_18) ?hi_18 (by kernel_rfl) (by kernel_rfl) (by kernel_rfl) (fun _ _ _ h => h) (Or.inl ⟨?hw_18, ?hy_18⟩) (by assumption) ?rest_18
                case hi_18 => (simp only [List.getElem?_toArray, List.getElem?_cons_succ, List.getElem?_cons_zero]; rfl)
                case hw_18 => rfl
                case hy_18 => (intro w hSw; (try dsimp only at hSw); go_simp; try with_reducible rfl)
                simp only [Act.put, List.setIfInBounds_toArray, List.set_cons_zero, List.set_cons_succ]
                clear hK K hHeld hHeld2
                have hHeld := hHeld3
                clear hHeld3
                refine wpAnyH_ready (rs := [17, 20]) (by kernel_rfl) (by simp) ?_
                refine AllReadyH.cons (o := ?o_19) ?hi_19 (fun K hK => ?step_19) ?more_19
                case hi_19 => (simp only [List.getElem?_toArray, List.getElem?_cons_succ, List.getElem?_cons_zero]; rfl)
                case step_19 =>
                  go_simp
                  refine hK.out _ _ ⟨al _ _ _ _ (by (first | omega | (simp; done) | (simp; omega))) hHeld.1, al _ _ _ _ (by (first | omega | (simp; done) | (simp; omega))) hHeld.2.1, al _ _ _ _ (by (first | omega | (simp; done) | (simp; omega))) hHeld.2.2⟩ (fun hHeld2 => ?_)
                  refine wpAnyH_mono (S' := (fun w' : World => w'.cell? ⟨b, o + i * 3 + 1, none⟩ = some (B8 x.kind) ∧ w'.cell? ⟨b, o + i * 3 + 2, none⟩ = some (S x.text) ∧ w'.cell? ⟨wc.heap.size, g, none⟩ = some (S (Srcp.gapB g)) ∧ w'.cell? ⟨wc.heap.size + 1, 0, none⟩ = some (B8 x.kind))) (fun w h => ⟨h.1, h.2.1, h.2.2.1⟩) _ _ _ _ ?_
                  have hHeld3 : (fun w' : World => w'.cell? ⟨b, o + i * 3 + 1, none⟩ = some (B8 x.kind) ∧ w'.cell? ⟨b, o + i * 3 + 2, none⟩ = some (S x.text) ∧ w'.cell? ⟨wc.heap.size, g, none⟩ = some (S (Srcp.gapB g)) ∧ w'.cell? ⟨wc.heap.size + 1, 0, none⟩ = some (B8 x.kind)) _ := ⟨hHeld2.1, hHeld2.2.1, hHeld2.2.2, kB _ _ (by (first | omega | (simp; done) | (simp; omega)))⟩
                  refine wpAnyH_take (i := 18) (oi := ?o_20) (v := ?v_20) ?hi_20 (by kernel_rfl) (by kernel_rfl) (by kernel_rfl) (fun _ _ _ h => h) (Or.inl ⟨?hw_20, ?hy_20⟩) (by assumption) ?rest_20
                  case hi_20 => (simp only [List.getElem?_toArray, List.getElem?_cons_succ, List.getElem?_cons_zero]; rfl)
                  case hw_20 => rfl
                  case hy_20 => (intro w hSw; (try dsimp only at hSw); have hb := byte_string w x.kind _ hSw.2.2.2; go_simp; try with_reducible rfl)
                  simp only [Act.put, List.setIfInBounds_toArray, List.set_cons_zero, List.set_cons_succ]
                  refine wpAnyH_take (i := 19) (oi := ?o_21) (v := ?v_21) ?hi_21 (by kernel_rfl) (by kernel_rfl) (by kernel_rfl) (fun _ _ _ h => h) (Or.inl ⟨?hw_21, ?hy_21⟩) (by assumption) ?rest_21
                  case hi_21 => (simp only [List.getElem?_toArray, List.getElem?_cons_succ, List.getElem?_cons_zero]; rfl)
                  case hw_21 => rfl
                  case hy_21 => (intro w hSw; (try dsimp only at hSw); go_simp; try with_reducible rfl)
                  simp only [Act.put, List.setIfInBounds_toArray, List.set_cons_zero, List.set_cons_succ]
                  clear hK K hHeld hHeld2
                  have hHeld := hHeld3
                  clear hHeld3
                  refine wpAnyH_ready (rs := [20]) (by kernel_rfl) (by simp) ?_
                  refine AllReadyH.cons (o := ?o_22) ?hi_22 (fun K hK => ?step_22) ?more_22
                  case hi_22 => (simp only [List.getElem?_toArray, List.getElem?_cons_succ, List.getElem?_cons_zero]; rfl)
                  case step_22 =>
                    go_simp
                    refine hK.out _ _ ⟨al _ _ _ _ (by (first | omega | (simp; done) | (simp; omega))) hHeld.1, al _ _ _ _ (by (first | omega | (simp; done) | (simp; omega))) hHeld.2.1, al _ _ _ _ (by (first | omega | (simp; done) | (simp; omega))) hHeld.2.2.1, al _ _ _ _ (by (first | omega | (simp; done) | (simp; omega))) hHeld.2.2.2⟩ (fun hHeld2 => ?_)
                    refine wpAnyH_mono (S' := (fun w' : World => w'.cell? ⟨b, o + i * 3 + 1, none⟩ = some (B8 x.kind) ∧ w'.cell? ⟨b, o + i * 3 + 2, none⟩ = some (S x.text) ∧ w'.cell? ⟨wc.heap.size, g, none⟩ = some (S (Srcp.gapB g)) ∧ w'.cell? ⟨wc.heap.size + 1, 0, none⟩ = some (B8 x.kind) ∧ w'.cell? ⟨wc.heap.size + 1 + 1, g, none⟩ = some (S (Srcp.gapC g)))) (fun w h => ⟨h.1, h.2.1, h.2.2.1, h.2.2.2.1⟩) _ _ _ _ ?_
                    have hHeld3 : (fun w' : World => w'.cell? ⟨b, o + i * 3 + 1, none⟩ = some (B8 x.kind) ∧ w'.cell? ⟨b, o + i * 3 + 2, none⟩ = some (S x.text) ∧ w'.cell? ⟨wc.heap.size, g, none⟩ = some (S (Srcp.gapB g)) ∧ w'.cell? ⟨wc.heap.size + 1, 0, none⟩ = some (B8 x.kind) ∧ w'.cell? ⟨wc.heap.size + 1 + 1, g, none⟩ = some (S (Srcp.gapC g))) _ := ⟨hHeld2.1, hHeld2.2.1, hHeld2.2.2.1, hHeld2.2.2.2, kC _ _ (by (first | omega | (simp; done) | (simp; omega)))⟩
                    refine wpAnyH_take (i := 22) (oi := ?o_23) (v := ?v_23) ?hi_23 (by kernel_rfl) (by kernel_rfl) (by kernel_rfl) (fun _ _ _ h => h) (Or.inl ⟨?hw_23, ?hy_23⟩) (by assumption) ?rest_23
                    case hi_23 => (simp only [List.getElem?_toArray, List.getElem?_cons_succ, List.getElem?_cons_zero]; rfl)
                    case hw_23 => rfl
                    case hy_23 => (intro w hSw; (try dsimp only at hSw); go_simp; try with_reducible rfl)
                    simp only [Act.put, List.setIfInBounds_toArray, List.set_cons_zero, List.set_cons_succ]
                    refine wpAnyH_take (i := 23) (oi := ?o_24) (v := ?v_24) ?hi_24 (by kernel_rfl) (by kernel_rfl) (by kernel_rfl) (fun _ _ _ h => h) (Or.inl ⟨?hw_24, ?hy_24⟩) (by assumption) ?rest_24
                    case hi_24 => (simp only [List.getElem?_toArray, List.getElem?_cons_succ, List.getElem?_cons_zero]; rfl)
                    case hw_24 => rfl
                    case hy_24 => (intro w hSw; (try dsimp only at hSw); go_simp; try with_reducible rfl)
                    simp only [Act.put, List.setIfInBounds_toArray, List.set_cons_zero, List.set_cons_succ]
                    refine wpAnyH_take (i := 24) (oi := ?o_25) (v := ?v_25) ?hi_25 (by kernel_rfl) (by kernel_rfl) (by kernel_rfl) (fun _ _ _ h => h) (Or.inl ⟨?hw_25, ?hy_25⟩) (by assumption) ?rest_25
                    case hi_25 => (simp only [List.getElem?_toArray, List.getElem?_cons_succ, List.getElem?_cons_zero]; rfl)
                    case hw_25 => rfl
                    case hy_25 => (intro w hSw; (try dsimp only at hSw); go_simp; try with_reducible rfl)
                    simp only [Act.put, List.setIfInBounds_toArray, List.set_cons_zero, List.set_cons_succ]
                    refine wpAnyH_take (i := 25) (oi := ?o_26) (v := ?v_26) ?hi_26 (by kernel_rfl) (by kernel_rfl) (by kernel_rfl) (fun _ _ _ h => h) (Or.inl ⟨?hw_26, ?hy_26⟩) (by assumption) ?rest_26
                    case hi_26 => (simp only [List.getElem?_toArray, List.getElem?_cons_succ, List.getElem?_cons_zero]; rfl)
                    case hw_26 => rfl
                    case hy_26 => (intro w hSw; (try dsimp only at hSw); go_simp; try with_reducible rfl)
                    simp only [Act.put, List.setIfInBounds_toArray, List.set_cons_zero, List.set_cons_succ]
                    clear hK K hHeld hHeld2
                    have hHeld := hHeld3
                    clear hHeld3
                    refine wpAnyH_done (by kernel_rfl) ?_ _
                    refine NoPanic.normal ?_
                    go_wp2_with fail
                    go_meet
                    exact ⟨by rw [if_neg HK.out, ← HT.out]; simp [List.append_assoc], by (repeat (first | (with_reducible exact Below.refl _ _) | (with_reducible assumption) | (with_reducible refine Below.drew ?_) | ((with_reducible refine Below.setCell ?_ ?_ _); rotate_left; (focus (first | omega | (simp; done) | (simp; omega)))) | ((with_reducible refine Below.alloc ?_ ?_ _); rotate_left; (focus (first | omega | (simp; done) | (simp; omega))))))⟩
                  case more_22 =>
                    exact AllReadyH.nil
                case more_19 =>
                  refine AllReadyH.cons (o := ?o_27) ?hi_27 (fun K hK => ?step_27) ?more_27
                  case hi_27 => (simp only [List.getElem?_toArray, List.getElem?_cons_succ, List.getElem?_cons_zero]; rfl)
                  case step_27 =>
                    go_simp
                    refine hK.out _ _ ⟨al _ _ _ _ (by (first | omega | (simp; done) | (simp; omega))) hHeld.1, al _ _ _ _ (by (first | omega | (simp; done) | (simp; omega))) hHeld.2.1, al _ _ _ _ (by (first | omega | (simp; done) | (simp; omega))) hHeld.2.2⟩ (fun hHeld2 => ?_)
                    refine wpAnyH_mono (S' := (fun w' : World => w'.cell? ⟨b, o + i * 3 + 1, none⟩ = some (B8 x.kind) ∧ w'.cell? ⟨b, o + i * 3 + 2, none⟩ = some (S x.text) ∧ w'.cell? ⟨wc.heap.size, g, none⟩ = some (S (Srcp.gapB g)) ∧ w'.cell? ⟨wc.heap.size + 1, g, none⟩ = some (S (Srcp.gapC g)))) (fun w h => ⟨h.1, h.2.1, h.2.2.1⟩) _ _ _ _ ?_
                    have hHeld3 : (fun w' : World => w'.cell? ⟨b, o + i * 3 + 1, none⟩ = some (B8 x.kind) ∧ w'.cell? ⟨b, o + i * 3 + 2, none⟩ = some (S x.text) ∧ w'.cell? ⟨wc.heap.size, g, none⟩ = some (S (Srcp.gapB g)) ∧ w'.cell? ⟨wc.heap.size + 1, g, none⟩ = some (S (Srcp.gapC g))) _ := ⟨hHeld2.1, hHeld2.2.1, hHeld2.2.2, kC _ _ (by (first | omega | (simp; done) | (simp; omega)))⟩
                    refine wpAnyH_take (i := 22) (oi := ?o_28) (v := ?v_28) ?hi_28 (by kernel_rfl) (by kernel_rfl) (by kernel_rfl) (fun _ _ _ h => h) (Or.inl ⟨?hw_28, ?hy_28⟩) (by assumption) ?rest_28
                    case hi_28 => (simp only [List.getElem?_toArray, List.getElem?_cons_succ, List.getElem?_cons_zero]; rfl)
                    case hw_28 => rfl
                    case hy_28 => (intro w hSw; (try dsimp only at hSw); go_simp; try with_reducible rfl)
                    simp only [Act.put, List.setIfInBounds_toArray, List.set_cons_zero, List.set_cons_succ]
                    refine wpAnyH_take (i := 23) (oi := ?o_29) (v := ?v_29) ?hi_29 (by kernel_rfl) (by kernel_rfl) (by kernel_rfl) (fun _ _ _ h => h) (Or.inl ⟨?hw_29, ?hy_29⟩) (by assumption) ?rest_29
                    case hi_29 => (simp only [List.getElem?_toArray, List.getElem?_cons_succ, List.getElem?_cons_zero]; rfl)
                    case hw_29 => rfl
                    case hy_29 => (intro w hSw; (try dsimp only at hSw); go_simp; try with_reducible rfl)
                    simp only [Act.put, List.setIfInBounds_toArray, List.set_cons_zero, List.set_cons_succ]
                    clear hK K hHeld hHeld2
                    have hHeld := hHeld3
                    clear hHeld3
                    refine wpAnyH_ready (rs := [17]) (by kernel_rfl) (by simp) ?_
                    refine AllReadyH.cons (o := ?o_30) ?hi_30 (fun K hK => ?step_30) ?more_30
                    case hi_30 => (simp only [List.getElem?_toArray, List.getElem?_cons_succ, List.getElem?_cons_zero]; rfl)
                    case step_30 =>
                      go_simp
                      refine hK.out _ _ ⟨al _ _ _ _ (by (first | omega | (simp; done) | (simp; omega))) hHeld.1, al _ _ _ _ (by (first | omega | (simp; done) | (simp; omega))) hHeld.2.1, al _ _ _ _ (by (first | omega | (simp; done) | (simp; omega))) hHeld.2.2.1, al _ _ _ _ (by (first | omega | (simp; done) | (simp; omega))) hHeld.2.2.2⟩ (fun hHeld2 => ?_)
                      refine wpAnyH_mono (S' := (fun w' : World => w'.cell? ⟨b, o + i * 3 + 1, none⟩ = some (B8 x.kind) ∧ w'.cell? ⟨b, o + i * 3 + 2, none⟩ = some (S x.text) ∧ w'.cell? ⟨wc.heap.size, g, none⟩ = some (S (Srcp.gapB g)) ∧ w'.cell? ⟨wc.heap.size + 1, g, none⟩ = some (S (Srcp.gapC g)) ∧ w'.cell? ⟨wc.heap.size + 1 + 1, 0, none⟩ = some (B8 x.kind))) (fun w h => ⟨h.1, h.2.1, h.2.2.1, h.2.2.2.1⟩) _ _ _ _ ?_
                      have hHeld3 : (fun w' : World => w'.cell? ⟨b, o + i * 3 + 1, none⟩ = some (B8 x.kind) ∧ w'.cell? ⟨b, o + i * 3 + 2, none⟩ = some (S x.text) ∧ w'.cell? ⟨wc.heap.size, g, none⟩ = some (S (Srcp.gapB g)) ∧ w'.cell? ⟨wc.heap.size + 1, g, none⟩ = some (S (Srcp.gapC g)) ∧ w'.cell? ⟨wc.heap.size + 1 + 1, 0, none⟩ = some (B8 x.kind)) _ := ⟨hHeld2.1, hHeld2.2.1, hHeld2.2.2.1, hHeld2.2.2.2, kB _ _ (by (first | omega | (simp; done) | (simp; omega)))⟩
                      refine wpAnyH_take (i := 18) (oi := ?o_31) (v := ?v_31) ?hi_31 (by kernel_rfl) (by kernel_rfl) (by kernel_rfl) (fun _ _ _ h => h) (Or.inl ⟨?hw_31, ?hy_31⟩) (by assumption) ?rest_31
                      case hi_31 => (simp only [List.getElem?_toArray, List.getElem?_cons_succ, List.getElem?_cons_zero]; rfl)
                      case hw_31 => rfl
                      case hy_31 => (intro w hSw; (try dsimp only at hSw); have hb := byte_string w x.kind _ hSw.2.2.2.2; go_simp; try with_reducible rfl)
                      simp only [Act.put, List.setIfInBounds_toArray, List.set_cons_zero, List.set_cons_succ]
                      refine wpAnyH_take (i := 19) (oi := ?o_32) (v := ?v_32) ?hi_32 (by kernel_rfl) (by kernel_rfl) (by kernel_rfl) (fun _ _ _ h => h) (Or.inl ⟨?hw_32, ?hy_32⟩) (by assumption) ?rest_32
                      case hi_32 => (simp only [List.getElem?_toArray, List.getElem?_cons_succ, List.getElem?_cons_zero]; rfl)
                      case hw_32 => rfl
                      case hy_32 => (intro w hSw; (try dsimp only at hSw); go_simp; try with_reducible rfl)
                      simp only [Act.put, List.setIfInBounds_toArray, List.set_cons_zero, List.set_cons_succ]
                      refine wpAnyH_take (i := 24) (oi := ?o_33) (v := ?v_33) ?hi_33 (by kernel_rfl) (by kernel_rfl) (by kernel_rfl) (fun _ _ _ h => h) (Or.inl ⟨?hw_33, ?hy_33⟩) (by assumption) ?rest_33
                      case hi_33 => (simp only [List.getElem?_toArray, List.getElem?_cons_succ, List.getElem?_cons_zero]; rfl)
                      case hw_33 => rfl
                      case hy_33 => (intro w hSw; (try dsimp only at hSw); go_simp; try with_reducible rfl)
                      simp only [Act.put, List.setIfInBounds_toArray, List.set_cons_zero, List.set_cons_succ]
                      refine wpAnyH_take (i := 25) (oi := ?o_34) (v := ?v_34) ?hi_34 (by kernel_rfl) (by kernel_rfl) (by kernel_rfl) (fun _ _ _ h => h) (Or.inl ⟨?hw_34, ?hy_34⟩) (by assumption) ?rest_34
                      case hi_34 => (simp only [List.getElem?_toArray, List.getElem?_cons_succ, List.getElem?_cons_zero]; rfl)
                      case hw_34 => rfl
                      case hy_34 => (intro w hSw; (try dsimp only at hSw); go_simp; try with_reducible rfl)
                      simp only [Act.put, List.setIfInBounds_toArray, List.set_cons_zero, List.set_cons_succ]
                      clear hK K hHeld hHeld2
                      have hHeld := hHeld3
                      clear hHeld3
                      refine wpAnyH_done (by kernel_rfl) ?_ _
                      refine NoPanic.normal ?_
                      go_wp2_with fail
                      go_meet
                      exact ⟨by rw [if_neg HK.out, ← HT.out]; simp [List.append_assoc], by (repeat (first | (with_reducible exact Below.refl _ _) | (with_reducible assumption) | (with_reducible refine Below.drew ?_) | ((with_reducible refine Below.setCell ?_ ?_ _); rotate_left; (focus (first | omega | (simp; done) | (simp; omega)))) | ((with_reducible refine Below.alloc ?_ ?_ _); rotate_left; (focus (first | omega | (simp; done) | (simp; omega))))))⟩
                    case more_30 =>
                      exact AllReadyH.nil
                  case more_27 =>
                    exact AllReadyH.nil
              case more_14 =>
                refine AllReadyH.cons (o := ?o_35) ?hi_35 (fun K hK => ?step_35) ?more_35
                case hi_35 => (simp only [List.getElem?_toArray, List.getElem?_cons_succ, List.getElem?_cons_zero]; rfl)
                case step_35 =>
                  go_simp
                  refine hK.out _ _ ⟨al _ _ _ _ (by (first | omega | (simp; done) | (simp; omega))) hHeld.1, al _ _ _ _ (by (first | omega | (simp; done) | (simp; omega))) hHeld.2⟩ (fun hHeld2 => ?_)
                  refine wpAnyH_mono (S' := (fun w' : World => w'.cell? ⟨b, o + i * 3 + 1, none⟩ = some (B8 x.kind) ∧ w'.cell? ⟨b, o + i * 3 + 2, none⟩ = some (S x.text) ∧ w'.cell? ⟨wc.heap.size, 0, none⟩ = some (B8 x.kind))) (fun w h => ⟨h.1, h.2.1⟩) _ _ _ _ ?_
                  have hHeld3 : (fun w' : World => w'.cell? ⟨b, o + i * 3 + 1, none⟩ = some (B8 x.kind) ∧ w'.cell? ⟨b, o + i * 3 + 2, none⟩ = some (S x.text) ∧ w'.cell? ⟨wc.heap.size, 0, none⟩ = some (B8 x.kind)) _ := ⟨hHeld2.1, hHeld2.2, kB _ _ (by (first | omega | (simp; done) | (simp; omega)))⟩
                  refine wpAnyH_take (i := 18) (oi := ?o_36) (v := ?v_36) ?hi_36 (by kernel_rfl) (by kernel_rfl) (by kernel_rfl) (fun _ _ _ h => h) (Or.inl ⟨?hw_36, ?hy_36⟩) (by assumption) ?rest_36
                  case hi_36 => (simp only [List.getElem?_toArray, List.getElem?_cons_succ, List.getElem?_cons_zero]; rfl)
                  case hw_36 => rfl
                  case hy_36 => (intro w hSw; (try dsimp only at hSw); have hb := byte_string w x.kind _ hSw.2.2; go_simp; try with_reducible rfl)
                  simp only [Act.put, List.setIfInBounds_toArray, List.set_cons_zero, List.set_cons_succ]
                  clear hK K hHeld hHeld2
                  have hHeld := hHeld3
                  clear hHeld3
                  refine wpAnyH_ready (rs := [1, 20]) (by kernel_rfl) (by simp) ?_
                  refine AllReadyH.cons (o := ?o_37) ?hi_37 (fun K hK => ?step_37) ?more_37
                  case hi_37 => (simp only [List.getElem?_toArray, List.getElem?_cons_succ, List.getElem?_cons_zero]; rfl)
                  case step_37 =>
                    go_simp
                    refine hK.out _ _ ⟨al _ _ _ _ (by (first | omega | (simp; done) | (simp; omega))) hHeld.1, al _ _ _ _ (by (first | omega | (simp; done) | (simp; omega))) hHeld.2.1, al _ _ _ _ (by (first | omega | (simp; done) | (simp; omega))) hHeld.2.2⟩ (fun hHeld2 => ?_)
                    refine wpAnyH_mono (S' := (fun w' : World => w'.cell? ⟨b, o + i * 3 + 1, none⟩ = some (B8 x.kind) ∧ w'.cell? ⟨b, o + i * 3 + 2, none⟩ = some (S x.text) ∧ w'.cell? ⟨wc.heap.size, 0, none⟩ = some (B8 x.kind) ∧ w'.cell? ⟨wc.heap.size + 1, g, none⟩ = some (S (Srcp.gapB g)))) (fun w h => ⟨h.1, h.2.1, h.2.2.1⟩) _ _ _ _ ?_
                    have hHeld3 : (fun w' : World => w'.cell? ⟨b, o + i * 3 + 1, none⟩ = some (B8 x.kind) ∧ w'.cell? ⟨b, o + i * 3 + 2, none⟩ = some (S x.text) ∧ w'.cell? ⟨wc.heap.size, 0, none⟩ = some (B8 x.kind) ∧ w'.cell? ⟨wc.heap.size + 1, g, none⟩ = some (S (Srcp.gapB g))) _ := ⟨hHeld2.1, hHeld2.2.1, hHeld2.2.2, kA _ _ (by (first | omega | (simp; done) | (simp; omega)))⟩
                    refine wpAnyH_take (i := 3) (oi := ?o_38) (v := ?v_38) ?hi_38 (by kernel_rfl) (by kernel_rfl) (by kernel_rfl) (fun _ _ _ h => h) (Or.inl ⟨?hw_38, ?hy_38⟩) (by assumption) ?rest_38
                    case hi_38 => (simp only [List.getElem?_toArray, List.getElem?_cons_succ, List.getElem?_cons_zero]; rfl)
                    case hw_38 => rfl
                    case hy_38 => (intro w hSw; (try dsimp only at hSw); go_simp; try with_reducible rfl)
                    simp only [Act.put, List.setIfInBounds_toArray, List.set_cons_zero, List.set_cons_succ]
                    refine wpAnyH_take (i := 4) (oi := ?o_39) (v := ?v_39) ?hi_39 (by kernel_rfl) (by kernel_rfl) (by kernel_rfl) (fun _ _ _ h => h) (Or.inl ⟨?hw_39, ?hy_39⟩) (by assumption) ?rest_39
                    case hi_39 => (simp only [List.getElem?_toArray, List.getElem?_cons_succ, List.getElem?_cons_zero]; rfl)
                    case hw_39 => rfl
                    case hy_39 => (intro w hSw; (try dsimp only at hSw); go_simp; try with_reducible rfl)
                    simp only [Act.put, List.setIfInBounds_toArray, List.set_cons_zero, List.set_cons_succ]
                    refine wpAnyH_take (i := 5) (oi := ?o_40) (v := ?v_40) ?hi_40 (by kernel_rfl) (by kernel_rfl) (by kernel_rfl) (fun _ _ _ h => h) (Or.inl ⟨?hw_40, ?hy_40⟩) (by assumption) ?rest_40
                    case hi_40 => (simp only [List.getElem?_toArray, List.getElem?_cons_succ, List.getElem?_cons_zero]; rfl)
                    case hw_40 => rfl
                    case hy_40 => (intro w hSw; (try dsimp only at hSw); go_simp; try with_reducible rfl)
                    simp only [Act.put, List.setIfInBounds_toArray, List.set_cons_zero, List.set_cons_succ]
                    refine wpAnyH_take (i := 11) (oi := ?o_41) (v := ?v_41) ?hi_41 (by kernel_rfl) (by kernel_rfl) (by kernel_rfl) (fun _ _ _ h => h) (Or.inl ⟨?hw_41, ?hy_41⟩) (by assumption) ?rest_41
                    case hi_41 => (simp only [List.getElem?_toArray, List.getElem?_cons_succ, List.getElem?_cons_zero]; rfl)
                    case hw_41 => rfl
                    case hy_41 => (intro w hSw; (try dsimp only at hSw); go_simp; try with_reducible rfl)
                    simp only [Act.put, List.setIfInBounds_toArray, List.set_cons_zero, List.set_cons_succ]
                    refine wpAnyH_take (i := 19) (oi := ?o_42) (v := ?v_42) ?hi_42 (by kernel_rfl) (by kernel_rfl) (by kernel_rfl) (fun _ _ _ h => h) (Or.inl ⟨?hw_42, ?hy_42⟩) (by assumption) ?rest_42
                    case hi_42 => (simp only [List.getElem?_toArray, List.getElem?_cons_succ, List.getElem?_cons_zero]; rfl)
                    case hw_42 => rfl
                    case hy_42 => (intro w hSw; (try dsimp only at hSw); go_simp; try with_reducible rfl)
                    simp only [Act.put, List.setIfInBounds_toArray, List.set_cons_zero, List.set_cons_succ]
                    clear hK K hHeld hHeld2
                    have hHeld := hHeld3
                    clear hHeld3
                    refine wpAnyH_ready (rs := [20]) (by kernel_rfl) (by simp) ?_
                    refine AllReadyH.cons (o := ?o_43) ?hi_43 (fun K hK => ?step_43) ?more_43
                    case hi_43 => (simp only [List.getElem?_toArray, List.getElem?_cons_succ, List.getElem?_cons_zero]; rfl)
                    case step_43 =>
                      go_simp
                      refine hK.out _ _ ⟨al _ _ _ _ (by (first | omega | (simp; done) | (simp; omega))) hHeld.1, al _ _ _ _ (by (first | omega | (simp; done) | (simp; omega))) hHeld.2.1, al _ _ _ _ (by (first | omega | (simp; done) | (simp; omega))) hHeld.2.2.1, al _ _ _ _ (by (first | omega | (simp; done) | (simp; omega))) hHeld.2.2.2⟩ (fun hHeld2 => ?_)
                      refine wpAnyH_mono (S' := (fun w' : World => w'.cell? ⟨b, o + i * 3 + 1, none⟩ = some (B8 x.kind) ∧ w'.cell? ⟨b, o + i * 3 + 2, none⟩ = some (S x.text) ∧ w'.cell? ⟨wc.heap.size, 0, none⟩ = some (B8 x.kind) ∧ w'.cell? ⟨wc.heap.size + 1, g, none⟩ = some (S (Srcp.gapB g)) ∧ w'.cell? ⟨wc.heap.size + 1 + 1, g, none⟩ = some (S (Srcp.gapC g)))) (fun w h => ⟨h.1, h.2.1, h.2.2.1, h.2.2.2.1⟩) _ _ _ _ ?_
                      have hHeld3 : (fun w' : World => w'.cell? ⟨b, o + i * 3 + 1, none⟩ = some (B8 x.kind) ∧ w'.cell? ⟨b, o + i * 3 + 2, none⟩ = some (S x.text) ∧ w'.cell? ⟨wc.heap.size, 0, none⟩ = some (B8 x.kind) ∧ w'.cell? ⟨wc.heap.size + 1, g, none⟩ = some (S (Srcp.gapB g)) ∧ w'.cell? ⟨wc.heap.size + 1 + 1, g, none⟩ = some (S (Srcp.gapC g))) _ := ⟨hHeld2.1, hHeld2.2.1, hHeld2.2.2.1, hHeld2.2.2.2, kC _ _ (by (first | omega | (simp; done) | (simp; omega)))⟩
                      refine wpAnyH_take (i := 22) (oi := ?o_44) (v := ?v_44) ?hi_44 (by kernel_rfl) (by kernel_rfl) (by kernel_rfl) (fun _ _ _ h => h) (Or.inl ⟨?hw_44, ?hy_44⟩) (by assumption) ?rest_44
                      case hi_44 => (simp only [List.getElem?_toArray, List.getElem?_cons_succ, List.getElem?_cons_zero]; rfl)
                      case hw_44 => rfl
                      case hy_44 => (intro w hSw; (try dsimp only at hSw); go_simp; try with_reducible rfl)
                      simp only [Act.put, List.setIfInBounds_toArray, List.set_cons_zero, List.set_cons_succ]
                      refine wpAnyH_take (i := 23) (oi := ?o_45) (v := ?v_45) ?hi_45 (by kernel_rfl) (by kernel_rfl) (by kernel_rfl) (fun _ _ _ h => h) (Or.inl ⟨?hw_45, ?hy_45⟩) (by assumption) ?rest_45
                      case hi_45 => (simp only [List.getElem?_toArray, List.getElem?_cons_succ, List.getElem?_cons_zero]; rfl)
                      case hw_45 => rfl
                      case hy_45 => (intro w hSw; (try dsimp only at hSw); go_simp; try with_reducible rfl)
                      simp only [Act.put, List.setIfInBounds_toArray, List.set_cons_zero, List.set_cons_succ]
                      refine wpAnyH_take (i := 24) (oi := ?o_46) (v := ?v_46) ?hi_46 (by kernel_rfl) (by kernel_rfl) (by kernel_rfl) (fun _ _ _ h => h) (Or.inl ⟨?hw_46, ?hy_46⟩) (by assumption) ?rest_46
                      case hi_46 => (simp only [List.getElem?_toArray, List.getElem?_cons_succ, List.getElem?_cons_zero]; rfl)
                      case hw_46 => rfl
                      case hy_46 => (intro w hSw; (try dsimp only at hSw); go_simp; try with_reducible rfl)
                      simp only [Act.put, List.setIfInBounds_toArray, List.set_cons_zero, List.set_cons_succ]
                      refine wpAnyH_take (i := 25) (oi := ?o_47) (v := ?v_47) ?hi_47 (by kernel_rfl) (by kernel_rfl) (by kernel_rfl) (fun _ _ _ h => h) (Or.inl ⟨?hw_47, ?hy_47⟩) (by assumption) ?rest_47
                      case hi_47 => (simp only [List.getElem?_toArray, List.getElem?_cons_succ, List.getElem?_cons_zero]; rfl)
                      case hw_47 => rfl
                      case hy_47 => (intro w hSw; (try dsimp only at hSw); go_simp; try with_reducible rfl)
                      simp only [Act.put, List.setIfInBounds_toArray, List.set_cons_zero, List.set_cons_succ]
                      clear hK K hHeld hHeld2
                      have hHeld := hHeld3
                      clear hHeld3
                      refine wpAnyH_done (by kernel_rfl) ?_ _
                      refine NoPanic.normal ?_
                      go_wp2_with fail
                      go_meet
                      exact ⟨by rw [if_neg HK.out, ← HT.out]; simp [List.append_assoc], by (repeat (first | (with_reducible exact Below.refl _ _) | (with_reducible assumption) | (with_reducible refine Below.drew ?_) | ((with_reducible refine Below.setCell ?_ ?_ _); rotate_left; (focus (first | omega | (simp; done) | (simp; omega)))) | ((with_reducible refine Below.alloc ?_ ?_ _); rotate_left; (focus (first | omega | (simp; done) | (simp; omega))))))⟩
                    case more_43 =>
                      exact AllReadyH.nil
                  case more_37 =>
                    refine AllReadyH.cons (o := ?o_48) ?hi_48 (fun K hK => ?step_48) ?more_48
                    case hi_48 => (simp only [List.getElem?_toArray, List.getElem?_cons_succ, List.getElem?_cons_zero]; rfl)
                    case step_48 =>
                      go_simp
                      refine hK.out _ _ ⟨al _ _ _ _ (by (first | omega | (simp; done) | (simp; omega))) hHeld.1, al _ _ _ _ (by (first | omega | (simp; done) | (simp; omega))) hHeld.2.1, al _ _ _ _ (by (first | omega | (simp; done) | (simp; omega))) hHeld.2.2⟩ (fun hHeld2 => ?_)
                      refine wpAnyH_mono (S' := (fun w' : World => w'.cell? ⟨b, o + i * 3 + 1, none⟩ = some (B8 x.kind) ∧ w'.cell? ⟨b, o + i * 3 + 2, none⟩ = some (S x.text) ∧ w'.cell? ⟨wc.heap.size, 0, none⟩ = some (B8 x.kind) ∧ w'.cell? ⟨wc.heap.size + 1, g, none⟩ = some (S (Srcp.gapC g)))) (fun w h => ⟨h.1, h.2.1, h.2.2.1⟩) _ _ _ _ ?_
                      have hHeld3 : (fun w' : World => w'.cell? ⟨b, o + i * 3 + 1, none⟩ = some (B8 x.kind) ∧ w'.cell? ⟨b, o + i * 3 + 2, none⟩ = some (S x.text) ∧ w'.cell? ⟨wc.heap.size, 0, none⟩ = some (B8 x.kind) ∧ w'.cell? ⟨wc.heap.size + 1, g, none⟩ = some (S (Srcp.gapC g))) _ := ⟨hHeld2.1, hHeld2.2.1, hHeld2.2.2, kC _ _ (by (first | omega | (simp; done) | (simp; omega)))⟩
                      refine wpAnyH_take (i := 22) (oi := ?o_49) (v := ?v_49) ?hi_49 (by kernel_rfl) (by kernel_rfl) (by kernel_rfl) (fun _ _ _ h => h) (Or.inl ⟨?hw_49, ?hy_49⟩) (by assumption) ?rest_49
                      case hi_49 => (simp only [List.getElem?_toArray, List.getElem?_cons_succ, List.getElem?_cons_zero]; rfl)
                      case hw_49 => rfl
                      case hy_49 => (intro w hSw; (try dsimp only at hSw); go_simp; try with_reducible rfl)
                      simp only [Act.put, List.setIfInBounds_toArray, List.set_cons_zero, List.set_cons_succ]
                      refine wpAnyH_take (i := 23) (oi := ?o_50) (v := ?v_50) ?hi_50 (by kernel_rfl) (by kernel_rfl) (by kernel_rfl) (fun _ _ _ h => h) (Or.inl ⟨?hw_50, ?hy_50⟩) (by assumption) ?rest_50
                      case hi_50 => (simp only [List.getElem?_toArray, List.getElem?_cons_succ, List.getElem?_cons_zero]; rfl)
                      case hw_50 => rfl
                      case hy_50 => (intro w hSw; (try dsimp only at hSw); go_simp; try with_reducible rfl)
                      simp only [Act.put, List.setIfInBounds_toArray, List.set_cons_zero, List.set_cons_succ]
                      clear hK K hHeld hHeld2
                      have hHeld := hHeld3
                      clear hHeld3
                      refine wpAnyH_ready (rs := [1]) (by kernel_rfl) (by simp) ?_
                      refine AllReadyH.cons (o := ?o_51) ?hi_51 (fun K hK => ?step_51) ?more_51
                      case hi_51 => (simp only [List.getElem?_toArray, List.getElem?_cons_succ, List.getElem?_cons_zero]; rfl)
                      case step_51 =>
                        go_simp
                        refine hK.out _ _ ⟨al _ _ _ _ (by (first | omega | (simp; done) | (simp; omega))) hHeld.1, al _ _ _ _ (by (first | omega | (simp; done) | (simp; omega))) hHeld.2.1, al _ _ _ _ (by (first | omega | (simp; done) | (simp; omega))) hHeld.2.2.1, al _ _ _ _ (by (first | omega | (simp; done) | (simp; omega))) hHeld.2.2.2⟩ (fun hHeld2 => ?_)
                        refine wpAnyH_mono (S' := (fun w' : World => w'.cell? ⟨b, o + i * 3 + 1, none⟩ = some (B8 x.kind) ∧ w'.cell? ⟨b, o + i * 3 + 2, none⟩ = some (S x.text) ∧ w'.cell? ⟨wc.heap.size, 0, none⟩ = some (B8 x.kind) ∧ w'.cell? ⟨wc.heap.size + 1, g, none⟩ = some (S (Srcp.gapC g)) ∧ w'.cell? ⟨wc.heap.size + 1 + 1, g, none⟩ = some (S (Srcp.gapB g)))) (fun w h => ⟨h.1, h.2.1, h.2.2.1, h.2.2.2.1⟩) _ _ _ _ ?_
                        have hHeld3 : (fun w' : World => w'.cell? ⟨b, o + i * 3 + 1, none⟩ = some (B8 x.kind) ∧ w'.cell? ⟨b, o + i * 3 + 2, none⟩ = some (S x.text) ∧ w'.cell? ⟨wc.heap.size, 0, none⟩ = some (B8 x.kind) ∧ w'.cell? ⟨wc.heap.size + 1, g, none⟩ = some (S (Srcp.gapC g)) ∧ w'.cell? ⟨wc.heap.size + 1 + 1, g, none⟩ = some (S (Srcp.gapB g))) _ := ⟨hHeld2.1, hHeld2.2.1, hHeld2.2.2.1, hHeld2.2.2.2, kA _ _ (by (first | omega | (simp; done) | (simp; omega)))⟩
                        refine wpAnyH_take (i := 3) (oi := ?o_52) (v := ?v_52) ?hi_52 (by kernel_rfl) (by kernel_rfl) (by kernel_rfl) (fun _ _ _ h => h) (Or.inl ⟨?hw_52, ?hy_52⟩) (by assumption) ?rest_52
                        case hi_52 => (simp only [List.getElem?_toArray, List.getElem?_cons_succ, List.getElem?_cons_zero]; rfl)
                        case hw_52 => rfl
                        case hy_52 => (intro w hSw; (try dsimp only at hSw); go_simp; try with_reducible rfl)
                        simp only [Act.put, List.setIfInBounds_toArray, List.set_cons_zero, List.set_cons_succ]
                        refine wpAnyH_take (i := 4) (oi := ?o_53) (v := ?v_53) ?hi_53 (by kernel_rfl) (by kernel_rfl) (by kernel_rfl) (fun _ _ _ h => h) (Or.inl ⟨?hw_53, ?hy_53⟩) (by assumption) ?rest_53
                        case hi_53 => (simp only [List.getElem?_toArray, List.getElem?_cons_succ, List.getElem?_cons_zero]; rfl)
                        case hw_53 => rfl
                        case hy_53 => (intro w hSw; (try dsimp only at hSw); go_simp; try with_reducible rfl)
                        simp only [Act.put, List.setIfInBounds_toArray, List.set_cons_zero, List.set_cons_succ]
                        refine wpAnyH_take (i := 5) (oi := ?o_54) (v := ?v_54) ?hi_54 (by kernel_rfl) (by kernel_rfl) (by kernel_rfl) (fun _ _ _ h => h) (Or.inl ⟨?hw_54, ?hy_54⟩) (by assumption) ?rest_54
                        case hi_54 => (simp only [List.getElem?_toArray, List.getElem?_cons_succ, List.getElem?_cons_zero]; rfl)
                        case hw_54 => rfl
                        case hy_54 => (intro w hSw; (try dsimp only at hSw); go_simp; try with_reducible rfl)
                        simp only [Act.put, List.setIfInBounds_toArray, List.set_cons_zero, List.set_cons_succ]
                        refine wpAnyH_take (i := 11) (oi := ?o_55) (v := ?v_55) ?hi_55 (by kernel_rfl) (by kernel_rfl) (by kernel_rfl) (fun _ _ _ h => h) (Or.inl ⟨?hw_55, ?hy_55⟩) (by assumption) ?rest_55
                        case hi_55 => (simp only [List.getElem?_toArray, List.getElem?_cons_succ, List.getElem?_cons_zero]; rfl)
                        case hw_55 => rfl
                        case hy_55 => (intro w hSw; (try dsimp only at hSw); go_simp; try with_reducible rfl)
                        simp only [Act.put, List.setIfInBounds_toArray, List.set_cons_zero, List.set_cons_succ]
                        refine wpAnyH_take (i := 19) (oi := ?o_56) (v := ?v_56) ?hi_56 (by kernel_rfl) (by kernel_rfl) (by kernel_rfl) (fun _ _ _ h => h) (Or.inl ⟨?hw_56, ?hy_56⟩) (by assumption) ?rest_56
                        case hi_56 => (simp only [List.getElem?_toArray, List.getElem?_cons_succ, List.getElem?_cons_zero]; rfl)
                        case hw_56 => rfl
                        case hy_56 => (intro w hSw; (try dsimp only at hSw); go_simp; try with_reducible rfl)
                        simp only [Act.put, List.setIfInBounds_toArray, List.set_cons_zero, List.set_cons_succ]
                        refine wpAnyH_take (i := 24) (oi := ?o_57) (v := ?v_57) ?hi_57 (by kernel_rfl) (by kernel_rfl) (by kernel_rfl) (fun _ _ _ h => h) (Or.inl ⟨?hw_57, ?hy_57⟩) (by assumption) ?rest_57
                        case hi_57 => (simp only [List.getElem?_toArray, List.getElem?_cons_succ, List.getElem?_cons_zero]; rfl)
                        case hw_57 => rfl
                        case hy_57 => (intro w hSw; (try dsimp only at hSw); go_simp; try with_reducible rfl)
                        simp only [Act.put, List.setIfInBounds_toArray, List.set_cons_zero, List.set_cons_succ]
                        refine wpAnyH_take (i := 25) (oi := ?o_58) (v := ?v_58) ?hi_58 (by kernel_rfl) (by kernel_rfl) (by kernel_rfl) (fun _ _ _ h => h) (Or.inl ⟨?hw_58, ?hy_58⟩) (by assumption) ?rest_58
                        case hi_58 => (simp only [List.getElem?_toArray, List.getElem?_cons_succ, List.getElem?_cons_zero]; rfl)
                        case hw_58 => rfl
                        case hy_58 => (intro w hSw; (try dsimp only at hSw); go_simp; try with_reducible rfl)
                        simp only [Act.put, List.setIfInBounds_toArray, List.set_cons_zero, List.set_cons_succ]
                        clear hK K hHeld hHeld2
                        have hHeld := hHeld3
                        clear hHeld3
                        refine wpAnyH_done (by kernel_rfl) ?_ _
                        refine NoPanic.normal ?_
                        go_wp2_with fail
                        go_meet
                        exact ⟨by rw [if_neg HK.out, ← HT.out]; simp [List.append_assoc], by (repeat (first | (with_reducible exact Below.refl _ _) | (with_reducible assumption) | (with_reducible refine Below.drew ?_) | ((with_reducible refine Below.setCell ?_ ?_ _); rotate_left; (focus (first | omega | (simp; done) | (simp; omega)))) | ((with_reducible refine Below.alloc ?_ ?_ _); rotate_left; (focus (first | omega | (simp; done) | (simp; omega))))))⟩
                      case more_51 =>
                        exact AllReadyH.nil
                    case more_48 =>
                      exact AllReadyH.nil
                case more_35 =>
                  refine AllReadyH.cons (o := ?o_59) ?hi_59 (fun K hK => ?step_59) ?more_59
                  case hi_59 => (simp only [List.getElem?_toArray, List.getElem?_cons_succ, List.getElem?_cons_zero]; rfl)
                  case step_59 =>
                    go_simp
                    refine hK.out _ _ ⟨al _ _ _ _ (by (first | omega | (simp; done) | (simp; omega))) hHeld.1, al _ _ _ _ (by (first | omega | (simp; done) | (simp; omega))) hHeld.2⟩ (fun hHeld2 => ?_)
                    refine wpAnyH_mono (S' := (fun w' : World => w'.cell? ⟨b, o + i * 3 + 1, none⟩ = some (B8 x.kind) ∧ w'.cell? ⟨b, o + i * 3 + 2, none⟩ = some (S x.text) ∧ w'.cell? ⟨wc.heap.size, g, none⟩ = some (S (Srcp.gapC g)))) (fun w h => ⟨h.1, h.2.1⟩) _ _ _ _ ?_
                    have hHeld3 : (fun w' : World => w'.cell? ⟨b, o + i * 3 + 1, none⟩ = some (B8 x.kind) ∧ w'.cell? ⟨b, o + i * 3 + 2, none⟩ = some (S x.text) ∧ w'.cell? ⟨wc.heap.size, g, none⟩ = some (S (Srcp.gapC g))) _ := ⟨hHeld2.1, hHeld2.2, kC _ _ (by (first | omega | (simp; done) | (simp; omega)))⟩
                    refine wpAnyH_take (i := 22) (oi := ?o_60) (v := ?v_60) ?hi_60 (by kernel_rfl) (by kernel_rfl) (by kernel_rfl) (fun _ _ _ h => h) (Or.inl ⟨?hw_60, ?hy_60⟩) (by assumption) ?rest_60
                    case hi_60 => (simp only [List.getElem?_toArray, List.getElem?_cons_succ, List.getElem?_cons_zero]; rfl)
                    case hw_60 => rfl
                    case hy_60 => (intro w hSw; (try dsimp only at hSw); go_simp; try with_reducible rfl)
                    simp only [Act.put, List.setIfInBounds_toArray, List.set_cons_zero, List.set_cons_succ]
                    refine wpAnyH_take (i := 23) (oi := ?o_61) (v := ?v_61) ?hi_61 (by kernel_rfl) (by kernel_rfl) (by kernel_rfl) (fun _ _ _ h => h) (Or.inl ⟨?hw_61, ?hy_61⟩) (by assumption) ?rest_61
                    case hi_61 => (simp only [List.getElem?_toArray, List.getElem?_cons_succ, List.getElem?_cons_zero]; rfl)
                    case hw_61 => rfl
                    case hy_61 => (intro w hSw; (try dsimp only at hSw); go_simp; try with_reducible rfl)
                    simp only [Act.put, List.setIfInBounds_toArray, List.set_cons_zero, List.set_cons_succ]
                    clear hK K hHeld hHeld2
                    have hHeld := hHeld3
                    clear hHeld3
                    refine wpAnyH_ready (rs := [1, 17]) (by kernel_rfl) (by simp) ?_
                    refine AllReadyH.cons (o := ?o_62) ?hi_62 (fun K hK => ?step_62) ?more_62
                    case hi_62 => (simp only [List.getElem?_toArray, List.getElem?_cons_succ, List.getElem?_cons_zero]; rfl)
                    case step_62 =>
                      go_simp
                      refine hK.out _ _ ⟨al _ _ _ _ (by (first | omega | (simp; done) | (simp; omega))) hHeld.1, al _ _ _ _ (by (first | omega | (simp; done) | (simp; omega))) hHeld.2.1, al _ _ _ _ (by (first | omega | (simp; done) | (simp; omega))) hHeld.2.2⟩ (fun hHeld2 => ?_)
                      refine wpAnyH_mono (S' := (fun w' : World => w'.cell? ⟨b, o + i * 3 + 1, none⟩ = some (B8 x.kind) ∧ w'.cell? ⟨b, o + i * 3 + 2, none⟩ = some (S x.text) ∧ w'.cell? ⟨wc.heap.size, g, none⟩ = some (S (Srcp.gapC g)) ∧ w'.cell? ⟨wc.heap.size + 1, g, none⟩ = some (S (Srcp.gapB g)))) (fun w h => ⟨h.1, h.2.1, h.2.2.1⟩) _ _ _ _ ?_
                      have hHeld3 : (fun w' : World => w'.cell? ⟨b, o + i * 3 + 1, none⟩ = some (B8 x.kind) ∧ w'.cell? ⟨b, o + i * 3 + 2, none⟩ = some (S x.text) ∧ w'.cell? ⟨wc.heap.size, g, none⟩ = some (S (Srcp.gapC g)) ∧ w'.cell? ⟨wc.heap.size + 1, g, none⟩ = some (S (Srcp.gapB g))) _ := ⟨hHeld2.1, hHeld2.2.1, hHeld2.2.2, kA _ _ (by (first | omega | (simp; done) | (simp; omega)))⟩
                      refine wpAnyH_take (i := 3) (oi := ?o_63) (v := ?v_63) ?hi_63 (by kernel_rfl) (by kernel_rfl) (by kernel_rfl) (fun _ _ _ h => h) (Or.inl ⟨?hw_63, ?hy_63⟩) (by assumption) ?rest_63
                      case hi_63 => (simp only [List.getElem?_toArray, List.getElem?_cons_succ, List.getElem?_cons_zero]; rfl)
                      case hw_63 => rfl
                      case hy_63 => (intro w hSw; (try dsimp only at hSw); go_simp; try with_reducible rfl)
                      simp only [Act.put, List.setIfInBounds_toArray, List.set_cons_zero, List.set_cons_succ]
                      refine wpAnyH_take (i := 4) (oi := ?o_64) (v := ?v_64) ?hi_64 (by kernel_rfl) (by kernel_rfl) (by kernel_rfl) (fun _ _ _ h => h) (Or.inl ⟨?hw_64, ?hy_64⟩) (by assumption) ?rest_64
                      case hi_64 => (simp only [List.getElem?_toArray, List.getElem?_cons_succ, List.getElem?_cons_zero]; rfl)
                      case hw_64 => rfl
                      case hy_64 => (intro w hSw; (try dsimp only at hSw); go_simp; try with_reducible rfl)
                      simp only [Act.put, List.setIfInBounds_toArray, List.set_cons_zero, List.set_cons_succ]
                      refine wpAnyH_take (i := 5) (oi := ?o_65) (v := ?v_65) ?hi_65 (by kernel_rfl) (by kernel_rfl) (by kernel_rfl) (fun _ _ _ h => h) (Or.inl ⟨?hw_65, ?hy_65⟩) (by assumption) ?rest_65
                      case hi_65 => (simp only [List.getElem?_toArray, List.getElem?_cons_succ, List.getElem?_cons_zero]; rfl)
                      case hw_65 => rfl
                      case hy_65 => (intro w hSw; (try dsimp only at hSw); go_simp; try with_reducible rfl)
                      simp only [Act.put, List.setIfInBounds_toArray, List.set_cons_zero, List.set_cons_succ]
                      refine wpAnyH_take (i := 11) (oi := ?o_66) (v := ?v_66) ?hi_66 (by kernel_rfl) (by kernel_rfl) (by kernel_rfl) (fun _ _ _ h => h) (Or.inl ⟨?hw_66, ?hy_66⟩) (by assumption) ?rest_66
                      case hi_66 => (simp only [List.getElem?_toArray, List.getElem?_cons_succ, List.getElem?_cons_zero]; rfl)
                      case hw_66 => rfl
                      case hy_66 => (intro w hSw; (try dsimp only at hSw); go_simp; try with_reducible rfl)
                      simp only [Act.put, List.setIfInBounds_toArray, List.set_cons_zero, List.set_cons_succ]
                      clear hK K hHeld hHeld2
                      have hHeld := hHeld3
                      clear hHeld3
                      refine wpAnyH_ready (rs := [17]) (by kernel_rfl) (by simp) ?_
                      refine AllReadyH.cons (o := ?o_67) ?hi_67 (fun K hK => ?step_67) ?more_67
                      case hi_67 => (simp only [List.getElem?_toArray, List.getElem?_cons_succ, List.getElem?_cons_zero]; rfl)
                      case step_67 =>
                        go_simp
                        refine hK.out _ _ ⟨al _ _ _ _ (by (first | omega | (simp; done) | (simp; omega))) hHeld.1, al _ _ _ _ (by (first | omega | (simp; done) | (simp; omega))) hHeld.2.1, al _ _ _ _ (by (first | omega | (simp; done) | (simp; omega))) hHeld.2.2.1, al _ _ _ _ (by (first | omega | (simp; done) | (simp; omega))) hHeld.2.2.2⟩ (fun hHeld2 => ?_)
                        refine wpAnyH_mono (S' := (fun w' : World => w'.cell? ⟨b, o + i * 3 + 1, none⟩ = some (B8 x.kind) ∧ w'.cell? ⟨b, o + i * 3 + 2, none⟩ = some (S x.text) ∧ w'.cell? ⟨wc.heap.size, g, none⟩ = some (S (Srcp.gapC g)) ∧ w'.cell? ⟨wc.heap.size + 1, g, none⟩ = some (S (Srcp.gapB g)) ∧ w'.cell? ⟨wc.heap.size + 1 + 1, 0, none⟩ = some (B8 x.kind))) (fun w h => ⟨h.1, h.2.1, h.2.2.1, h.2.2.2.1⟩) _ _ _ _ ?_
                        have hHeld3 : (fun w' : World => w'.cell? ⟨b, o + i * 3 + 1, none⟩ = some (B8 x.kind) ∧ w'.cell? ⟨b, o + i * 3 + 2, none⟩ = some (S x.text) ∧ w'.cell? ⟨wc.heap.size, g, none⟩ = some (S (Srcp.gapC g)) ∧ w'.cell? ⟨wc.heap.size + 1, g, none⟩ = some (S (Srcp.gapB g)) ∧ w'.cell? ⟨wc.heap.size + 1 + 1, 0, none⟩ = some (B8 x.kind)) _ := ⟨hHeld2.1, hHeld2.2.1, hHeld2.2.2.1, hHeld2.2.2.2, kB _ _ (by (first | omega | (simp; done) | (simp; omega)))⟩
                        refine wpAnyH_take (i := 18) (oi := ?o_68) (v := ?v_68) ?hi_68 (by kernel_rfl) (by kernel_rfl) (by kernel_rfl) (fun _ _ _ h => h) (Or.inl ⟨?hw_68, ?hy_68⟩) (by assumption) ?rest_68
                        case hi_68 => (simp only [List.getElem?_toArray, List.getElem?_cons_succ, List.getElem?_cons_zero]; rfl)
                        case hw_68 => rfl
                        case hy_68 => (intro w hSw; (try dsimp only at hSw); have hb := byte_string w x.kind _ hSw.2.2.2.2; go_simp; try with_reducible rfl)
                        simp only [Act.put, List.setIfInBounds_toArray, List.set_cons_zero, List.set_cons_succ]
                        refine wpAnyH_take (i := 19) (oi := ?o_69) (v := ?v_69) ?hi_69 (by kernel_rfl) (by kernel_rfl) (by kernel_rfl) (fun _ _ _ h => h) (Or.inl ⟨?hw_69, ?hy_69⟩) (by assumption) ?rest_69
                        case hi_69 => (simp only [List.getElem?_toArray, List.getElem?_cons_succ, List.getElem?_cons_zero]; rfl)
                        case hw_69 => rfl
                        case hy_69 => (intro w hSw; (try dsimp only at hSw); go_simp; try with_reducible rfl)
                        simp only [Act.put, List.setIfInBounds_toArray, List.set_cons_zero, List.set_cons_succ]
                        refine wpAnyH_take (i := 24) (oi := ?o_70) (v := ?v_70) ?hi_70 (by kernel_rfl) (by kernel_rfl) (by kernel_rfl) (fun _ _ _ h => h) (Or.inl ⟨?hw_70, ?hy_70⟩) (by assumption) ?rest_70
                        case hi_70 => (simp only [List.getElem?_toArray, List.getElem?_cons_succ, List.getElem?_cons_zero]; rfl)
                        case hw_70 => rfl
                        case hy_70 => (intro w hSw; (try dsimp only at hSw); go_simp; try with_reducible rfl)
                        simp only [Act.put, List.setIfInBounds_toArray, List.set_cons_zero, List.set_cons_succ]
                        refine wpAnyH_take (i := 25) (oi := ?o_71) (v := ?v_71) ?hi_71 (by kernel_rfl) (by kernel_rfl) (by kernel_rfl) (fun _ _ _ h => h) (Or.inl ⟨?hw_71, ?hy_71⟩) (by assumption) ?rest_71
                        case hi_71 => (simp only [List.getElem?_toArray, List.getElem?_cons_succ, List.getElem?_cons_zero]; rfl)
                        case hw_71 => rfl
                        case hy_71 => (intro w hSw; (try dsimp only at hSw); go_simp; try with_reducible rfl)
                        simp only [Act.put, List.setIfInBounds_toArray, List.set_cons_zero, List.set_cons_succ]
                        clear hK K hHeld hHeld2
                        have hHeld := hHeld3
                        clear hHeld3
                        refine wpAnyH_done (by kernel_rfl) ?_ _
                        refine NoPanic.normal ?_
                        go_wp2_with fail
                        go_meet
                        exact ⟨by rw [if_neg HK.out, ← HT.out]; simp [List.append_assoc], by (repeat (first | (with_reducible exact Below.refl _ _) | (with_reducible assumption) | (with_reducible refine Below.drew ?_) | ((with_reducible refine Below.setCell ?_ ?_ _); rotate_left; (focus (first | omega | (simp; done) | (simp; omega)))) | ((with_reducible refine Below.alloc ?_ ?_ _); rotate_left; (focus (first | omega | (simp; done) | (simp; omega))))))⟩
                      case more_67 =>
                        exact AllReadyH.nil
                    case more_62 =>
                      refine AllReadyH.cons (o := ?o_72) ?hi_72 (fun K hK => ?step_72) ?more_72
                      case hi_72 => (simp only [List.getElem?_toArray, List.getElem?_cons_succ, List.getElem?_cons_zero]; rfl)
                      case step_72 =>
                        go_simp
                        refine hK.out _ _ ⟨al _ _ _ _ (by (first | omega | (simp; done) | (simp; omega))) hHeld.1, al _ _ _ _ (by (first | omega | (simp; done) | (simp; omega))) hHeld.2.1, al _ _ _ _ (by (first | omega | (simp; done) | (simp; omega))) hHeld.2.2⟩ (fun hHeld2 => ?_)
                        refine wpAnyH_mono (S' := (fun w' : World => w'.cell? ⟨b, o + i * 3 + 1, none⟩ = some (B8 x.kind) ∧ w'.cell? ⟨b, o + i * 3 + 2, none⟩ = some (S x.text) ∧ w'.cell? ⟨wc.heap.size, g, none⟩ = some (S (Srcp.gapC g)) ∧ w'.cell? ⟨wc.heap.size + 1, 0, none⟩ = some (B8 x.kind))) (fun w h => ⟨h.1, h.2.1, h.2.2.1⟩) _ _ _ _ ?_
                        have hHeld3 : (fun w' : World => w'.cell? ⟨b, o + i * 3 + 1, none⟩ = some (B8 x.kind) ∧ w'.cell? ⟨b, o + i * 3 + 2, none⟩ = some (S x.text) ∧ w'.cell? ⟨wc.heap.size, g, none⟩ = some (S (Srcp.gapC g)) ∧ w'.cell? ⟨wc.heap.size + 1, 0, none⟩ = some (B8 x.kind)) _ := ⟨hHeld2.1, hHeld2.2.1, hHeld2.2.2, kB _ _ (by (first | omega | (simp; done) | (simp; omega)))⟩
                        refine wpAnyH_take (i := 18) (oi := ?o_73) (v := ?v_73) ?hi_73 (by kernel_rfl) (by kernel_rfl) (by kernel_rfl) (fun _ _ _ h => h) (Or.inl ⟨?hw_73, ?hy_73⟩) (by assumption) ?rest_73
                        case hi_73 => (simp only [List.getElem?_toArray, List.getElem?_cons_succ, List.getElem?_cons_zero]; rfl)
                        case hw_73 => rfl
                        case hy_73 => (intro w hSw; (try dsimp only at hSw); have hb := byte_string w x.kind _ hSw.2.2.2; go_simp; try with_reducible rfl)
                        simp only [Act.put, List.setIfInBounds_toArray, List.set_cons_zero, List.set_cons_succ]
                        clear hK K hHeld hHeld2
                        have hHeld := hHeld3
                        clear hHeld3
                        refine wpAnyH_ready (rs := [1]) (by kernel_rfl) (by simp) ?_
                        refine AllReadyH.cons (o := ?o_74) ?hi_74 (fun K hK => ?step_74) ?more_74
                        case hi_74 => (simp only [List.getElem?_toArray, List.getElem?_cons_succ, List.getElem?_cons_zero]; rfl)
                        case step_74 =>
                          go_simp
                          refine hK.out _ _ ⟨al _ _ _ _ (by (first | omega | (simp; done) | (simp; omega))) hHeld.1, al _ _ _ _ (by (first | omega | (simp; done) | (simp; omega))) hHeld.2.1, al _ _ _ _ (by (first | omega | (simp; done) | (simp; omega))) hHeld.2.2.1, al _ _ _ _ (by (first | omega | (simp; done) | (simp; omega))) hHeld.2.2.2⟩ (fun hHeld2 => ?_)
                          refine wpAnyH_mono (S' := (fun w' : World => w'.cell? ⟨b, o + i * 3 + 1, none⟩ = some (B8 x.kind) ∧ w'.cell? ⟨b, o + i * 3 + 2, none⟩ = some (S x.text) ∧ w'.cell? ⟨wc.heap.size, g, none⟩ = some (S (Srcp.gapC g)) ∧ w'.cell? ⟨wc.heap.size + 1, 0, none⟩ = some (B8 x.kind) ∧ w'.cell? ⟨wc.heap.size + 1 + 1, g, none⟩ = some (S (Srcp.gapB g)))) (fun w h => ⟨h.1, h.2.1, h.2.2.1, h.2.2.2.1⟩) _ _ _ _ ?_
                          have hHeld3 : (fun w' : World => w'.cell? ⟨b, o + i * 3 + 1, none⟩ = some (B8 x.kind) ∧ w'.cell? ⟨b, o + i * 3 + 2, none⟩ = some (S x.text) ∧ w'.cell? ⟨wc.heap.size, g, none⟩ = some (S (Srcp.gapC g)) ∧ w'.cell? ⟨wc.heap.size + 1, 0, none⟩ = some (B8 x.kind) ∧ w'.cell? ⟨wc.heap.size + 1 + 1, g, none⟩ = some (S (Srcp.gapB g))) _ := ⟨hHeld2.1, hHeld2.2.1, hHeld2.2.2.1, hHeld2.2.2.2, kA _ _ (by (first | omega | (simp; done) | (simp; omega)))⟩
                          refine wpAnyH_take (i := 3) (oi := ?o_75) (v := ?v_75) ?hi_75 (by kernel_rfl) (by kernel_rfl) (by kernel_rfl) (fun _ _ _ h => h) (Or.inl ⟨?hw_75, ?hy_75⟩) (by assumption) ?rest_75
                          case hi_75 => (simp only [List.getElem?_toArray, List.getElem?_cons_succ, List.getElem?_cons_zero]; rfl)
                          case hw_75 => rfl
                          case hy_75 => (intro w hSw; (try dsimp only at hSw); go_simp; try with_reducible rfl)
                          simp only [Act.put, List.setIfInBounds_toArray, List.set_cons_zero, List.set_cons_succ]
                          refine wpAnyH_take (i := 4) (oi := ?o_76) (v := ?v_76) ?hi_76 (by kernel_rfl) (by kernel_rfl) (by kernel_rfl) (fun _ _ _ h => h) (Or.inl ⟨?hw_76, ?hy_76⟩) (by assumption) ?rest_76
                          case hi_76 => (simp only [List.getElem?_toArray, List.getElem?_cons_succ, List.getElem?_cons_zero]; rfl)
                          case hw_76 => rfl
                          case hy_76 => (intro w hSw; (try dsimp only at hSw); go_simp; try with_reducible rfl)
                          simp only [Act.put, List.setIfInBounds_toArray, List.set_cons_zero, List.set_cons_succ]
                          refine wpAnyH_take (i := 5) (oi := ?o_77) (v := ?v_77) ?hi_77 (by kernel_rfl) (by kernel_rfl) (by kernel_rfl) (fun _ _ _ h => h) (Or.inl ⟨?hw_77, ?hy_77⟩) (by assumption) ?rest_77
                          case hi_77 => (simp only [List.getElem?_toArray, List.getElem?_cons_succ, List.getElem?_cons_zero]; rfl)
                          case hw_77 => rfl
                          case hy_77 => (intro w hSw; (try dsimp only at hSw); go_simp; try with_reducible rfl)
                          simp only [Act.put, List.setIfInBounds_toArray, List.set_cons_zero, List.set_cons_succ]
                          refine wpAnyH_take (i := 11) (oi := ?o_78) (v := ?v_78) ?hi_78 (by kernel_rfl) (by kernel_rfl) (by kernel_rfl) (fun _ _ _ h => h) (Or.inl ⟨?hw_78, ?hy_78⟩) (by assumption) ?rest_78
                          case hi_78 => (simp only [List.getElem?_toArray, List.getElem?_cons_succ, List.getElem?_cons_zero]; rfl)
                          case hw_78 => rfl
                          case hy_78 => (intro w hSw; (try dsimp only at hSw); go_simp; try with_reducible rfl)
                          simp only [Act.put, List.setIfInBounds_toArray, List.set_cons_zero, List.set_cons_succ]
                          refine wpAnyH_take (i := 19) (oi := ?o_79) (v := ?v_79) ?hi_79 (by kernel_rfl) (by kernel_rfl) (by kernel_rfl) (fun _ _ _ h => h) (Or.inl ⟨?hw_79, ?hy_79⟩) (by assumption) ?rest_79
                          case hi_79 => (simp only [List.getElem?_toArray, List.getElem?_cons_succ, List.getElem?_cons_zero]; rfl)
                          case hw_79 => rfl
                          case hy_79 => (intro w hSw; (try dsimp only at hSw); go_simp; try with_reducible rfl)
                          simp only [Act.put, List.setIfInBounds_toArray, List.set_cons_zero, List.set_cons_succ]
                          refine wpAnyH_take (i := 24) (oi := ?o_80) (v := ?v_80) ?hi_80 (by kernel_rfl) (by kernel_rfl) (by kernel_rfl) (fun _ _ _ h => h) (Or.inl ⟨?hw_80, ?hy_80⟩) (by assumption) ?rest_80
                          case hi_80 => (simp only [List.getElem?_toArray, List.getElem?_cons_succ, List.getElem?_cons_zero]; rfl)
                          case hw_80 => rfl
                          case hy_80 => (intro w hSw; (try dsimp only at hSw); go_simp; try with_reducible rfl)
                          simp only [Act.put, List.setIfInBounds_toArray, List.set_cons_zero, List.set_cons_succ]
                          refine wpAnyH_take (i := 25) (oi := ?o_81) (v := ?v_81) ?hi_81 (by kernel_rfl) (by kernel_rfl) (by kernel_rfl) (fun _ _ _ h => h) (Or.inl ⟨?hw_81, ?hy_81⟩) (by assumption) ?rest_81
                          case hi_81 => (simp only [List.getElem?_toArray, List.getElem?_cons_succ, List.getElem?_cons_zero]; rfl)
                          case hw_81 => rfl
                          case hy_81 => (intro w hSw; (try dsimp only at hSw); go_simp; try with_reducible rfl)
                          simp only [Act.put, List.setIfInBounds_toArray, List.set_cons_zero, List.set_cons_succ]
                          clear hK K hHeld hHeld2
                          have hHeld := hHeld3
                          clear hHeld3
                          refine wpAnyH_done (by kernel_rfl) ?_ _
                          refine NoPanic.normal ?_
                          go_wp2_with fail
                          go_meet
                          exact ⟨by rw [if_neg HK.out, ← HT.out]; simp [List.append_assoc], by (repeat (first | (with_reducible exact Below.refl _ _) | (with_reducible assumption) | (with_reducible refine Below.drew ?_) | ((with_reducible refine Below.setCell ?_ ?_ _); rotate_left; (focus (first | omega | (simp; done) | (simp; omega)))) | ((with_reducible refine Below.alloc ?_ ?_ _); rotate_left; (focus (first | omega | (simp; done) | (simp; omega))))))⟩
                        case more_74 =>
                          exact AllReadyH.nil
                      case more_72 =>
                        exact AllReadyH.nil
                  case more_59 =>
                    exact AllReadyH.nil
          case rest =>
            obtain ⟨rfl, hb5⟩ := hcut
            have e1 := (hb5.cell hb4).trans f1
            replace hb5 := hb3.trans (hb5.mono hbs3)
            obtain ⟨T, hT⟩ : ∃ T, acc ++ Srcp.gapA g ++ x.url ++ (if x.kind = 0 then [] else Srcp.gapB g ++ x.text ++ [x.kind] ++ Srcp.gapC g) = T := ⟨_, rfl⟩
            have hfin : acc ++ Srcp.gapped g x = T ++ Srcp.gapD g ++ (if x.kind = 0 then [32] else []) := by rw [← hT, Srcp.gapped]; simp only [List.append_assoc]
            have hTl : T.length ≤ 200000 := by
              have h1 := HL.out
              rw [hfin] at h1
              simp only [List.length_append] at h1
              omega
            have HF := hide hfin
            rw [hT]
            have hbs5 := hb5.size
            have hlb : b < wc.heap.size := World.block_lt_of_cell? wc _ e1
            have e2 : ∀ ob : Obj, (wc.alloc ob).cell? ⟨b, o + i * 3 + 1, none⟩ = some (B8 x.kind) := fun ob => (((Below.refl wc.heap.size wc).alloc (Nat.le_refl _) ob).cell hlb).trans e1
            clear hT hfin f0 f1 f2 hb4 hbs3 hLA hb3
            rcases (by omega : g = 0 ∨ g = 1 ∨ g = 2 ∨ g = 3) with rfl | rfl | rfl | rfl
            all_goals
              by_cases hk : x.kind = 0
              · have hk0 : ((x.kind.toNat : Int) == 0) = true := by rw [hk]; decide
                have HK := hide hk
                clear hk
                go_wp2_with fail
                go_roundg (gk - 1)
                case measure => omega
                case rel =>
                  exact ⟨i + 1, acc ++ Srcp.gapped _ x, by omega, v_s (by rw [HF.out, if_pos HK.out]; simp [Srcp.gapD]), by go_num, HL.out, hz2, by (repeat (first | (with_reducible exact Below.refl _ _) | (with_reducible assumption) | (with_reducible refine Below.drew ?_) | ((with_reducible refine Below.setCell ?_ ?_ _); rotate_left; (focus (first | omega | (simp; done) | (simp; omega)))) | ((with_reducible refine Below.alloc ?_ ?_ _); rotate_left; (focus (first | omega | (simp; done) | (simp; omega))))))⟩
              · have hk0 : ((x.kind.toNat : Int) == 0) = false := by
                  rw [beq_eq_false_iff_ne]; intro e; exact hk (u8_inj (b := 0) e)
                have HK := hide hk
                clear hk
                go_wp2_with fail
                go_roundg (gk - 1)
                case measure => omega
                case rel =>
                  exact ⟨i + 1, acc ++ Srcp.gapped _ x, by omega, v_s (by rw [HF.out, if_neg HK.out]; simp [Srcp.gapD]), by go_num, HL.out, hz2, by (repeat (first | (with_reducible exact Below.refl _ _) | (with_reducible assumption) | (with_reducible refine Below.drew ?_) | ((with_reducible refine Below.setCell ?_ ?_ _); rotate_left; (focus (first | omega | (simp; done) | (simp; omega)))) | ((with_reducible refine Below.alloc ?_ ?_ _); rotate_left; (focus (first | omega | (simp; done) | (simp; omega))))))⟩
    · obtain rfl : i = R.length := by omega
      have hpz : Srcp.parse acc = R := by
        obtain ⟨zs, e1, e2⟩ := hz.out
        rw [List.take_length] at e2
        rw [e1, Srcp.parse_blanked zs (fun y hy => HG.out y.2 (by rw [← e2]; exact List.mem_map_of_mem hy)), e2]
      have HP := hide hpz
      have hr2 := r2.below hbl
      have HR2 := hide hr2
      clear hpz r2 hr2 hr
      go_wp2_with fail
      refine (pParse acc R _ (by omega) HP).mono ?_
      rintro e w3 ⟨v3, rfl, own3, hb3⟩
      have r3 := RC.of_own own3
      have r2' := HR2.out.below hb3
      have hb3' := hb2.trans ((hbl.trans (hb3.mono hbl.size)).mono hb2.size)
      have Hown := hide own3
      clear own3
      go_wp2_with fail
      refine (same_any _ _ R R _ r3 r2' (by unfold maxLen; omega) (by unfold maxLen; omega)).mono ?_
      rintro e w4 ⟨rfl, n4, rfl⟩
      rw [decide_eq_true rfl]
      go_wp2_with fail
      go_ret
      exact ⟨rfl, Below.drewN hb3' n4⟩
end Go.Proofs.YtepimjljkkkejaaDoor
