/- The reference's All, walked: all nodes of a tree in a row. -/
import Derived.Test.YtagkdmolgmhmdaaGreatDoorDg
import Derived.Test.YtagkdmolgmhmdaaGreatDoorBu
namespace Go.Proofs.YtagkdmolgmhmdaaGreatDoor
open Go.RowKit

theorem kidCells_append : ∀ {ks : List Dm.T} {vs : List (Value × Value)} (ls : List Dm.T) (us : List (Value × Value)), ks.length = vs.length → kidCells (ks ++ ls) (vs ++ us) = kidCells ks vs ++ kidCells ls us
  | [], [], ls, us, _ => by simp [kidCells]
  | t :: r, p :: s, ls, us, h => by
    have := kidCells_append ls us (show r.length = s.length by simpa using h)
    simp only [List.cons_append, kidCells, this, List.append_assoc]
  | [], _ :: _, _, _, h => by simp at h
  | _ :: _, [], _, _, h => by simp at h
theorem kidCells_one : ∀ {ks : List Dm.T} {vs : List (Value × Value)}, (∀ (i : Nat) (x : Dm.T) (p : Value × Value), ks[i]? = some x → vs[i]? = some p → (∃ ao c, p.1 = .slice ao x.d.ats.length c) ∧ ∃ ko c, p.2 = .slice ko x.ks.length c) → ∀ u ∈ kidCells ks vs, u.oneCell' = true
  | [], _, _, u, hu => by simp [kidCells] at hu
  | t :: r, [], _, u, hu => by simp [kidCells] at hu
  | t :: r, p :: s, h, u, hu => by
    simp only [kidCells, List.mem_append] at hu
    rcases hu with hu | hu
    · obtain ⟨⟨ao, c, e1⟩, ko, c', e2⟩ := h 0 t p rfl rfl
      rw [e1, e2] at hu
      exact nd_one _ _ _ _ _ _ _ u hu
    · exact kidCells_one (fun i x q h1 h2 => h (i + 1) x q (by simpa using h1) (by simpa using h2)) u hu
/-- trees that read -/
def RdL (w : World) (L : List Dm.T) (vs : List (Value × Value)) : Prop := L.length = vs.length ∧ ∀ (i : Nat) x p, L[i]? = some x → vs[i]? = some p → RdT w x p.1 p.2
theorem RdL.below {w w' : World} {L : List Dm.T} {vs : List (Value × Value)} (h : RdL w L vs) (hb : Below w.heap.size w w') : RdL w' L vs := ⟨h.1, fun i x p h1 h2 => (h.2 i x p h1 h2).below hb⟩
theorem RdL.append {w : World} {L M : List Dm.T} {vs us : List (Value × Value)} (h : RdL w L vs) (k : RdL w M us) : RdL w (L ++ M) (vs ++ us) := by
  refine ⟨by simp [h.1, k.1], fun i x p h1 h2 => ?_⟩
  rcases Nat.lt_or_ge i L.length with hi | hi
  · rw [List.getElem?_append_left hi] at h1
    rw [List.getElem?_append_left (by rw [← h.1]; exact hi)] at h2
    exact h.2 i x p h1 h2
  · rw [List.getElem?_append_right hi] at h1
    rw [List.getElem?_append_right (by rw [← h.1]; exact hi), ← h.1] at h2
    exact k.2 _ x p h1 h2
theorem RdL.forms {w : World} {L : List Dm.T} {vs : List (Value × Value)} (h : RdL w L vs) : ∀ (i : Nat) (x : Dm.T) (p : Value × Value), L[i]? = some x → vs[i]? = some p → (∃ ao c, p.1 = .slice ao x.d.ats.length c) ∧ ∃ ko c, p.2 = .slice ko x.ks.length c :=
  fun i x p h1 h2 => ⟨((h.2 i x p h1 h2).eta).1.length, ((h.2 i x p h1 h2).eta).2.length⟩
/-- they read where it all began (w0) -/
def Alls (w0 : World) (L : List Dm.T) (w : World) (e : Ending) (w' : World) : Prop :=
  ∃ v vs, e = .returned v ∧ w'.ownsRow w.heap.size 26 8 v L.length (kidCells L vs) ∧ RdL w0 L vs ∧ Below w.heap.size w w'

theorem Dm.all_wt (t : Dm.T) : t.all.length ≤ t.wt := by
  refine Dm.T.induct (C := fun t => t.all.length ≤ t.wt) (fun d ks ih => ?_) t
  have key : ∀ l : List Dm.T, (∀ t ∈ l, t ∈ ks) → (Dm.allK l).length ≤ Dm.wtK l := by
    intro l
    induction l with
    | nil => intro _; simp [Dm.allK]
    | cons a r ihr =>
      intro hl
      have h1 := ih a (hl a (by simp))
      have h2 := ihr fun t ht => hl t (by simp [ht])
      simp only [Dm.allK, Dm.wtK, List.length_append]
      omega
  have h := key ks fun _ h => h
  simp only [Dm.T.all, Dm.T.wt, Dm.D.own, List.length_cons]
  omega
theorem Dm.allK_wt (l : List Dm.T) : (Dm.allK l).length ≤ Dm.wtK l := by
  induction l with
  | nil => simp [Dm.allK]
  | cons a r ihr =>
    have := Dm.all_wt a
    simp only [Dm.allK, Dm.wtK, List.length_append]
    omega
theorem Dm.allK_snoc (ks : List Dm.T) (i : Nat) (t : Dm.T) (h : ks[i]? = some t) : Dm.allK (ks.take (i + 1)) = Dm.allK (ks.take i) ++ t.all := by
  rw [List.take_add_one, h, Dm.allK_append]
  simp [Dm.allK]

set_option maxRecDepth 100000 in
set_option maxHeartbeats 4000000 in
theorem rAll (w0 : World) (s : Dm.T) : ∀ (av kv : Value) (w : World), RdT w0 s av kv → Below w0.heap.size w0 w → s.wt ≤ 1048576 →
    Calls Tryz.prog 21 #[NV s.d av kv] w (Alls w0 s.all w) := by
  refine Dm.T.induct (C := fun s => ∀ (av kv : Value) (w : World), RdT w0 s av kv → Below w0.heap.size w0 w → s.wt ≤ 1048576 →
    Calls Tryz.prog 21 #[NV s.d av kv] w (Alls w0 s.all w)) (fun d ks ih av kv w hs hb0 hwt => ?_) s
  obtain ⟨i0, hi, hz0, hz1, hz2⟩ := info_parts info_nd
  have hs0 := hs
  obtain ⟨ha, hk⟩ := RdT.mk_iff.1 hs
  obtain ⟨ka, kc, rfl⟩ := hk.length
  obtain ⟨aa, ac, rfl⟩ := ha.length
  have l2 : ks.length ≤ 1048576 := by have := Dm.wtK_len ks; simp only [Dm.T.wt, Dm.D.own] at hwt; omega
  have HWT := hide (p := ∀ t ∈ ks, t.wt ≤ 1048576) (fun t ht => by have := Dm.wtK_mem ht; simp only [Dm.T.wt, Dm.D.own] at hwt; omega)
  have HAW := hide (p := ∀ i, (Dm.allK (ks.take i)).length + 1 ≤ 1048576) (fun i => by
    have h1 := Dm.allK_wt (ks.take i)
    have h2 := Dm.wtK_take_le ks i
    simp only [Dm.T.wt, Dm.D.own] at hwt
    omega)
  have b1 := Box.new w d (.slice aa d.ats.length ac) (.slice ka ks.length kc)
  have hal := (Below.refl w.heap.size w).alloc (Nat.le_refl _) (.cells #[.int .u8 d.kd, S d.sp, S d.nm, .slice aa d.ats.length ac, S d.tx, S d.pb, S d.sy, .slice ka ks.length kc] 26)
  have HK0 := hide hk
  have HK := hide (RdS.below hk (hb0.trans (hal.mono hb0.size)))
  have HB0 := hide hb0
  have HS0 := hide hs0
  clear hwt hs hs0 ha hk hb0
  show Calls Tryz.prog 21 #[NV d (.slice aa d.ats.length ac) (.slice ka ks.length kc)] w _
  go_enter Tryz.func21, Tryz.ntmps21
  go_upto_region 1 with (fail)
  generalize hgen : (w.alloc (.cells #[.int .u8 d.kd, S d.sp, S d.nm, .slice aa d.ats.length ac, S d.tx, S d.pb, S d.sy, .slice ka ks.length kc] 26)) = w1 at b1 hal HK ⊢
  clear hgen
  obtain ⟨d0, d1, d2, d3, d4, d5, d6, d7⟩ := b1.cells
  have HB := hide b1
  have HAL := hide hal
  have hs1 := hal.size
  have hw2 := (Below.refl w1.heap.size w1).alloc (Nat.le_refl _) (.cells #[.int .u8 d.kd, S d.sp, S d.nm, .slice aa d.ats.length ac, S d.tx, S d.pb, S d.sy, .slice ka ks.length kc] 26)
  have hown := World.ownsRow_lit (base := w1.heap.size) (e := 26) (size := 8) w1 #[.int .u8 d.kd, S d.sp, S d.nm, .slice aa d.ats.length ac, S d.tx, S d.pb, S d.sy, .slice ka ks.length kc] 1 (Nat.le_refl _) (by decide) rfl
  have hw1l := b1.lt
  clear b1 hal
  go_upto_region 3 with (fail)
  generalize hgen : (w1.alloc (.cells #[.int .u8 d.kd, S d.sp, S d.nm, .slice aa d.ats.length ac, S d.tx, S d.pb, S d.sy, .slice ka ks.length kc] 26)) = w2 at hw2 hown ⊢
  clear hgen
  have HW2 := hide hw2
  have HOW := hide hown
  have hB2 := hide (HB.out.below hw2 HB.out.lt)
  have hs2 : w1.heap.size ≤ w2.heap.size := hw2.size
  clear hw2 hown d0 d1 d2 d3 d4 d5 d6 d7 hw1l hB2
  go_loopg [3, 4] ks.length (fun g s3 s4 wx => ∃ (i : Nat) (vs : List (Value × Value)), i + g = ks.length ∧ s4 = .int .i64 i ∧ Hid (wx.ownsRow w1.heap.size 26 8 s3 ((Dm.allK (ks.take i)).length + 1) (kidCells (.mk d ks :: Dm.allK (ks.take i)) vs)) ∧ Hid (RdL w0 (.mk d ks :: Dm.allK (ks.take i)) vs) ∧ Below w1.heap.size w2 wx)
  case atStart =>
    refine ⟨0, [(.slice aa d.ats.length ac, .slice ka ks.length kc)], by omega, rfl, HOW.out, ⟨rfl, fun i x p h1 h2 => ?_⟩, Below.refl _ _⟩
    cases i with
    | zero =>
      obtain rfl := Option.some.inj h1
      obtain rfl := Option.some.inj h2
      exact HS0.out
    | succ i => simp [Dm.allK] at h1
  case round =>
    obtain ⟨i, vs, hi', rfl, how, hrd, hbx⟩ := hrel
    have f7 := (HB.out.below (HW2.out.trans hbx) HB.out.lt).cells.2.2.2.2.2.2.2
    have hsx := hbx.size
    by_cases hlt : i < ks.length
    · obtain ⟨t, ht⟩ : ∃ t, ks[i]? = some t := ⟨ks[i], List.getElem?_eq_getElem hlt⟩
      have hb0x : Below w0.heap.size w0 wr := (HB0.out.trans (HAL.out.mono HB0.out.size)).trans ((HW2.out.trans hbx).mono (Nat.le_trans HB0.out.size hs1))
      obtain ⟨b, o, av, kv, rfl, hat, hrt⟩ := HK0.out.at ht
      obtain ⟨m0, m1, m2, m3, m4, m5, m6, m7⟩ := hat.stay (Stay.of_below hb0x)
      have hmem := List.mem_of_getElem? ht
      have hcall := hide (ih t hmem av kv wr hrt hb0x (HWT.out t hmem))
      have HI := hide ih
      have hle := HAW.out (i + 1)
      have hsn := Dm.allK_snoc ks i t ht
      rw [hsn, List.length_append] at hle
      have HSN := hide hsn
      clear ih ht hrt hmem hsn hat hb0x
      go_wp2_with fail
      refine hcall.out.mono ?_
      rintro e w4 ⟨v4, us, rfl, how4, hrd4, hb4⟩
      have how5 := owns_of_block how.out fun g e => hb4.block g (how.out.lt g e).2
      have hs4 := hb4.size
      obtain ⟨ao4, cap4, rfl, -⟩ := owns_form how4
      have hpos : 0 < t.all.length := by cases t with | mk d ks => simp [Dm.T.all]
      obtain ⟨g4, rfl, -⟩ := owns_at how4 hpos
      have hcl := kidCells_length hrd4.1
      have hone := kidCells_one hrd4.forms
      have hcells := how4.cells (g := g4) rfl
      have HRD4 := hide hrd4
      have HOW5 := hide how5
      have HB4 := hide hb4
      have HCE := hide hcells
      have HON := hide hone
      have HCL := hide hcl
      clear m0 m1 m2 m3 m4 m5 m6 m7 f7 how5 hb4 hcells hone hcl hrd4 how4
      generalize hA : t.all = A at hpos hle HRD4 HCE HON HCL HSN ⊢
      clear hA
      go_wp2_with (at_builtin; refine wpList_append_own_at _ rfl _ _ 24 rfl w1.heap.size 26 i0 _ 8 136 Tryz.underlying24 hi hz0 hz1 hz2 rfl (by decide) _ ((Dm.allK (ks.take i)).length + 1) _ rfl HOW5.out ⟨g4, 0, none⟩ A.length cap4 (kidCells A us) rfl HCL.out HCE.out HON.out (by unfold maxLen; omega) (by omega) (by omega) ?_)
      intro v5 w5 hown5 hg5 _ hl5
      have hb5 : Below w1.heap.size w2 w5 := (hbx.trans (HB4.out.mono (Nat.le_trans HW2.out.size hsx))).grown hg5 (by omega) (fun k hk => (HOW5.out.lt k hk).1)
      go_wp2_with fail
      go_roundg (gk - 1)
      case measure => omega
      case rel =>
        refine ⟨i + 1, vs ++ us, by omega, by go_num, ?_, ?_, hb5⟩
        · unfold Hid
          rw [HSN.out, ← List.cons_append, kidCells_append _ _ hrd.out.1, List.length_append, show (Dm.allK (ks.take i)).length + A.length + 1 = (Dm.allK (ks.take i)).length + 1 + A.length by omega]
          exact hown5
        · unfold Hid
          rw [HSN.out, ← List.cons_append]
          exact hrd.out.append HRD4.out
    · obtain rfl : i = ks.length := by omega
      have how' := how.out
      have hrd' := hrd.out
      rw [List.take_of_length_le (Nat.le_refl _)] at how' hrd'
      have H1 := hide how'
      have H2 := hide hrd'
      clear ih how hrd how' hrd'
      go_wp2_with fail
      go_ret
      refine ⟨_, vs, rfl, ?_, ?_, (HAL.out.trans (HW2.out.mono hs1)).trans (hbx.mono hs1)⟩
      · have := owns_base H1.out (base' := w.heap.size) hs1
        exact this
      · exact H2.out
end Go.Proofs.YtagkdmolgmhmdaaGreatDoor
