/- A tree of one's own spoilt: what stays. -/
import Derived.Test.YtagkdmolgmhmdaaGreatDoorTc
import Derived.Deep.RegionHeld3
import Derived.Test.YtagkdmolgmhmdaaGreatDoorTe
import Derived.Test.YtagkdmolgmhmdaaGreatDoorWk
namespace Go.Proofs.YtagkdmolgmhmdaaGreatDoor
open Go.RowKit

/-- only blocks of F have changed -/
def Upon (F : List Nat) (w w' : World) : Prop := Below 0 w w' ∧ ∀ b, b < w.heap.size → b ∉ F → w'.heap[b]? = w.heap[b]?
theorem Upon.refl (F : List Nat) (w : World) : Upon F w w := ⟨Below.refl _ _, fun _ _ _ => rfl⟩
theorem Upon.size {F : List Nat} {w w' : World} (h : Upon F w w') : w.heap.size ≤ w'.heap.size := h.1.size
theorem Upon.trans {F G H : List Nat} {w a b : World} (h : Upon F w a) (k : Upon G a b) (hF : ∀ x ∈ F, x ∈ H) (hG : ∀ x ∈ G, x ∈ H) : Upon H w b :=
  ⟨h.1.trans k.1, fun x hx hn => (k.2 x (Nat.lt_of_lt_of_le hx h.size) fun e => hn (hG x e)).trans (h.2 x hx fun e => hn (hF x e))⟩
theorem Upon.below {F : List Nat} {w w' : World} {B : Nat} (h : Upon F w w') (hF : ∀ g ∈ F, B ≤ g) (hB : B ≤ w.heap.size) : Below B w w' :=
  ⟨h.1.os, h.1.tape, h.1.output, h.1.size, fun b hb => h.2 b (by omega) fun e => by have := hF b e; omega⟩
theorem Upon.of_below {F : List Nat} {w w' : World} (h : Below w.heap.size w w') : Upon F w w' := ⟨h.mono (Nat.zero_le _), fun b hb _ => h.block b hb⟩
theorem Upon.setCell {F : List Nat} {w w' : World} (h : Upon F w w') {g : Nat} (hg : g ∈ F) (o : Nat) (v : Value) : Upon F w (w'.setCell ⟨g, o, none⟩ v) :=
  ⟨h.1.setCell (Nat.zero_le _) _, fun b hb hn => (Below.heap_setCell _ _ _ _ (fun e => hn (by have e' : b = g := e; rw [e']; exact hg))).trans (h.2 b hb hn)⟩
theorem Upon.drew {F : List Nat} {w w' : World} (h : Upon F w w') : Upon F w w'.drew := ⟨h.1.drew, h.2⟩

def put3 (w : World) (g o : Nat) (a b c : Value) : World := ((w.setCell ⟨g, o, none⟩ a).setCell ⟨g, o + 1, none⟩ b).setCell ⟨g, o + 2, none⟩ c
theorem put3_upon {F : List Nat} {w w' : World} (h : Upon F w w') {g : Nat} (hg : g ∈ F) (o : Nat) (a b c : Value) : Upon F w (put3 w' g o a b c) := ((h.setCell hg _ _).setCell hg _ _).setCell hg _ _
theorem put3_owns {w : World} {base : Nat} {e : TypeId} {size n cap g : Nat} {xs : List Value} (h : w.ownsRow base e size (.slice (some ⟨g, 0, none⟩) n cap) n xs) (o : Nat) (a b c : Value) :
    ∃ ys, (put3 w g o a b c).ownsRow base e size (.slice (some ⟨g, 0, none⟩) n cap) n ys :=
  ⟨_, ((((h.stored o a).1).stored (o + 1) b).1.stored (o + 2) c).1⟩
def put8 (w : World) (g o : Nat) (a b c d e f i j : Value) : World :=
  (((((((w.setCell ⟨g, o, none⟩ a).setCell ⟨g, o + 1, none⟩ b).setCell ⟨g, o + 2, none⟩ c).setCell ⟨g, o + 3, none⟩ d).setCell ⟨g, o + 4, none⟩ e).setCell ⟨g, o + 5, none⟩ f).setCell ⟨g, o + 6, none⟩ i).setCell ⟨g, o + 7, none⟩ j
theorem put8_upon {F : List Nat} {w w' : World} (h : Upon F w w') {g : Nat} (hg : g ∈ F) (o : Nat) (a b c d e f i j : Value) : Upon F w (put8 w' g o a b c d e f i j) :=
  (((((((h.setCell hg _ _).setCell hg _ _).setCell hg _ _).setCell hg _ _).setCell hg _ _).setCell hg _ _).setCell hg _ _).setCell hg _ _
theorem put8_owns {w : World} {base : Nat} {ty : TypeId} {size n cap g : Nat} {xs : List Value} (h : w.ownsRow base ty size (.slice (some ⟨g, 0, none⟩) n cap) n xs) (o : Nat) (a b c d e f i j : Value) :
    ∃ ys, (put8 w g o a b c d e f i j).ownsRow base ty size (.slice (some ⟨g, 0, none⟩) n cap) n ys ∧ ys.drop (o + 8) = xs.drop (o + 8) := by
  refine ⟨_, ((((((((h.stored o a).1).stored (o + 1) b).1.stored (o + 2) c).1.stored (o + 3) d).1.stored (o + 4) e).1.stored (o + 5) f).1.stored (o + 6) i).1.stored (o + 7) j |>.1, ?_⟩
  repeat rw [List.drop_set_of_lt (by omega)]
theorem put8_far {w : World} {g h : Nat} (hg : h ≠ g) (o : Nat) (a b c d e f i j : Value) : (put8 w g o a b c d e f i j).heap[h]? = w.heap[h]? := by
  unfold put8
  rw [Below.heap_setCell, Below.heap_setCell, Below.heap_setCell, Below.heap_setCell, Below.heap_setCell, Below.heap_setCell, Below.heap_setCell, Below.heap_setCell] <;> exact hg
/-- a cell of a row -/
theorem row_cell {w : World} {base : Nat} {e : TypeId} {size n cap g : Nat} {xs : List Value} (h : w.ownsRow base e size (.slice (some ⟨g, 0, none⟩) n cap) n xs) (j : Nat) (hj : j < n * size) : ∃ v, w.cell? ⟨g, j, none⟩ = some v := by
  have h1 := h.cellAt j hj
  have h2 : xs.length = n * size := h.1
  rw [List.getElem?_eq_getElem (by omega)] at h1
  exact ⟨_, h1⟩

theorem OwK.head {w : World} {ks : List Dm.T} {vs : List (Value × Value)} {B : List Nat} {i : Nat} {t : Dm.T} (h : OwK w (ks.drop i) (vs.drop i) B) (ht : ks[i]? = some t) :
    ∃ p F H, vs.drop i = p :: vs.drop (i + 1) ∧ ks.drop i = t :: ks.drop (i + 1) ∧ OwT w t F p.1 p.2 ∧ OwK w (ks.drop (i + 1)) (vs.drop (i + 1)) H ∧ B = F ++ H := by
  have e : ks.drop i = t :: ks.drop (i + 1) := by
    obtain ⟨hi, rfl⟩ := List.getElem?_eq_some_iff.1 ht
    exact List.drop_eq_getElem_cons hi
  rw [e] at h
  simp only [OwK] at h
  obtain ⟨p, s, F, H, hv, h1, h2, h3⟩ := h
  have e2 : vs.drop (i + 1) = s := by
    rw [← List.drop_drop, hv]
    rfl
  exact ⟨p, F, H, by rw [hv, e2], e, h1, by rw [e2]; exact h2, h3⟩
def Spoilt (F : List Nat) (w : World) (e : Ending) (w' : World) : Prop := (∃ v, e = .returned v) ∧ Upon F w w'
set_option maxRecDepth 100000 in
set_option maxHeartbeats 8000000 in
theorem spoil (s : Dm.T) : ∀ (F : List Nat) (av kv : Value) (w : World), OwT w s F av kv → F.Nodup → s.Lim 140737488355328 →
    Calls Tryz.prog 31 #[NV s.d av kv] w (Spoilt F w) := by
  refine Dm.T.induct (C := fun s => ∀ (F : List Nat) (av kv : Value) (w : World), OwT w s F av kv → F.Nodup → s.Lim 140737488355328 →
    Calls Tryz.prog 31 #[NV s.d av kv] w (Spoilt F w)) (fun d ks ih F av kv w hs hnd hlim => ?_) s
  obtain ⟨⟨aa, ac, rfl⟩, ka, kc, rfl⟩ := hs.forms
  simp only [OwT] at hs
  obtain ⟨ha, vs, G, hk, hK, rfl⟩ := hs
  simp only [Dm.T.Lim] at hlim
  obtain ⟨hld, hlk, hlK⟩ := hlim
  have l1 : d.ats.length ≤ 140737488355328 := hld.2.2.1
  have HLK := hide (p := ∀ t ∈ ks, t.Lim 140737488355328) (fun t ht => hlK.mem ht)
  clear hlK hld
  show Calls Tryz.prog 31 #[NV d (.slice aa d.ats.length ac) (.slice ka ks.length kc)] w (Spoilt ((Value.slice aa d.ats.length ac).ownBlock.toList ++ ((Value.slice ka ks.length kc).ownBlock.toList ++ G)) w)
  change ((Value.slice aa d.ats.length ac).ownBlock.toList ++ ((Value.slice ka ks.length kc).ownBlock.toList ++ G)).Nodup at hnd
  change w.ownsRow 0 43 3 (.slice aa d.ats.length ac) d.ats.length (atCells d.ats) at ha
  change w.ownsRow 0 26 8 (.slice ka ks.length kc) ks.length (kidCells ks vs) at hk
  generalize hFF : (Value.slice aa d.ats.length ac).ownBlock.toList ++ ((Value.slice ka ks.length kc).ownBlock.toList ++ G) = F at hnd ⊢
  have b1 := Box.new w d (.slice aa d.ats.length ac) (.slice ka ks.length kc)
  have hal := (Below.refl w.heap.size w).alloc (Nat.le_refl _) (.cells #[.int .u8 d.kd, S d.sp, S d.nm, .slice aa d.ats.length ac, S d.tx, S d.pb, S d.sy, .slice ka ks.length kc] 26)
  have HA := hide (owns_of_block ha fun g e => hal.block g (ha.lt g e).2)
  have HK := hide (owns_of_block hk fun g e => hal.block g (hk.lt g e).2)
  have HKK := hide (hK.below hal)
  have HFL := hide (p := ∀ g ∈ F, g < w.heap.size) (fun g hg => by
    rw [← hFF] at hg
    rcases List.mem_append.1 hg with hg | hg
    · exact (ha.lt g (by simpa using hg)).2
    · rcases List.mem_append.1 hg with hg | hg
      · exact (hk.lt g (by simpa using hg)).2
      · exact hK.lt g hg)
  clear ha hk hK
  have hnd' := hnd
  rw [← hFF, List.nodup_append, List.nodup_append] at hnd'
  obtain ⟨-, ⟨-, hnG, hdKG⟩, hdA⟩ := hnd'
  have HNG := hide hnG
  have HKG := hide (p := ∀ g ∈ G, g ∉ (Value.slice ka ks.length kc).ownBlock.toList) (fun g hg h => hdKG g h g hg rfl)
  have HAK := hide (p := ∀ g ∈ (Value.slice ka ks.length kc).ownBlock.toList ++ G, g ∉ (Value.slice aa d.ats.length ac).ownBlock.toList) (fun g hg h => hdA g h g hg rfl)
  have HGF := hide (p := ∀ g ∈ G, g ∈ F) (fun g hg => by rw [← hFF]; simp [hg])
  have HKF := hide (p := ∀ g ∈ (Value.slice ka ks.length kc).ownBlock.toList, g ∈ F) (fun g hg => by rw [← hFF]; simp only [List.mem_append]; exact .inr (.inl hg))
  have HAF := hide (p := ∀ g ∈ (Value.slice aa d.ats.length ac).ownBlock.toList, g ∈ F) (fun g hg => by rw [← hFF]; simp only [List.mem_append]; exact .inl hg)
  clear hnG hdKG hdA
  go_enter Tryz.func31, Tryz.ntmps31
  go_upto_region 1 with (fail)
  generalize hgen : (w.alloc (.cells #[.int .u8 d.kd, S d.sp, S d.nm, .slice aa d.ats.length ac, S d.tx, S d.pb, S d.sy, .slice ka ks.length kc] 26)) = w1 at b1 hal HA HK HKK ⊢
  have HB1 := hide b1
  have HAL := hide hal
  have HND := hide hnd
  have HFF := hide hFF
  clear hgen b1 hal hnd hFF
  go_wp2_with fail
  go_loopg [2] d.ats.length (fun g s2 wx => ∃ (i : Nat) (xs : List Value), i + g = d.ats.length ∧ s2 = .int .i64 i ∧ Hid (wx.ownsRow 0 43 3 (.slice aa d.ats.length ac) d.ats.length xs) ∧ Hid (Upon (Value.slice aa d.ats.length ac).ownBlock.toList w1 wx))
  case atStart => exact ⟨0, _, by omega, rfl, HA, Upon.refl _ _⟩
  case round =>
    obtain ⟨i, xs, hi, rfl, hown, hup⟩ := hrel
    have hN : w.heap.size ∉ (Value.slice aa d.ats.length ac).ownBlock.toList := fun h => by
      have := HFL.out _ (by rw [← HFF.out]; exact List.mem_append_left _ h)
      omega
    have bx : Box wr w.heap.size d (.slice aa d.ats.length ac) (.slice ka ks.length kc) := (hup.out.2 _ HB1.out.lt hN).trans HB1.out
    by_cases hlt : i < d.ats.length
    · have c3 := bx.cells.2.2.2.1
      obtain ⟨g, rfl, -⟩ := owns_at hown.out hlt
      obtain ⟨y0, m0⟩ := row_cell hown.out (i * 3) (by omega)
      obtain ⟨y1, m1⟩ := row_cell hown.out (i * 3 + 1) (by omega)
      obtain ⟨y2, m2⟩ := row_cell hown.out (i * 3 + 2) (by omega)
      have hz : ∀ o, wr.frozen? ⟨g, o, none⟩ = false := fun o => hown.out.frozenAt o
      clear bx ih
      go_wp2_with fail
      go_roundg (gk - 1)
      case measure => omega
      case rel =>
        obtain ⟨ys, hys⟩ := put3_owns hown.out (i * 3) (.string { data := #[] }) (.string { data := #[115, 112, 111, 105, 108, 116] }) (.string { data := #[] })
        exact ⟨i + 1, ys, by omega, by go_num, hys, put3_upon hup.out (by simp [Value.ownBlock]) _ _ _ _⟩
    · have c3 := bx.cells.2.2.2.1
      have HUP := hide hup.out
      have hrow : wr.ownsRow 0 26 8 (.slice ka ks.length kc) ks.length (kidCells ks vs) := owns_of_block HK.out fun g e =>
        hup.out.2 g (HK.out.lt g e).2 (HAK.out g (by simp [e]))
      have hkk : OwK wr ks vs G := HKK.out.stay fun g hg => hup.out.2 g (HKK.out.lt g hg) (HAK.out g (by simp [hg]))
      have hupF : Upon F w1 wr := (Upon.refl F w1).trans hup.out (fun _ h => h) HAF.out
      have HROW := hide hrow
      have HKK2 := hide hkk
      have HUPF := hide hupF
      clear bx hrow hkk hupF hown hup
      go_wp2_with fail
      go_loopg [3] ks.length (fun g s3 wx => ∃ (i : Nat) (xs : List Value) (B : List Nat), i + g = ks.length ∧ s3 = .int .i64 i ∧ Hid (wx.ownsRow 0 26 8 (.slice ka ks.length kc) ks.length xs ∧ xs.drop (i * 8) = kidCells (ks.drop i) (vs.drop i)) ∧ Hid (OwK wx (ks.drop i) (vs.drop i) B) ∧ Hid ((∀ x ∈ B, x ∈ G) ∧ B.Nodup) ∧ Hid (Upon F w1 wx))
      case atStart => exact ⟨0, _, G, by omega, rfl, ⟨HROW.out, by simp⟩, by simpa [Hid] using HKK2.out, ⟨fun _ h => h, HNG.out⟩, HUPF.out⟩
      case round =>
        obtain ⟨i, xs, B, hi, rfl, hrow, hkk, hB, hup⟩ := hrel
        have hN : w.heap.size ∉ F := fun h => by
          have := HFL.out _ h
          omega
        have bx : Box wr w.heap.size d (.slice aa d.ats.length ac) (.slice ka ks.length kc) := (hup.out.2 _ HB1.out.lt hN).trans HB1.out
        have c7 := bx.cells.2.2.2.2.2.2.2
        by_cases hlt : i < ks.length
        · obtain ⟨t, ht⟩ : ∃ t, ks[i]? = some t := ⟨_, List.getElem?_eq_getElem hlt⟩
          have hmem := List.mem_of_getElem? ht
          obtain ⟨⟨p1, p2⟩, Fh, H, ev, ek, hT, hH, hBe⟩ := OwK.head hkk.out ht
          obtain ⟨⟨xo, xc, hp1⟩, yo, yc, hp2⟩ := hT.forms
          simp only at hp1 hp2 hT
          subst hp1; subst hp2
          obtain ⟨g, rfl, hcell⟩ := owns_at hrow.out.1 hlt
          have hnds : ∀ j, j < 8 → wr.cell? ⟨g, i * 8 + j, none⟩ = (ndCells t.d (.slice xo t.d.ats.length xc) (.slice yo t.ks.length yc))[j]? := fun j hj => by
            rw [hcell j hj, ← List.getElem?_drop, hrow.out.2, ek, ev, kidCells, List.getElem?_append_left (by simp [ndCells]; omega)]
          have m0 := hnds 0 (by omega)
          have m1 := hnds 1 (by omega)
          have m2 := hnds 2 (by omega)
          have m3 := hnds 3 (by omega)
          have m4 := hnds 4 (by omega)
          have m5 := hnds 5 (by omega)
          have m6 := hnds 6 (by omega)
          have m7 := hnds 7 (by omega)
          simp only [ndCells, Nat.add_zero] at m0 m1 m2 m3 m4 m5 m6 m7
          have hBn : (Fh ++ H).Nodup := by rw [← hBe]; exact hB.out.2
          rw [List.nodup_append] at hBn
          have hcall := hide (ih t hmem Fh _ _ wr hT hBn.1 (HLK.out t hmem))
          have HDI := hide hBn.2.2
          have HHN := hide hBn.2.1
          have HHK := hide hH
          have HIN := hide (p := (∀ x ∈ Fh, x ∈ G) ∧ ∀ x ∈ H, x ∈ G) ⟨fun x hx => hB.out.1 x (by rw [hBe]; simp [hx]), fun x hx => hB.out.1 x (by rw [hBe]; simp [hx])⟩
          have hgs := (hrow.out.1.lt g rfl).2
          have HI := hide ih
          have HBX := hide bx
          have HEV := hide (p := vs.drop i = (.slice xo t.d.ats.length xc, .slice yo t.ks.length yc) :: vs.drop (i + 1) ∧ ks.drop i = t :: ks.drop (i + 1)) ⟨ev, ek⟩
          clear ih ht hT hH hBe hBn hcell hnds ev ek hmem bx
          go_wp2_with fail
          refine hcall.out.mono ?_
          rintro e w5 ⟨⟨v, rfl⟩, hup5⟩
          have HUP5 := hide hup5
          have hgF : g ∉ Fh := fun h => HKG.out g (HIN.out.1 g h) (by simp [Value.ownBlock])
          have hrow5 : w5.ownsRow 0 26 8 (.slice (some ⟨g, 0, none⟩) ks.length kc) ks.length xs := owns_of_block hrow.out.1 fun g' e => by
            obtain rfl : g = g' := by simpa [Value.ownBlock] using e
            exact hup5.2 g hgs hgF
          have hNF : w.heap.size ∉ Fh := fun h => by
            have := HFL.out _ (HGF.out _ (HIN.out.1 _ h))
            omega
          have bx5 : Box w5 w.heap.size d (.slice aa d.ats.length ac) (.slice (some ⟨g, 0, none⟩) ks.length kc) := (hup5.2 _ HBX.out.lt hNF).trans HBX.out
          have hkk5 : OwK w5 (ks.drop (i + 1)) (vs.drop (i + 1)) H := HHK.out.stay fun x hx => hup5.2 x (HHK.out.lt x hx) fun h => HDI.out x h x hx rfl
          clear m0 m1 m2 m3 m4 m5 m6 m7 c7
          have c7 := bx5.cells.2.2.2.2.2.2.2
          obtain ⟨z0, n0⟩ := row_cell hrow5 (i * 8) (by omega)
          obtain ⟨z1, n1⟩ := row_cell hrow5 (i * 8 + 1) (by omega)
          obtain ⟨z2, n2⟩ := row_cell hrow5 (i * 8 + 2) (by omega)
          obtain ⟨z3, n3⟩ := row_cell hrow5 (i * 8 + 3) (by omega)
          obtain ⟨z4, n4⟩ := row_cell hrow5 (i * 8 + 4) (by omega)
          obtain ⟨z5, n5⟩ := row_cell hrow5 (i * 8 + 5) (by omega)
          obtain ⟨z6, n6⟩ := row_cell hrow5 (i * 8 + 6) (by omega)
          obtain ⟨z7, n7⟩ := row_cell hrow5 (i * 8 + 7) (by omega)
          have hz : ∀ o, w5.frozen? ⟨g, o, none⟩ = false := fun o => hrow5.frozenAt o
          have HR5 := hide hrow5
          have HK5 := hide hkk5
          clear hup5 hrow5 hkk5 bx5 hgF hNF
          go_wp2_with fail
          go_roundg (gk - 1)
          case measure => omega
          case rel =>
            obtain ⟨ys, hys, hys2⟩ := put8_owns HR5.out (i * 8) (.int .u8 0) (.string { data := #[] }) (.string { data := #[] }) (.slice none 0 0) (.string { data := #[115, 112, 111, 105, 108, 116] }) (.string { data := #[] }) (.string { data := #[] }) (.slice none 0 0)
            refine ⟨i + 1, ys, H, by omega, by go_num, ⟨hys, ?_⟩, ?_, ⟨HIN.out.2, HHN.out⟩, ?_⟩
            · rw [show (i + 1) * 8 = i * 8 + 8 by omega, hys2, ← List.drop_drop, hrow.out.2, HEV.out.2, HEV.out.1, kidCells]
              exact List.drop_left' (by simp [ndCells])
            · refine HK5.out.stay fun x hx => put8_far (fun e => ?_) _ _ _ _ _ _ _ _ _
              subst e
              exact HKG.out _ (HIN.out.2 _ hx) (by simp [Value.ownBlock])
            · exact put8_upon (hup.out.trans HUP5.out (fun _ h => h) fun x hx => HGF.out x (HIN.out.1 x hx)) (HKF.out g (by simp [Value.ownBlock])) _ _ _ _ _ _ _ _ _
        · clear ih
          go_wp2_with fail
          refine bodyPost_ret (v := .tuple #[]) (by simp [results, Tryz.results31, go_sem]) rfl ?_
          exact ⟨⟨_, rfl⟩, (Upon.of_below HAL.out).trans hup.out (fun _ h => h) (fun _ h => h)⟩
end Go.Proofs.YtagkdmolgmhmdaaGreatDoor
namespace Go.Proofs.YtagkdmolgmhmdaaGreatDoor
open Go.RowKit

namespace Dm
theorem upK_lim {N : Nat} {ks : List T} (h : ∀ t ∈ ks, t.tidy.Lim N) (hN : wtK ks ≤ N) : ∀ i, ∀ x ∈ upK ks i, x.Lim N
  | 0, x, hx => by rw [upK_zero] at hx; cases hx
  | i + 1, x, hx => by
    have ih := upK_lim h hN i
    cases ht : ks[i]? with
    | none =>
      have h1 : ks.length ≤ i := List.getElem?_eq_none_iff.1 ht
      refine ih x ?_
      unfold upK at hx ⊢
      rwa [List.take_of_length_le (by omega), ← List.take_of_length_le h1] at hx
    | some t =>
      have htl := h t (List.mem_of_getElem? ht)
      rw [upK_succ ht] at hx
      have key : ∀ x ∈ upK ks i ++ [t.tidy], x.Lim N := fun x hx => by
        rcases List.mem_append.1 hx with hx | hx
        · exact ih x hx
        · rw [List.mem_singleton.1 hx]; exact htl
      by_cases k4 : t.tidy.d.kd = 4
      · rcases List.eq_nil_or_concat (upK ks i) with e | ⟨A, l, e⟩
        · rw [e, pushK_nil k4] at hx
          split at hx
          · cases hx
          · exact key x (by rw [e]; exact hx)
        · rw [List.concat_eq_append] at e
          have htx := upK_text ht e
          by_cases lk : l.d.kd = 4
          · rw [e, pushK_join k4 lk, tidy_d] at hx
            rcases List.mem_append.1 hx with hx | hx
            · exact ih x (by rw [e]; simp [hx])
            · rw [List.mem_singleton.1 hx]
              have hl := ih l (by rw [e]; simp)
              cases l with
              | mk d ls =>
                simp only [T.addTx, T.Lim] at hl ⊢
                obtain ⟨⟨a1, a2, a3, a4, a5, a6, a7⟩, a8, a9⟩ := hl
                refine ⟨⟨a1, a2, a3, ?_, a5, a6, a7⟩, a8, a9⟩
                simp only [List.length_append]
                change d.tx.length + t.d.tx.length ≤ _ at htx
                omega
          · rw [e, pushK_text k4 lk] at hx
            split at hx
            · exact ih x (by rw [e]; exact hx)
            · exact key x (by rw [e]; exact hx)
      · rw [pushK_snoc k4] at hx
        exact key x hx
theorem tidy_lim {N : Nat} (t : T) : t.Lim N → t.wt ≤ N → t.tidy.Lim N := by
  refine T.induct (C := fun t => t.Lim N → t.wt ≤ N → t.tidy.Lim N) (fun d ks ih h hw => ?_) t
  rw [upK_all (Nat.le_refl _) d]
  simp only [T.Lim] at h ⊢
  obtain ⟨h1, h2, h3⟩ := h
  simp only [T.wt, D.own] at hw
  have hlen := up_len ks ks.length
  refine ⟨h1, by omega, LimK.of (upK_lim (fun t ht => ih t ht (h3.mem ht) ?_) (by omega) ks.length)⟩
  have := wtK_mem ht
  omega
end Dm

set_option maxRecDepth 100000 in
set_option maxHeartbeats 8000000 in
theorem law_tidies (t u : Dm.T) (av kv bv lv : Value) (w : World) (htab : Tab w) (hs : RdT w t av kv) (hu : RdT w u bv lv) (hlim : t.Lim 140737488355328) (hlimu : u.Lim 140737488355328) :
    Calls Tryz.prog 8 #[NV t.d av kv, NV u.d bv lv] w (Fresh (.bool true) w) := by
  obtain ⟨⟨aa, ac, rfl⟩, ka, kc, rfl⟩ := (⟨(hs.eta).1.length, (hs.eta).2.length⟩ : (∃ ao c, av = .slice ao t.d.ats.length c) ∧ ∃ ko c, kv = .slice ko t.ks.length c)
  obtain ⟨⟨ba, bc, rfl⟩, la, lc, rfl⟩ := (⟨(hu.eta).1.length, (hu.eta).2.length⟩ : (∃ ao c, bv = .slice ao u.d.ats.length c) ∧ ∃ ko c, lv = .slice ko u.ks.length c)
  have hw1 := ((Below.refl w.heap.size w).alloc (Nat.le_refl _) (.cells #[.int .u8 t.d.kd, S t.d.sp, S t.d.nm, .slice aa t.d.ats.length ac, S t.d.tx, S t.d.pb, S t.d.sy, .slice ka t.ks.length kc] 26)).alloc (by simp) (.cells #[.int .u8 u.d.kd, S u.d.sp, S u.d.nm, .slice ba u.d.ats.length bc, S u.d.tx, S u.d.pb, S u.d.sy, .slice la u.ks.length lc] 26)
  have b1 := (Box.new w t.d (.slice aa t.d.ats.length ac) (.slice ka t.ks.length kc)).alloc (.cells #[.int .u8 u.d.kd, S u.d.sp, S u.d.nm, .slice ba u.d.ats.length bc, S u.d.tx, S u.d.pb, S u.d.sy, .slice la u.ks.length lc] 26)
  have b2 := Box.new (w.alloc (.cells #[.int .u8 t.d.kd, S t.d.sp, S t.d.nm, .slice aa t.d.ats.length ac, S t.d.tx, S t.d.pb, S t.d.sy, .slice ka t.ks.length kc] 26)) u.d (.slice ba u.d.ats.length bc) (.slice la u.ks.length lc)
  rw [World.size_alloc] at b2
  have HT := hide (htab.below hw1)
  have HRD := hide (hs.below hw1)
  have HRU := hide (hu.below hw1)
  clear htab hs hu
  go_enter Tryz.func8, Tryz.ntmps8
  go_upto_region 1 with (fail)
  generalize hgen : ((w.alloc (.cells #[.int .u8 t.d.kd, S t.d.sp, S t.d.nm, .slice aa t.d.ats.length ac, S t.d.tx, S t.d.pb, S t.d.sy, .slice ka t.ks.length kc] 26)).alloc (.cells #[.int .u8 u.d.kd, S u.d.sp, S u.d.nm, .slice ba u.d.ats.length bc, S u.d.tx, S u.d.pb, S u.d.sy, .slice la u.ks.length lc] 26)) = w1 at b1 b2 hw1 HT HRD HRU ⊢
  clear hgen
  have HW := hide hw1
  have HB := hide b1
  have HC := hide b2
  have h1 := hide (works w1 HT.out)
  clear hw1 b1 b2
  go_wp2_with fail
  refine Calls.mono h1.out ?_
  rintro e w2 ⟨rfl, hb2⟩
  have HB2 := hide hb2
  obtain ⟨d0, d1, d2, d3, d4, d5, d6, d7⟩ := (HB.out.below hb2 HB.out.lt).cells
  have h2 := hide (far t _ _ w2 (HRD.out.below hb2) hlim)
  clear hb2
  go_wp2_with fail
  refine Calls.mono h2.out ?_
  rintro e w3 ⟨z, rfl, hz, hb3⟩
  have HB3 := hide (HB2.out.trans (hb3.mono HB2.out.size))
  clear hb3 d0 d1 d2 d3 d4 d5 d6 d7
  obtain ⟨d0, d1, d2, d3, d4, d5, d6, d7⟩ := (HC.out.below HB3.out HC.out.lt).cells
  have h3 := hide (far u _ _ w3 (HRU.out.below HB3.out) hlimu)
  go_wp2_with fail
  refine Calls.mono h3.out ?_
  rintro e w4 ⟨z2, rfl, hz2, hb4⟩
  have HB4 := hide (HB3.out.trans (hb4.mono HB3.out.size))
  clear hb4 d0 d1 d2 d3 d4 d5 d6 d7
  cases z with
  | true =>
    go_wp2_with fail
    go_ret
    exact ⟨rfl, HW.out.trans (HB4.out.mono HW.out.size)⟩
  | false =>
  cases z2 with
  | true =>
    go_wp2_with fail
    go_ret
    exact ⟨rfl, HW.out.trans (HB4.out.mono HW.out.size)⟩
  | false =>
  have hwt := hz rfl
  have hwu := hz2 rfl
  clear hz hz2
  obtain ⟨d0, d1, d2, d3, d4, d5, d6, d7⟩ := (HB.out.below HB4.out HB.out.lt).cells
  have hc := hide (copyNode t _ _ w4 (HRD.out.below HB4.out) (by omega))
  go_wp2_with fail
  refine Calls.mono hc.out ?_
  rintro e w5 ⟨xa, xk, F, rfl, how, hnd, hfr, hbj⟩
  obtain ⟨⟨xo, xc, rfl⟩, yo, yc, rfl⟩ := how.forms
  have HOWF := hide how
  have HNDF := hide hnd
  have HFRF := hide hfr
  have HLTF := hide (OwT.lt _ _ _ _ how)
  clear how hnd hfr hc d0 d1 d2 d3 d4 d5 d6 d7
  have hal := (Below.refl w5.heap.size w5).alloc (Nat.le_refl _) (.cells #[.int .u8 t.d.kd, S t.d.sp, S t.d.nm, .slice xo t.d.ats.length xc, S t.d.tx, S t.d.pb, S t.d.sy, .slice yo t.ks.length yc] 26)
  have hbx := Box.new w5 t.d (.slice xo t.d.ats.length xc) (.slice yo t.ks.length yc)
  have hsz : (w5.alloc (.cells #[.int .u8 t.d.kd, S t.d.sp, S t.d.nm, .slice xo t.d.ats.length xc, S t.d.tx, S t.d.pb, S t.d.sy, .slice yo t.ks.length yc] 26)).heap.size = w5.heap.size + 1 := by simp
  go_upto_region 9 with (fail)
  generalize hgen : w5.alloc (.cells #[.int .u8 t.d.kd, S t.d.sp, S t.d.nm, .slice xo t.d.ats.length xc, S t.d.tx, S t.d.pb, S t.d.sy, .slice yo t.ks.length yc] 26) = w6 at hal hbx hsz ⊢
  have HSTw6 := hide (hbj.trans (hal.mono hbj.size))
  have HALw6 := hide hal
  have HSJw6 := hide hbj.size
  have HSZw6 := hide hsz
  have HX := hide hbx
  clear hgen hal hbx hsz hbj
  have HB6 := hide (HB4.out.trans (HSTw6.out.mono HB4.out.size))
  obtain ⟨d0, d1, d2, d3, d4, d5, d6, d7⟩ := (HC.out.below HB6.out HC.out.lt).cells
  have hc := hide (copyNode u _ _ w6 (HRU.out.below HB6.out) (by omega))
  go_wp2_with fail
  refine Calls.mono hc.out ?_
  rintro e w7 ⟨xa, xk, G, rfl, how, hnd, hfr, hbj⟩
  obtain ⟨⟨po, pc, rfl⟩, qo, qc, rfl⟩ := how.forms
  have HOWG := hide how
  have HNDG := hide hnd
  have HFRG := hide hfr
  have HLTG := hide (OwT.lt _ _ _ _ how)
  clear how hnd hfr hc d0 d1 d2 d3 d4 d5 d6 d7
  have hal := (Below.refl w7.heap.size w7).alloc (Nat.le_refl _) (.cells #[.int .u8 u.d.kd, S u.d.sp, S u.d.nm, .slice po u.d.ats.length pc, S u.d.tx, S u.d.pb, S u.d.sy, .slice qo u.ks.length qc] 26)
  have hbx := Box.new w7 u.d (.slice po u.d.ats.length pc) (.slice qo u.ks.length qc)
  have hsz : (w7.alloc (.cells #[.int .u8 u.d.kd, S u.d.sp, S u.d.nm, .slice po u.d.ats.length pc, S u.d.tx, S u.d.pb, S u.d.sy, .slice qo u.ks.length qc] 26)).heap.size = w7.heap.size + 1 := by simp
  go_upto_region 10 with (fail)
  generalize hgen : w7.alloc (.cells #[.int .u8 u.d.kd, S u.d.sp, S u.d.nm, .slice po u.d.ats.length pc, S u.d.tx, S u.d.pb, S u.d.sy, .slice qo u.ks.length qc] 26) = w8 at hal hbx hsz ⊢
  have HSTw8 := hide (hbj.trans (hal.mono hbj.size))
  have HALw8 := hide hal
  have HSJw8 := hide hbj.size
  have HSZw8 := hide hsz
  have HY := hide hbx
  clear hgen hal hbx hsz hbj
  have HB8 := hide (HB6.out.trans (HSTw8.out.mono HB6.out.size))
  obtain ⟨T, hTT⟩ : ∃ T, t.tidy = T := ⟨_, rfl⟩
  have HTT := hide hTT
  clear hTT
  obtain ⟨d0, d1, d2, d3, d4, d5, d6, d7⟩ := (HX.out.below HSTw8.out HX.out.lt).cells
  have hc := hide ((by have := tidy t _ _ w8 (((OwT.rd t _ _ _ HOWF.out).below HALw6.out).below HSTw8.out) (by omega); rw [HTT.out] at this; exact this : Calls Tryz.prog 28 #[NV t.d (.slice xo t.d.ats.length xc) (.slice yo t.ks.length yc)] w8 (Made T w8)))
  go_wp2_with fail
  refine Calls.mono hc.out ?_
  rintro e w9 ⟨xa, xk, FT, rfl, how, hnd, hfr, hbj⟩
  obtain ⟨⟨ro, rc, rfl⟩, so, sc, rfl⟩ := how.forms
  have HOWFT := hide how
  have HNDFT := hide hnd
  have HFRFT := hide hfr
  have HLTFT := hide (OwT.lt _ _ _ _ how)
  clear how hnd hfr hc d0 d1 d2 d3 d4 d5 d6 d7
  have hal := (Below.refl w9.heap.size w9).alloc (Nat.le_refl _) (.cells #[.int .u8 T.d.kd, S T.d.sp, S T.d.nm, .slice ro T.d.ats.length rc, S T.d.tx, S T.d.pb, S T.d.sy, .slice so T.ks.length sc] 26)
  have hbx := Box.new w9 T.d (.slice ro T.d.ats.length rc) (.slice so T.ks.length sc)
  have hsz : (w9.alloc (.cells #[.int .u8 T.d.kd, S T.d.sp, S T.d.nm, .slice ro T.d.ats.length rc, S T.d.tx, S T.d.pb, S T.d.sy, .slice so T.ks.length sc] 26)).heap.size = w9.heap.size + 1 := by simp
  go_upto_region 11 with (fail)
  generalize hgen : w9.alloc (.cells #[.int .u8 T.d.kd, S T.d.sp, S T.d.nm, .slice ro T.d.ats.length rc, S T.d.tx, S T.d.pb, S T.d.sy, .slice so T.ks.length sc] 26) = w10 at hal hbx hsz ⊢
  have HSTw10 := hide (hbj.trans (hal.mono hbj.size))
  have HALw10 := hide hal
  have HSJw10 := hide hbj.size
  have HSZw10 := hide hsz
  have HTB := hide hbx
  clear hgen hal hbx hsz hbj
  have HB10 := hide (HB8.out.trans (HSTw10.out.mono HB8.out.size))
  obtain ⟨d0, d1, d2, d3, d4, d5, d6, d7⟩ := ((HX.out.below HSTw8.out HX.out.lt).below HSTw10.out (HX.out.below HSTw8.out HX.out.lt).lt).cells
  have hc := hide ((by have := tidy t _ _ w10 ((((OwT.rd t _ _ _ HOWF.out).below HALw6.out).below HSTw8.out).below HSTw10.out) (by omega); rw [HTT.out] at this; exact this : Calls Tryz.prog 28 #[NV t.d (.slice xo t.d.ats.length xc) (.slice yo t.ks.length yc)] w10 (Made T w10)))
  go_wp2_with fail
  refine Calls.mono hc.out ?_
  rintro e w11 ⟨xa, xk, FU, rfl, how, hnd, hfr, hbj⟩
  obtain ⟨⟨ro2, rc2, rfl⟩, so2, sc2, rfl⟩ := how.forms
  have HOWFU := hide how
  have HNDFU := hide hnd
  have HFRFU := hide hfr
  have HLTFU := hide (OwT.lt _ _ _ _ how)
  clear how hnd hfr hc d0 d1 d2 d3 d4 d5 d6 d7
  have hal := (Below.refl w11.heap.size w11).alloc (Nat.le_refl _) (.cells #[.int .u8 T.d.kd, S T.d.sp, S T.d.nm, .slice ro2 T.d.ats.length rc2, S T.d.tx, S T.d.pb, S T.d.sy, .slice so2 T.ks.length sc2] 26)
  have hbx := Box.new w11 T.d (.slice ro2 T.d.ats.length rc2) (.slice so2 T.ks.length sc2)
  have hsz : (w11.alloc (.cells #[.int .u8 T.d.kd, S T.d.sp, S T.d.nm, .slice ro2 T.d.ats.length rc2, S T.d.tx, S T.d.pb, S T.d.sy, .slice so2 T.ks.length sc2] 26)).heap.size = w11.heap.size + 1 := by simp
  go_upto_region 12 with (fail)
  generalize hgen : w11.alloc (.cells #[.int .u8 T.d.kd, S T.d.sp, S T.d.nm, .slice ro2 T.d.ats.length rc2, S T.d.tx, S T.d.pb, S T.d.sy, .slice so2 T.ks.length sc2] 26) = w12 at hal hbx hsz ⊢
  have HSTw12 := hide (hbj.trans (hal.mono hbj.size))
  have HALw12 := hide hal
  have HSJw12 := hide hbj.size
  have HSZw12 := hide hsz
  have HUB := hide hbx
  clear hgen hal hbx hsz hbj
  have HB12 := hide (HB10.out.trans (HSTw12.out.mono HB10.out.size))
  have OX := hide (((HOWF.out.below HALw6.out).below HSTw8.out).below HSTw10.out |>.below HSTw12.out)
  have YR := hide (((OwT.rd u _ _ _ HOWG.out).below HALw8.out).below HSTw10.out |>.below HSTw12.out)
  have OT := hide ((HOWFT.out.below HALw10.out).below HSTw12.out)
  have OU := hide (HOWFU.out.below HALw12.out)
  have BX := hide (((HX.out.below HSTw8.out HX.out.lt).below HSTw10.out (HX.out.below HSTw8.out HX.out.lt).lt).below HSTw12.out ((HX.out.below HSTw8.out HX.out.lt).below HSTw10.out (HX.out.below HSTw8.out HX.out.lt).lt).lt)
  have BY := hide ((HY.out.below HSTw10.out HY.out.lt).below HSTw12.out (HY.out.below HSTw10.out HY.out.lt).lt)
  have BT := hide (HTB.out.below HSTw12.out HTB.out.lt)
  have BU := hide HUB.out
  have BA := hide (HB.out.below HB12.out HB.out.lt)
  have BB := hide (HC.out.below HB12.out HC.out.lt)
  have sA := HC.out.lt
  have sB := HB4.out.size
  have sC := HSJw6.out
  have sD := HSZw6.out
  have sE := HSJw8.out
  have sF := HSZw8.out
  have sG := HSJw10.out
  have sH := HSZw10.out
  have sI := HSJw12.out
  have sJ := HSZw12.out
  have HNUM := hide (p := w.heap.size + 1 < w1.heap.size ∧ w1.heap.size ≤ w4.heap.size ∧ w4.heap.size ≤ w5.heap.size ∧ w5.heap.size < w7.heap.size ∧ w7.heap.size < w8.heap.size ∧ w8.heap.size ≤ w9.heap.size ∧ w9.heap.size < w10.heap.size ∧ w10.heap.size ≤ w11.heap.size ∧ w11.heap.size < w12.heap.size) ⟨sA, sB, sC, by omega, by omega, sG, by omega, sI, by omega⟩
  clear sA sB sC sD sE sF sG sH sI sJ HOWF HOWG HOWFT HOWFU HX HY HTB HUB HSTw6 HSTw8 HSTw10 HSTw12 HALw6 HALw8 HALw10 HALw12 HSJw6 HSJw8 HSJw10 HSJw12 HSZw6 HSZw8 HSZw10 HSZw12 h1 h2 h3 HB2 HB3 HB6 HB8 HB10
  have HLT := hide (show T.Lim 140737488355328 by rw [← HTT.out]; exact Dm.tidy_lim t hlim (by omega))
  obtain ⟨d0, d1, d2, d3, d4, d5, d6, d7⟩ := (BX.out).cells
  obtain ⟨e0, e1, e2, e3, e4, e5, e6, e7⟩ := (BY.out).cells
  have hc := same 140737488355328 (by omega) t u _ _ _ _ w12 (OwT.rd t _ _ _ OX.out) YR.out hlim
  obtain ⟨q, hq⟩ : ∃ q, t.same u = q := ⟨_, rfl⟩
  rw [hq] at hc
  have HQ := hide hq
  have HCC := hide hc
  clear hc hq
  go_wp2_with fail
  refine Calls.mono HCC.out ?_
  rintro e w13 ⟨rfl, hb13⟩
  have H13 := hide hb13
  clear hb13 HCC d0 d1 d2 d3 d4 d5 d6 d7 e0 e1 e2 e3 e4 e5 e6 e7
  obtain ⟨d0, d1, d2, d3, d4, d5, d6, d7⟩ := (BX.out.below H13.out BX.out.lt).cells
  obtain ⟨e0, e1, e2, e3, e4, e5, e6, e7⟩ := (BX.out.below H13.out BX.out.lt).cells
  have hc := same 140737488355328 (by omega) t t _ _ _ _ w13 ((OwT.rd t _ _ _ OX.out).below H13.out) ((OwT.rd t _ _ _ OX.out).below H13.out) hlim
  rw [t.same_self] at hc
  have HCC := hide hc
  clear hc
  go_wp2_with fail
  refine Calls.mono HCC.out ?_
  rintro e w14 ⟨rfl, hb14⟩
  have H14 := hide (H13.out.trans (hb14.mono H13.out.size))
  clear hb14 HCC d0 d1 d2 d3 d4 d5 d6 d7 e0 e1 e2 e3 e4 e5 e6 e7
  obtain ⟨d0, d1, d2, d3, d4, d5, d6, d7⟩ := (BX.out.below H14.out BX.out.lt).cells
  obtain ⟨e0, e1, e2, e3, e4, e5, e6, e7⟩ := (BA.out.below H14.out BA.out.lt).cells
  have hc := sameNode 140737488355328 (by omega) t t _ _ _ _ w14 ((OwT.rd t _ _ _ OX.out).below H14.out) ((HRD.out.below HB12.out).below H14.out) hlim
  rw [t.same_self] at hc
  have HCC := hide hc
  clear hc
  go_wp2_with fail
  refine Calls.mono HCC.out ?_
  rintro e w15 ⟨rfl, hb15⟩
  have H15 := hide (H14.out.trans (hb15.mono H14.out.size))
  clear hb15 HCC d0 d1 d2 d3 d4 d5 d6 d7 e0 e1 e2 e3 e4 e5 e6 e7
  obtain ⟨d0, d1, d2, d3, d4, d5, d6, d7⟩ := (BY.out.below H15.out BY.out.lt).cells
  obtain ⟨e0, e1, e2, e3, e4, e5, e6, e7⟩ := (BB.out.below H15.out BB.out.lt).cells
  have hc := sameNode 140737488355328 (by omega) u u _ _ _ _ w15 (YR.out.below H15.out) ((HRU.out.below HB12.out).below H15.out) hlimu
  rw [u.same_self] at hc
  have HCC := hide hc
  clear hc
  go_wp2_with fail
  refine Calls.mono HCC.out ?_
  rintro e w16 ⟨rfl, hb16⟩
  have H16 := hide (H15.out.trans (hb16.mono H15.out.size))
  clear hb16 HCC d0 d1 d2 d3 d4 d5 d6 d7 e0 e1 e2 e3 e4 e5 e6 e7
  obtain ⟨d0, d1, d2, d3, d4, d5, d6, d7⟩ := (BX.out.below H16.out BX.out.lt).cells
  have HCC := hide (spoil t F _ _ w16 (OX.out.below H16.out) HNDF.out hlim)
  go_wp2_with fail
  refine Calls.mono HCC.out ?_
  rintro e w17 ⟨⟨v17, rfl⟩, hu17⟩
  have U17 := hide hu17
  have s16 := H16.out.size
  have s17 := hu17.size
  clear hu17 HCC d0 d1 d2 d3 d4 d5 d6 d7
  obtain ⟨nA, nB, nC, nD, nE, nF, nG, nH, nI⟩ := HNUM.out
  have notF : ∀ g, g < w4.heap.size ∨ w5.heap.size ≤ g → g ∉ F := fun g h hg => by
    have h1 := HFRF.out g hg
    have h2 := HLTF.out g hg
    omega
  have notU : ∀ g, g < w10.heap.size ∨ w11.heap.size ≤ g → g ∉ FU := fun g h hg => by
    have h1 := HFRFU.out g hg
    have h2 := HLTFU.out g hg
    omega
  have bU : Box w17 w11.heap.size T.d (.slice ro2 T.d.ats.length rc2) (.slice so2 T.ks.length sc2) := (U17.out.2 _ (by omega) (notF _ (by omega))).trans (BU.out.below H16.out BU.out.lt)
  have oU : OwT w17 T FU (.slice ro2 T.d.ats.length rc2) (.slice so2 T.ks.length sc2) := OwT.stay T _ _ _ (OU.out.below H16.out) fun g hg => U17.out.2 g (by have := HLTFU.out g hg; omega) (notF g (by have := HFRFU.out g hg; omega))
  have HCC := hide (spoil T FU _ _ w17 oU HNDFU.out HLT.out)
  obtain ⟨d0, d1, d2, d3, d4, d5, d6, d7⟩ := bU.cells
  have NF := hide notF
  have NU := hide notU
  clear bU oU notF notU
  go_wp2_with fail
  refine Calls.mono HCC.out ?_
  rintro e w18 ⟨⟨v18, rfl⟩, hu18⟩
  have U18 := hide hu18
  have s18 := hu18.size
  clear hu18 HCC d0 d1 d2 d3 d4 d5 d6 d7
  have both : ∀ g, g < w16.heap.size → (g < w4.heap.size ∨ w5.heap.size ≤ g) → (g < w10.heap.size ∨ w11.heap.size ≤ g) → w18.heap[g]? = w16.heap[g]? := fun g h1 h2 h3 => (U18.out.2 g (by omega) (NU.out g h3)).trans (U17.out.2 g h1 (NF.out g h2))
  have b18 : Below w1.heap.size w1 w18 := by
    have h16 : Below w1.heap.size w1 w16 := HB12.out.trans (H16.out.mono HB12.out.size)
    exact (h16.trans (U17.out.below (fun g hg => by have := HFRF.out g hg; omega) (by omega))).trans (U18.out.below (fun g hg => by have := HFRFU.out g hg; omega) (by omega))
  have bT : Box w18 w9.heap.size T.d (.slice ro T.d.ats.length rc) (.slice so T.ks.length sc) := (both _ (by omega) (by omega) (by omega)).trans (BT.out.below H16.out BT.out.lt)
  have oT : OwT w18 T FT (.slice ro T.d.ats.length rc) (.slice so T.ks.length sc) := OwT.stay T _ _ _ (OT.out.below H16.out) fun g hg => by
    have h1 := HFRFT.out g hg
    have h2 := HLTFT.out g hg
    exact both g (by omega) (by omega) (by omega)
  have B18 := hide b18
  have BT8 := hide bT
  have OT8 := hide (OwT.rd T _ _ _ oT)
  clear both b18 bT oT nA nB nC nD nE nF nG nH nI s16 s17 s18
  obtain ⟨d0, d1, d2, d3, d4, d5, d6, d7⟩ := (HB.out.below B18.out HB.out.lt).cells
  have hc := hide ((by have := rTidy t _ _ w18 (HRD.out.below B18.out) (by omega); rw [HTT.out] at this; exact this : Calls Tryz.prog 32 #[NV t.d (.slice aa t.d.ats.length ac) (.slice ka t.ks.length kc)] w18 (Made T w18)))
  go_wp2_with fail
  refine Calls.mono hc.out ?_
  rintro e w19 ⟨xa, xk, FV, rfl, how, hnd, hfr, hbj⟩
  obtain ⟨⟨vo, vc, rfl⟩, yo3, yc3, rfl⟩ := how.forms
  have HOWFV := hide how
  have HNDFV := hide hnd
  have HFRFV := hide hfr
  have HLTFV := hide (OwT.lt _ _ _ _ how)
  clear how hnd hfr hc d0 d1 d2 d3 d4 d5 d6 d7
  have hal := (Below.refl w19.heap.size w19).alloc (Nat.le_refl _) (.cells #[.int .u8 T.d.kd, S T.d.sp, S T.d.nm, .slice vo T.d.ats.length vc, S T.d.tx, S T.d.pb, S T.d.sy, .slice yo3 T.ks.length yc3] 26)
  have hbx := Box.new w19 T.d (.slice vo T.d.ats.length vc) (.slice yo3 T.ks.length yc3)
  have hsz : (w19.alloc (.cells #[.int .u8 T.d.kd, S T.d.sp, S T.d.nm, .slice vo T.d.ats.length vc, S T.d.tx, S T.d.pb, S T.d.sy, .slice yo3 T.ks.length yc3] 26)).heap.size = w19.heap.size + 1 := by simp
  go_upto_region 18 with (fail)
  generalize hgen : w19.alloc (.cells #[.int .u8 T.d.kd, S T.d.sp, S T.d.nm, .slice vo T.d.ats.length vc, S T.d.tx, S T.d.pb, S T.d.sy, .slice yo3 T.ks.length yc3] 26) = w20 at hal hbx hsz ⊢
  have HSTw20 := hide (hbj.trans (hal.mono hbj.size))
  have HALw20 := hide hal
  have HSJw20 := hide hbj.size
  have HSZw20 := hide hsz
  have HVB := hide hbx
  clear hgen hal hbx hsz hbj
  have H20 := hide (B18.out.trans (HSTw20.out.mono B18.out.size))
  obtain ⟨d0, d1, d2, d3, d4, d5, d6, d7⟩ := (BT8.out.below HSTw20.out BT8.out.lt).cells
  obtain ⟨e0, e1, e2, e3, e4, e5, e6, e7⟩ := (HVB.out).cells
  have hc := sameNode 140737488355328 (by omega) T T _ _ _ _ w20 (OT8.out.below HSTw20.out) ((OwT.rd T _ _ _ HOWFV.out).below HALw20.out) HLT.out
  rw [T.same_self] at hc
  have HCC := hide hc
  clear hc
  go_wp2_with fail
  refine Calls.mono HCC.out ?_
  rintro e w21 ⟨rfl, hb21⟩
  have H21 := hide (H20.out.trans (hb21.mono H20.out.size))
  clear hb21 HCC d0 d1 d2 d3 d4 d5 d6 d7 e0 e1 e2 e3 e4 e5 e6 e7
  obtain ⟨d0, d1, d2, d3, d4, d5, d6, d7⟩ := (HB.out.below H21.out HB.out.lt).cells
  obtain ⟨e0, e1, e2, e3, e4, e5, e6, e7⟩ := (HC.out.below H21.out HC.out.lt).cells
  have hc := sameNode 140737488355328 (by omega) t u _ _ _ _ w21 (HRD.out.below H21.out) (HRU.out.below H21.out) hlim
  rw [HQ.out] at hc
  have HCC := hide hc
  clear hc HQ
  cases q
  all_goals
    go_wp2_with fail
    refine Calls.mono HCC.out ?_
    rintro e w22 ⟨rfl, hb22⟩
    have H22 := hide (H21.out.trans (hb22.mono H21.out.size))
    clear hb22 HCC d0 d1 d2 d3 d4 d5 d6 d7 e0 e1 e2 e3 e4 e5 e6 e7
    go_wp2_with fail
    go_ret
    exact ⟨rfl, HW.out.trans (H22.out.mono HW.out.size)⟩
end Go.Proofs.YtagkdmolgmhmdaaGreatDoor
