/- What points part; whether a host ends in a number. -/
import Derived.Test.YtahjndignkhmoaaGreatDoorE
namespace Go.Proofs.YtahjndignkhmoaaGreatDoor
open Go.RowKit

/-- a row of texts at g -/
def Texts (w : World) (g : Nat) (xs : List (List UInt8)) : Prop := ∀ (j : Nat) t, xs[j]? = some t → w.cell? ⟨g, j, none⟩ = some (S t)
theorem Texts.below {w w' : World} {g : Nat} {xs : List (List UInt8)} (h : Texts w g xs) (hb : Below w.heap.size w w') : Texts w' g xs := fun j t hj => by
  have := h j t hj
  exact (hb.cell (World.block_lt_of_cell? w _ this)).trans this
theorem Texts.dropLast {w : World} {g : Nat} {xs : List (List UInt8)} (h : Texts w g xs) : Texts w g xs.dropLast := fun j t hj => h j t (by
  obtain ⟨h1, h2⟩ := List.getElem?_eq_some_iff.1 hj
  rw [List.getElem_dropLast] at h2
  rw [← h2]
  exact List.getElem?_eq_getElem _)

theorem splitOn_len (c : UInt8) : ∀ s : List UInt8, 1 ≤ (Hostp.splitOn c s).length ∧ (Hostp.splitOn c s).length ≤ s.length + 1
  | [] => by simp [Hostp.splitOn]
  | b :: l => by
    have ih := splitOn_len c l
    rw [Hostp.splitOn]
    split
    · simp only [List.length_cons]; omega
    · split
      · rename_i t ts e
        rw [e] at ih
        simp only [List.length_cons] at ih ⊢; omega
      · simp only [List.length_cons, List.length_nil]; omega

theorem sSplit (c : UInt8) (s : List UInt8) (m : Int) (w : World) (hl : s.length < 4294967281) (hm : w.cell? ⟨0, 0, none⟩ = some (.int .i64 m)) (xs : List (List UInt8)) (hx : Hid (Hostp.splitOn c s = xs)) :
    Calls Tryz.prog 57 #[S s, S [c]] w fun e w' => e = .returned (.slice (some ⟨w.heap.size, 0, none⟩) xs.length xs.length) ∧ Texts w' w.heap.size xs ∧ Below w.heap.size w w' := by
  refine (Tryz.strings_Split ⟨s.toArray⟩ ⟨[c].toArray⟩ m w (by rw [bl_size]; exact hl) hm (by rw [bl_size]; exact Nat.le_refl _)).mono ?_
  rintro e w' ⟨rfl, rfl⟩
  have hcnt : Lib.countB ⟨s.toArray⟩ ⟨[c].toArray⟩ = Lib.count s [c] := rfl
  have hlen := Lib.splitB_all (⟨[c].toArray⟩ : ByteArray) (by rw [bl_size]; exact Nat.le_refl _) 0 _ ⟨s.toArray⟩ rfl
  have hd : (Lib.splitB ⟨[c].toArray⟩ 0 (Lib.countB ⟨s.toArray⟩ ⟨[c].toArray⟩) ⟨s.toArray⟩).map (·.data.toList) = xs := by
    rw [Lib.splitB_data, hcnt, ← hx.out]
    exact Hostp.splitK_one c s.length s (Nat.le_refl _)
  generalize Lib.splitB ⟨[c].toArray⟩ 0 (Lib.countB ⟨s.toArray⟩ ⟨[c].toArray⟩) ⟨s.toArray⟩ = l at hd hlen ⊢
  subst hd
  refine ⟨by rw [← hlen]; simp, fun j t hj => ?_, (Below.refl _ _).alloc (Nat.le_refl _) _⟩
  rw [World.cell?_alloc_at _ _ _ _ rfl]
  rw [List.getElem?_map] at hj
  obtain ⟨x, hx1, rfl⟩ := Option.map_eq_some_iff.1 hj
  simp [hx1, S]

set_option maxHeartbeats 2000000 in
set_option maxRecDepth 100000 in
theorem hParts (s : List UInt8) (xs : List (List UInt8)) (w : World) (ht : Tab w) (hl : s.length ≤ 4194304) (hx : Hid (Hostp.parts s = xs)) :
    Calls Tryz.prog 30 #[S s] w fun e w' => (∃ cap, xs.length ≤ cap ∧ e = .returned (.slice (some ⟨w.heap.size, 0, none⟩) xs.length cap)) ∧ Texts w' w.heap.size xs ∧ Below w.heap.size w w' := by
  obtain ⟨m, hm⟩ := ht.max
  obtain ⟨l0, l1⟩ := splitOn_len 46 s
  have hxo := hx.out
  unfold Hostp.parts at hxo
  obtain ⟨ys, hys⟩ : ∃ ys, Hostp.splitOn 46 s = ys := ⟨_, rfl⟩
  rw [hys] at hxo l0 l1
  have HYS := hide hys
  clear hys hx ht
  obtain ⟨k, hk⟩ : ∃ k, ys.length = k + 1 := ⟨ys.length - 1, by omega⟩
  by_cases h1 : k = 0
  · rw [if_neg (by omega)] at hxo
    subst h1
    subst hxo
    go_enter Tryz.func30, Tryz.ntmps30
    go_wp2_with fail
    refine (sSplit 46 s m _ (by omega) hm ys HYS).mono ?_
    rintro e w2 ⟨rfl, ht2, hb2⟩
    rw [hk]
    go_wp2_with fail
    go_ret
    exact ⟨⟨ys.length, Nat.le_refl _, by rw [hk]; rfl⟩, ht2, hb2⟩
  · obtain ⟨t, hyt⟩ : ∃ t, ys[k]? = some t := ⟨ys[k]'(by omega), List.getElem?_eq_getElem _⟩
    have hlast : ys.getLast? = some t := by rw [List.getLast?_eq_getElem?, hk]; exact hyt
    rw [hlast] at hxo
    have HX := hide hxo
    have HY := hide hyt
    clear hxo hyt
    go_enter Tryz.func30, Tryz.ntmps30
    go_wp2_with fail
    refine (sSplit 46 s m _ (by omega) hm ys HYS).mono ?_
    rintro e w2 ⟨rfl, ht2, hb2⟩
    have hc := ht2 k t HY.out
    have hkk : (k : Int) + 1 - 1 = k := by omega
    rw [hk]
    obtain ⟨B, hB⟩ : ∃ B, w.heap.size = B := ⟨_, rfl⟩
    rw [hB] at hc ht2 hb2 ⊢
    cases t with
    | nil =>
      have hx2 := HX.out
      rw [if_pos ⟨by omega, rfl⟩] at hx2
      have HX2 := hide hx2
      clear hx2 HX hlast HY
      go_wp2_with fail
      go_ret
      have hx3 := HX2.out
      have hxl : xs.length = k := by rw [← hx3, List.length_dropLast]; omega
      rw [hB]
      exact ⟨⟨k + 1, by omega, by rw [hxl]; rfl⟩, by rw [← hx3]; exact ht2.dropLast, hb2⟩
    | cons c r =>
      have hx2 := HX.out
      rw [if_neg (by simp)] at hx2
      have HX2 := hide hx2
      clear hx2 HX hlast HY
      go_wp2_with fail
      go_ret
      have hx3 := HX2.out
      rw [hB, ← hx3]
      exact ⟨⟨k + 1, by omega, by rw [hk]; rfl⟩, ht2, hb2⟩

theorem parts_len (s : List UInt8) : 1 ≤ (Hostp.parts s).length ∧ (Hostp.parts s).length ≤ s.length + 1 := by
  have := splitOn_len 46 s
  unfold Hostp.parts
  split
  · rename_i h
    rw [List.length_dropLast]; omega
  · exact this

theorem splitOn_mem (c : UInt8) : ∀ (s t : List UInt8), t ∈ Hostp.splitOn c s → t.length ≤ s.length
  | [], t, h => by simp [Hostp.splitOn] at h; simp [h]
  | b :: l, t, h => by
    have ih := splitOn_mem c l
    rw [Hostp.splitOn] at h
    split at h
    · rcases List.mem_cons.1 h with rfl | h
      · simp
      · have := ih t h; simp only [List.length_cons]; omega
    · split at h
      · rename_i t0 ts e
        rcases List.mem_cons.1 h with rfl | h
        · have := ih t0 (by rw [e]; simp)
          simp only [List.length_cons]; omega
        · have := ih t (by rw [e]; simp [h]); simp only [List.length_cons]; omega
      · rcases List.mem_cons.1 h with rfl | h
        · simp
        · cases h
theorem parts_mem (s t : List UInt8) (h : t ∈ Hostp.parts s) : t.length ≤ s.length := by
  unfold Hostp.parts at h
  split at h
  · exact splitOn_mem 46 s t (List.dropLast_subset _ h)
  · exact splitOn_mem 46 s t h
theorem basedP_base : ∀ t : List UInt8, (Hostp.basedP t).2 = 16 ∨ (Hostp.basedP t).2 = 8 ∨ (Hostp.basedP t).2 = 10
  | [] => .inr (.inr rfl)
  | [c] => .inr (.inr rfl)
  | c :: d :: r => by
    rw [Hostp.basedP]
    split
    · split
      · exact .inl rfl
      · exact .inr (.inl rfl)
    · exact .inr (.inr rfl)
theorem basedP_len : ∀ t : List UInt8, (Hostp.basedP t).1.length ≤ t.length
  | [] => Nat.le_refl _
  | [c] => Nat.le_refl _
  | c :: d :: r => by
    rw [Hostp.basedP]
    split
    · split <;> simp only [List.length_cons] <;> omega
    · exact Nat.le_refl _

set_option maxHeartbeats 2000000 in
set_option maxRecDepth 100000 in
theorem hNumeric (s : List UInt8) (b : Bool) (w : World) (ht : Tab w) (hl : s.length ≤ 4194304) (hb : Hid (Hostp.numericP s = b)) :
    Calls Tryz.prog 24 #[S s] w (Fresh (.bool b) w) := by
  obtain ⟨l0, l1⟩ := parts_len s
  obtain ⟨xs, hxs⟩ : ∃ xs, Hostp.parts s = xs := ⟨_, rfl⟩
  have hb2 := hb.out
  unfold Hostp.numericP at hb2
  rw [hxs] at hb2 l0 l1
  obtain ⟨k, hk⟩ : ∃ k, xs.length = k + 1 := ⟨xs.length - 1, by omega⟩
  obtain ⟨t, hyt⟩ : ∃ t, xs[k]? = some t := ⟨xs[k]'(by omega), List.getElem?_eq_getElem _⟩
  have hlast : xs.getLast? = some t := by rw [List.getLast?_eq_getElem?, hk]; exact hyt
  rw [hlast] at hb2
  simp only at hb2
  have htl : t.length ≤ s.length := parts_mem s t (by rw [hxs]; exact List.mem_of_getElem? hyt)
  have HXS := hide hxs
  obtain ⟨d, base, hdb⟩ : ∃ d base, Hostp.basedP t = (d, base) := ⟨_, _, rfl⟩
  rw [hdb] at hb2
  have hbase := basedP_base t
  rw [hdb] at hbase
  have hdl := basedP_len t
  rw [hdb] at hdl
  simp only at hb2 hbase hdl
  have HDB := hide hdb
  clear hdb
  have HB := hide hb2
  have HY := hide hyt
  clear hxs hb hb2 hyt hlast
  go_enter Tryz.func24, Tryz.ntmps24
  go_wp2_with fail
  refine (hParts s xs _ ht hl HXS).mono ?_
  rintro e w2 ⟨⟨cap, hcap, rfl⟩, ht2, hb2⟩
  have hc := ht2 k t HY.out
  have hkk : (k : Int) + 1 - 1 = k := by omega
  rw [hk] at hcap
  rw [hk]
  obtain ⟨B, hB⟩ : ∃ B, w.heap.size = B := ⟨_, rfl⟩
  rw [hB] at hc ht2 hb2 ⊢
  go_wp2_with fail
  refine (hBased t d base _ (by omega) HDB).mono ?_
  rintro e w3 ⟨rfl, rfl⟩
  cases t with
  | nil =>
    have h2 := HB.out
    rw [List.isEmpty_nil, Bool.not_true, Bool.false_and] at h2
    subst h2
    go_wp2_with fail
    go_ret
    exact ⟨rfl, by rw [hB]; exact hb2⟩
  | cons c r =>
    have h2 := HB.out
    rw [List.isEmpty_cons, Bool.not_false, Bool.true_and] at h2
    have HB2 := hide h2
    clear h2 HB
    obtain ⟨a1, ha1⟩ : ∃ a, Hostp.allB 10 (c :: r) = a := ⟨_, rfl⟩
    have HA := hide ha1
    clear ha1
    go_wp2_with fail
    refine (hAll (c :: r) 10 a1 _ (by decide) (by decide) HA).mono ?_
    rintro e w4 ⟨rfl, hb4⟩
    have hs4 := hb4.size
    have hs2 := hb2.size
    cases a1 with
    | true =>
      have h2 := HB2.out
      rw [HA.out, Bool.true_or] at h2
      subst h2
      go_wp2_with fail
      go_ret
      exact ⟨rfl, by rw [hB]; exact hb2.trans (hb4.mono (by omega))⟩
    | false =>
      have h2 := HB2.out
      rw [HA.out, Bool.false_or] at h2
      by_cases h16 : base = 16
      · subst h16
        rw [decide_eq_true rfl, Bool.true_and] at h2
        have HB3 := hide h2
        clear h2 hbase
        go_wp2_with fail
        refine (hAll d 16 b _ (by decide) (by decide) HB3).mono ?_
        rintro e w5 ⟨rfl, hb5⟩
        go_wp2_with fail
        go_ret
        exact ⟨rfl, by rw [hB]; exact (hb2.trans (hb4.mono (by omega))).trans (hb5.mono (by omega))⟩
      · have h16' : (base == 16) = false := beq_eq_false_iff_ne.2 h16
        rw [decide_eq_false h16, Bool.false_and] at h2
        subst h2
        go_wp2_with fail
        go_ret
        exact ⟨rfl, by rw [hB]; exact hb2.trans (hb4.mono (by omega))⟩
end Go.Proofs.YtahjndignkhmoaaGreatDoor
