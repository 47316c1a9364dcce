/- Numbers as words of base 16, joined. -/
import Derived.Test.YtahjndignkhmoaaGreatDoorQ
import Derived.Test.YtahjndignkhmoaaGreatDoorP
namespace Go.Proofs.YtahjndignkhmoaaGreatDoor
open Go.RowKit

theorem info_str : (Tryz.prog.info? 9).map (fun i => (i.zero, i.size, i.bytes)) = some (some (.string .empty), 1, 16) := by kernel_rfl
theorem join_W (c : UInt8) : ∀ ws : List (List UInt8), Lib.join ws [c] = Hostp.joinW c ws
  | [] => rfl
  | [w] => by simp [Lib.join, Hostp.joinW]
  | w :: x :: l => by
    have ih := join_W c (x :: l)
    rw [Hostp.joinW, ← ih]
    simp [Lib.join]
theorem joinW_len (c : UInt8) (m : Nat) : ∀ ws : List (List UInt8), (∀ w ∈ ws, w.length ≤ m) → (Hostp.joinW c ws).length ≤ ws.length * (m + 1)
  | [], _ => by simp [Hostp.joinW]
  | [w], h => by
    have := h w (by simp)
    simp [Hostp.joinW]; omega
  | w :: x :: l, h => by
    have h1 := h w (by simp)
    have h2 := joinW_len c m (x :: l) (fun y hy => h y (by simp [hy]))
    rw [Hostp.joinW, List.length_append, List.length_cons]
    have : (w :: x :: l).length * (m + 1) = (x :: l).length * (m + 1) + (m + 1) := by rw [List.length_cons, Nat.add_mul]; simp
    omega
theorem one_s (l : List (List UInt8)) : ∀ u ∈ l.map S, u.oneCell' = true := by
  intro u hu
  obtain ⟨x, _, rfl⟩ := List.mem_map.1 hu
  rfl
/-- strings.Join over a row of its own -/
theorem sJoin (B c : Nat) (v : Value) (ws : List (List UInt8)) (w : World) (hown : w.ownsRow B 9 1 v ws.length (ws.map S)) (hB : ws.length ≤ 1048576) (hlen : (Hostp.joinW (UInt8.ofNat c) ws).length ≤ 140737488355328) :
    Calls Tryz.prog 39 #[v, S [UInt8.ofNat c]] w (Fresh (S (Hostp.joinW (UInt8.ofNat c) ws)) w) := by
  rcases hown.2 with ⟨rfl, h0⟩ | ⟨g, cap, cur, rfl, hg, hgg, hcap⟩
  · have : ws = [] := List.eq_nil_of_length_eq_zero h0
    subst this
    refine (Tryz.strings_Join_none none 0 ⟨[UInt8.ofNat c].toArray⟩ w).mono ?_
    rintro e w' ⟨rfl, rfl⟩
    exact ⟨rfl, Below.refl _ _⟩
  · have hl := hown.1
    have hcells := hown.cells (g := g) rfl
    have hj : (ws.map fun t => (⟨t.toArray⟩ : ByteArray)).map (·.data.toList) = ws := by
      rw [List.map_map]
      exact (List.map_congr_left fun t _ => rfl).trans (List.map_id ws)
    have := Tryz.strings_Join g 0 cap (ws.map fun t => (⟨t.toArray⟩ : ByteArray)) ⟨[UInt8.ofNat c].toArray⟩ w (fun j x hx => by
        obtain ⟨t, ht, rfl⟩ := Option.map_eq_some_iff.1 (by rw [List.getElem?_map] at hx; exact hx)
        have := hcells j (S t) (by rw [List.getElem?_map, ht]; rfl)
        rw [show (⟨g, 0, none⟩ : Addr).add j = ⟨g, 0 + j, none⟩ by unfold Addr.add; split <;> simp_all] at this
        exact this) (heap_lt hgg) (by simp; omega) (by simpa using hcap.1) (by rw [hj]; exact (join_W _ ws) ▸ hlen)
    rw [hj, List.length_map] at this
    refine this.mono ?_
    rintro e w' ⟨rfl, hb⟩
    refine ⟨?_, hb⟩
    show Ending.returned (.string ⟨(Lib.join ws [UInt8.ofNat c]).toArray⟩) = _
    rw [join_W]

set_option maxHeartbeats 4000000 in
set_option maxRecDepth 100000 in
theorem hWords (B off cap : Nat) (v : List Int) (u : List UInt8) (w : World) (ht : Tab2 w) (hv : ∀ n ∈ v, 0 ≤ n ∧ n < 65536) (hl : v.length ≤ 8) (hc : Hid (∀ (j : Nat) x, v[j]? = some x → w.cell? ⟨B, off + j, none⟩ = some (U16 x))) (hu : Hid (Hostp.joinW 58 (Hostp.words v) = u)) :
    Calls Tryz.prog 67 #[.slice (some ⟨B, off, none⟩) v.length cap] w (Fresh (S u) w) := by
  obtain ⟨i0, hi0, hz0, hz1, hz2⟩ := info_parts info_str
  obtain ⟨n, hn⟩ : ∃ n, v.length = n := ⟨_, rfl⟩
  obtain ⟨M, hM⟩ : ∃ M, w.heap.size = M := ⟨_, rfl⟩
  have HV := hide hv
  have HN := hide hn
  have HM := hide hM
  rw [hn] at hl ⊢
  have hnil := World.ownsRow_nil w M 9 1
  clear hv hn hM
  go_enter Tryz.func67, Tryz.ntmps67
  go_wp2_with fail
  go_loopg [3, 8] n (fun g s3 s8 wx => ∃ (i : Nat), i + g = n ∧ s8 = .int .i64 i ∧ wx.ownsRow M 9 1 s3 i ((Hostp.words (v.take i)).map S) ∧ Below M w wx)
  case atStart => exact ⟨0, by omega, rfl, hnil, by rw [← HM.out]; exact Below.refl _ _⟩
  case round =>
    obtain ⟨i, hi, rfl, hown, hb⟩ := hrel
    clear hnil
    have hs := hb.size
    have hmw := HM.out
    have hwl : (Hostp.words (v.take i)).length = i := by simp [Hostp.words, HN.out]; omega
    have HWL := hide hwl
    have htr : Tab2 wr := ht.below (by rw [HM.out]; exact hb)
    clear hwl
    by_cases hlt : i < n
    · obtain ⟨x, hx⟩ : ∃ x, v[i]? = some x := ⟨v[i]'(by rw [HN.out]; exact hlt), List.getElem?_eq_getElem _⟩
      obtain ⟨x0, x1⟩ := HV.out x (List.mem_of_getElem? hx)
      have hcx := cell_below (hc.out i x hx) (by rw [HM.out]; exact hb)
      obtain ⟨k, rfl⟩ := Int.eq_ofNat_of_zero_le x0
      have hsn : (Hostp.words (v.take (i + 1))).map S = (Hostp.words (v.take i)).map S ++ [S (Hostp.repr 16 k)] := by
        have hlt' : i < v.length := by rw [HN.out]; exact hlt
        rw [List.take_succ_eq_append_getElem hlt']
        have : v[i] = (k : Int) := by
          rw [List.getElem?_eq_getElem hlt'] at hx
          injection hx
        rw [this]
        simp [Hostp.words]
      obtain ⟨t, ht2⟩ : ∃ t, Hostp.repr 16 k = t := ⟨_, rfl⟩
      rw [ht2] at hsn
      have HSN := hide hsn
      have HT2 := hide ht2
      clear hsn ht2 hx
      go_wp2_with fail
      refine (sFmt16 k (by omega) t _ htr HT2).mono ?_
      rintro e w3 ⟨rfl, hb3⟩
      have hs3 := hb3.size
      have hown3 := owns_below hown hb3
      have hbw3 : Below M w w3 := hb.trans (hb3.mono (by omega))
      clear hown
      go_wp2_with (at_builtin; refine wpList_append_own _ rfl (.tmp 12) (.tmp 16) 42 rfl M 9 i0 (.string .empty) 1 16 Tryz.underlying42 hi0 hz0 hz1 hz2 rfl (by decide) _ _ _ rfl (hown3.alloc _) ⟨w3.heap.size, 0, none⟩ 1 1 [S t] rfl rfl (cell_one_new _ _ _) (one_s [t]) ?c3 ?c4 ?c5 ?_)
      case c3 => unfold maxLen; omega
      case c4 => omega
      case c5 => simp; omega
      intro v' w6 hown6 hgrow _
      have hb6 : Below M w w6 := (hbw3.alloc (by omega) _).grown hgrow (by simp; omega) (fun k hk => (hown3.lt k hk).1)
      have hown7 : w6.ownsRow M 9 1 v' (i + 1) ((Hostp.words (v.take (i + 1))).map S) := by
        rw [HSN.out]; exact hown6
      clear hgrow hown3 hown6
      go_wp2_with fail
      go_roundg (gk - 1)
      case measure => omega
      case rel => exact ⟨i + 1, by omega, by go_num, hown7, hb6⟩
    · have e : i = n := by omega
      subst e
      have hall : v.take i = v := List.take_of_length_le (by rw [HN.out]; exact Nat.le_refl _)
      rw [hall] at hown HWL
      have hown2 : wr.ownsRow M 9 1 u3 (Hostp.words v).length ((Hostp.words v).map S) := by rw [HWL.out]; exact hown
      have hlen : (Hostp.joinW 58 (Hostp.words v)).length ≤ 140737488355328 := by
        have := joinW_len 58 4 (Hostp.words v) (fun w hw => by
          obtain ⟨n, hn, rfl⟩ := List.mem_map.1 hw
          have := HV.out n hn
          exact Hostp.repr_len 16 (by decide) 3 n.toNat (by omega))
        rw [HWL.out] at this
        omega
      have hj := sJoin M 58 u3 (Hostp.words v) wr hown2 (by rw [HWL.out]; omega) hlen
      have HJ := hide hj
      clear hall hown hown2 hlen hj
      go_wp2_with fail
      refine HJ.out.mono ?_
      rintro e w3 ⟨rfl, hb3⟩
      go_wp2_with fail
      go_ret
      refine ⟨?_, by rw [HM.out]; exact hb.trans (hb3.mono (by omega))⟩
      rw [← hu.out]; rfl
end Go.Proofs.YtahjndignkhmoaaGreatDoor
