/- Numbers between colons; the last one may be an address of four. -/
import Derived.Test.YtahjndignkhmoaaGreatDoorM
import Derived.Test.YtahjndignkhmoaaGreatDoorCase
import Derived.Deep.Onto
namespace Go.Proofs.YtahjndignkhmoaaGreatDoor
open Go.RowKit

abbrev U16 (n : Int) : Value := .int .u16 n
theorem info_u16 : (Tryz.prog.info? 24).map (fun i => (i.zero, i.size, i.bytes)) = some (some (.int .u16 0), 1, 2) := by kernel_rfl
theorem sHas (l : List UInt8) (c : UInt8) (b : Bool) (w : World) (hb : Hid (decide (c ∈ l) = b)) :
    Calls Tryz.prog 61 #[S l, S [c]] w (Ret (.bool b) w) :=
  (Tryz.strings_Contains_one ⟨l.toArray⟩ c w).mono fun e w' h => by
    obtain ⟨rfl, rfl⟩ := h
    refine Ret.of (v_b ?_)
    rw [← hb.out]
    refine decide_eq_decide.2 ?_
    have : ∀ l : List UInt8, (0 : Int) ≤ Lib.indexByte l c ↔ c ∈ l := by
      intro l
      by_cases h : c ∈ l
      · simp only [h, iff_true]
        induction l with
        | nil => cases h
        | cons x r ih =>
          unfold Lib.indexByte
          split
          · exact Int.le_refl _
          · rename_i hx
            have hcr : c ∈ r := by
              rcases List.mem_cons.1 h with rfl | h
              · simp at hx
              · exact h
            have := ih hcr
            have hm1 : (Lib.indexByte r c == -1) = false := beq_eq_false_iff_ne.2 (by omega)
            rw [hm1, if_neg (by decide)]
            omega
      · simp only [h, iff_false]
        rw [indexByte_none l c (fun b hb e => h (by rw [← e]; exact hb))]
        decide
    exact this l

/-- numbers that the call laid, or it gives up -/
def GroupsEnd (r : Option (List Int)) (B : Nat) (e : Ending) (w : World) : Prop :=
  (∃ ns v, r = some ns ∧ e = .returned v ∧ w.ownsRow B 24 1 v ns.length (ns.map U16)) ∨ (r = none ∧ e = broke)
theorem map_app (acc : List Int) (o : Option (List Int)) (n : Int) : (o.map (n :: ·)).map (acc ++ ·) = o.map ((acc ++ [n]) ++ ·) := by
  cases o <;> simp
theorem one16 (l : List Int) : ∀ u ∈ l.map U16, u.oneCell' = true := by
  intro u hu
  obtain ⟨x, _, rfl⟩ := List.mem_map.1 hu
  rfl
theorem cells_two {w : World} {g : Nat} {x y : Int} (h0 : w.cell? ⟨g, 0, none⟩ = some (.int .u16 x)) (h1 : w.cell? ⟨g, 1, none⟩ = some (.int .u16 y)) : ∀ (j : Nat) u, ([x, y].map U16)[j]? = some u → w.cell? ((⟨g, 0, none⟩ : Addr).add j) = some u := by
  intro j u hu
  match j, hu with
  | 0, hu => simp at hu; subst hu; rw [show (⟨g, 0, none⟩ : Addr).add 0 = ⟨g, 0, none⟩ by simp [Addr.add]]; exact h0
  | 1, hu => simp at hu; subst hu; rw [show (⟨g, 0, none⟩ : Addr).add 1 = ⟨g, 1, none⟩ by simp [Addr.add]]; exact h1
  | n + 2, hu => simp at hu

set_option maxHeartbeats 8000000 in
set_option maxRecDepth 100000 in
theorem hGroups (s : List UInt8) (last : Bool) (r : Option (List Int)) (w : World) (ht : Tab w) (hl : s.length ≤ 4194304) (hr : Hid (Hostp.groups s last = r)) :
    Calls Tryz.prog 36 #[S s, .bool last] w fun e w' => GroupsEnd r w.heap.size e w' ∧ Below w.heap.size w w' := by
  obtain ⟨i0, hi0, hz0, hz1, hz2⟩ := info_parts info_u16
  cases s with
  | nil =>
    have h := hr.out
    rw [Hostp.groups, if_pos rfl] at h
    subst h
    go_enter Tryz.func36, Tryz.ntmps36
    go_wp2_with fail
    go_ret
    exact ⟨.inl ⟨[], _, rfl, rfl, World.ownsRow_nil _ _ _ _⟩, Below.refl _ _⟩
  | cons s0 s1 =>
    obtain ⟨s, hs⟩ : ∃ s, s = s0 :: s1 := ⟨_, rfl⟩
    have hne : s ≠ [] := by rw [hs]; simp
    have hnl : s.length ≠ 0 := by rw [hs]; simp
    have hne1 : s.toArray ≠ #[] := by simpa using hne
    rw [← hs] at hr hl ⊢
    clear hs
    obtain ⟨l0, l1⟩ := splitOn_len 58 s
    obtain ⟨m, hm⟩ := ht.max
    obtain ⟨xs, hxs⟩ : ∃ xs, Hostp.splitOn 58 s = xs := ⟨_, rfl⟩
    have hr2 := hr.out
    rw [Hostp.groups, if_neg hne, hxs] at hr2
    rw [hxs] at l0 l1
    have HXS := hide hxs
    have hmem : ∀ t ∈ xs, t.length ≤ s.length := fun t h => splitOn_mem 58 s t (by rw [hxs]; exact h)
    have HM := hide hmem
    have HR := hide hr2
    clear hxs hr hmem hr2
    have hse : (s == []) = false := by simpa using hne
    go_enter Tryz.func36, Tryz.ntmps36
    go_wp2_with fail
    refine (sSplit 58 s m _ (by omega) hm xs HXS).mono ?_
    rintro e w2 ⟨rfl, ht2, hb2⟩
    obtain ⟨B, hB⟩ : ∃ B, w.heap.size = B := ⟨_, rfl⟩
    have htab : Tab w2 := ht.below hb2
    rw [hB] at ht2 hb2 ⊢
    have hs2 : B ≤ w2.heap.size := by rw [← hB]; exact hb2.size
    clear ht hm
    have HT := hide ht2
    obtain ⟨n, hn⟩ : ∃ n, xs.length = n := ⟨_, rfl⟩
    obtain ⟨M, hM⟩ : ∃ M, w2.heap.size = M := ⟨_, rfl⟩
    rw [hn] at l0 l1 ⊢
    rw [hM] at hs2
    have HN := hide hn
    have HMM := hide hM
    have HBB := hide hB
    have hnil := World.ownsRow_nil w2 M 24 1
    clear ht2 hn hM hB
    go_wp2_with fail
    go_loopg [4, 16] n (fun g s4 s16 wx => ∃ (i : Nat) (acc : List Int), i + g = n ∧ s16 = .int .i64 i ∧ acc.length = i ∧ wx.ownsRow M 24 1 s4 acc.length (acc.map U16) ∧ Below M w2 wx ∧ Hid ((Hostp.groupsF last (xs.drop i)).map (acc ++ ·) = r))
    case atStart => exact ⟨0, [], by omega, rfl, rfl, hnil, by rw [← HMM.out]; exact Below.refl _ _, by unfold Hid; rw [List.drop_zero, HR.out]; cases r <;> simp⟩
    case round =>
      obtain ⟨i, acc, hi, rfl, hacc, hown, hbx, hd⟩ := hrel
      have hbw : Below B w wr := hb2.trans (hbx.mono (by omega))
      have hsx : M ≤ wr.heap.size := by
        have := hbx.size
        have := HMM.out
        omega
      have htabx : Tab wr := htab.below (by rw [HMM.out]; exact hbx)
      by_cases hlt : i < n
      · have hlt' : i < xs.length := by rw [HN.out]; exact hlt
        obtain ⟨t, htt⟩ : ∃ t, xs[i] = t := ⟨_, rfl⟩
        have hgx : xs[i]? = some t := by rw [List.getElem?_eq_getElem hlt', htt]
        have hcons : xs.drop i = t :: xs.drop (i + 1) := by rw [List.drop_eq_getElem_cons hlt', htt]
        have hc := cell_below (HT.out i t hgx) (by rw [HMM.out]; exact hbx)
        have htl := HM.out t (List.mem_of_getElem? hgx)
        have hd2 := hd.out
        rw [hcons, Hostp.groupsF] at hd2
        have hdr : xs.drop (i + 1) = [] ↔ i + 1 = n := by
          rw [List.drop_eq_nil_iff, HN.out]; omega
        obtain ⟨has, hhas⟩ : ∃ b, decide ((46 : UInt8) ∈ t) = b := ⟨_, rfl⟩
        have HHAS := hide hhas
        clear hd hcons htt hgx hlt' hnil
        by_cases hA : last = true ∧ i + 1 = n ∧ has = true
        · obtain ⟨rfl, rfl, rfl⟩ := hA
          rw [if_pos ⟨rfl, hdr.2 rfl, of_decide_eq_true hhas⟩] at hd2
          have HD := hide hd2
          clear hd2 hdr hhas
          obtain ⟨q, hq⟩ : ∃ q, Hostp.fourP t = q := ⟨_, rfl⟩
          have HQ := hide hq
          clear hq
          go_wp2_with fail
          refine (sHas t 46 true _ HHAS).mono ?_
          rintro e w3 ⟨rfl, rfl⟩
          go_wp2_with fail
          refine (hFour t q _ htabx (by omega) HQ).mono ?_
          rintro e w3 ⟨hE, hb3⟩
          have hs3 := hb3.size
          have hbw3 : Below B w w3 := hbw.trans (hb3.mono (by omega))
          have hown3 := owns_below hown hb3
          have hdq := HD.out
          rw [HQ.out] at hdq
          rcases hE with ⟨x, y, g, rfl, hx0, hx1, hy0, hy1, hg, rfl, c0, c1⟩ | ⟨rfl, rfl⟩
          · have HDQ := hide hdq
            have hcc := cells_two c0 c1
            have HCC := hide hcc
            clear hdq HD hown c0 c1 hcc
            go_wp2_with (at_builtin; refine wpList_append_own _ rfl (.tmp 33) (.tmp 35) 66 rfl M 24 i0 (.int .u16 0) 1 2 Tryz.underlying66 hi0 hz0 hz1 hz2 rfl (by decide) _ _ _ rfl hown3 ⟨g, 0, none⟩ 2 2 ([x, y].map U16) rfl rfl HCC.out (one16 _) ?c3 ?c4 ?c5 ?_)
            case c3 => unfold maxLen; omega
            case c4 => omega
            case c5 => omega
            intro v' w4 hown4 hgrow _
            have hb4 : Below B w w4 := hbw3.grown hgrow (by omega) (fun k hk => Nat.le_trans hs2 (hown3.lt k hk).1)
            clear hgrow hown3
            go_wp2_with fail
            go_ret
            rw [HBB.out]
            refine ⟨.inl ⟨acc ++ [x, y], v', ?_, rfl, ?_⟩, hb4⟩
            · rw [← HDQ.out]; rfl
            · rw [List.length_append, List.map_append, hacc]
              exact hown4.mono hs2
          · rw [Option.map_none] at hdq
            subst hdq
            clear hown hown3
            go_wp2_with fail
            rw [HBB.out]
            exact ⟨rfl, .inr ⟨rfl, rfl⟩, hbw3⟩
        · have hd3 : (match Hostp.groupP t with
              | some n => (Hostp.groupsF last (xs.drop (i + 1))).map (n :: ·)
              | none => none).map (acc ++ ·) = r := by
            rw [if_neg (fun q => hA ⟨q.1, hdr.1 q.2.1, by rw [← hhas]; exact decide_eq_true q.2.2⟩)] at hd2
            exact hd2
          have hways : has = false ∨ (has = true ∧ last = false) ∨ (has = true ∧ last = true ∧ ((i : Int) == (n : Int) - 1) = false) := by
            cases has with
            | false => exact .inl rfl
            | true =>
              cases last with
              | false => exact .inr (.inl ⟨rfl, rfl⟩)
              | true => exact .inr (.inr ⟨rfl, rfl, beq_eq_false_iff_ne.2 (fun e => hA ⟨rfl, by omega, rfl⟩)⟩)
          obtain ⟨a, ha⟩ : ∃ a, Hostp.allB 16 t = a := ⟨_, rfl⟩
          have HA := hide ha
          obtain ⟨q, hq⟩ : ∃ q, Hostp.groupP t = q := ⟨_, rfl⟩
          rw [hq] at hd3
          have HD := hide hd3
          have HQ := hide hq
          clear hd2 hdr hhas hA hd3 ha hq
          rcases hways with rfl | ⟨rfl, rfl⟩ | ⟨rfl, rfl, hnl2⟩
          all_goals
            go_wp2_with fail
            refine (sHas t 46 _ _ HHAS).mono ?_
            rintro e w3 ⟨rfl, rfl⟩
            cases t with
            | nil =>
              have hdq := HD.out
              have hq : q = none := by rw [← HQ.out]; rfl
              subst hq
              have hrn : r = none := by rw [← hdq]; rfl
              subst hrn
              go_wp2_with fail
              rw [HBB.out]
              exact ⟨rfl, .inr ⟨rfl, rfl⟩, hbw⟩
            | cons t0 t1 =>
              by_cases h4 : 3 < t1.length
              · have hq : q = none := by rw [← HQ.out]; unfold Hostp.groupP; rw [if_pos (.inr (.inl (by simp; omega)))]
                have hdq := HD.out
                subst hq
                have hrn : r = none := by rw [← hdq]; rfl
                subst hrn
                clear hdq
                go_wp2_with fail
                rw [HBB.out]
                exact ⟨rfl, .inr ⟨rfl, rfl⟩, hbw⟩
              · go_wp2_with fail
                refine (hAll (t0 :: t1) 16 a _ (by decide) (by decide) HA).mono ?_
                rintro e w4 ⟨rfl, hb4⟩
                have hs4 := hb4.size
                have hbw4 : Below B w w4 := hbw.trans (hb4.mono (by omega))
                cases a with
                | false =>
                  have hq : q = none := by rw [← HQ.out]; unfold Hostp.groupP; rw [if_pos (.inr (.inr HA.out))]
                  have hdq := HD.out
                  subst hq
                  have hrn : r = none := by rw [← hdq]; rfl
                  subst hrn
                  clear hdq
                  go_wp2_with fail
                  rw [HBB.out]
                  exact ⟨rfl, .inr ⟨rfl, rfl⟩, hbw4⟩
                | true =>
                  obtain ⟨v, hv⟩ : ∃ v, Hostp.value 16 (t0 :: t1) = v := ⟨_, rfl⟩
                  have hgp : Hostp.groupP (t0 :: t1) = some v := by
                    unfold Hostp.groupP
                    rw [if_neg, hv]
                    rintro (h | h | h)
                    · cases h
                    · simp at h; omega
                    · rw [HA.out] at h; cases h
                  obtain ⟨hv0, hv1⟩ := Hostp.groupP_range _ v hgp
                  have hq : q = some v := by rw [← HQ.out, hgp]
                  subst hq
                  have hdq := HD.out
                  simp only [map_app] at hdq
                  have HDQ := hide hdq
                  have HV := hide hv
                  have hown4 := owns_below hown hb4
                  clear hdq HD hgp hv
                  go_wp2_with fail
                  refine (sPU (t0 :: t1) 16 16 65535 v _ (htabx.below hb4) (.inr (.inl ⟨rfl, rfl, rfl⟩)) (by simp) (by omega) HA.out HV).mono ?_
                  rintro e w5 ⟨hE, hb5⟩
                  have hs5 := hb5.size
                  have hbw5 : Below B w w5 := hbw4.trans (hb5.mono (by omega))
                  have hbx5 : Below M w2 w5 := (hbx.trans (hb4.mono (by omega))).trans (hb5.mono (by omega))
                  have hown5 := owns_below hown4 hb5
                  rcases hE with ⟨hvm, rfl⟩ | ⟨hvm, ty, p, rfl⟩
                  · clear hown hown4
                    go_wp2_with (at_builtin; refine wpList_append_own _ rfl (.tmp 56) (.tmp 59) 66 rfl M 24 i0 (.int .u16 0) 1 2 Tryz.underlying66 hi0 hz0 hz1 hz2 rfl (by decide) _ _ _ rfl (hown5.alloc _) ⟨w5.heap.size, 0, none⟩ 1 1 [.int .u16 v] rfl rfl (cell_one_new _ _ _) (one16 [v]) ?c3 ?c4 ?c5 ?_)
                    case c3 => unfold maxLen; omega
                    case c4 => omega
                    case c5 => simp; omega
                    intro v' w6 hown6 hgrow _
                    have hb6 : Below M w2 w6 := (hbx5.alloc (by omega) _).grown hgrow (by simp; omega) (fun k hk => (hown5.lt k hk).1)
                    clear hgrow hown5
                    have hown7 : w6.ownsRow M 24 1 v' (acc ++ [v]).length ((acc ++ [v]).map U16) := by
                      rw [List.length_append, List.map_append, hacc]; exact hown6
                    go_wp2_with fail
                    go_roundg (gk - 1)
                    (case measure => omega)
                    (case rel => exact ⟨i + 1, acc ++ [v], by omega, by go_num, by simp [hacc], hown7, hb6, HDQ⟩)
                  · omega
      · have e : i = n := by omega
        subst e
        have hd2 := hd.out
        rw [List.drop_eq_nil_of_le (by rw [HN.out]; exact Nat.le_refl _), Hostp.groupsF, Option.map_some, List.append_nil] at hd2
        subst hd2
        clear hnil hd
        go_wp2_with fail
        go_ret
        rw [HBB.out]
        exact ⟨.inl ⟨acc, u4, rfl, rfl, hown.mono hs2⟩, hbw⟩
end Go.Proofs.YtahjndignkhmoaaGreatDoor
