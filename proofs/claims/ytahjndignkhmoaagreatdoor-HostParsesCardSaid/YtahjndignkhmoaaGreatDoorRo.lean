/- The reference: numbers between colons; the last one may be an address of four. -/
import Derived.Test.YtahjndignkhmoaaGreatDoorRf
import Derived.Test.YtahjndignkhmoaaGreatDoorRb
import Derived.Deep.AppendLies
namespace Go.Proofs.YtahjndignkhmoaaGreatDoor
open Go.RowKit

namespace Hostp
theorem split46 (t : List UInt8) (h : (46 : UInt8) ∉ t) : (splitOn 46 t).length = 1 := by
  rw [splitOn_no 46 t (fun b hb e => h (by rw [← e]; exact hb))]; rfl
theorem groupP_46 (t : List UInt8) (h : (46 : UInt8) ∈ t) : groupP t = none := by
  unfold groupP
  rw [if_pos]
  refine .inr (.inr ?_)
  rw [← Bool.not_eq_true]
  intro e
  have := List.all_eq_true.1 e 46 h
  exact absurd this (by decide)
/-- a group, by its parts between points -/
theorem groupsF_step (last : Bool) (t : List UInt8) (r : List (List UInt8)) : groupsF last (t :: r) = if last = true ∧ r = [] ∧ (splitOn 46 t).length = 4 then fourL (splitOn 46 t) else match groupP t with
    | some n => (groupsF last r).map (n :: ·)
    | none => none := by
  rw [groupsF]
  by_cases h : (46 : UInt8) ∈ t
  · by_cases hl : last = true ∧ r = []
    · rw [if_pos ⟨hl.1, hl.2, h⟩, fourP_eq]
      by_cases h4 : (splitOn 46 t).length = 4
      · rw [if_pos ⟨hl.1, hl.2, h4⟩]
      · rw [if_neg (fun q => h4 q.2.2), groupP_46 t h, fourL_len _ h4]
    · rw [if_neg (fun q => hl ⟨q.1, q.2.1⟩), if_neg (fun q => hl ⟨q.1, q.2.1⟩)]
      cases groupP t <;> rfl
  · rw [if_neg (fun q => h q.2.2), if_neg (fun q => by have := split46 t h; omega)]
    cases groupP t <;> rfl
end Hostp

/-- numbers in a block -/
def NumsI (w : World) (B m : Nat) (T : TypeId) (ns : List Int) : Prop := ∃ C : Array Value, w.heap[B]? = some (Obj.cells C T (0, 0)) ∧ C.size = m ∧ ∀ j (h : j < ns.length), C[j]? = some (.int .i64 ns[j])
theorem NumsI.cell {w : World} {B m : Nat} {T : TypeId} {ns : List Int} (h : NumsI w B m T ns) (j : Nat) (hj : j < ns.length) : w.cell? ⟨B, j, none⟩ = some (.int .i64 ns[j]) := by
  obtain ⟨C, h1, h2, h3⟩ := h
  rw [Lib.cell_of_heap h1]; exact h3 j hj
theorem NumsI.some {w : World} {B m : Nat} {T : TypeId} {ns : List Int} (h : NumsI w B m T ns) (j : Nat) (hj : j < m) : ∃ v, w.cell? ⟨B, j, none⟩ = some v := by
  obtain ⟨C, h1, h2, h3⟩ := h
  rw [Lib.cell_of_heap h1]; exact ⟨C[j], Array.getElem?_eq_getElem (by omega)⟩
theorem NumsI.free {w : World} {B m : Nat} {T : TypeId} {ns : List Int} (h : NumsI w B m T ns) (j : Nat) : w.frozen? ⟨B, j, none⟩ = false := by
  obtain ⟨C, h1, h2, h3⟩ := h
  simp [World.frozen?, h1]
theorem NumsI.snoc {w : World} {B m : Nat} {T : TypeId} {ns : List Int} (h : NumsI w B m T ns) (hm : ns.length < m) (u : Int) : NumsI (w.setCell ⟨B, ns.length, none⟩ (.int .i64 u)) B m T (ns ++ [u]) := by
  obtain ⟨C, h1, h2, h3⟩ := h
  refine ⟨_, row_set h1 _ _, by simpa using h2, fun j hj => ?_⟩
  rw [List.length_append, List.length_singleton] at hj
  rw [Array.getElem?_setIfInBounds]
  by_cases e : ns.length = j
  · subst e
    rw [if_pos rfl, if_pos (by omega)]
    simp
  · rw [if_neg e, h3 j (by omega), List.getElem_append_left (by omega)]
theorem NumsI.below {w w' : World} {B m : Nat} {T : TypeId} {ns : List Int} (h : NumsI w B m T ns) (hb : Below w.heap.size w w') : NumsI w' B m T ns := by
  obtain ⟨C, h1, h2, h3⟩ := h
  exact ⟨C, (hb.block B (heap_lt h1)).trans h1, h2, h3⟩

def GroupsR (r : Option (List Int)) (B : Nat) (e : Ending) (w : World) : Prop :=
  (∃ ns v, r = some ns ∧ e = .returned (.tuple #[v, .bool true]) ∧ w.ownsRow B 24 1 v ns.length (ns.map U16)) ∨ (r = none ∧ e = .returned (.tuple #[.slice none 0 0, .bool false]))

set_option maxHeartbeats 16000000 in
set_option maxRecDepth 100000 in
theorem rGroups (s : List UInt8) (last : Bool) (r : Option (List Int)) (w : World) (hl : s.length ≤ 4194304) (hr : Hid (Hostp.groups s last = r)) :
    Calls Tryz.prog 37 #[S s, .bool last] w fun e w' => GroupsR r w.heap.size e w' ∧ Below w.heap.size w w' := by
  obtain ⟨i0, hi0, hz0, hz1, hz2⟩ := info_parts info_u16
  cases s with
  | nil =>
    have h := hr.out
    rw [Hostp.groups, if_pos rfl] at h
    subst h
    go_enter Tryz.func37, Tryz.ntmps37
    go_wp2_with fail
    refine bodyPost_ret (v := .tuple #[.slice none 0 0, .bool true]) (by simp [results, Tryz.results37, go_sem]) rfl ?_
    exact ⟨.inl ⟨[], _, rfl, rfl, World.ownsRow_nil _ _ _ _⟩, Below.refl _ _⟩
  | cons s0 s1 =>
    obtain ⟨s, hs⟩ : ∃ s, s = s0 :: s1 := ⟨_, rfl⟩
    have hne : s ≠ [] := by rw [hs]; simp
    have hnl : s.length ≠ 0 := by rw [hs]; simp
    have hne1 : s.toArray ≠ #[] := by simpa using hne
    rw [← hs] at hr hl ⊢
    clear hs
    obtain ⟨l0, l1⟩ := splitOn_len 58 s
    obtain ⟨xs, hxs⟩ : ∃ xs, Hostp.splitOn 58 s = xs := ⟨_, rfl⟩
    have hr2 := hr.out
    rw [Hostp.groups, if_neg hne, hxs] at hr2
    rw [hxs] at l0 l1
    have HXS := hide hxs
    have hmem : ∀ t ∈ xs, t.length ≤ s.length := fun t h => splitOn_mem 58 s t (by rw [hxs]; exact h)
    have HM := hide hmem
    have HR := hide hr2
    clear hxs hr hmem hr2
    have hse : (s == []) = false := by simpa using hne
    go_enter Tryz.func37, Tryz.ntmps37
    go_wp2_with fail
    refine (rSplit 58 s xs _ hl HXS).mono ?_
    rintro e w2 ⟨⟨g7, cap7, hg7, hcap7, rfl, ht2⟩, hb2⟩
    obtain ⟨B, hB⟩ : ∃ B, w.heap.size = B := ⟨_, rfl⟩
    rw [hB] at hg7 hb2
    have hs2 : B ≤ w2.heap.size := by rw [← hB]; exact hb2.size
    have HT := hide ht2
    obtain ⟨n, hn⟩ : ∃ n, xs.length = n := ⟨_, rfl⟩
    obtain ⟨M, hM⟩ : ∃ M, w2.heap.size = M := ⟨_, rfl⟩
    rw [hn] at l0 l1 hcap7 ⊢
    rw [hM] at hs2
    have HN := hide hn
    have HMM := hide hM
    have HBB := hide hB
    have hnil := World.ownsRow_nil w2 M 24 1
    clear ht2 hn hM hB
    go_wp2_with fail
    go_loopg [6, 8] n (fun g s6 s8 wx => ∃ (i : Nat) (acc : List Int), i + g = n ∧ s8 = .int .i64 i ∧ acc.length = i ∧ wx.ownsRow M 24 1 s6 acc.length (acc.map U16) ∧ Below M w2 wx ∧ Hid ((Hostp.groupsF last (xs.drop i)).map (acc ++ ·) = r))
    case atStart => exact ⟨0, [], by omega, rfl, rfl, hnil, by rw [← HMM.out]; exact Below.refl _ _, by unfold Hid; rw [List.drop_zero, HR.out]; cases r <;> simp⟩
    case round =>
      obtain ⟨i, acc, hi, rfl, hacc, hown, hbx, hd⟩ := hrel
      have hbw : Below B w wr := hb2.trans (hbx.mono (by omega))
      have hsx : M ≤ wr.heap.size := by
        have := hbx.size
        have := HMM.out
        omega
      by_cases hlt : i < n
      · have hlt' : i < xs.length := by rw [HN.out]; exact hlt
        obtain ⟨t, htt⟩ : ∃ t, xs[i] = t := ⟨_, rfl⟩
        have hgx : xs[i]? = some t := by rw [List.getElem?_eq_getElem hlt', htt]
        have hcons : xs.drop i = t :: xs.drop (i + 1) := by rw [List.drop_eq_getElem_cons hlt', htt]
        have hc := cell_below (HT.out i t hgx) (by rw [HMM.out]; exact hbx)
        have htl : t.length ≤ 4194304 := Nat.le_trans (HM.out t (List.mem_of_getElem? hgx)) hl
        have hd2 := hd.out
        rw [hcons, Hostp.groupsF_step] at hd2
        have hdr : xs.drop (i + 1) = [] ↔ i + 1 = n := by
          rw [List.drop_eq_nil_iff, HN.out]; omega
        obtain ⟨ys, hys⟩ : ∃ ys, Hostp.splitOn 46 t = ys := ⟨_, rfl⟩
        have hmy : ∀ x ∈ ys, x.length ≤ 4194304 := fun x h => Nat.le_trans (splitOn_mem 46 t x (by rw [hys]; exact h)) htl
        have HMY := hide hmy
        obtain ⟨q0, q1⟩ := splitOn_len 46 t
        rw [hys] at hd2 q0 q1
        have HYS := hide hys
        have hc0 := hc
        clear hd hcons htt hgx hlt' hnil hys hmy
        go_wp2_with fail
        refine (rSplit 46 t ys _ htl HYS).mono ?_
        rintro e w3 ⟨⟨g9, cap9, hg9, hcap9, rfl, ht3⟩, hb3⟩
        have hs3 := hb3.size
        have hbw3 : Below B w w3 := hbw.trans (hb3.mono (by omega))
        have hbx3 : Below M w2 w3 := hbx.trans (hb3.mono (by omega))
        have hown3 := owns_below hown hb3
        have hc3 := cell_below hc hb3
        obtain ⟨L, hL⟩ : ∃ L, ys.length = L := ⟨_, rfl⟩
        rw [hL] at hcap9 q0 q1 hd2 ⊢
        have HL := hide hL
        have HT3 := hide ht3
        clear hown hbx hbw hb3 hc hc0 ht3 hL
        by_cases hA : last = true ∧ i + 1 = n ∧ L = 4
        · obtain ⟨rfl, rfl, rfl⟩ := hA
          rw [if_pos ⟨rfl, hdr.2 rfl, rfl⟩] at hd2
          have HD := hide hd2
          have hin : ((i : Int) == ((i + 1 : Nat) : Int) - 1) = true := beq_iff_eq.2 (by omega)
          clear hd2 hdr
          have hnew : (w3.alloc (.cells #[.int .i64 0, .int .i64 0, .int .i64 0, .int .i64 0] 99)).heap[w3.heap.size]? = some (.cells #[.int .i64 0, .int .i64 0, .int .i64 0, .int .i64 0] 99 (0, 0)) := heap_alloc_last _ _
          have hnb : Below w3.heap.size w3 (w3.alloc (.cells #[.int .i64 0, .int .i64 0, .int .i64 0, .int .i64 0] 99)) := (Below.refl _ _).alloc (Nat.le_refl _) _
          go_wp2_with fail
          obtain ⟨G, hG⟩ : ∃ G, w3.heap.size = G := ⟨_, rfl⟩
          obtain ⟨w4, hw4⟩ : ∃ x, x = w3.alloc (.cells #[.int .i64 0, .int .i64 0, .int .i64 0, .int .i64 0] 99) := ⟨_, rfl⟩
          rw [← hw4, hG] at hnew hnb ⊢
          have hG' := hide hG
          have hBG : B ≤ G := by have := hbw3.size; have := HBB.out; omega
          have hMG : M ≤ G := by omega
          clear hw4
          go_loopg [11] 4 (fun g s11 wx => ∃ (k : Nat) (ns : List Int), k + g = 4 ∧ s11 = .int .i64 k ∧ ns.length = k ∧ Hid (∀ (j : Nat) (t : List UInt8) (n : Int), ys[j]? = some t → ns[j]? = some n → Hostp.byteP t = some n) ∧ Hid (∀ n ∈ ns, 0 ≤ n ∧ n < 256) ∧ NumsI wx G 4 99 ns ∧ Below G w3 wx)
          case atStart => exact ⟨0, [], by omega, rfl, rfl, fun j t n _ h => by simp at h, fun n h => by simp at h, ⟨_, hnew, rfl, fun j h => by simp at h⟩, hnb⟩
          case round =>
            obtain ⟨k, ns, hk, rfl, hnk, hP, hR, hN, hbk⟩ := hrel
            have hbwk : Below B w wr := hbw3.trans (hbk.mono hBG)
            have hsk := hbk.size
            by_cases hlt4 : k < 4
            · obtain ⟨x, hxt⟩ : ∃ x, ys[k]? = some x := ⟨ys[k]'(by rw [HL.out]; exact hlt4), List.getElem?_eq_getElem _⟩
              have hc4 : wr.cell? ⟨g9, k, none⟩ = some (S x) := cell_below (HT3.out k x hxt) (by rw [hG]; exact hbk)
              have hxl := HMY.out x (List.mem_of_getElem? hxt)
              have HX := hide hxt
              clear hxt hnew hnb
              go_wp2_with fail
              refine (rByte x _ hxl).mono ?_
              rintro e w5 ⟨m, b, rfl, hE, hb5⟩
              have hs5 := hb5.size
              have hbw5 := hbwk.trans (hb5.mono (by omega))
              cases b with
              | false =>
                have hby : Hostp.byteP x = none := hE.out
                have hrn := HD.out
                rw [four_none ys k x HX.out hby] at hrn
                obtain rfl : none = r := hrn
                clear hby
                go_wp2_with fail
                refine bodyPost_ret (v := .tuple #[.slice none 0 0, .bool false]) (by simp [results, Tryz.results37, go_sem]) rfl ?_
                exact ⟨.inr ⟨rfl, rfl⟩, by rw [HBB.out]; exact hbw5⟩
              | true =>
                have hby : Hostp.byteP x = some m := hE.out
                have hrg := Hostp.byteP_range x m hby
                have HBY := hide hby
                have hN5 := hN.below hb5
                have hf5 := hN5.free k
                obtain ⟨v5, hv5⟩ := hN5.some k hlt4
                clear hby hE
                go_wp2_with fail
                have hN6 := hN5.snoc (by omega) m
                rw [hnk] at hN6
                go_roundg (gk - 1)
                case measure => omega
                case rel => exact ⟨k + 1, ns ++ [m], by omega, by go_num, by simp [hnk], fun j t' n h1 h2 => by
                  rw [List.getElem?_append] at h2
                  split at h2
                  · exact hP.out j t' n h1 h2
                  · rename_i hj
                    have hj0 : j - ns.length = 0 := by
                      have := (List.getElem?_eq_some_iff.1 h2).1
                      simp at this; omega
                    rw [hj0] at h2
                    have hji : j = k := by omega
                    subst hji
                    rw [HX.out] at h1
                    injection h1 with h1
                    subst h1
                    simp at h2
                    rw [← h2]; exact HBY.out, fun n hn => by
                  rcases List.mem_append.1 hn with hn | hn
                  · exact hR.out n hn
                  · rw [List.mem_singleton.1 hn]; exact hrg, hN6, (hbk.trans (hb5.mono (by omega))).setCell (Nat.le_refl _) _⟩
            · have e : k = 4 := by omega
              subst e
              obtain ⟨a, b, c, d, rfl, hres⟩ := four_some ys ns HL.out hnk hP.out
              have ra := hR.out a (by simp)
              have rb := hR.out b (by simp)
              have rc := hR.out c (by simp)
              have rd := hR.out d (by simp)
              have c0 := hN.cell 0 (by simp)
              have c1 := hN.cell 1 (by simp)
              have c2 := hN.cell 2 (by simp)
              have c3 := hN.cell 3 (by simp)
              have hDD := HD.out
              rw [hres, Option.map_some] at hDD
              obtain rfl : some (acc ++ [a * 256 + b, c * 256 + d]) = r := hDD
              simp only [List.getElem_cons_zero, List.getElem_cons_succ] at c0 c1 c2 c3
              have hown4 := owns_below hown3 (by rw [hG]; exact hbk)
              have m1 : IntKind.u16.wrap (a * 256 + b) = a * 256 + b := IntWalk.u16_in _ (by omega)
              have m2 : IntKind.u16.wrap (c * 256 + d) = c * 256 + d := IntWalk.u16_in _ (by omega)
              have hk2 : ∀ k, ([.int .i64 0] : List Value) = k → True := fun _ _ => trivial
              clear HD hP hR hres hown3 hk2
              go_wp2_with (at_builtin; refine wpList_append_own _ rfl (.tmp 62) (.tmp 77) 66 rfl M 24 i0 (.int .u16 0) 1 2 Tryz.underlying66 hi0 hz0 hz1 hz2 rfl (by decide) _ _ _ rfl (hown4.alloc _) ⟨wr.heap.size, 0, none⟩ 2 2 ([a * 256 + b, c * 256 + d].map U16) rfl rfl (World.news_of_block (heap_alloc_last _ _)) (one16 _) ?c3 ?c4 ?c5 ?_)
              case c3 => unfold maxLen; omega
              case c4 => omega
              case c5 => simp; omega
              intro v' w6 hown6 hgrow _
              have hb6 : Below B w w6 := (hbwk.alloc (by omega) _).grown hgrow (by simp; omega) (fun k hk => Nat.le_trans hs2 (hown4.lt k hk).1)
              clear hgrow hown4
              go_wp2_with fail
              refine bodyPost_ret (v := .tuple #[v', .bool true]) (by simp [results, Tryz.results37, go_sem]) rfl ?_
              rw [HBB.out]
              refine ⟨.inl ⟨acc ++ [a * 256 + b, c * 256 + d], v', rfl, rfl, ?_⟩, hb6⟩
              rw [List.length_append, List.map_append, hacc]
              exact hown6.mono hs2
        · have hd3 : (match Hostp.groupP t with
              | some n => (Hostp.groupsF last (xs.drop (i + 1))).map (n :: ·)
              | none => none).map (acc ++ ·) = r := by
            rw [if_neg (fun q => hA ⟨q.1, hdr.1 q.2.1, q.2.2⟩)] at hd2
            exact hd2
          have hways : last = false ∨ (last = true ∧ ((i : Int) == (n : Int) - 1) = false) ∨ (last = true ∧ ((i : Int) == (n : Int) - 1) = true ∧ ((L : Int) == 4) = false) := by
            cases last with
            | false => exact .inl rfl
            | true =>
              by_cases hin : i + 1 = n
              · exact .inr (.inr ⟨rfl, beq_iff_eq.2 (by omega), beq_eq_false_iff_ne.2 (fun e => hA ⟨rfl, hin, by omega⟩)⟩)
              · exact .inr (.inl ⟨rfl, beq_eq_false_iff_ne.2 (by omega)⟩)
          obtain ⟨m, ok, hnr⟩ : ∃ m ok, digR 16 t = (m, ok) := ⟨_, _, rfl⟩
          obtain ⟨q, hq⟩ : ∃ q, Hostp.groupP t = q := ⟨_, rfl⟩
          rw [hq] at hd3
          have HD := hide hd3
          have HQ := hide hq
          have HNR := hide hnr
          clear hd2 hdr hA hd3 hq hnr
          rcases hways with rfl | ⟨rfl, hnl2⟩ | ⟨rfl, hnl2, hnl3⟩
          all_goals
            go_wp2_with fail
            refine (rDigits t 16 m ok _ (by decide) (by decide) htl HNR).mono ?_
            rintro e w4 ⟨rfl, rfl⟩
            cases ok with
            | false =>
              have hq : q = none := by rw [← HQ.out]; unfold Hostp.groupP; rw [if_pos (.inr (.inr (digR_false HNR.out).1))]
              have hdq := HD.out
              subst hq
              obtain rfl : none = r := hdq
              go_wp2_with fail
              refine bodyPost_ret (v := .tuple #[.slice none 0 0, .bool false]) (by simp [results, Tryz.results37, go_sem]) rfl ?_
              exact ⟨.inr ⟨rfl, rfl⟩, by rw [HBB.out]; exact hbw3⟩
            | true =>
              cases t with
              | nil =>
                have hq : q = none := by rw [← HQ.out]; rfl
                have hdq := HD.out
                subst hq
                obtain rfl : none = r := hdq
                go_wp2_with fail
                refine bodyPost_ret (v := .tuple #[.slice none 0 0, .bool false]) (by simp [results, Tryz.results37, go_sem]) rfl ?_
                exact ⟨.inr ⟨rfl, rfl⟩, by rw [HBB.out]; exact hbw3⟩
              | cons t0 t1 =>
                by_cases h4 : 3 < t1.length
                · have hq : q = none := by rw [← HQ.out]; unfold Hostp.groupP; rw [if_pos (.inr (.inl (by simp; omega)))]
                  have hdq := HD.out
                  subst hq
                  obtain rfl : none = r := hdq
                  go_wp2_with fail
                  refine bodyPost_ret (v := .tuple #[.slice none 0 0, .bool false]) (by simp [results, Tryz.results37, go_sem]) rfl ?_
                  exact ⟨.inr ⟨rfl, rfl⟩, by rw [HBB.out]; exact hbw3⟩
                · obtain ⟨ha, hm⟩ := digR_true HNR.out
                  have hgp : Hostp.groupP (t0 :: t1) = some (Hostp.value 16 (t0 :: t1)) := by
                    unfold Hostp.groupP
                    rw [if_neg]
                    rintro (h | h | h)
                    · cases h
                    · simp at h; omega
                    · rw [ha] at h; cases h
                  obtain ⟨hv0, hv1⟩ := Hostp.groupP_range _ _ hgp
                  have hmv : Hostp.value 16 (t0 :: t1) = m := by omega
                  rw [hmv] at hgp hv0 hv1
                  have hq : q = some m := by rw [← HQ.out, hgp]
                  subst hq
                  have hdq := HD.out
                  simp only [map_app] at hdq
                  have HDQ := hide hdq
                  clear hdq HD hgp hmv hm ha
                  go_wp2_with (at_builtin; refine wpList_append_own _ rfl (.tmp 104) (.tmp 107) 66 rfl M 24 i0 (.int .u16 0) 1 2 Tryz.underlying66 hi0 hz0 hz1 hz2 rfl (by decide) _ _ _ rfl (hown3.alloc _) ⟨w3.heap.size, 0, none⟩ 1 1 [.int .u16 m] rfl rfl (cell_one_new _ _ _) (one16 [m]) ?c3 ?c4 ?c5 ?_)
                  case c3 => unfold maxLen; omega
                  case c4 => omega
                  case c5 => simp; omega
                  intro v' w6 hown6 hgrow _
                  have hb6 : Below M w2 w6 := (hbx3.alloc (by omega) _).grown hgrow (by simp; omega) (fun k hk => (hown3.lt k hk).1)
                  clear hgrow hown3
                  have hown7 : w6.ownsRow M 24 1 v' (acc ++ [m]).length ((acc ++ [m]).map U16) := by
                    rw [List.length_append, List.map_append, hacc]; exact hown6
                  go_wp2_with fail
                  go_roundg (gk - 1)
                  (case measure => omega)
                  (case rel => exact ⟨i + 1, acc ++ [m], by omega, by go_num, by simp [hacc], hown7, hb6, HDQ⟩)
      · have e : i = n := by omega
        subst e
        have hd2 := hd.out
        rw [List.drop_eq_nil_of_le (by rw [HN.out]; exact Nat.le_refl _), Hostp.groupsF, Option.map_some, List.append_nil] at hd2
        subst hd2
        clear hnil hd
        go_wp2_with fail
        refine bodyPost_ret (v := .tuple #[u6, .bool true]) (by simp [results, Tryz.results37, go_sem]) rfl ?_
        rw [HBB.out]
        exact ⟨.inl ⟨acc, u6, rfl, rfl, hown.mono hs2⟩, hbw⟩
end Go.Proofs.YtahjndignkhmoaaGreatDoor
