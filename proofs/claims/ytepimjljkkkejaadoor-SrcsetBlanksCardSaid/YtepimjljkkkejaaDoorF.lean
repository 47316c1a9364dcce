/- The answer's Parse: the list of candidates in memory of the call's own. -/
import Derived.Test.YtepimjljkkkejaaDoorE
import Derived.Deep.CutBlock
namespace Go.Proofs.YtepimjljkkkejaaDoor
open Go.RowKit

theorem info_cand : (Tryd.prog.info? 26).map (fun i => (i.zero, i.size, i.bytes)) = some (some (.agg #[.string .empty, .int .u8 0, .string .empty]), 3, 40) := by kernel_rfl

/-- the cells of a list of candidates -/
def candCells (l : List Srcp.Cand) : List Value := l.flatMap fun c => [S c.url, B8 c.kind, S c.text]
theorem candCells_append (l m : List Srcp.Cand) : candCells (l ++ m) = candCells l ++ candCells m := by unfold candCells; rw [List.flatMap_append]
theorem candCells_one (c : Srcp.Cand) : candCells [c] = [S c.url, B8 c.kind, S c.text] := rfl

theorem ownsRow_below {w w' : World} {base : Nat} {e : TypeId} {size : Nat} {v : Value} {n : Nat} {xs : List Value} (h : w.ownsRow base e size v n xs) (hb : Below w.heap.size w w') : w'.ownsRow base e size v n xs :=
  h.kept (row := none) ⟨hb.os, hb.tape, hb.output, hb.size, fun k hk _ => hb.block k hk⟩ (by cases v.ownBlock <;> simp)

theorem ownsRow_base {w : World} {b b' : Nat} {e : TypeId} {size : Nat} {v : Value} {n : Nat} {xs : List Value} (h : w.ownsRow b e size v n xs) (hb : b' ≤ b) : w.ownsRow b' e size v n xs := by
  obtain ⟨h1, h2⟩ := h
  refine ⟨h1, ?_⟩
  rcases h2 with h2 | ⟨g, cap, cur, hv, hg, r⟩
  · exact .inl h2
  · exact .inr ⟨g, cap, cur, hv, Nat.le_trans hb hg, r⟩
theorem words_suffix : ∀ (s : List UInt8) (inn : Bool) (word : List UInt8) (us : List (List UInt8)), (Srcp.words inn word us s).2 <:+ s
  | [], _, _, _ => by simp only [Srcp.words]; exact List.suffix_refl _
  | c :: s, inn, word, us => by
    unfold Srcp.words
    split
    · exact List.suffix_cons c s
    · split
      · exact (words_suffix s _ _ _).trans (List.suffix_cons c s)
      · exact (words_suffix s _ _ _).trans (List.suffix_cons c s)
theorem suffix_drop {r l : List UInt8} (h : r <:+ l) : r = l.drop (l.length - r.length) := by
  obtain ⟨t, rfl⟩ := h
  simp

/-- candidates handed back in memory of the call's own -/
def CandsR (l : List Srcp.Cand) (w : World) (e : Ending) (w' : World) : Prop :=
  ∃ v, e = .returned v ∧ w'.ownsRow w.heap.size 26 3 v l.length (candCells l) ∧ Below w.heap.size w w'

theorem drop_cons {l : List UInt8} {n : Nat} {x : UInt8} (h : n < l.length) (hx : l[n] = x) : l.drop n = x :: l.drop (n + 1) := by rw [← hx]; exact List.drop_eq_getElem_cons h

theorem cell_three (w : World) (t : TypeId) (a b c : Value) : ∀ j u, [a, b, c][j]? = some u → (w.alloc (.cells #[a, b, c] t)).cell? ((⟨w.heap.size, 0, none⟩ : Addr).add j) = some u := by
  intro j u hu
  have hadd : (⟨w.heap.size, 0, none⟩ : Addr).add j = ⟨w.heap.size, j, none⟩ := by unfold Addr.add; split <;> simp_all
  rw [hadd, World.cell?_alloc_at _ _ _ _ rfl]
  match j, hu with
  | 0, hu => simpa using hu
  | 1, hu => simpa using hu
  | 2, hu => simpa using hu

set_option maxHeartbeats 4000000 in
set_option maxRecDepth 100000 in
theorem r13Parse (l : List UInt8) (R : List Srcp.Cand) (w : World) (hl : l.length ≤ 1048576) (hR : Hid (Srcp.parse l = R)) :
    Calls Tryd.prog 10 #[S l] w (CandsR R w) := by
  obtain ⟨i0, hi, hz0, hz1, hz2⟩ := info_parts info_cand
  go_enter Tryd.func10, Tryd.ntmps10
  go_wp2_with fail
  go_loopg [3, 4] l.length (fun g s3 s4 wx => ∃ (n : Nat) (out : List Srcp.Cand), n + g = l.length ∧ s4 = .int .i64 n ∧ wx.ownsRow w.heap.size 26 3 s3 out.length (candCells out) ∧ out.length ≤ n ∧
    Hid (R = out ++ Srcp.parse (l.drop n)) ∧ Below w.heap.size w wx)
  case atStart => exact ⟨0, [], by omega, rfl, World.ownsRow_nil _ _ _ _, by simp, hR.out.symm, Below.refl _ _⟩
  case round =>
    obtain ⟨n, out, hn, rfl, hown, ho, hd, hb⟩ := hrel
    obtain ⟨wo, rfl⟩ : ∃ wo : World, wo = wr := ⟨_, rfl⟩
    go_upto_block 2 with fail
    go_cut [4] (fun s4 wx => ∃ n1 : Nat, n ≤ n1 ∧ n1 ≤ l.length ∧ s4 = .int .i64 n1 ∧ Hid ((l.drop n).dropWhile Srcp.skip = l.drop n1) ∧ (∀ h : n1 < l.length, Srcp.skip l[n1] = false) ∧ wo = wx)
    case first =>
      go_wp2_with fail
      go_loopg [4] (l.length - n) (fun g s4 wx => ∃ n1 : Nat, n ≤ n1 ∧ n1 + g = l.length ∧ s4 = .int .i64 n1 ∧ Hid ((l.drop n).dropWhile Srcp.skip = (l.drop n1).dropWhile Srcp.skip) ∧ wo = wx)
      case atStart => exact ⟨n, Nat.le_refl _, by omega, rfl, rfl, rfl⟩
      case round =>
        obtain ⟨n1, h1, h2, rfl, hs, rfl⟩ := hrel
        by_cases hlt : n1 < l.length
        · obtain ⟨x, hx⟩ : ∃ x, l[n1] = x := ⟨_, rfl⟩
          have HD := hide (drop_cons hlt hx)
          have e44 : ((x.toNat : Int) == 44) = (x == 44) := u8_eq x 44 (by decide)
          cases h44 : (x == 44)
          · rw [h44] at e44
            have hspc := r13space x wo
            cases hsp : Srcp.sp x
            · rw [hsp] at hspc
              have HSC := hide hspc
              have HK : Hid (Srcp.skip x = false) := by unfold Hid Srcp.skip; rw [h44, hsp]; rfl
              clear hspc hsp h44
              go_wp2_with (go_at_call 17; refine (Hid.out HSC).mono ?_; rintro e w' ⟨rfl, rfl⟩)
              go_meet
              exact ⟨n1, h1, by omega, rfl, by unfold Hid; rw [hs.out, HD.out, List.dropWhile_cons_of_neg (by rw [HK.out]; decide)], fun _ => by rw [hx]; exact HK.out, rfl⟩
            · rw [hsp] at hspc
              have HSC := hide hspc
              have HK : Hid (Srcp.skip x = true) := by unfold Hid Srcp.skip; rw [h44, hsp]; rfl
              clear hspc hsp h44
              go_wp2_with (go_at_call 17; refine (Hid.out HSC).mono ?_; rintro e w' ⟨rfl, rfl⟩)
              go_roundg (gk - 1)
              case measure => omega
              case rel => exact ⟨n1 + 1, by omega, by omega, by go_num, by unfold Hid; rw [hs.out, HD.out, List.dropWhile_cons_of_pos HK.out], rfl⟩
          · rw [h44] at e44
            have HK : Hid (Srcp.skip x = true) := by unfold Hid Srcp.skip; rw [h44]; rfl
            clear h44
            go_wp2_with fail
            go_roundg (gk - 1)
            case measure => omega
            case rel => exact ⟨n1 + 1, by omega, by omega, by go_num, by unfold Hid; rw [hs.out, HD.out, List.dropWhile_cons_of_pos HK.out], rfl⟩
        · have hdn : Hid (l.drop n1 = []) := List.drop_eq_nil_of_le (by omega)
          go_wp2_with fail
          go_meet
          exact ⟨n1, h1, by omega, rfl, by unfold Hid; rw [hs.out, hdn.out]; rfl, fun h => absurd h hlt, rfl⟩
    case rest =>
      obtain ⟨n1, h1, h2, rfl, hs, hsk, rfl⟩ := hcut
      by_cases hend : n1 = l.length
      · have he : ((n1 : Int) == (l.length : Int)) = true := beq_iff_eq.2 (by omega)
        have HR : Hid (R = out) := by
          unfold Hid
          rw [hd.out, Srcp.parse_nil _ (by rw [hs.out]; exact List.drop_eq_nil_of_le (by omega)), List.append_nil]
        clear hsk hend hd
        go_wp2_with fail
        go_ret
        exact ⟨_, rfl, by rw [HR.out]; exact hown, hb⟩
      · have he : ((n1 : Int) == (l.length : Int)) = false := beq_eq_false_iff_ne.2 (by omega)
        have hlt : n1 < l.length := by omega
        have hsk1 := hsk hlt
        clear hsk
        have HSK := hide hsk1
        clear hsk1 hend
        go_upto_block 4 with fail
        go_cut [4] (fun s4 wx => ∃ n2 : Nat, n1 + 1 ≤ n2 ∧ n2 ≤ l.length ∧ s4 = .int .i64 n2 ∧ Hid ((l.drop n1).dropWhile (fun c => !Srcp.sp c) = l.drop n2) ∧ Hid ((l.drop n1).takeWhile (fun c => !Srcp.sp c) = (l.drop n1).take (n2 - n1)) ∧ wo = wx)
        case first =>
          go_wp2_with fail
          go_loopg [4] (l.length - n1) (fun g s4 wx => ∃ n2 : Nat, n1 ≤ n2 ∧ n2 + g = l.length ∧ s4 = .int .i64 n2 ∧ Hid ((l.drop n1).dropWhile (fun c => !Srcp.sp c) = (l.drop n2).dropWhile (fun c => !Srcp.sp c)) ∧
            Hid ((l.drop n1).takeWhile (fun c => !Srcp.sp c) = (l.drop n1).take (n2 - n1) ++ (l.drop n2).takeWhile (fun c => !Srcp.sp c)) ∧ wo = wx)
          case atStart => exact ⟨n1, Nat.le_refl _, by omega, rfl, rfl, by unfold Hid; simp, rfl⟩
          case round =>
            obtain ⟨n2, h3, h4, rfl, hdw, htw, rfl⟩ := hrel
            by_cases hlt2 : n2 < l.length
            · obtain ⟨x, hx⟩ : ∃ x, l[n2] = x := ⟨_, rfl⟩
              have HD := hide (drop_cons hlt2 hx)
              have hspc := r13space x wo
              have hnx : Hid (Srcp.sp x = true → n1 + 1 ≤ n2) := fun h => by
                rcases Nat.lt_or_ge n1 n2 with hh | hh
                · exact hh
                · have : n1 = n2 := by omega
                  subst this
                  rw [hx] at HSK
                  rw [Srcp.sp_of_skip HSK.out] at h
                  cases h
              cases hsp : Srcp.sp x
              · rw [hsp] at hspc
                have HSC := hide hspc
                have HP := hide hsp
                clear hspc hsp hnx
                go_wp2_with (go_at_call 17; refine (Hid.out HSC).mono ?_; rintro e w' ⟨rfl, rfl⟩)
                go_roundg (gk - 1)
                case measure => omega
                case rel =>
                  refine ⟨n2 + 1, by omega, by omega, by go_num, ?_, ?_, rfl⟩
                  · unfold Hid; rw [hdw.out, HD.out, List.dropWhile_cons_of_pos (by simp [HP.out])]
                  · unfold Hid
                    rw [htw.out, HD.out, List.takeWhile_cons_of_pos (by simp [HP.out])]
                    have e : n2 + 1 - n1 = (n2 - n1) + 1 := by omega
                    rw [e, List.take_add_one, List.append_assoc]
                    congr 1
                    rw [List.getElem?_drop, show n1 + (n2 - n1) = n2 by omega, List.getElem?_eq_getElem hlt2, hx]
                    rfl
              · have hn1 := hnx hsp
                rw [hsp] at hspc
                have HSC := hide hspc
                have HP := hide hsp
                clear hspc hsp hnx
                go_wp2_with (go_at_call 17; refine (Hid.out HSC).mono ?_; rintro e w' ⟨rfl, rfl⟩)
                go_meet
                exact ⟨n2, hn1, by omega, rfl, by unfold Hid; rw [hdw.out, HD.out, List.dropWhile_cons_of_neg (by simp [HP.out])], by unfold Hid; rw [htw.out, HD.out, List.takeWhile_cons_of_neg (by simp [HP.out]), List.append_nil], rfl⟩
            · have hdn : Hid (l.drop n2 = []) := List.drop_eq_nil_of_le (by omega)
              go_wp2_with fail
              go_meet
              exact ⟨n2, by omega, by omega, rfl, by unfold Hid; rw [hdw.out, hdn.out]; rfl, by unfold Hid; rw [htw.out, hdn.out]; simp, rfl⟩
        case rest =>
          obtain ⟨n2, h3, h4, rfl, hdw, htw, rfl⟩ := hcut
          go_upto_block 6 with fail
          go_cut [6] (fun s6 wx => ∃ n3 : Nat, n1 ≤ n3 ∧ n3 ≤ n2 ∧ s6 = .int .i64 n3 ∧ Hid (Srcp.trimC ((l.drop n1).take (n2 - n1)) = (l.drop n1).take (n3 - n1)) ∧ wo = wx)
          case first =>
            go_wp2_with fail
            go_loopg [6] (n2 - n1) (fun g s6 wx => ∃ n3 : Nat, n1 + g = n3 ∧ n3 ≤ n2 ∧ s6 = .int .i64 n3 ∧ Hid (Srcp.trimC ((l.drop n1).take (n2 - n1)) = Srcp.trimC ((l.drop n1).take (n3 - n1))) ∧ wo = wx)
            case atStart => exact ⟨n2, by omega, Nat.le_refl _, rfl, rfl, rfl⟩
            case round =>
              obtain ⟨n3, h5, h6, rfl, ht, rfl⟩ := hrel
              by_cases hz : n1 < n3
              · have hn3 : n3 - 1 < l.length := by omega
                obtain ⟨x, hx⟩ : ∃ x, l[n3 - 1] = x := ⟨_, rfl⟩
                have HTK : Hid ((l.drop n1).take (n3 - n1) = (l.drop n1).take (n3 - 1 - n1) ++ [x]) := by
                  unfold Hid
                  have e : n3 - n1 = (n3 - 1 - n1) + 1 := by omega
                  rw [e, List.take_add_one, List.getElem?_drop, show n1 + (n3 - 1 - n1) = n3 - 1 by omega, List.getElem?_eq_getElem hn3, hx]
                  rfl
                have e44 : ((x.toNat : Int) == 44) = (x == 44) := u8_eq x 44 (by decide)
                have hix : (0 : Int) ≤ (n3 : Int) - 1 ∧ ((n3 : Int) - 1 < (l.length : Int)) := ⟨by omega, by omega⟩
                cases h44 : (x == 44)
                · rw [h44] at e44
                  have H44 := hide h44
                  clear h44
                  go_wp2_with fail
                  go_meet
                  refine ⟨n3, by omega, h6, rfl, ?_, rfl⟩
                  unfold Hid
                  rw [ht.out]
                  refine Srcp.trimC_eq_of_last ?_
                  rw [HTK.out]
                  simp only [List.getLast?_append, List.getLast?_singleton, Option.some_or]
                  intro e
                  injection e with e
                  rw [e] at H44
                  exact absurd H44.out (by decide)
                · rw [h44] at e44
                  have H44 := hide (eq_of_beq h44)
                  clear h44
                  go_wp2_with fail
                  go_roundg (gk - 1)
                  case measure => omega
                  case rel =>
                    refine ⟨n3 - 1, by omega, by omega, by go_num, ?_, rfl⟩
                    unfold Hid
                    rw [ht.out, HTK.out, H44.out]
                    unfold Srcp.trimC
                    simp
              · have h0 : n3 = n1 := by omega
                subst h0
                go_wp2_with fail
                go_meet
                refine ⟨n3, Nat.le_refl _, h6, rfl, ?_, rfl⟩
                unfold Hid
                rw [ht.out]
                simp [Srcp.trimC]
          case rest =>
            obtain ⟨n3, h5, h6, rfl, ht, rfl⟩ := hcut
            have hown' := hown
            go_upto_if 62 with fail
            go_cut [4, 7] (fun s4 s7 wx => ∃ (n4 : Nat) (ws : List (List UInt8)), n1 + 1 ≤ n4 ∧ n4 ≤ l.length ∧ s4 = .int .i64 n4 ∧ wx.ownsRow w.heap.size 9 1 s7 ws.length (ws.map S) ∧ (∀ x ∈ ws, x.length ≤ maxLen) ∧
              Hid (Srcp.one (l.drop n1) = (Srcp.described ((l.drop n1).take (n3 - n1)) ws, l.drop n4)) ∧ wx.ownsRow w.heap.size 26 3 u3 out.length (candCells out) ∧ Below w.heap.size w wx)
            case first =>
              by_cases h32 : n3 = n2
              · subst h32
                have he2 : ((n3 : Int) == (n3 : Int)) = true := beq_iff_eq.2 rfl
                obtain ⟨⟨ws, r⟩, hwr⟩ : ∃ q, Srcp.words false [] [] (l.drop n3) = q := ⟨_, rfl⟩
                have hsx := words_suffix (l.drop n3) false [] []
                have hea := words_each (l.drop n3) false [] [] l.length (by simp) (by simp)
                rw [hwr] at hsx hea
                have hsx' : r <:+ l := hsx.trans (List.drop_suffix _ _)
                have hrl : r.length ≤ l.length - n3 := by have := hsx.length_le; rwa [List.length_drop] at this
                have HW : Hid (Srcp.words false [] [] (l.drop (n3 : Int).toNat) = (ws, r)) := hwr
                have HW2 := hide hwr
                clear hwr
                go_wp2_with fail
                refine (r13words l n3 ws r _ hl (by omega) (by omega) HW).mono ?_
                rintro e w1 ⟨v, rfl, hown1, hb1⟩
                go_wp2_with fail
                go_meet
                refine ⟨l.length - r.length, ws, by omega, by omega, by go_num, ownsRow_base hown1 hb.size, fun x hx => Nat.le_trans (hea x hx) (by unfold maxLen; omega), ?_, ownsRow_below hown hb1, hb.trans (hb1.mono hb.size)⟩
                unfold Hid Srcp.one
                dsimp only
                rw [htw.out, hdw.out, ht.out, if_pos rfl, HW2.out, ← suffix_drop hsx']
              · have he2 : ((n3 : Int) == (n2 : Int)) = false := beq_eq_false_iff_ne.2 (by omega)
                go_wp2_with fail
                go_meet
                refine ⟨n2, [], h3, h4, rfl, World.ownsRow_nil _ _ _ _, by simp, ?_, hown, hb⟩
                unfold Hid Srcp.one
                dsimp only
                rw [htw.out, hdw.out, ht.out, if_neg]
                intro e
                have := congrArg List.length e
                simp only [List.length_take, List.length_drop] at this
                omega
            case rest =>
              obtain ⟨n4, ws, h7, h8, rfl, hownw, hwl, hone, hown2, hb2⟩ := hcut
              have HP : Hid (Srcp.parse (l.drop n) = (Srcp.described ((l.drop n1).take (n3 - n1)) ws).toList ++ Srcp.parse (l.drop n4)) := by
                unfold Hid
                have hne : (l.drop n).dropWhile Srcp.skip ≠ [] := by
                  have hdn := drop_cons (x := l[n1]) hlt rfl
                  rw [hs.out, hdn]; exact List.cons_ne_nil _ _
                rw [Srcp.parse_cons _ hne, hs.out, hone.out]
              clear hown hown' hb hone hdw htw ht hs HSK
              go_wp2_with fail
              refine (r13described ((l.drop n1).take (n3 - n1)) ws w.heap.size _ _ hownw hwl).mono ?_
              rintro e w2 ⟨c0, rfl, hc0, hb3⟩
              have hb4 := hb2.trans (hb3.mono hb2.size)
              have hown3 := ownsRow_below hown2 hb3
              cases hdc : Srcp.described ((l.drop n1).take (n3 - n1)) ws with
              | none =>
                have HR2 : Hid (R = out ++ Srcp.parse (l.drop n4)) := by unfold Hid; rw [hd.out, HP.out, hdc]; rfl
                clear hc0 hd HP hown2 hownw
                go_wp2_with fail
                go_roundg (l.length - n4)
                case measure => omega
                case rel => exact ⟨n4, out, by omega, by first | rfl | go_num, hown3.alloc _, by omega, HR2.out, hb4.alloc hb4.size _⟩
              | some c =>
                rw [hdc] at hc0
                have hcc : c0 = c := by
                  rcases hc0 with h | h
                  · cases h
                  · injection h with h; exact h.symm
                subst hcc
                have HR2 : Hid (R = (out ++ [c0]) ++ Srcp.parse (l.drop n4)) := by unfold Hid; rw [hd.out, HP.out, hdc, List.append_assoc]; rfl
                clear hc0 hd HP hown2 hownw hdc
                go_wp2_with (at_builtin; refine wpList_append_own _ rfl (.tmp 79) (.tmp 81) 22 rfl w.heap.size 26 i0 (.agg #[.string .empty, .int .u8 0, .string .empty]) 3 40 Tryd.underlying22 hi hz0 hz1 hz2 rfl (by decide) _ _ _ rfl ((hown3.alloc _).alloc _) ⟨w2.heap.size + 1, 0, none⟩ 1 1 [S c0.url, B8 c0.kind, S c0.text] rfl rfl ?c1 ?c2 ?c3 ?c4 ?c5 ?_)
                case c1 =>
                  have := cell_three (w2.alloc (.cells #[S c0.url, B8 c0.kind, S c0.text] 26)) 26 (S c0.url) (B8 c0.kind) (S c0.text)
                  simpa using this
                case c2 => intro u hu; simp at hu; rcases hu with rfl | rfl | rfl <;> rfl
                case c3 => unfold maxLen; omega
                case c4 => omega
                case c5 => have := hb4.size; simp; omega
                intro v' w3 hown' hgrow _
                have hb5 : Below w.heap.size w w3 := ((hb4.alloc hb4.size _).alloc (by have := hb4.size; simp; omega) _).grown hgrow (by have := hb4.size; simp; omega) (fun k hk => (hown3.lt k hk).1)
                have hown4 : w3.ownsRow w.heap.size 26 3 v' (out ++ [c0]).length (candCells (out ++ [c0])) := by rw [candCells_append, candCells_one]; simpa using hown'
                clear hown3 hown' hgrow
                go_wp2_with fail
                go_roundg (l.length - n4)
                case measure => omega
                case rel => exact ⟨n4, out ++ [c0], by omega, by first | rfl | go_num, hown4, by simp; omega, HR2.out, hb5⟩
end Go.Proofs.YtepimjljkkkejaaDoor
