/- The srcset package's leaves: a word's digits (whole), what is a number. -/
import Derived.Test.YtepimjljkkkejaaDoorA
import Derived.Test.YtepimjljkkkejaaDoorLib
import Derived.Deep.DeepCutAuto
namespace Go.Proofs.YtepimjljkkkejaaDoor
open Go.RowKit

abbrev DIG : List UInt8 := [48, 49, 50, 51, 52, 53, 54, 55, 56, 57]
theorem dig_contains (c : UInt8) : DIG.contains c = Srcp.dig c := by
  have all : ∀ n : Fin 256, DIG.contains (UInt8.ofNat n.val) = Srcp.dig (UInt8.ofNat n.val) := by decide +kernel
  have e : UInt8.ofNat c.toNat = c := by simp
  have := all ⟨c.toNat, c.toNat_lt⟩
  simpa only [e] using this
theorem trimLeftS_dig (l : List UInt8) : Lib.trimLeftS l DIG = l.dropWhile Srcp.dig := by
  unfold Lib.trimLeftS
  congr 1
  funext c
  exact dig_contains c
theorem dropWhile_nil {p : UInt8 → Bool} : ∀ l : List UInt8, l.dropWhile p = [] ↔ l.all p = true
  | [] => by simp
  | a :: l => by
    by_cases h : p a = true
    · rw [List.dropWhile_cons_of_pos h, dropWhile_nil l]; simp [h]
    · rw [List.dropWhile_cons_of_neg h]; simp [h]
theorem trimS_nil (l cs : List UInt8) : Lib.trimS l cs = [] ↔ l.all (cs.contains ·) = true := by
  unfold Lib.trimS Lib.trimLeftS Lib.trimRightS
  rw [dropWhile_nil]
  have key : ∀ r : List UInt8, (r.dropWhile (cs.contains ·)).all (cs.contains ·) = true ↔ r.all (cs.contains ·) = true := by
    intro r
    induction r with
    | nil => simp
    | cons a r ih =>
      by_cases h : cs.contains a = true
      · rw [List.dropWhile_cons_of_pos h, ih, List.all_cons, h, Bool.true_and]
      · rw [List.dropWhile_cons_of_neg h]
  rw [List.all_reverse, key, List.all_reverse]
theorem cut_lib (l : List UInt8) (c : UInt8) : Srcp.cut l c = if Lib.hasSuffix l [c] then some (Lib.trimSuffix l [c]) else none := by
  have h : Lib.hasSuffix l [c] = true ↔ l.getLast? = some c := by
    unfold Lib.hasSuffix
    rw [List.isSuffixOf_iff_suffix]
    constructor
    · rintro ⟨t, rfl⟩; simp
    · intro h
      exact ⟨l.dropLast, (List.getLast?_eq_some_iff.1 h).elim fun t ht => by rw [ht]; simp⟩
  unfold Srcp.cut Lib.trimSuffix
  by_cases hl : l.getLast? = some c
  · rw [if_pos hl, if_pos (h.2 hl), if_pos (h.2 hl), List.dropLast_eq_take]; rfl
  · rw [if_neg hl, if_neg (fun hh => hl (h.1 hh))]

/-- a word's digits, if these are all, and not nought, and it ends so -/
theorem pwhole (l d : List UInt8) (c : UInt8) (b : Bool) (w : World) (hl : l.length ≤ maxLen) (hd : Hid (Lib.trimSuffix l [c] = d)) (hb : Hid ((Srcp.wh l c).isSome = b)) :
    Calls Tryd.prog 29 #[S l, S [c]] w (Fresh (.tuple #[S d, .bool b]) w) := by
  have hdl : d.length ≤ maxLen := by rw [← hd.out]; exact Nat.le_trans (Lib.trimSuffix_le l [c]) hl
  have hc := cut_lib l c
  cases hs : Lib.hasSuffix l [c]
  · have H0 : Hid (b = false) := by
      unfold Hid
      rw [← hb.out]; unfold Srcp.wh; rw [hc, hs]; rfl
    have HS := hide hs
    clear hs hc
    go_enter Tryd.func29, Tryd.ntmps29
    go_wp2_with (go_at_call 30; refine (cutSuffix' l [c] d false _ hl hd HS).mono ?_; rintro e w' ⟨rfl, rfl⟩)
    go_ret2
    exact ⟨by rw [H0.out]; rfl, Below.refl _ _⟩
  · rw [hs, if_pos rfl, hd.out] at hc
    have hw : Srcp.wh l c = if Srcp.whole d then some d else none := by unfold Srcp.wh; rw [hc]
    have h1 : Lib.trimS d DIG = [] ↔ d.all Srcp.dig = true := by
      rw [trimS_nil, show (fun x => DIG.contains x) = Srcp.dig from funext dig_contains]
    have h2 : Lib.trimS d [48] = [] ↔ d.any (fun c => c != 48) = false := by
      rw [trimS_nil, show (fun x => [(48 : UInt8)].contains x) = (fun x => x == 48) from funext fun x => Lib.contains_one 48 x]
      rw [List.all_eq_true, List.any_eq_false]
      simp
    have HS := hide hs
    obtain ⟨r1, e1⟩ : ∃ r, Lib.trimS d DIG = r := ⟨_, rfl⟩
    obtain ⟨r2, e2⟩ : ∃ r, Lib.trimS d [48] = r := ⟨_, rfl⟩
    rw [e1] at h1
    rw [e2] at h2
    have E1 := hide e1
    have E2 := hide e2
    clear e1 e2 hs hc
    have HW : Hid (b = (d.all Srcp.dig && d.any (fun c => c != 48))) := by
      unfold Hid
      rw [← hb.out, hw]
      show _ = Srcp.whole d
      cases Srcp.whole d <;> rfl
    clear hw
    cases r1 with
    | cons a r1 =>
      have H0 : Hid (b = false) := by
        unfold Hid
        rw [HW.out]
        cases hda : d.all Srcp.dig
        · rfl
        · exact absurd (h1.2 hda) (by simp)
      clear h1 h2
      go_enter Tryd.func29, Tryd.ntmps29
      go_wp2_with (first
        | (go_at_call 30; refine (cutSuffix' l [c] d true _ hl hd HS).mono ?_; rintro e w' ⟨rfl, rfl⟩)
        | (go_at_call 52; refine (trimBoth' d DIG _ _ hdl (by decide) (by decide) E1).mono ?_; rintro e w1 ⟨rfl, hb1⟩))
      go_ret2
      exact ⟨by rw [H0.out]; rfl, hb1⟩
    | nil =>
      have H1 := hide (h1.1 rfl)
      clear h1
      cases r2 with
      | nil =>
        have H0 : Hid (b = false) := by
          unfold Hid
          rw [HW.out, h2.1 rfl, Bool.and_false]
        clear h2
        go_enter Tryd.func29, Tryd.ntmps29
        go_wp2_with (go_at_call 30; refine (cutSuffix' l [c] d true _ hl hd HS).mono ?_; rintro e w' ⟨rfl, rfl⟩)
        refine (trimBoth' d DIG _ _ hdl (by decide) (by decide) E1).mono ?_
        rintro e w1 ⟨rfl, hb1⟩
        go_wp2_with fail
        refine (trimBoth' d [48] _ _ hdl (by decide) (by decide) E2).mono ?_
        rintro e w2 ⟨rfl, hb2⟩
        go_wp2_with fail
        go_ret2
        exact ⟨by rw [H0.out]; rfl, hb1.trans (hb2.mono hb1.size)⟩
      | cons a r2 =>
        have H0 : Hid (b = true) := by
          unfold Hid
          rw [HW.out, H1.out]
          cases hda : d.any (fun c => c != 48)
          · exact absurd (h2.2 hda) (by simp)
          · rfl
        clear h2
        go_enter Tryd.func29, Tryd.ntmps29
        go_wp2_with (go_at_call 30; refine (cutSuffix' l [c] d true _ hl hd HS).mono ?_; rintro e w' ⟨rfl, rfl⟩)
        refine (trimBoth' d DIG _ _ hdl (by decide) (by decide) E1).mono ?_
        rintro e w1 ⟨rfl, hb1⟩
        go_wp2_with fail
        refine (trimBoth' d [48] _ _ hdl (by decide) (by decide) E2).mono ?_
        rintro e w2 ⟨rfl, hb2⟩
        go_wp2_with fail
        go_ret2
        exact ⟨by rw [H0.out]; rfl, hb1.trans (hb2.mono hb1.size)⟩

/-! ### numbers -/
theorem e_int (x : UInt8) : (Go.bits .or .u8 (x.toNat : Int) 32 == 101) = (x == 101 || x == 69) := by
  have all : ∀ n : Fin 256, (Go.bits .or .u8 ((UInt8.ofNat n.val).toNat : Int) 32 == 101) = ((UInt8.ofNat n.val) == 101 || (UInt8.ofNat n.val) == 69) := by decide +kernel
  have e : UInt8.ofNat x.toNat = x := by simp
  have := all ⟨x.toNat, x.toNat_lt⟩
  simpa only [e] using this

theorem dw_eq (l : List UInt8) : (l.dropWhile Srcp.dig == l) = (Srcp.digits l == 0) := by
  cases l with
  | nil => rfl
  | cons a l =>
    by_cases h : Srcp.dig a = true
    · have h1 : Srcp.digits (a :: l) ≠ 0 := by simp [Srcp.digits, List.takeWhile_cons_of_pos h]
      rw [List.dropWhile_cons_of_pos h, beq_eq_false_iff_ne.2 h1, beq_eq_false_iff_ne]
      intro e
      have := congrArg List.length e
      have h2 := Srcp.dropWhile_len Srcp.dig l
      simp only [List.length_cons] at this
      omega
    · rw [List.dropWhile_cons_of_neg h]
      have h1 : Srcp.digits (a :: l) = 0 := by simp [Srcp.digits, List.takeWhile_cons_of_neg h]
      rw [h1]; simp
theorem hasPrefix_dot (r : List UInt8) : Lib.hasPrefix r [46] = true ↔ ∃ t, r = 46 :: t := by
  unfold Lib.hasPrefix
  cases r with
  | nil => simp [List.isPrefixOf]
  | cons a r => simp [List.isPrefixOf]; exact eq_comm
theorem number_dot (l t : List UInt8) (h : l.dropWhile Srcp.dig = 46 :: t) : Srcp.number l = (!(t.dropWhile Srcp.dig == t) && Srcp.power (t.dropWhile Srcp.dig)) := by
  unfold Srcp.number
  rw [h, dw_eq]
  rfl
theorem number_no (l r : List UInt8) (h : l.dropWhile Srcp.dig = r) (hn : Lib.hasPrefix r [46] = false) : Srcp.number l = (!(r == l) && Srcp.power r) := by
  have hx : ∀ t, r ≠ 46 :: t := fun t e => by rw [(hasPrefix_dot r).2 ⟨t, e⟩] at hn; cases hn
  subst h
  rw [dw_eq]
  unfold Srcp.number
  dsimp only
  split
  · rename_i t e; exact absurd e (hx t)
  · rfl

/-- what stands behind a sign -/
def Srcp.unsign (r : List UInt8) : List UInt8 := match r with | d :: t => if d == 43 || d == 45 then t else r | [] => r
theorem power_cons (c : UInt8) (r : List UInt8) : Srcp.power (c :: r) = ((c == 101 || c == 69) && (Srcp.unsign r != [] && (Srcp.unsign r).all Srcp.dig)) := by
  cases r <;> rfl
theorem sign_index (d : UInt8) : decide ((0 : Int) ≤ Lib.indexByte [43, 45] d) = (d == 43 || d == 45) := by
  rw [← Lib.contains_iff_indexByte]
  simp only [List.contains, List.elem]
  cases d == 43 <;> cases d == 45 <;> rfl

set_option maxHeartbeats 1000000 in
theorem pnumber (l : List UInt8) (b : Bool) (w : World) (hl : l.length ≤ maxLen) (hb : Hid (Srcp.number l = b)) :
    Calls Tryd.prog 31 #[S l] w (Fresh (.bool b) w) := by
  obtain ⟨r0, e0⟩ : ∃ r, Lib.trimLeftS l DIG = r := ⟨_, rfl⟩
  obtain ⟨t, et⟩ : ∃ r, Lib.trimPrefix r0 [46] = r := ⟨_, rfl⟩
  obtain ⟨is, ei⟩ : ∃ r, Lib.hasPrefix r0 [46] = r := ⟨_, rfl⟩
  obtain ⟨r1, e1⟩ : ∃ r, Lib.trimLeftS t DIG = r := ⟨_, rfl⟩
  have E0 := hide e0
  have E1 := hide e1
  have ET := hide et
  have EI := hide ei
  have hr0 : r0.length ≤ l.length := by rw [← e0]; exact Srcp.dropWhile_len _ _
  have ht : t.length ≤ r0.length := by rw [← et]; exact Lib.trimPrefix_le _ _
  have hr1 : r1.length ≤ t.length := by rw [← e1]; exact Srcp.dropWhile_len _ _
  clear e0 et ei e1
  go_enter Tryd.func31, Tryd.ntmps31
  go_wp2_with fail
  refine (trimLeft' l DIG r0 _ (by decide) (by decide) E0).mono ?_
  rintro e w1 ⟨rfl, hb1⟩
  go_wp2_with fail
  refine (cutPrefix' r0 [46] t is _ ET EI).mono ?_
  rintro e w' ⟨rfl, rfl⟩
  go_upto_if 18 with fail
  go_cut [3, 4] (fun s3 s4 wx => ∃ (rest : List UInt8) (some_ : Bool), s3 = S rest ∧ s4 = .bool some_ ∧ Hid (b = (some_ && Srcp.power rest)) ∧ rest.length ≤ l.length ∧ Below w.heap.size w wx)
  case first =>
    cases is
    · go_wp2_with fail
      go_meet
      refine ⟨r0, _, rfl, rfl, ?_, hr0, hb1⟩
      unfold Hid
      rw [← hb.out, number_no l r0 (by rw [← trimLeftS_dig]; exact E0.out) EI.out]
    · go_wp2_with fail
      refine (trimLeft' t DIG r1 _ (by decide) (by decide) E1).mono ?_
      rintro e w2 ⟨rfl, hb2⟩
      go_wp2_with fail
      go_meet
      refine ⟨r1, _, rfl, rfl, ?_, by omega, hb1.trans (hb2.mono hb1.size)⟩
      unfold Hid
      obtain ⟨t', ht'⟩ := (hasPrefix_dot r0).1 EI.out
      have e46 : t' = t := by
        rw [← ET.out, ht']
        simp [Lib.trimPrefix, Lib.hasPrefix]
      subst e46
      rw [← hb.out, number_dot l t' (by rw [← trimLeftS_dig, E0.out]; exact ht'), ← trimLeftS_dig, E1.out]
  case rest =>
    obtain ⟨rest, sm, rfl, rfl, HB, hrl, hbl⟩ := hcut
    clear hb1 hr0 ht hr1 E0 ET EI E1
    cases sm
    · go_wp2_with fail
      go_ret
      exact ⟨by rw [HB.out]; rfl, hbl⟩
    · cases rest with
      | nil =>
        go_wp2_with fail
        go_ret
        exact ⟨by rw [HB.out]; rfl, hbl⟩
      | cons c r =>
        have hce := e_int c
        have HB2 : Hid (b = ((c == 101 || c == 69) && (Srcp.unsign r != [] && (Srcp.unsign r).all Srcp.dig))) := by
          unfold Hid; rw [HB.out, power_cons, Bool.true_and]
        clear HB
        cases hc : (c == 101 || c == 69)
        · rw [hc] at hce
          have HC := hide hc
          clear hc
          go_wp2_with fail
          go_ret
          exact ⟨by rw [HB2.out, HC.out]; rfl, hbl⟩
        · rw [hc] at hce
          have HC := hide hc
          clear hc
          obtain ⟨q, eq⟩ : ∃ q, Srcp.unsign r = q := ⟨_, rfl⟩
          obtain ⟨u, eu⟩ : ∃ u, Lib.trimLeftS q DIG = u := ⟨_, rfl⟩
          have EU := hide eu
          have hbu : b = (!(u == q) && u.isEmpty) := by
            rw [HB2.out, HC.out, Bool.true_and, eq, ← eu, trimLeftS_dig]
            cases q with
            | nil => rfl
            | cons a q =>
              cases hq : (a :: q).all Srcp.dig
              · have : (a :: q).dropWhile Srcp.dig ≠ [] := fun h => by rw [(dropWhile_nil _).1 h] at hq; cases hq
                cases hd : (a :: q).dropWhile Srcp.dig with
                | nil => exact absurd hd this
                | cons _ _ => simp
              · have := (dropWhile_nil _).2 hq
                rw [this]; rfl
          have HBU := hide hbu
          have huq : u.length ≤ l.length := by
            have h1 : u.length ≤ q.length := by rw [← eu]; exact Srcp.dropWhile_len _ _
            have h2 : q.length ≤ r.length := by
              rw [← eq]
              cases r with
              | nil => simp [Srcp.unsign]
              | cons d r => simp only [Srcp.unsign]; split <;> simp
            simp only [List.length_cons] at hrl
            omega
          clear eu hbu HB2 HC hb
          cases r with
          | nil =>
            have hq : q = [] := by rw [← eq]; rfl
            subst hq
            go_wp2_with fail
            refine (trimLeft' [] DIG u _ (by decide) (by decide) EU).mono ?_
            rintro e w2 ⟨rfl, hb2⟩
            cases u <;> go_wp2_with fail
            all_goals go_ret
            all_goals exact ⟨by rw [HBU.out]; rfl, hbl.trans (hb2.mono hbl.size)⟩
          | cons d r =>
            obtain ⟨n, en⟩ : ∃ n, Lib.indexByte [43, 45] d = n := ⟨_, rfl⟩
            have hsg := sign_index d
            rw [en] at hsg
            have EN := hide en
            clear en
            cases hd : (d == 43 || d == 45)
            · have hn : ¬ ((0 : Int) ≤ n) := of_decide_eq_false (hsg.trans hd)
              have hq : q = d :: r := by rw [← eq, Srcp.unsign, if_neg (by rw [hd]; decide)]
              subst hq
              clear hsg hd eq
              go_wp2_with fail
              refine (indexByte' [43, 45] d n _ EN).mono ?_
              rintro e w' ⟨rfl, rfl⟩
              go_wp2_with fail
              refine (trimLeft' (d :: r) DIG u _ (by decide) (by decide) EU).mono ?_
              rintro e w2 ⟨rfl, hb2⟩
              go_wp2_with fail
              all_goals go_ret
              all_goals refine ⟨?_, hbl.trans (hb2.mono hbl.size)⟩
              all_goals rw [HBU.out]
              all_goals first | rfl | simp_all
            · have hn : (0 : Int) ≤ n := of_decide_eq_true (hsg.trans hd)
              have hq : q = r := by rw [← eq, Srcp.unsign, if_pos hd]
              subst hq
              clear hsg hd eq
              go_wp2_with fail
              refine (indexByte' [43, 45] d n _ EN).mono ?_
              rintro e w' ⟨rfl, rfl⟩
              go_wp2_with fail
              refine (trimLeft' q DIG u _ (by decide) (by decide) EU).mono ?_
              rintro e w2 ⟨rfl, hb2⟩
              go_wp2_with fail
              all_goals go_ret
              all_goals refine ⟨?_, hbl.trans (hb2.mono hbl.size)⟩
              all_goals rw [HBU.out]
              all_goals first | rfl | simp_all
end Go.Proofs.YtepimjljkkkejaaDoor
