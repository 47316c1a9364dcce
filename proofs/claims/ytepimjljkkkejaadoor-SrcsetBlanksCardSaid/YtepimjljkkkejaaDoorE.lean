/- The answer's words: a loop that appends to a list of its own. -/
import Derived.Test.YtepimjljkkkejaaDoorD
namespace Go.Proofs.YtepimjljkkkejaaDoor
open Go.RowKit

theorem info_str : (Tryd.prog.info? 9).map (fun i => (i.zero, i.size, i.bytes)) = some (some (.string .empty), 1, 16) := by kernel_rfl

theorem pushW_len (ws : List (List UInt8)) (word : List UInt8) : (Srcp.pushW ws word).length ≤ ws.length + 1 := by
  unfold Srcp.pushW
  split <;> simp
theorem words_count : ∀ (s : List UInt8) (inn : Bool) (word : List UInt8) (ws : List (List UInt8)), (Srcp.words inn word ws s).1.length ≤ ws.length + s.length + 1
  | [], _, word, ws => by simp only [Srcp.words]; exact pushW_len ws word
  | c :: s, inn, word, ws => by
    have h := pushW_len ws word
    unfold Srcp.words
    simp only [List.length_cons]
    split
    · show (Srcp.pushW ws word).length ≤ _; omega
    · split
      · have := words_count s inn [] (Srcp.pushW ws word)
        omega
      · have := words_count s (if c == 40 then true else if c == 41 then false else inn) (word ++ [c]) ws
        omega
theorem pushW_each {ws : List (List UInt8)} {word : List UInt8} {k : Nat} (h : ∀ x ∈ ws, x.length ≤ k) (hw : word.length ≤ k) : ∀ x ∈ Srcp.pushW ws word, x.length ≤ k := by
  intro x hx
  unfold Srcp.pushW at hx
  split at hx
  · exact h x hx
  · rw [List.mem_append] at hx
    rcases hx with hx | hx
    · exact h x hx
    · rw [List.mem_singleton] at hx; subst hx; exact hw
theorem words_each : ∀ (s : List UInt8) (inn : Bool) (word : List UInt8) (ws : List (List UInt8)) (k : Nat), (∀ x ∈ ws, x.length ≤ k) → word.length + s.length ≤ k → ∀ x ∈ (Srcp.words inn word ws s).1, x.length ≤ k
  | [], _, word, ws, k, h1, h2 => by simp only [Srcp.words]; exact pushW_each h1 (by simpa using h2)
  | c :: s, inn, word, ws, k, h1, h2 => by
    simp only [List.length_cons] at h2
    unfold Srcp.words
    split
    · exact pushW_each h1 (by omega)
    · split
      · exact words_each s inn [] _ k (pushW_each h1 (by omega)) (by simp; omega)
      · exact words_each s _ _ ws k h1 (by simp; omega)

/-- words handed back, and where they end -/
def WordsR (ws : List (List UInt8)) (at_ : Int) (w : World) (e : Ending) (w' : World) : Prop :=
  ∃ v, e = .returned (.tuple #[v, .int .i64 at_]) ∧ w'.ownsRow w.heap.size 9 1 v ws.length (ws.map S) ∧ Below w.heap.size w w'

set_option maxHeartbeats 2000000 in
theorem r13words (l : List UInt8) (a : Int) (ws : List (List UInt8)) (r : List UInt8) (w : World) (hl : l.length ≤ 1048576) (h0 : 0 ≤ a) (ha : a ≤ l.length) (hr : Hid (Srcp.words false [] [] (l.drop a.toNat) = (ws, r))) :
    Calls Tryd.prog 18 #[S l, .int .i64 a] w (WordsR ws ((l.length : Int) - r.length) w) := by
  obtain ⟨i0, hi, hz0, hz1, hz2⟩ := info_parts info_str
  obtain ⟨a, rfl⟩ := Int.eq_ofNat_of_zero_le h0
  rw [Int.toNat_natCast] at hr
  clear h0
  go_enter Tryd.func18, Tryd.ntmps18
  go_wp2_with fail
  go_loopg [1, 6, 7, 8] (l.length - a) (fun g s1 s6 s7 s8 wx => ∃ (n : Nat) (inn : Bool) (word : List UInt8) (us : List (List UInt8)), n + g = l.length ∧ s1 = .int .i64 n ∧ wx.ownsRow w.heap.size 9 1 s6 us.length (us.map S) ∧ s7 = S word ∧ s8 = .bool inn ∧
    Hid (Srcp.words inn word us (l.drop n) = (ws, r)) ∧ Below w.heap.size w wx ∧ us.length ≤ n ∧ word.length ≤ n)
  case atStart => exact ⟨a, false, [], [], by omega, rfl, World.ownsRow_nil _ _ _ _, rfl, rfl, hr, Below.refl _ _, by simp, by simp⟩
  case round =>
    obtain ⟨n, inn, word, us, hn, rfl, hown, rfl, rfl, hd, hb, hu, hwl⟩ := hrel
    by_cases hlt : n < l.length
    · obtain ⟨x, hx⟩ : ∃ x, l[n] = x := ⟨_, rfl⟩
      have hdr : l.drop n = x :: l.drop (n + 1) := by rw [← hx]; exact List.drop_eq_getElem_cons hlt
      have e44 : ((x.toNat : Int) == 44) = (x == 44) := u8_eq x 44 (by decide)
      have e40 : ((x.toNat : Int) == 40) = (x == 40) := u8_eq x 40 (by decide)
      have e41 : ((x.toNat : Int) == 41) = (x == 41) := u8_eq x 41 (by decide)
      have hd' := hd.out
      rw [hdr, Srcp.words] at hd'
      have HDR := hide hdr
      clear hd hdr
      cases hA : (!inn && x == 44)
      · rw [hA] at hd'
        cases hB : (!inn && Srcp.sp x)
        · rw [hB] at hd'
          have HD2 := hide (show Srcp.words (if x == 40 then true else if x == 41 then false else inn) (word ++ [x]) us (l.drop (n + 1)) = (ws, r) from hd')
          clear hd'
          have hspc := r13space x wr
          have HSC := hide hspc
          clear hspc
          have hdr := HDR.out
          cases inn with
          | true =>
            clear hA hB e44
            cases h40 : (x == 40) <;> cases h41 : (x == 41) <;> rw [h40] at e40 <;> rw [h41] at e41 <;> have H40 := hide h40 <;> have H41 := hide h41 <;> clear h40 h41
            all_goals try (exfalso; have h1 := eq_of_beq H40.out; have h2 := eq_of_beq H41.out; rw [h1] at h2; exact absurd h2 (by decide))
            all_goals
              go_wp2_with (go_at_call 17; refine (Hid.out HSC).mono ?_; rintro e w' ⟨rfl, rfl⟩)
              go_roundg (gk - 1)
              case measure => omega
              case rel => exact ⟨n + 1, _, word ++ [x], us, by omega, by go_num, hown, by simp, rfl, by unfold Hid; rw [← HD2.out, H40.out, H41.out]; rfl, hb, by omega, by simp; omega⟩
          | false =>
            have h44 : (x == 44) = false := by simpa using hA
            have hsp : Srcp.sp x = false := by simpa using hB
            rw [h44] at e44
            have HSC2 : Hid (Calls Tryd.prog 17 #[B8 x] wr (Ret (.bool false) wr)) := by have := HSC.out; rwa [hsp] at this
            clear hA hB h44 hsp HSC
            cases h40 : (x == 40) <;> cases h41 : (x == 41) <;> rw [h40] at e40 <;> rw [h41] at e41 <;> have H40 := hide h40 <;> have H41 := hide h41 <;> clear h40 h41
            all_goals try (exfalso; have h1 := eq_of_beq H40.out; have h2 := eq_of_beq H41.out; rw [h1] at h2; exact absurd h2 (by decide))
            all_goals
              go_wp2_with (go_at_call 17; refine (Hid.out HSC2).mono ?_; rintro e w' ⟨rfl, rfl⟩)
              go_roundg (gk - 1)
              case measure => omega
              case rel => exact ⟨n + 1, _, word ++ [x], us, by omega, by go_num, hown, by simp, rfl, by unfold Hid; rw [← HD2.out, H40.out, H41.out]; rfl, hb, by omega, by simp; omega⟩
        · rw [hB] at hd'
          have HD2 := hide (show Srcp.words inn [] (Srcp.pushW us word) (l.drop (n + 1)) = (ws, r) from hd')
          clear hd'
          rw [Bool.and_eq_true] at hB
          obtain ⟨hin, hsp⟩ := hB
          have hin' : inn = false := by cases inn; rfl; cases hin
          subst hin'
          have h44 : (x == 44) = false := by simpa using hA
          rw [h44] at e44
          have HSP := hide hsp
          clear hA hin hsp h44 e40 e41
          have hspc := r13space x wr
          rw [HSP.out] at hspc
          have HSC := hide hspc
          clear hspc
          cases word with
          | nil =>
            go_wp2_with (go_at_call 17; refine (Hid.out HSC).mono ?_; rintro e w' ⟨rfl, rfl⟩)
            go_roundg (gk - 1)
            case measure => omega
            case rel => exact ⟨n + 1, false, [], us, by omega, by go_num, hown, rfl, rfl, HD2.out, hb, by omega, by simp⟩
          | cons c word =>
            go_wp2_with (first | (go_at_call 17; refine (Hid.out HSC).mono ?_; rintro e w' ⟨rfl, rfl⟩) | (at_builtin; refine wpList_append_own _ rfl (.tmp 55) (.tmp 57) 31 rfl w.heap.size 9 i0 (.string .empty) 1 16 Tryd.underlying31 hi hz0 hz1 hz2 rfl (by decide) _ _ _ rfl (hown.alloc _) ⟨wr.heap.size, 0, none⟩ 1 1 [S (c :: word)] rfl rfl (cell_one_new _ _ _) ?c2 ?c3 ?c4 ?c5 ?_))
            case c2 => intro u hu; simp at hu; subst hu; rfl
            case c3 => unfold maxLen; omega
            case c4 => omega
            case c5 => have := hb.size; simp; omega
            intro v' w1 hown' hgrow _
            have hb1 : Below w.heap.size w w1 := (hb.alloc hb.size _).grown hgrow (by have := hb.size; simp; omega) (fun k hk => (hown.lt k hk).1)
            have hown2 : w1.ownsRow w.heap.size 9 1 v' (us ++ [c :: word]).length ((us ++ [c :: word]).map S) := by simpa using hown'
            clear hown hown' hgrow
            go_wp2_with fail
            go_roundg (gk - 1)
            case measure => omega
            case rel => exact ⟨n + 1, false, [], us ++ [c :: word], by omega, by go_num, hown2, rfl, rfl, HD2.out, hb1, by simp; omega, by simp⟩
      · rw [hA] at hd'
        have HD2 := hide (show (Srcp.pushW us word, l.drop (n + 1)) = (ws, r) from hd')
        clear hd'
        rw [Bool.and_eq_true] at hA
        obtain ⟨hin, h44⟩ := hA
        have hin' : inn = false := by cases inn; rfl; cases hin
        subst hin'
        rw [h44] at e44
        clear hin h44 e40 e41
        have hr2 : l.drop (n + 1) = r := (Prod.mk.inj HD2.out).2
        have hrl : Hid (((l.length : Int) - r.length) = (n : Int) + 1) := by unfold Hid; rw [← hr2, List.length_drop]; omega
        have HWS : Hid (Srcp.pushW us word = ws) := (Prod.mk.inj HD2.out).1
        clear HD2 hr2
        have hspc := r13space x wr
        have HSC := hide hspc
        clear hspc
        cases word with
        | nil =>
          go_wp2_with (go_at_call 17; refine (Hid.out HSC).mono ?_; rintro e w' ⟨rfl, rfl⟩)
          go_ret2
          exact ⟨_, by rw [hrl.out]; rfl, by rw [← HWS.out]; exact hown, hb⟩
        | cons c word =>
          go_wp2_with (first | (go_at_call 17; refine (Hid.out HSC).mono ?_; rintro e w' ⟨rfl, rfl⟩) | (at_builtin; refine wpList_append_own _ rfl (.tmp 40) (.tmp 42) 31 rfl w.heap.size 9 i0 (.string .empty) 1 16 Tryd.underlying31 hi hz0 hz1 hz2 rfl (by decide) _ _ _ rfl (hown.alloc _) ⟨wr.heap.size, 0, none⟩ 1 1 [S (c :: word)] rfl rfl (cell_one_new _ _ _) ?c2 ?c3 ?c4 ?c5 ?_))
          case c2 => intro u hu; simp at hu; subst hu; rfl
          case c3 => unfold maxLen; omega
          case c4 => omega
          case c5 => have := hb.size; simp; omega
          intro v' w1 hown' hgrow _
          have hb1 : Below w.heap.size w w1 := (hb.alloc hb.size _).grown hgrow (by have := hb.size; simp; omega) (fun k hk => (hown.lt k hk).1)
          have hown2 : w1.ownsRow w.heap.size 9 1 v' (us ++ [c :: word]).length ((us ++ [c :: word]).map S) := by simpa using hown'
          clear hown hown' hgrow
          go_wp2_with fail
          go_ret2
          exact ⟨_, by rw [hrl.out]; rfl, by rw [← HWS.out]; exact hown2, hb1⟩
    · have hdn : l.drop n = [] := List.drop_eq_nil_of_le (by omega)
      have hd' := hd.out
      rw [hdn, Srcp.words] at hd'
      have hrl : Hid (((l.length : Int) - r.length) = (n : Int)) := by unfold Hid; rw [← (Prod.mk.inj hd').2]; simp; omega
      have HWS : Hid (Srcp.pushW us word = ws) := (Prod.mk.inj hd').1
      clear hd' hd hdn
      cases word with
      | nil =>
        go_wp2_with fail
        go_ret2
        exact ⟨_, by rw [hrl.out]; rfl, by rw [← HWS.out]; exact hown, hb⟩
      | cons c word =>
        go_wp2_with (at_builtin; refine wpList_append_own _ rfl (.tmp 63) (.tmp 65) 31 rfl w.heap.size 9 i0 (.string .empty) 1 16 Tryd.underlying31 hi hz0 hz1 hz2 rfl (by decide) _ _ _ rfl (hown.alloc _) ⟨wr.heap.size, 0, none⟩ 1 1 [S (c :: word)] rfl rfl (cell_one_new _ _ _) ?c2 ?c3 ?c4 ?c5 ?_)
        case c2 => intro u hu; simp at hu; subst hu; rfl
        case c3 => unfold maxLen; omega
        case c4 => omega
        case c5 => have := hb.size; simp; omega
        intro v' w1 hown' hgrow _
        have hb1 : Below w.heap.size w w1 := (hb.alloc hb.size _).grown hgrow (by have := hb.size; simp; omega) (fun k hk => (hown.lt k hk).1)
        have hown2 : w1.ownsRow w.heap.size 9 1 v' (us ++ [c :: word]).length ((us ++ [c :: word]).map S) := by simpa using hown'
        clear hown hown' hgrow
        go_wp2_with fail
        go_ret2
        exact ⟨_, by rw [hrl.out]; rfl, by rw [← HWS.out]; exact hown2, hb1⟩
end Go.Proofs.YtepimjljkkkejaaDoor
