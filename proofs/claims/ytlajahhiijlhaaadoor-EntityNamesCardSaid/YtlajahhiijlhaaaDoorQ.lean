/- The law EntityNames. -/
import Derived.Test.YtlajahhiijlhaaaDoorP
import Derived.Test.YtlajahhiijlhaaaDoorEnt2
import Derived.Deep.RegionHeld3
import Derived.Laws.Cover4
import Derived.Deep.DeepCutAuto
namespace Go.Proofs.YtlajahhiijlhaaaDoor
open Go.RowKit

theorem Tab.drew {w : World} (h : Tab w) : Tab w.drew := ⟨h.win, h.max⟩
theorem conv_rune (w : World) (z : Int) (l : List UInt8) (hl : Utf8.encode z = ⟨l.toArray⟩) :
    Sem.run Tryd.prog (convert 36 9 (.slice (some ⟨w.heap.size, 0, none⟩) 1 1)) (w.alloc (.cells #[.int .i32 z] 21)) = .ok (S l) (w.alloc (.cells #[.int .i32 z] 21)) := by
  have h := run_convert_runes (P := Tryd.prog) (w.alloc (.cells #[.int .i32 z] 21)) 36 9 21 ⟨w.heap.size, 0, none⟩ 1 1 [z] (by simp) Tryd.underlying36 Tryd.underlying21 Tryd.underlying9 (fun j hj => by
    have : j = 0 := by simp at hj; omega
    subst this
    rw [show (⟨w.heap.size, 0, none⟩ : Addr).add 0 = ⟨w.heap.size, 0, none⟩ by simp [Addr.add], World.cell?_alloc_at _ _ _ _ rfl]
    rfl)
  rw [h]
  have e : runesBytes (List.take 1 [z]) = ⟨l.toArray⟩ := by
    show ByteArray.empty ++ Utf8.encode z = _
    rw [hl, show (ByteArray.empty : ByteArray) = ⟨([] : List UInt8).toArray⟩ from rfl, bl_append]
    rfl
  rw [e]

theorem decode_len (attr : Bool) : ∀ (n : Nat) (s : List UInt8), s.length ≤ n → (Entp.decode s attr).length ≤ 8 * s.length
  | 0, s, h => by
    have : s = [] := List.eq_nil_of_length_eq_zero (by omega)
    subst this
    rw [Entp.decode_no attr [] (by simp)]; simp
  | n + 1, s, h => by
    rcases Entp.part s with hno | ⟨a, r, rfl, ha⟩
    · rw [Entp.decode_no attr s hno]; omega
    · rw [Entp.decode_at attr a r ha]
      have h1 := Entp.step_pos r attr
      have h2 := (step_le r attr).2
      simp only [List.length_append, List.length_cons] at h
      have h3 := decode_len attr n ((38 :: r).drop (Entp.step r attr).1) (by rw [List.length_drop, List.length_cons]; omega)
      rw [List.length_drop, List.length_cons] at h3
      simp only [List.length_append, List.length_cons]
      omega

set_option maxRecDepth 100000 in
set_option maxHeartbeats 4000000 in
theorem law_names (which n : Int) (a b : List UInt8) (attr : Bool) (w : World) (ha : a.length ≤ maxLen) (hb : b.length ≤ maxLen) (hn : n ≤ 9223372036854775807) (hwh : which ≤ 9223372036854775807) (ht : Tab w) :
    Calls Tryd.prog 6 #[.int .i64 which, .int .i64 n, S a, S b, .bool attr] w (Fresh (.bool true) w) := by
  unfold maxLen at ha hb
  have Ht := hide ht
  have hL : Entp.entries.length = 236 := by unfold Entp.entries; rw [List.length_map]; exact Entp.toks_len
  have hent : Hid (∀ x ∈ Entp.entries, ∃ t ∈ Entp.toks, x = Entp.entry t) := fun x hx => by
    obtain ⟨t, ht, e⟩ := List.mem_map.1 hx
    exact ⟨t, ht, e.symm⟩
  clear ht
  go_enter Tryd.func6, Tryd.ntmps6
  go_wp2_with fail
  refine (works _ Ht.out).mono ?_
  rintro e w1 ⟨rfl, hb1⟩
  have HB1 := hide hb1
  clear hb1
  by_cases g1 : 4096 < a.length
  · go_wp2_with fail
    go_ret
    exact ⟨rfl, HB1.out⟩
  by_cases g2 : 4096 < b.length
  · go_wp2_with fail
    go_ret
    exact ⟨rfl, HB1.out⟩
  by_cases g3 : which < 0
  · go_wp2_with fail
    go_ret
    exact ⟨rfl, HB1.out⟩
  by_cases g4 : n < 1
  · go_wp2_with fail
    go_ret
    exact ⟨rfl, HB1.out⟩
  go_wp2_with fail
  go_loopg [12] a.length (fun g s12 wx => ∃ i : Nat, i + g = a.length ∧ s12 = .int .i64 i ∧ w1 = wx ∧ Hid (∀ c ∈ a.take i, c ≠ 38))
  case atStart => exact ⟨0, by omega, rfl, rfl, by intro c hc; simp at hc⟩
  case round =>
    obtain ⟨i, hi, rfl, rfl, hno⟩ := hrel
    by_cases hlt : i < a.length
    · obtain ⟨c, hc⟩ : ∃ c, a[i] = c := ⟨_, rfl⟩
      have hc? : Hid (a[i]? = some c) := by unfold Hid; rw [List.getElem?_eq_getElem hlt, hc]
      by_cases h38 : c = 38
      · subst h38
        go_wp2_with fail
        go_ret
        exact ⟨rfl, HB1.out⟩
      · have hc8 : ((c.toNat : Int) == 38) = false := beq_eq_false_iff_ne.2 (fun e => h38 (u8_inj (b := 38) e))
        have H38 := hide h38
        clear h38
        go_wp2_with fail
        go_roundg (gk - 1)
        case measure => omega
        case rel =>
          refine ⟨i + 1, by omega, by go_num, rfl, ?_⟩
          intro x hx
          rw [List.take_add_one, hc?.out] at hx
          rcases List.mem_append.1 hx with hx | hx
          · exact hno.out x hx
          · simp at hx; subst hx; exact H38.out
    · have hna : Hid (∀ c ∈ a, c ≠ 38) := by
        have := hno.out
        rw [List.take_of_length_le (by omega)] at this
        exact this
      clear hno
      go_wp2_with fail
      refine (rEntries _).mono ?_
      rintro e w2 ⟨v, rfl, hre, hb2⟩
      have HB2 := hide (HB1.out.trans (hb2.mono HB1.out.size))
      clear hb2
      generalize Entp.entries = L at hL hent hre ⊢
      obtain ⟨a1, c1, rfl⟩ := hre.length
      obtain ⟨W, rfl⟩ := Int.eq_ofNat_of_zero_le (by omega : 0 ≤ which)
      obtain ⟨J, hJ⟩ : ∃ J : Nat, J = W % 236 := ⟨_, rfl⟩
      have hJl : J < 236 := by omega
      obtain ⟨x, hx⟩ : ∃ x, L[J]? = some x := ⟨L[J], List.getElem?_eq_getElem (by omega)⟩
      obtain ⟨p, o, rfl, hpl, d0, d1⟩ := hre.at hx
      obtain ⟨t, htk, hxt⟩ := hent.out x (List.mem_of_getElem? hx)
      have hrem : (W : Int) % 236 = (J : Int) := by omega
      have hrem2 : (W : Int).tmod 236 = (J : Int) := by rw [Int.tmod_eq_emod_of_nonneg (by omega)]; exact hrem
      have hJi : (J : Int) < 236 := by omega
      have HRE := hide hre
      have HX := hide hx
      clear hre hx hJ hrem2
      have Hxt := hide hxt
      have Htk := hide htk
      clear hxt htk
      go_wp2_with fail
      obtain ⟨rest, hrest⟩ : ∃ rest, Entp.decode b attr = rest := ⟨_, rfl⟩
      have HREST := hide hrest
      have hrl : rest.length ≤ 8 * b.length := by rw [← hrest]; exact decode_len attr _ b (Nat.le_refl _)
      clear hrest
      have hTv : ∀ ob, Tab (w2.alloc ob) := fun ob => (Ht.out.below HB2.out).below ((Below.refl _ _).alloc (Nat.le_refl _) ob)
      have hBv : ∀ ob, Below w.heap.size w (w2.alloc ob) := fun ob => HB2.out.alloc HB2.out.size ob
      have hc0 : ∀ W3, Below (w2.alloc (.cells #[S x.1, S x.2] 34)).heap.size (w2.alloc (.cells #[S x.1, S x.2] 34)) W3 → W3.cell? ⟨w2.heap.size, 0, none⟩ = some (S x.1) ∧ W3.cell? ⟨w2.heap.size, 1, none⟩ = some (S x.2) ∧ w2.heap.size < W3.heap.size := fun W3 h => by
        refine ⟨(h.cell (by show w2.heap.size < _; simp)).trans ?_, (h.cell (by show w2.heap.size < _; simp)).trans ?_, ?_⟩
        · rw [World.cell?_alloc_at _ _ _ _ rfl]; rfl
        · rw [World.cell?_alloc_at _ _ _ _ rfl]; rfl
        · have := h.size; simp at this; omega
      have HTv := hide hTv
      have HBv := hide hBv
      have HC0 := hide hc0
      clear hTv hBv hc0
      refine (decode b attr rest _ (by omega) (HTv.out _) HREST).mono ?_
      rintro e w3 ⟨rfl, hb3⟩
      obtain ⟨c0, c1, hpl3⟩ := HC0.out w3 hb3
      have HB3 := hide ((HBv.out _).trans (hb3.mono (HBv.out _).size))
      have HT3 := hide (Ht.out.below HB3.out)
      have hnp : 0 < x.1.length ∧ x.1.length ≤ 32 := by
        have h1 := List.all_eq_true.1 Entp.toks_names t Htk.out
        simp only [Bool.and_eq_true, Bool.or_eq_true, decide_eq_true_eq] at h1
        rw [Hxt.out]
        exact h1.1
      obtain ⟨N, hN⟩ : ∃ N, x.1.length = N + 1 := ⟨x.1.length - 1, by omega⟩
      obtain ⟨y, hy⟩ : ∃ y, x.1[N]? = some y := ⟨x.1[N]'(by omega), List.getElem?_eq_getElem (by omega)⟩
      have hNl : N < x.1.length := by omega
      have hyg : x.1[N] = y := by rw [List.getElem?_eq_getElem hNl] at hy; exact Option.some.inj hy
      have hN32 : N < 32 := by omega
      have Hy := hide hy
      have HN := hide hN
      have hx2 : x.2.length ≤ 8 := by
        have := points_le (Entp.nm t) _ (Entp.name_points t Htk.out)
        rw [Hxt.out]; exact this
      clear hb3 hy hnp
      go_upto_if 68 with (fail)
      go_cut [68] (fun s68 wx => Below w3.heap.size w3 wx)
      case first =>
        by_cases h59 : y = 59
        · have hxn : x.1 = Entp.nm t := by rw [Hxt.out]; rfl
          have hdn := Entp.decode_name a t b attr hna.out Htk.out (by rw [← hxn, HN.out, Nat.add_sub_cancel, Hy.out, h59])
          have hdn2 : Hid (Entp.decode (a ++ 38 :: (x.1 ++ b)) attr = a ++ (x.2 ++ rest)) := by
            unfold Hid
            rw [Hxt.out, ← HREST.out]; exact hdn
          subst h59
          have hxl : x.1.length ≤ 32 := by omega
          have hs1 : ¬ (9223372036854775807 < a.length + 1) := by omega
          have hs2 : ¬ (9223372036854775807 < a.length + 1 + x.1.length) := by omega
          have hs3 : ¬ (9223372036854775807 < a.length + (x.1.length + 1) + b.length) := by omega
          have hs4 : ¬ (9223372036854775807 < a.length + x.2.length) := by omega
          have hs5 : ¬ (9223372036854775807 < a.length + x.2.length + rest.length) := by omega
          have c0' := c0
          have c1' := c1
          clear hdn hxn
          go_wp2_with fail
          clear hN
          go_region_held3 (fun w' => w'.cell? ⟨w2.heap.size, 0, none⟩ = some (S x.1) ∧ w'.cell? ⟨w2.heap.size, 1, none⟩ = some (S x.2)) (first | go_keep | exact ⟨(hb4.cell (by assumption)).trans c0, (hb4.cell (by assumption)).trans c1⟩) ((go_at_call 17; refine (decode _ attr _ _ (by simp; omega) HT3.out.drew hdn2).mono ?_; rintro e w4 ⟨rfl, hb4⟩))
          go_wp2_with fail
          go_meet
          exact ((Below.refl w3.heap.size w3).drew).trans hb4
        · have hy5 : ((y.toNat : Int) == 59) = false := beq_eq_false_iff_ne.2 (fun e => h59 (u8_inj (b := 59) e))
          go_wp2_with fail
          go_meet
          exact Below.refl _ _
      case rest =>
        have hcut' := hcut
        have HBc := hide (HB3.out.trans (hcut'.mono HB3.out.size))
        have HTc := hide (Ht.out.below HBc.out)
        obtain ⟨M, rfl⟩ := Int.eq_ofNat_of_zero_le (by omega : 0 ≤ n)
        have hM : M ≤ 9223372036854775807 := by omega
        have hM1 : 0 < M := by omega
        have hp19 : (10 : Nat) ^ 19 = 10000000000000000000 := by decide
        have hMp : Hid (M < 10 ^ 19) := by unfold Hid; rw [hp19]; omega
        clear hcut hcut' c0 c1 hpl3 d0 d1 hp19 hyg hNl hN32 hx2 hN
        go_wp2_with fail
        go_loopg [16, 17] M (fun g s16 s17 wx => ∃ (f : Nat) (ds : List UInt8), s16 = S ds ∧ s17 = .int .i64 g ∧ g ≤ 9223372036854775807 ∧ ds.length ≤ 19 ∧ Hid (g < 10 ^ f) ∧ Hid (Entp.digs f g ++ ds = Entp.digs 19 M) ∧ Below wc.heap.size wc wx)
        case atStart => exact ⟨19, [], rfl, rfl, hM, by simp, hMp, by unfold Hid; simp, Below.refl _ _⟩
        case round =>
          obtain ⟨f, ds, rfl, rfl, hg9, hdl, hgf, hds, hbw⟩ := hrel
          by_cases hg0 : gk = 0
          · have hdsM : Hid (ds = Entp.digs 19 M) := by
              have := hds.out
              rw [hg0, Entp.digs_zero, List.nil_append] at this
              exact this
            subst hg0
            have hTr := hide (HTc.out.below hbw)
            obtain ⟨z, hz⟩ : ∃ z, Entp.number M = z := ⟨_, rfl⟩
            have hrun := conv_rune wr z (Lib.encodeRune z) (by rw [← hz]; exact enc_number _)
            have hel := enc_le z
            obtain ⟨l, hl⟩ : ∃ l, Lib.encodeRune z = l := ⟨_, rfl⟩
            rw [hl] at hrun hel
            have HL := hide hl
            have HZ := hide hz
            have hdn := hide (Entp.decode_num a b 18 M attr hna.out hM1 hMp.out)
            have hdn2 : Hid (Entp.decode (a ++ 38 :: 35 :: (ds ++ 59 :: b)) attr = a ++ (l ++ rest)) := by
              unfold Hid
              rw [hdsM.out, hdn.out, HZ.out, HL.out, HREST.out]
            clear hz hl hdn hgf hds
            go_wp2_with fail
            refine (number (M : Int) _ hTr.out ⟨by omega, by omega⟩).mono ?_
            rintro e w5 ⟨rfl, rfl⟩
            rw [HZ.out]
            go_wp2_with fail
            refine (decode _ attr _ _ (by simp; omega) (hTr.out.below ((Below.refl _ _).alloc (Nat.le_refl _) _)) hdn2).mono ?_
            rintro e w6 ⟨rfl, hb6⟩
            go_wp2_with fail
            go_ret
            have hb7 := HBc.out.trans (hbw.mono HBc.out.size)
            have hb8 := hb7.alloc hb7.size (.cells #[.int .i32 z] 21)
            exact ⟨by first | rfl | simp, hb8.trans (hb6.mono hb8.size)⟩
          · obtain ⟨F, rfl⟩ : ∃ F, f = F + 1 := by
              cases f with
              | zero => have := hgf.out; simp at this; omega
              | succ F => exact ⟨F, rfl⟩
            obtain ⟨c, hc⟩ : ∃ c, UInt8.ofNat (48 + gk % 10) = c := ⟨_, rfl⟩
            have hrun := conv_new wr [c] #[.int .u8 (48 + (gk : Int) % 10)] 1 rfl (by rw [b8_of (48 + gk % 10) _ (by omega) (by omega), hc]; rfl)
            have hd2 : Hid (Entp.digs F (gk / 10) ++ (c :: ds) = Entp.digs 19 M) := by
              have := hds.out
              rw [Entp.digs, if_neg hg0, hc, List.append_assoc] at this
              exact this
            have hlen : (c :: ds).length ≤ 19 := by
              have := congrArg List.length hd2.out
              have h2 := Entp.digs_len 19 M
              rw [List.length_append] at this
              omega
            have hg2 : Hid (gk / 10 < 10 ^ F) := by
              unfold Hid
              have := hgf.out
              rw [Nat.pow_succ] at this
              exact (Nat.div_lt_iff_lt_mul (by decide)).2 this
            have hg1 : (0 : Int) < gk := by omega
            have hb9 := hbw.alloc hbw.size (.cells #[.int .u8 (48 + (gk : Int) % 10)] 5)
            have HB9 := hide hb9
            clear hgf hds hc hb9
            go_wp2_with fail
            go_roundg (gk / 10)
            case measure => omega
            case rel => exact ⟨F, c :: ds, by first | rfl | simp, v_i (by omega), by omega, hlen, hg2, hd2, HB9.out⟩
end Go.Proofs.YtlajahhiijlhaaaDoor
