/- The law JsValues, walked. -/
import Derived.Test.YtngccmlcopcghaaGreatDoorLj
import Derived.Test.YtngccmlcopcghaaGreatDoorPs
import Derived.Laws.IdiomStrings
import Derived.Deep.QuietTactic
import Derived.Deep.Cut
import Derived.Deep.CutBlock
namespace Go.Proofs.YtngccmlcopcghaaGreatDoor
namespace Jsp
open Go
/-- true, false, null, or digits without a needless 0 ahead -/
def ValT (d : List UInt8) : Prop := d ∈ consts ∨ ((∀ c ∈ d, isDig c = true) ∧ d ≠ [] ∧ (d.head? = some 48 → d.length = 1))
theorem dig_lt {c : UInt8} (h : isDig c = true) : c.toNat < 128 := by
  unfold isDig at h
  rw [Bool.and_eq_true, decide_eq_true_eq, decide_eq_true_eq] at h
  omega
theorem values_ok {s d : List UInt8} {l : List Tk} {st : St} (h : lex (Cssp.decode s) = .ok l st false false) (hd : ValT d) :
    ∃ x st2, x.t = d ∧ st2.goal = false ∧ st2.stk = st.stk ∧ lex (Cssp.decode (s ++ 32 :: (d ++ [32]))) = .ok (l ++ [x]) st2 false false := by
  rcases hd with hd | ⟨h1, h2, h3⟩
  · obtain ⟨_, _, _, g4, g5, g6⟩ := consts_ok d hd
    have hn := read_value s d h ⟨1, d, []⟩ { st with goal := false, last := d, some := true } g5 g6 g4 (next_const st d hd)
    exact ⟨⟨1, d, []⟩, { st with goal := false, last := d, some := true }, rfl, rfl, rfl, hn⟩
  · exact ⟨⟨4, d, []⟩, plainS st, rfl, rfl, rfl, read_value s d h _ _ (fun c hc => dig_lt (h1 c hc)) h2 (gap_num d h1 h2) (next_num st d h1 h2 h3)⟩
end Jsp
open Go.RowKit

theorem pow_next {k L : Nat} (h : k * 10 ^ L ≤ 4294967295) : k / 10 * 10 ^ (L + 1) ≤ 4294967295 := by
  have h1 : k / 10 * 10 ^ (L + 1) = (k / 10 * 10) * 10 ^ L := by rw [Nat.pow_succ, Nat.mul_assoc, Nat.mul_comm (10 ^ L) 10, ← Nat.mul_assoc]
  have h2 : k / 10 * 10 ≤ k := by omega
  exact h1 ▸ Nat.le_trans (Nat.mul_le_mul_right _ h2) h
theorem pow_room {k L : Nat} (h : k * 10 ^ L ≤ 4294967295) (hk : 0 < k) : L + 1 ≤ 10 := by
  rcases Nat.lt_or_ge L 10 with h1 | h1
  · omega
  · exfalso
    have h2 : 10 ^ 10 ≤ 10 ^ L := Nat.pow_le_pow_right (by decide) h1
    have h3 : 1 * 10 ^ L ≤ k * 10 ^ L := Nat.mul_le_mul_right _ hk
    have h4 : (10 : Nat) ^ 10 = 10000000000 := by decide
    omega
theorem digit_of (k : Nat) : ∃ x : UInt8, (x.toNat : Int) = 48 + (k : Int) % 10 ∧ Jsp.isDig x = true ∧ (x = 48 → k % 10 = 0) := by
  have h : (UInt8.ofNat (48 + k % 10)).toNat = 48 + k % 10 := by simp; omega
  refine ⟨UInt8.ofNat (48 + k % 10), by rw [h]; omega, ?_, fun e => ?_⟩
  · unfold Jsp.isDig
    rw [h, Bool.and_eq_true, decide_eq_true_eq, decide_eq_true_eq]
    omega
  · have := congrArg UInt8.toNat e
    rw [h] at this
    have h48 : (48 : UInt8).toNat = 48 := rfl
    omega
set_option maxRecDepth 100000 in
set_option maxHeartbeats 4000000 in
theorem law_values (s : List UInt8) (n : Nat) (z : Int) (w : World) (hs : s.length ≤ 9223372036854775807) (hn : n ≤ 4294967295) (ht : Tab w) : Calls Tryz.prog 5 #[S s, .int .u32 n, .int .i64 z] w (Fresh (.bool true) w) := by
  have hlt := ht.lt
  have HW := hide (works_ w ht)
  go_enter Tryz.func5, Tryz.ntmps5
  go_wp2_with fail
  refine HW.out.mono ?_
  rintro e w1 ⟨rfl, hb1⟩
  have HB1 := hide hb1
  have HT1 := hide (ht.below hlt hb1)
  have ht0 := hide ht
  clear HW hb1 ht
  by_cases hlen : 4096 < s.length
  · have d1 : (4096 : Int) < (s.length : Int) := by omega
    go_wp2_with fail
    go_ret
    exact ⟨rfl, HB1.out⟩
  have d1 : decide ((4096 : Int) < (s.length : Int)) = false := by rw [decide_eq_false_iff_not]; omega
  have HWh := hide (where_ s w1 HT1.out (by omega))
  go_wp2_with fail
  refine HWh.out.mono ?_
  rintro e w2 ⟨x, rfl, hb2, hq⟩
  obtain ⟨xs, xq, xc, xg, xk⟩ := x
  have hal := (Below.refl w2.heap.size w2).alloc (Nat.le_refl _) (.cells #[.int .u8 (xs : Int), .int .u8 (xq : Int), .bool xc, .bool xg, S xk] 36)
  have hn3 := heap_alloc_last w2 (.cells #[.int .u8 (xs : Int), .int .u8 (xq : Int), .bool xc, .bool xg, S xk] 36)
  have hb3 := hb2.trans (hal.mono hb2.size)
  have HB3 := hide (HB1.out.trans (hb3.mono HB1.out.size))
  have hMle : w.heap.size ≤ w2.heap.size := Nat.le_trans HB1.out.size hb2.size
  have HT3 := hide (HT1.out.below (Nat.le_trans hlt HB1.out.size) hb3)
  have HQ := hide hq
  clear HWh hb2 hal hb3 hq HB1 HT1
  go_upto_region 7 with (fail)
  change Code.wp _ _ _ _ (w2.alloc (.cells #[.int .u8 (xs : Int), .int .u8 (xq : Int), .bool xc, .bool xg, S xk] 36))
  generalize w2.alloc (.cells #[.int .u8 (xs : Int), .int .u8 (xq : Int), .bool xc, .bool xg, S xk] 36) = w3 at hn3 HB3 HT3 ⊢
  generalize w2.heap.size = M at hn3 hMle ⊢
  have HML := hide hMle
  clear hMle
  obtain ⟨⟨y0, y1, y2, y3, y4⟩, -⟩ := five hn3
  have HN := hide hn3
  clear hn3
  by_cases h1 : xs = 1
  · have q1 : ((xs : Int) != 1) = false := by rw [h1]; rfl
    obtain ⟨l, st, hl, hx⟩ := wh_plain HQ.out h1
    injection hx with _ e2 e3 e4 e5
    subst e2 e3 e4 e5
    have HL := hide hl
    clear hl HQ
    cases hgl : st.goal with
    | false =>
      rw [hgl] at y3
      clear hgl h1
      go_wp2_with fail
      go_ret
      exact ⟨rfl, HB3.out⟩
    | true =>
      rw [hgl] at y3
      have HG := hide hgl
      subst h1
      clear hgl
      go_wp2_with fail
      go_loopg [1, 9] (n + 1) (fun g s1 s9 wx => ∃ (d : List UInt8) (k : Nat), s9 = S d ∧ s1 = .int .u32 k ∧ Hid ((d = [] ∧ g = k + 1) ∨ (d ≠ [] ∧ g = k)) ∧ k ≤ 4294967295 ∧ d.length ≤ 10 ∧ Hid (k * 10 ^ d.length ≤ 4294967295) ∧ Hid (∀ c ∈ d, Jsp.isDig c = true) ∧ Hid (d ≠ [] → k = 0 → d.head? = some 48 → d.length = 1) ∧ Hid (Below w3.heap.size w3 wx))
      case atStart => exact ⟨[], n, rfl, rfl, .inl ⟨rfl, rfl⟩, hn, by simp, by unfold Hid; simpa using hn, (fun c hc => by cases hc), (fun h => absurd rfl h), Below.refl _ _⟩
      case round =>
        obtain ⟨d, k, rfl, rfl, hg, hk, hd10, hpow, hdig, hhd, hbx⟩ := hrel
        by_cases hgo : 0 < k ∨ d = []
        · obtain ⟨x, hx, hdx, hx48⟩ := digit_of k
          have hl10 : d.length + 1 ≤ 10 := by
            rcases hgo with h | h
            · exact pow_room hpow.out h
            · subst h; exact by decide
          have hrel' : Hid (k / 10 * 10 ^ (x :: d).length ≤ 4294967295) := pow_next hpow.out
          have hdig' : Hid (∀ c ∈ x :: d, Jsp.isDig c = true) := fun c hc => by
            rcases List.mem_cons.1 hc with rfl | hc
            · exact hdx
            · exact hdig.out c hc
          have hhd' : Hid ((x :: d) ≠ [] → k / 10 = 0 → (x :: d).head? = some 48 → (x :: d).length = 1) := fun _ h0 h48 => by
            injection h48 with h48
            have h9 := hx48 h48
            have hk0 : k = 0 := by omega
            rcases hgo with h | h
            · omega
            · rw [h]; rfl
          have hal := (Below.refl wr.heap.size wr).alloc (Nat.le_refl _) (.cells #[.int .u8 (48 + (k : Int) % 10)] 5)
          have hcv : Sem.run Tryz.prog (convert 39 9 (.slice (some ⟨wr.heap.size, 0, none⟩) 1 1)) (wr.alloc (.cells #[.int .u8 (48 + (k : Int) % 10)] 5)) = .ok (S [x]) (wr.alloc (.cells #[.int .u8 (48 + (k : Int) % 10)] 5)) :=
            run_convert_bytes_back (P := Tryz.prog) _ 39 9 5 ⟨wr.heap.size, 0, none⟩ 1 [x] Tryz.underlying39 Tryz.underlying5 Tryz.underlying9 (fun j hj => by
              obtain rfl : j = 0 := by simp at hj; exact hj
              rw [show (⟨wr.heap.size, 0, none⟩ : Addr).add 0 = ⟨wr.heap.size, 0, none⟩ by unfold Addr.add; split <;> simp_all, ← hx]
              rw [World.cell?_alloc_at _ _ _ _ rfl]
              rfl)
          have hbx' : Hid (Below w3.heap.size w3 (wr.alloc (.cells #[.int .u8 (48 + (k : Int) % 10)] 5))) := hbx.out.trans (hal.mono hbx.out.size)
          have hm : k / 10 < gk := by
            rcases hg.out with ⟨h1, h2⟩ | ⟨h1, h2⟩
            · omega
            · rcases hgo with h | h
              · omega
              · exact absurd h h1
          by_cases hk0 : 0 < k
          · have hk0' : (0 : Int) < (k : Int) := by omega
            clear hdig hpow hal hx hhd hx48
            go_wp2_with fail
            go_roundg (k / 10)
            case measure => exact hm
            case rel => exact ⟨x :: d, k / 10, rfl, by go_num, .inr ⟨by simp, rfl⟩, by omega, hl10, hrel', hdig', hhd', hbx'⟩
          · have hk0' : k = 0 := by omega
            have hd0 : d = [] := by rcases hgo with h | h; omega; exact h
            subst hk0' hd0
            have e0 : (48 + ((0 : Nat) : Int) % 10) = 48 := rfl
            rw [e0] at hcv hbx'
            clear hdig hpow hal hx e0 hhd hx48
            go_wp2_with fail
            go_roundg 0
            case measure => exact hm
            case rel => exact ⟨[x], 0, rfl, by go_num, .inr ⟨by simp, rfl⟩, by omega, hl10, hrel', hdig', (fun _ _ _ => rfl), hbx'⟩
        · have hk0 : k = 0 := by omega
          have hd0 : d ≠ [] := fun h => hgo (.inr h)
          subst hk0
          have hde : (d == []) = false := by simpa using hd0
          have HVT := hide (show Jsp.ValT d from .inr ⟨hdig.out, hd0, hhd.out hd0 rfl⟩)
          have HD1 := hide hde
          clear hg hpow hdig hhd hgo hd0 hk
          go_upto_block 2 with fail
          obtain ⟨X, hX⟩ : ∃ X, Int.tmod z 4 = X := ⟨_, rfl⟩
          rw [hX]
          clear hX
          go_cut [9] from 54 to 59 (fun s9 wx => ∃ d : List UInt8, s9 = S d ∧ Hid (Jsp.ValT d) ∧ Hid (d.length ≤ 10) ∧ wx = wr)
          case first =>
            by_cases x1 : X = 1
            · have q1 : (X == 1) = true := by rw [x1]; rfl
              clear x1
              go_wp2_with fail
              go_meet
              exact ⟨_, rfl, .inl (by decide), by unfold Hid; decide, rfl⟩
            have q1 : (X == 1) = false := by rw [beq_eq_false_iff_ne]; exact x1
            by_cases x2 : X = 2
            · have q2 : (X == 2) = true := by rw [x2]; rfl
              clear x2 x1
              go_wp2_with fail
              go_meet
              exact ⟨_, rfl, .inl (by decide), by unfold Hid; decide, rfl⟩
            have q2 : (X == 2) = false := by rw [beq_eq_false_iff_ne]; exact x2
            by_cases x3 : X = 3
            · have q3 : (X == 3) = true := by rw [x3]; rfl
              clear x3 x2 x1
              go_wp2_with fail
              go_meet
              exact ⟨_, rfl, .inl (by decide), by unfold Hid; decide, rfl⟩
            have q3 : (X == 3) = false := by rw [beq_eq_false_iff_ne]; exact x3
            clear x1 x2 x3
            go_wp2_with fail
            go_meet
            exact ⟨d, rfl, HVT.out, hd10, rfl⟩
          case rest =>
            obtain ⟨d2, rfl, hvt, hdl, rfl⟩ := hcut
            obtain ⟨x, st2, hxt, hg2, hs2, hl2⟩ := Jsp.values_ok HL.out hvt.out
            have HBW := hide (HB3.out.trans (hbx.out.mono HB3.out.size))
            have HTW := hide (HT3.out.below (Nat.le_trans hlt HB3.out.size) hbx.out)
            have HNW := hide (show wc.heap[M]? = some (.cells #[.int .u8 ((1 : Nat) : Int), .int .u8 ((0 : Nat) : Int), .bool false, .bool true, S st.stk] 36 (0, 0)) from ((hbx.out.block _ (heap_lt HN.out)).trans HN.out).trans (by rw [HG.out]))
            have hPl : (s ++ 32 :: (d2 ++ [32])).length ≤ 4108 := by have := hdl.out; simp; omega
            have hn3 : ¬ 9223372036854775807 < s.length + (d2.length + 2) := by have := hdl.out; omega
            have hn4 : d2.length ≤ 10 := hdl.out
            obtain ⟨P, hP⟩ : ∃ P, s ++ 32 :: (d2 ++ [32]) = P := ⟨_, rfl⟩
            rw [hP] at hPl hl2
            have KW := hide (where_ P wc HTW.out (by omega))
            have KA := fun W (hT : Tab W) => hide (tokens_ s W hT (by omega))
            have KB := fun W (hT : Tab W) => hide (tokens_ P W hT (by omega))
            have hta := tokens_of HL.out
            have htb := tokens_of hl2
            rw [hs2] at htb
            have HXE := hide (fun (y : Wx) (hy : WhQ (Cssp.decode P) y) => show y = ⟨1, 0, false, false, st.stk⟩ from (wh_of hy hl2).trans (by rw [hg2, hs2]))
            obtain ⟨sk, hsk⟩ : ∃ sk, st.stk = sk := ⟨_, rfl⟩
            rw [hsk] at HXE HNW hta htb y4
            have HTA := hide hta
            have HTB := hide htb
            have HKA := hide KA
            have HKB := hide KB
            have HXT := hide hxt
            have HP := hide hP
            clear hxt hg2 hs2 hl2 hta htb KA KB hsk hvt hdl hbx HVT HD1 hde hd10 y0 y1 y2 y3 y4 HN HB3 HT3 HL HG hPl
            obtain ⟨⟨y0, y1, y2, y3, y4⟩, -⟩ := five HNW.out
            go_wp2_with fail
            refine KW.out.mono ?_
            rintro e w10 ⟨x10, rfl, hb10, hq10⟩
            obtain rfl := HXE.out _ hq10
            have hal1 := (Below.refl w10.heap.size w10).alloc (Nat.le_refl _) (.cells #[.int .u8 ((1 : Nat) : Int), .int .u8 ((0 : Nat) : Int), .bool false, .bool false, S sk] 36)
            have hn1 := heap_alloc_last w10 (.cells #[.int .u8 ((1 : Nat) : Int), .int .u8 ((0 : Nat) : Int), .bool false, .bool false, S sk] 36)
            have hb11 := hb10.trans (hal1.mono hb10.size)
            have HB11 := hide (HBW.out.trans (hb11.mono HBW.out.size))
            have HT11 := hide (HTW.out.below (Nat.le_trans hlt HBW.out.size) hb11)
            have HN11 := hide ((hb11.block _ (heap_lt HNW.out)).trans HNW.out)
            clear KW hb10 hq10 hal1 hb11 HNW HBW HTW y0 y1 y2 y3 y4 HXE
            go_upto_region 21 with (fail)
            change Code.wp _ _ _ _ (w10.alloc (.cells #[.int .u8 ((1 : Nat) : Int), .int .u8 ((0 : Nat) : Int), .bool false, .bool false, S sk] 36))
            generalize w10.alloc (.cells #[.int .u8 ((1 : Nat) : Int), .int .u8 ((0 : Nat) : Int), .bool false, .bool false, S sk] 36) = w11 at hn1 HB11 HT11 HN11 ⊢
            generalize w10.heap.size = M1 at hn1 ⊢
            obtain ⟨⟨y0, y1, y2, y3, y4⟩, -⟩ := five HN11.out
            have hal2 := (Below.refl w11.heap.size w11).alloc (Nat.le_refl _) (.cells #[.int .u8 ((1 : Nat) : Int), .int .u8 ((0 : Nat) : Int), .bool false, .bool true, S sk] 36)
            have hn2 := heap_alloc_last w11 (.cells #[.int .u8 ((1 : Nat) : Int), .int .u8 ((0 : Nat) : Int), .bool false, .bool true, S sk] 36)
            have HB12 := hide (HB11.out.trans (hal2.mono HB11.out.size))
            have HT12 := hide (HT11.out.below (Nat.le_trans hlt HB11.out.size) hal2)
            have HN12 := hide ((hal2.block _ (heap_lt HN11.out)).trans HN11.out)
            have HM12 := hide ((hal2.block _ (heap_lt hn1)).trans hn1)
            have hlM := heap_lt HN11.out
            have hlM1 := heap_lt hn1
            clear hn1 HB11 HT11 HN11
            go_upto_region 22 with (fail)
            change Code.wp _ _ _ _ (w11.alloc (.cells #[.int .u8 ((1 : Nat) : Int), .int .u8 ((0 : Nat) : Int), .bool false, .bool true, S sk] 36))
            generalize w11.alloc (.cells #[.int .u8 ((1 : Nat) : Int), .int .u8 ((0 : Nat) : Int), .bool false, .bool true, S sk] 36) = w12 at hn2 HB12 HT12 HN12 HM12 ⊢
            generalize w11.heap.size = M2 at hn2 hlM hlM1 ⊢
            have hset : (w12.setCell ⟨M2, 3, none⟩ (.bool false)).heap[M2]? = some (.cells #[.int .u8 ((1 : Nat) : Int), .int .u8 ((0 : Nat) : Int), .bool false, .bool false, S sk] 36 (0, 0)) := by
              simp [World.setCell, Array.getElem?_modify, hn2]
            have hle2 : w.heap.size ≤ M2 := by
              exact Nat.le_trans HML.out (Nat.le_of_lt hlM)
            have HB13 := hide (HB12.out.setCell (p := ⟨M2, 3, none⟩) hle2 (.bool false))
            have HT13 := hide (ht0.out.below hlt HB13.out)
            have HN13 := hide ((Below.heap_setCell w12 ⟨M2, 3, none⟩ (.bool false) M (show M ≠ M2 by omega)).trans HN12.out)
            have HM13 := hide ((Below.heap_setCell w12 ⟨M2, 3, none⟩ (.bool false) M1 (show M1 ≠ M2 by omega)).trans HM12.out)
            have HS13 := hide hset
            obtain ⟨⟨z0, z1, z2, z3, z4⟩, zf⟩ := five hn2
            have zf3 := zf 3
            clear hset zf HB12 HT12 HN12 HM12 hn2 hlM hlM1 hle2 y0 y1 y2 y3 y4
            go_upto_region 23 with (fail)
            generalize w12.setCell ⟨M2, 3, none⟩ (.bool false) = w13 at HB13 HT13 HN13 HM13 HS13 ⊢
            clear z0 z1 z2 z3 z4 zf3
            obtain ⟨⟨y0, y1, y2, y3, y4⟩, -⟩ := five HN13.out
            have hwe := fun W => wh_eql 1 0 1 0 false false false false sk sk W
            by_cases hs0 : sk = []
            · subst hs0
              have hta := HTA.out
              have htb := HTB.out
              rw [if_pos rfl] at hta htb
              have KA := fun W hT => (HKA.out W hT).out
              have KB := fun W hT => (HKB.out W hT).out
              rw [hta] at KA
              rw [htb] at KB
              have HKA2 := hide KA
              have HKB2 := hide KB
              clear KA KB hta htb HKA HKB HTA HTB
              have KA1 := hide (HKA2.out w13 HT13.out)
              go_wp2_with fail
              refine KA1.out.mono ?_
              rintro e w14 ⟨va, rfl, hoa, hba, hLn⟩
              have HRA := hide (RT.of_own hoa)
              have HB14 := hide (HB13.out.trans (hba.mono HB13.out.size))
              have HT14 := hide (HT13.out.below (Nat.le_trans hlt HB13.out.size) hba)
              have HM14 := hide ((hba.block _ (heap_lt HM13.out)).trans HM13.out)
              have HS14 := hide ((hba.block _ (heap_lt HS13.out)).trans HS13.out)
              have HLn := hide (show l.length ≤ 1000000 from Nat.le_trans hLn (by omega))
              have KB1 := hide (HKB2.out w14 HT14.out)
              clear hoa hba hLn KA1 HKA2 HKB2 HB13 HT13 HN13 HM13 HS13 y0 y1 y2 y3 y4
              go_wp2_with fail
              refine KB1.out.mono ?_
              rintro e w15 ⟨vb, rfl, hob, hbb, -⟩
              have HRA5 := hide (HRA.out.below hbb)
              have HB15 := hide (HB14.out.trans (hbb.mono HB14.out.size))
              obtain ⟨⟨a0, a1, a2, a3, a4⟩, -⟩ := five ((hbb.block _ (heap_lt HM14.out)).trans HM14.out)
              obtain ⟨⟨b0, b1, b2, b3, b4⟩, -⟩ := five ((hbb.block _ (heap_lt HS14.out)).trans HS14.out)
              obtain ⟨ava, cva, hva⟩ : ∃ av cv, va = .slice av l.length cv := by
                rcases HRA.out with ⟨h0, a0, k0, hv0⟩ | ⟨g, o, cap2, hv0, _, _⟩
                · exact ⟨a0, k0, by rw [hv0, h0]; rfl⟩
                · exact ⟨_, _, hv0⟩
              subst hva
              obtain ⟨g, cap, rfl, hcap, hgl⟩ : ∃ g cap, vb = .slice (some ⟨g, 0, none⟩) (l.length + 1) cap ∧ l.length + 1 ≤ cap ∧ g < w15.heap.size := by
                rcases hob.2 with ⟨_, h0⟩ | ⟨g, cap, cur, hv, _, hh, hn', _⟩
                · simp at h0
                · refine ⟨g, cap, by simpa using hv, by simpa using hn', heap_lt hh⟩
              have hrb := RT.of_own hob
              have hpre : RT w15 (.slice (some ⟨g, 0, none⟩) l.length cap) l := by
                rcases hrb with ⟨h0, _⟩ | ⟨b, o, cap', hv, hb', hc⟩
                · simp at h0
                · injection hv with e1 e2 e3
                  injection e1 with e1
                  injection e1 with e1 e1' _
                  subst e1 e1'
                  exact .inr ⟨g, 0, cap, rfl, hb', fun i c hi => hc i c (by rw [List.getElem?_append_left (List.getElem?_eq_some_iff.1 hi).1]; exact hi)⟩
              have hlastc : w15.cell? ⟨g, 0 + l.length * 3 + 1, none⟩ = some (S d2) := by
                rcases hrb with ⟨h0, _⟩ | ⟨b, o, cap', hv, hb', hc⟩
                · simp at h0
                · injection hv with e1 e2 e3
                  injection e1 with e1
                  injection e1 with e1 e1' _
                  subst e1 e1'
                  have := (hc l.length x (by simp)).2.1
                  rw [HXT.out] at this
                  exact this
              rw [Nat.zero_add] at hlastc
              have hSm : Hid (Calls Tryz.prog 12 #[.slice (some ⟨g, 0, none⟩) l.length cap, .slice ava l.length cva] w15 (Quiet (.bool true) w15)) := by
                have := same_any _ _ l l w15 hpre HRA5.out (by have := HLn.out; unfold maxLen; omega) (by have := HLn.out; unfold maxLen; omega)
                rw [show decide (l = l) = true from decide_eq_true rfl] at this
                exact this
              obtain ⟨N, hN⟩ : ∃ N, N = l.length := ⟨_, rfl⟩
              have hlen1 : (l ++ [x]).length = N + 1 := by rw [List.length_append, hN]; rfl
              have hNl : N ≤ 1000000 := by rw [hN]; exact HLn.out
              rw [← hN] at hSm hlastc hcap ⊢
              have n0 : (0 : Int) ≤ (N : Int) := by omega
              have n1 : (N : Int) ≤ (cap : Int) := by omega
              have n2 : (N : Int) < (N : Int) + 1 := by omega
              have HD := hlastc
              clear hrb hpre hob hbb HRA HRA5 HM14 HS14 HB14 HT14 KB1 hgl hlen1 HXT hN HD
              go_wp2_with fail
              refine hSm.out.mono ?_
              rintro e w16 ⟨rfl, hd16⟩
              have hb16 := below_drawn hd16
              have hlast2 := cell_below hlastc hb16
              have HB16 := hide (HB15.out.trans (hb16.mono HB15.out.size))
              clear hb16 hd16 hSm a0 a1 a2 a3 a4 b0 b1 b2 b3 b4 hlastc
              go_wp2_with fail
              go_ret
              exact ⟨by simp, HB16.out⟩
            · have hs1 : 0 < sk.length := List.length_pos_iff.2 hs0
              obtain ⟨⟨a0, a1, a2, a3, a4⟩, -⟩ := five HM13.out
              obtain ⟨⟨b0, b1, b2, b3, b4⟩, -⟩ := five HS13.out
              have ds : decide ((0 : Int) < (sk.length : Int)) = true := by rw [decide_eq_true_eq]; omega
              clear hs0 HTA HTB HKA HKB HXT
              go_wp2_with fail
              go_ret
              exact ⟨by simp, HB13.out⟩
  · have q1 : ((xs : Int) != 1) = true := by rw [bne_iff_ne]; omega
    clear h1
    go_wp2_with fail
    go_ret
    exact ⟨rfl, HB3.out⟩
end Go.Proofs.YtngccmlcopcghaaGreatDoor
