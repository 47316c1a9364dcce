/- The law CssWords, walked. -/
import Derived.Test.YtojgcangnkjmjaaGreatDoorWk
import Derived.Test.YtojgcangnkjmjaaGreatDoorPw
import Derived.ChangeMaps5
import Derived.SliceStrings
import Derived.Laws.IdiomStrings
import Derived.BigQuiet
import Derived.Deep.QuietTactic
import Derived.Deep.RegionHeldLaw
import Derived.Deep.AppendLies
namespace Go.Proofs.YtojgcangnkjmjaaGreatDoor
open Go.RowKit

/-- a slice that reads as a list of strings -/
def RS (w : World) (v : Value) (l : List (List UInt8)) : Prop :=
  (l = [] ∧ ∃ a c, v = .slice a 0 c) ∨
  ∃ b o cap, v = .slice (some ⟨b, o, none⟩) l.length cap ∧ b < w.heap.size ∧ ∀ (i : Nat) (x : List UInt8), l[i]? = some x → w.cell? ⟨b, o + i, none⟩ = some (S x)
theorem RS.length {w : World} {v : Value} {l : List (List UInt8)} (h : RS w v l) : ∃ a c, v = .slice a l.length c := by
  rcases h with ⟨rfl, a, c, rfl⟩ | ⟨b, o, cap, rfl, _⟩
  · exact ⟨a, c, rfl⟩
  · exact ⟨_, _, rfl⟩
theorem RS.below {w w' : World} {v : Value} {l : List (List UInt8)} (h : RS w v l) (hb : Below w.heap.size w w') : RS w' v l := by
  rcases h with h | ⟨b, o, cap, rfl, hlt, hc⟩
  · exact .inl h
  · exact .inr ⟨b, o, cap, rfl, Nat.lt_of_lt_of_le hlt hb.size, fun i c hi => (hb.cell hlt).trans (hc i c hi)⟩
/-- at a place that is there -/
theorem RS.at {w : World} {a : Option Addr} {n c : Nat} {l : List (List UInt8)} (h : RS w (.slice a n c) l) {i : Nat} {x : List UInt8} (hx : l[i]? = some x) :
    ∃ b o, a = some ⟨b, o, none⟩ ∧ b < w.heap.size ∧ w.cell? ⟨b, o + i, none⟩ = some (S x) := by
  rcases h with ⟨rfl, _⟩ | ⟨b, o, cap, h, hlt, hc⟩
  · simp at hx
  · injection h with h1 h2 h3
    exact ⟨b, o, h1, hlt, hc i x hx⟩
theorem cell_three (w : World) (t : TypeId) (l : List Value) : ∀ j u, l[j]? = some u → (w.alloc (.cells l.toArray t)).cell? ((⟨w.heap.size, 0, none⟩ : Addr).add j) = some u := by
  intro j u hu
  have hadd : (⟨w.heap.size, 0, none⟩ : Addr).add j = ⟨w.heap.size, j, none⟩ := by unfold Addr.add; split <;> simp_all
  rw [hadd, World.cell?_alloc_at _ _ _ _ rfl]
  simpa using hu
theorem low_of {x : UInt8} {m : Int} (h : (x.toNat : Int) = m) (h1 : ¬ m < 97) (h2 : ¬ 122 < m) : Cssp.lowC x = true := by
  unfold Cssp.lowC
  rw [Bool.and_eq_true, decide_eq_true_eq, decide_eq_true_eq]
  omega
theorem pow_next {k L : Nat} (h : k * 10 ^ L ≤ 4294967295) : k / 10 * 10 ^ (L + 1) ≤ 4294967295 := by
  have h1 : k / 10 * 10 ^ (L + 1) = (k / 10 * 10) * 10 ^ L := by rw [Nat.pow_succ, Nat.mul_assoc, Nat.mul_comm (10 ^ L) 10, ← Nat.mul_assoc]
  have h2 : k / 10 * 10 ≤ k := by omega
  exact h1 ▸ Nat.le_trans (Nat.mul_le_mul_right _ h2) h
theorem pow_room {k L : Nat} (h : k * 10 ^ L ≤ 4294967295) (hk : 0 < k) : L + 1 ≤ 10 := by
  rcases Nat.lt_or_ge L 10 with h1 | h1
  · omega
  · exfalso
    have h2 : 10 ^ 10 ≤ 10 ^ L := Nat.pow_le_pow_right (by decide) h1
    have h3 : 1 * 10 ^ L ≤ k * 10 ^ L := Nat.mul_le_mul_right _ hk
    have h4 : (10 : Nat) ^ 10 = 10000000000 := by decide
    omega
theorem digit_of (k : Nat) : ∃ x : UInt8, (x.toNat : Int) = 48 + (k : Int) % 10 ∧ Cssp.digit x = true := by
  have h : (UInt8.ofNat (48 + k % 10)).toNat = 48 + k % 10 := by simp; omega
  refine ⟨UInt8.ofNat (48 + k % 10), by rw [h]; omega, ?_⟩
  unfold Cssp.digit
  rw [h, Bool.and_eq_true, decide_eq_true_eq, decide_eq_true_eq]
  omega
set_option maxRecDepth 100000 in
set_option maxHeartbeats 4000000 in
theorem law_words (v : Value) (l : List (List UInt8)) (n : Nat) (w : World) (hn : n ≤ 4294967295) (hl : l.length ≤ 9223372036854775807) (hu : ∀ u ∈ l, u.length ≤ 9223372036854775807) (hr : RS w v l) (ht : Tab w) :
    Calls Tryz.prog 4 #[v, .int .u32 n] w (Fresh (.bool true) w) := by
  obtain ⟨al, cl, rfl⟩ := hr.length
  obtain ⟨i0, hi, hz0, hz1, hz2⟩ := info_parts info_tok
  have hlt := ht.lt
  have HW := hide (works_ w ht)
  go_enter Tryz.func4, Tryz.ntmps4
  go_wp2_with fail
  refine HW.out.mono ?_
  rintro e w1 ⟨rfl, hb1⟩
  have HB1 := hide hb1
  have HT1 := hide (ht.below (by omega) hb1)
  have HR1 := hide (hr.below hb1)
  have HR := hide hr
  have HTW := hide ht
  have HU := hide hu
  clear HW hb1 hr hu ht
  by_cases hlen : 500 < l.length
  · have d1 : (500 : Int) < (l.length : Int) := by omega
    go_wp2_with fail
    go_ret
    exact ⟨rfl, HB1.out⟩
  have d1 : decide ((500 : Int) < (l.length : Int)) = false := by rw [decide_eq_false_iff_not]; omega
  go_wp2_with fail
  go_loopg [8, 9] (n + 1) (fun g s8 s9 wx => ∃ (d : List UInt8) (k : Nat), s8 = S d ∧ s9 = .int .u32 k ∧ Hid ((d = [] ∧ g = k + 1) ∨ (d ≠ [] ∧ g = k)) ∧ k ≤ 4294967295 ∧ d.length ≤ 10 ∧ Hid (k * 10 ^ d.length ≤ 4294967295) ∧ Hid (∀ c ∈ d, Cssp.digit c = true) ∧ Hid (Below w.heap.size w wx) ∧ Hid (Below w1.heap.size w1 wx))
  case atStart => exact ⟨[], n, rfl, rfl, .inl ⟨rfl, rfl⟩, hn, by simp, by unfold Hid; simpa using hn, (fun c hc => by cases hc), HB1.out, Below.refl _ _⟩
  case round =>
    obtain ⟨d, k, rfl, rfl, hg, hk, hd10, hpow, hdig, hbx, hb1x⟩ := hrel
    by_cases hgo : 0 < k ∨ d = []
    · obtain ⟨x, hx, hdx⟩ := digit_of k
      have hl10 : d.length + 1 ≤ 10 := by
        rcases hgo with h | h
        · exact pow_room hpow.out h
        · subst h; exact by decide
      have hrel' : Hid (k / 10 * 10 ^ (x :: d).length ≤ 4294967295) := pow_next hpow.out
      have hdig' : Hid (∀ c ∈ x :: d, Cssp.digit c = true) := fun c hc => by
        rcases List.mem_cons.1 hc with rfl | hc
        · exact hdx
        · exact hdig.out c hc
      have hal := (Below.refl wr.heap.size wr).alloc (Nat.le_refl _) (.cells #[.int .u8 (48 + (k : Int) % 10)] 5)
      have hcv : Sem.run Tryz.prog (convert 32 9 (.slice (some ⟨wr.heap.size, 0, none⟩) 1 1)) (wr.alloc (.cells #[.int .u8 (48 + (k : Int) % 10)] 5)) = .ok (S [x]) (wr.alloc (.cells #[.int .u8 (48 + (k : Int) % 10)] 5)) :=
        run_convert_bytes_back (P := Tryz.prog) _ 32 9 5 ⟨wr.heap.size, 0, none⟩ 1 [x] Tryz.underlying32 Tryz.underlying5 Tryz.underlying9 (fun j hj => by
          obtain rfl : j = 0 := by simp at hj; exact hj
          rw [show (⟨wr.heap.size, 0, none⟩ : Addr).add 0 = ⟨wr.heap.size, 0, none⟩ by unfold Addr.add; split <;> simp_all, ← hx]
          rw [World.cell?_alloc_at _ _ _ _ rfl]
          rfl)
      have hbx' : Hid (Below w.heap.size w (wr.alloc (.cells #[.int .u8 (48 + (k : Int) % 10)] 5))) := hbx.out.trans (hal.mono hbx.out.size)
      have hb1x' : Hid (Below w1.heap.size w1 (wr.alloc (.cells #[.int .u8 (48 + (k : Int) % 10)] 5))) := hb1x.out.trans (hal.mono hb1x.out.size)
      have hm : k / 10 < gk := by
        rcases hg.out with ⟨h1, h2⟩ | ⟨h1, h2⟩
        · omega
        · rcases hgo with h | h
          · omega
          · exact absurd h h1
      by_cases hk0 : 0 < k
      · have hk0' : (0 : Int) < (k : Int) := by omega
        clear hdig hpow hal hx
        go_wp2_with fail
        go_roundg (k / 10)
        case measure => exact hm
        case rel => exact ⟨x :: d, k / 10, rfl, by go_num, .inr ⟨by simp, rfl⟩, by omega, hl10, hrel', hdig', hbx', hb1x'⟩
      · have hk0' : k = 0 := by omega
        have hd0 : d = [] := by rcases hgo with h | h; omega; exact h
        subst hk0' hd0
        have e0 : (48 + ((0 : Nat) : Int) % 10) = 48 := rfl
        rw [e0] at hcv hbx' hb1x'
        clear hdig hpow hal hx e0
        go_wp2_with fail
        go_roundg 0
        case measure => exact hm
        case rel => exact ⟨[x], 0, rfl, by go_num, .inr ⟨by simp, rfl⟩, by omega, hl10, hrel', hdig', hbx', hb1x'⟩
    · have hk0 : k = 0 := by omega
      have hd0 : d ≠ [] := fun h => hgo (.inr h)
      subst hk0
      have hde : (d == []) = false := by simpa using hd0
      have HD0 := hide hd0
      have HD1 := hide hde
      have HDG := hdig
      have HBX := hbx
      clear hg hk hpow hgo hdig hbx hb1x hd0 HB1 HR1
      go_wp2_with fail
      clear hde
      go_loopg [6, 7, 10] l.length (fun g s6 s7 s10 wx => ∃ (i : Nat) (acc : List UInt8) (M : List Cssp.Tk), i + g = l.length ∧ s6 = S acc ∧ s10 = .int .i64 i ∧ acc.length ≤ 220 * i ∧ M.length = 3 * i ∧ Hid (acc = Cssp.wordsT d (l.take i) ∧ M = Cssp.wantT d (l.take i)) ∧ Hid (wx.ownsRow w.heap.size 27 4 s7 M.length (tokCells M)) ∧ Hid (∀ t ∈ l.take i, Cssp.okName t) ∧ Hid (Below w.heap.size w wx))
      case atStart => exact ⟨0, [], [], by omega, rfl, rfl, by simp, rfl, ⟨by simp [Cssp.wordsT], by simp [Cssp.wantT]⟩, World.ownsRow_nil _ _ _ _, (fun t ht => by simp at ht), HBX.out⟩
      case round =>
        obtain ⟨i, acc, M, hig, rfl, rfl, hacc, hM, heq, hown, hok, hbx⟩ := hrel
        obtain ⟨aw, cw, hsw⟩ := slice_of hown.out
        subst hsw
        have HML := hide hM
        clear hM
        by_cases hlt' : i < l.length
        · obtain ⟨u, hx⟩ : ∃ u, l[i]? = some u := ⟨l[i], List.getElem?_eq_getElem hlt'⟩
          obtain ⟨b, o, hal, hbl, hc0⟩ := HR.out.at hx
          subst hal
          have hul := HU.out u (List.mem_of_getElem? hx)
          have hc := (hbx.out.cell hbl).trans hc0
          have HX := hide hx
          have HC := hide hc0
          have HBL := hide hbl
          obtain ⟨gk0, hgk0⟩ : ∃ x, x = gk := ⟨_, rfl⟩
          have hGK := hide hgk0
          clear hx hc0 hbl hgk0
          by_cases hu0 : u = []
          · subst hu0
            go_wp2_with fail
            go_ret
            exact ⟨rfl, hbx.out⟩
          have hbe : (u == []) = false := by simpa using hu0
          by_cases hu1 : 100 < u.length
          · have hu1' : (100 : Int) < (u.length : Int) := by omega
            go_wp2_with fail
            go_ret
            exact ⟨rfl, hbx.out⟩
          have hu1' : ¬ (100 : Int) < (u.length : Int) := by omega
          by_cases hu2 : u = [101]
          · subst hu2
            go_wp2_with fail
            go_ret
            exact ⟨rfl, hbx.out⟩
          have hbe2 : (u == [101]) = false := by simpa using hu2
          have HU0 := hide hu0
          clear hu0 hu2
          go_wp2_with fail
          go_loopg [11] u.length (fun g s11 wx => ∃ j : Nat, j + g = u.length ∧ s11 = .int .i64 j ∧ wr = wx ∧ Hid (∀ c ∈ u.take j, Cssp.lowC c = true))
          case atStart => exact ⟨0, by omega, rfl, rfl, (fun c hc => by simp at hc)⟩
          case round =>
            obtain ⟨j, hjg, rfl, hwx, hall⟩ := hrel
            subst hwx
            by_cases hjl : j < u.length
            · obtain ⟨x, hxj⟩ : ∃ x, u[j] = x := ⟨_, rfl⟩
              have htk : Cssp.lowC x = true → ∀ c ∈ u.take (j + 1), Cssp.lowC c = true := fun h c hc => by
                rw [List.take_add_one, List.getElem?_eq_getElem hjl, hxj] at hc
                rcases List.mem_append.1 hc with hc | hc
                · exact hall.out c hc
                · simp at hc; subst hc; exact h
              obtain ⟨m, hm⟩ : ∃ m : Int, (x.toNat : Int) = m := ⟨_, rfl⟩
              have HT := hide htk
              have HM := hide hm
              clear htk
              by_cases c1 : m < 97
              · go_wp2_with fail
                go_ret
                exact ⟨rfl, hbx.out⟩
              by_cases c2 : 122 < m
              · go_wp2_with fail
                go_ret
                exact ⟨rfl, hbx.out⟩
              have hnext := hide (HT.out (low_of HM.out c1 c2))
              clear HT
              go_wp2_with fail
              go_roundg (gk - 1)
              case measure => omega
              case rel => exact ⟨j + 1, by omega, by go_num, rfl, hnext⟩
            · have hname : Cssp.okName u := ⟨HU0.out, fun c hc => hall.out c (by rw [List.take_of_length_le (by omega)]; exact hc)⟩
              have HN := hide hname
              have hd10' := hd10
              have b0 : (0 : Int) ≤ (i : Int) := by omega
              have b1 : (i : Int) < (l.length : Int) := by omega
              clear hname hall hjg
              go_wp2_with fail
              go_quiet (fail)
              have hbq := belowN wr nq
              generalize wr.drewN nq = wq at hbq ⊢
              have hcq := (hbq.cell (Nat.lt_of_lt_of_le HBL.out hbx.out.size)).trans hc
              have HBQ := hide (hbx.out.trans (hbq.mono hbx.out.size))
              have HOQ := hide (ownsRow_below hown.out hbq)
              clear hc hown hbx hbq
              go_wp2_with fail
              have HO : ∀ W : World, Below wq.heap.size wq W → W.ownsRow w.heap.size 27 4 (.slice aw M.length cw) M.length (tokCells M) := fun W h => ownsRow_below HOQ.out h
              have hbw := Nat.lt_of_lt_of_le HBL.out HBQ.out.size
              have hBe : Below wq.heap.size wq ((wq.alloc (.cells #[.int .u8 2, S u, .string .empty, .bool false, .int .u8 1, .string .empty, .string .empty, .bool false, .int .u8 13, S d, S u, .bool true] 27)).drew) := ((Below.refl _ wq).alloc (Nat.le_refl _) (.cells #[.int .u8 2, S u, .string .empty, .bool false, .int .u8 1, .string .empty, .string .empty, .bool false, .int .u8 13, S d, S u, .bool true] 27)).trans ((belowN (wq.alloc (.cells #[.int .u8 2, S u, .string .empty, .bool false, .int .u8 1, .string .empty, .string .empty, .bool false, .int .u8 13, S d, S u, .bool true] 27)) 1).mono ((Below.refl _ wq).alloc (Nat.le_refl _) (.cells #[.int .u8 2, S u, .string .empty, .bool false, .int .u8 1, .string .empty, .string .empty, .bool false, .int .u8 13, S d, S u, .bool true] 27)).size)
              have hOe := HO _ hBe
              have hNe : ∀ (j : Nat) (v : Value), [.int .u8 2, S u, .string .empty, .bool false, .int .u8 1, .string .empty, .string .empty, .bool false, .int .u8 13, S d, S u, .bool true][j]? = some v → ((wq.alloc (.cells #[.int .u8 2, S u, .string .empty, .bool false, .int .u8 1, .string .empty, .string .empty, .bool false, .int .u8 13, S d, S u, .bool true] 27)).drew).cell? ((⟨wq.heap.size, 0, none⟩ : Addr).add j) = some v := fun j v hv => cell_three wq 27 _ j v hv
              have hcq2 := (hBe.cell hbw).trans hcq
              have hmx : M.length + 3 ≤ maxLen := by have := HML.out; unfold maxLen; omega
              have hby : (M.length + 3) * 48 ≤ 140737488355328 := by have := HML.out; omega
              have hbs : w.heap.size ≤ ((wq.alloc (.cells #[.int .u8 2, S u, .string .empty, .bool false, .int .u8 1, .string .empty, .string .empty, .bool false, .int .u8 13, S d, S u, .bool true] 27)).drew).heap.size := Nat.le_trans HBQ.out.size hBe.size
              have hcell : ∀ W' : World, (wq.alloc (.cells #[.int .u8 2, S u, .string .empty, .bool false, .int .u8 1, .string .empty, .string .empty, .bool false, .int .u8 13, S d, S u, .bool true] 27)).drew.grownBy W' (Value.slice aw M.length cw).ownBlock → W'.cell? ⟨b, o + i, none⟩ = some (S u) := fun W' hg =>
                ((hg.cell_far ⟨b, o + i, none⟩ (Nat.lt_of_lt_of_le hbw hBe.size) (fun e => absurd ((hOe.lt b e.symm).1) (by have := HBL.out; omega))).trans (hBe.cell hbw)).trans hcq
              go_region_held_law (fun w' => w'.cell? ⟨b, o + i, none⟩ = some (S u)) (first | exact hcq | exact hcq2 | exact hcell _ (by assumption) | go_keep)
                ((refine step_append_lies _ rfl (.tmp 104) (.tmp 117) 23 rfl w.heap.size 27 i0 (.agg #[.int .u8 0, .string .empty, .string .empty, .bool false]) 4 48 Tryz.underlying23 hi hz0 hz1 hz2 rfl (by decide) (.slice aw M.length cw) M.length (tokCells M) (by simp [Act.eval]) hOe ⟨wq.heap.size, 0, none⟩ 3 3 [.int .u8 2, S u, .string .empty, .bool false, .int .u8 1, .string .empty, .string .empty, .bool false, .int .u8 13, S d, S u, .bool true] (by simp [Act.eval]) rfl hNe (by simp [Value.oneCell', S]) (by decide) hmx hby hbs _ rfl ?_; intro g cap w1' hown1 hgrow1 hat1 hlt1))
              have hb1' := (HBQ.out.trans (hBe.mono HBQ.out.size)).grown hgrow1 hbs (fun k hk => (hOe.lt k hk).1)
              have hown2 : w1'.ownsRow w.heap.size 27 4 (.slice (some ⟨g, 0, none⟩) (M.length + 3) cap) (M ++ ([⟨2, u, [], false⟩, ⟨1, [], [], false⟩, ⟨13, d, u, true⟩] : List Cssp.Tk)).length (tokCells (M ++ ([⟨2, u, [], false⟩, ⟨1, [], [], false⟩, ⟨13, d, u, true⟩] : List Cssp.Tk))) := by
                rw [tokCells_append, List.length_append]; exact hown1
              have htk : l.take (i + 1) = l.take i ++ [u] := by rw [List.take_add_one, HX.out]; rfl
              have hacc1 : (acc ++ (u ++ 32 :: 47 :: 42 :: 99 :: 42 :: 47 :: (d ++ (u ++ [47, 42, 42, 47])))) = Cssp.wordsT d (l.take (i + 1)) := by
                rw [htk, Cssp.wordsT_snoc, heq.out.1]; simp [Cssp.cC, Cssp.cD]
              have hM1 : M ++ ([⟨2, u, [], false⟩, ⟨1, [], [], false⟩, ⟨13, d, u, true⟩] : List Cssp.Tk) = Cssp.wantT d (l.take (i + 1)) := by
                rw [htk, Cssp.wantT_snoc, heq.out.2]
              have hok1 : ∀ t ∈ l.take (i + 1), Cssp.okName t := fun t ht => by
                rw [htk] at ht
                rcases List.mem_append.1 ht with ht | ht
                · exact hok.out t ht
                · simp at ht; subst ht; exact HN.out
              have hlen1 : (acc ++ (u ++ 32 :: 47 :: 42 :: 99 :: 42 :: 47 :: (d ++ (u ++ [47, 42, 42, 47])))).length ≤ 220 * (i + 1) := by simp; omega
              have HB' := hide hb1'
              have HO' := hide hown2
              have HE' := hide (And.intro hacc1 hM1)
              have HK' := hide hok1
              have HL' := hide hlen1
              have HML' : Hid ((M ++ ([⟨2, u, [], false⟩, ⟨1, [], [], false⟩, ⟨13, d, u, true⟩] : List Cssp.Tk)).length = 3 * (i + 1)) := by have := HML.out; unfold Hid; simp; omega
              clear hb1' hown2 hacc1 hM1 hok1 hlen1 htk hown1 hgrow1 hat1 hlt1 hcell hbs hby hmx hNe hOe hBe hcq2 HO HOQ HBQ hcq
              go_wp2_with fail
              go_roundg (gk0 - 1)
              case measure => have := hGK.out; omega
              case rel => exact ⟨i + 1, acc ++ (u ++ 32 :: 47 :: 42 :: 99 :: 42 :: 47 :: (d ++ (u ++ [47, 42, 42, 47]))), M ++ ([⟨2, u, [], false⟩, ⟨1, [], [], false⟩, ⟨13, d, u, true⟩] : List Cssp.Tk), by have := hGK.out; omega, rfl, by go_num, HL'.out, HML'.out, HE'.out, HO', HK', HB'⟩
        · have hil : i = l.length := by omega
          subst hil
          have hacc' : acc = Cssp.wordsT d l := by have := heq.out.1; rwa [List.take_length] at this
          have hM' : M = Cssp.wantT d l := by have := heq.out.2; rwa [List.take_length] at this
          obtain ⟨L, hL⟩ : ∃ L, M ++ ([⟨11, d, [], true⟩] : List Cssp.Tk) = L := ⟨_, rfl⟩
          have hrd : (Cssp.read (acc ++ d)).l = L := by
            have := Cssp.read_words d HD0.out HDG.out l (fun t ht => hok.out t (by rwa [List.take_length]))
            rw [← hacc', ← hM', hL] at this
            exact this
          obtain ⟨P, hP⟩ : ∃ P, acc ++ d = P := ⟨_, rfl⟩
          have hPl : P.length ≤ 116000 := by rw [← hP, List.length_append]; omega
          have hLl : L.length = M.length + 1 := by rw [← hL, List.length_append]; rfl
          have hLm : L.length ≤ maxLen := by have := HML.out; unfold maxLen; omega
          rw [hP] at hrd
          have hT0 := fun W (hT : Tab W) => tokens_ P W hT hPl
          rw [hrd] at hT0
          have K := fun W hT => hide (hT0 W hT)
          have HP := hide hP
          have HL := hide hL
          have HLL := hide hLl
          have HLm := hide hLm
          have HO := hown
          have HB := hbx
          clear hT0 hacc' hM' hrd hok heq hP hL hLl hLm hown hbx
          go_wp2_with (at_builtin; refine wpList_append_own _ rfl _ _ 23 rfl w.heap.size 27 i0 (.agg #[.int .u8 0, .string .empty, .string .empty, .bool false]) 4 48 Tryz.underlying23 hi hz0 hz1 hz2 rfl (by decide) _ _ _ rfl (HO.out.alloc _) ⟨wr.heap.size, 0, none⟩ 1 1 [.int .u8 11, S d, .string .empty, .bool true] rfl rfl (cell_four wr 27 (.int .u8 11) (S d) (.string .empty) (.bool true)) ?c2 ?c3 ?c4 ?c5 ?_)
          case c2 => exact fun u hu => by simp at hu; rcases hu with rfl | rfl | rfl | rfl <;> rfl
          case c3 => have := HML.out; unfold maxLen; omega
          case c4 => have := HML.out; omega
          case c5 => have := HB.out.size; simp; omega
          intro v' w8 hown' hgrow _
          have hal := (Below.refl wr.heap.size wr).alloc (Nat.le_refl _) (.cells #[.int .u8 11, S d, .string .empty, .bool true] 27)
          have hb8 := (HB.out.trans (hal.mono HB.out.size)).grown hgrow (by have := HB.out.size; simp; omega) (fun k hk => (HO.out.lt k hk).1)
          have ho8 : w8.ownsRow w.heap.size 27 4 v' L.length (tokCells L) := by
            rw [HLL.out, ← HL.out, tokCells_append]
            exact hown'
          obtain ⟨a8, c8, hv8⟩ := slice_of ho8
          subst hv8
          have hR8 := RT.of_own ho8
          have HB8 := hide hb8
          have HR8 := hide hR8
          have KT := K w8 (HTW.out.below (by omega) hb8)
          have HPP := hide HP.out
          rw [← HP.out] at KT
          clear hown' hgrow hal hb8 ho8 hR8 K HO HB HPP
          have hPl : ¬ 9223372036854775807 < acc.length + d.length := by omega
          go_wp2_with fail
          refine Calls.mono KT.out ?_
          rintro e w9 ⟨v9, rfl, ho9, hb9⟩
          obtain ⟨a9, c9, hv9⟩ := slice_of ho9
          subst hv9
          have HR9 := hide (RT.of_own ho9)
          have HR8' := hide (HR8.out.below hb9)
          have HB9 := hide (HB8.out.trans (hb9.mono HB8.out.size))
          have HS := hide (same_any _ _ L L w9 HR9.out HR8'.out HLm.out HLm.out)
          clear KT ho9 hb9 HR8 HR9 HR8' HB8
          go_wp2_with fail
          refine Calls.mono HS.out ?_
          rintro e w10 ⟨rfl, hd10⟩
          have hb10 := HB9.out.trans ((below_drawn hd10).mono HB9.out.size)
          clear hd10 HS
          go_wp2_with fail
          go_ret
          exact ⟨by simp, hb10⟩
end Go.Proofs.YtojgcangnkjmjaaGreatDoor
