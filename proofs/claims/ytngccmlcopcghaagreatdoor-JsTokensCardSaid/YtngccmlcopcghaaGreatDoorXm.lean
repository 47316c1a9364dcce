/- The reference's raw: where a string or a template ends. -/
import Derived.Test.YtngccmlcopcghaaGreatDoorXl
import Derived.Test.YtngccmlcopcghaaGreatDoorXh
import Derived.Test.YtngccmlcopcghaaGreatDoorXj
import Derived.Test.YtngccmlcopcghaaGreatDoorUa
set_option maxRecDepth 100000
set_option maxHeartbeats 8000000
namespace Go.Proofs.YtngccmlcopcghaaGreatDoor
namespace Jsp
open Go
theorem skip_eq (F : List UInt8) (n : Nat) : (pt (F.drop (n + 1)) = 13 -> F[n + 2]? = some 10 -> skip (F.drop (n + 1)) = 2) /\ (¬ (pt (F.drop (n + 1)) = 13 /\ F[n + 2]? = some 10) -> skip (F.drop (n + 1)) = pn (F.drop (n + 1))) := by
 have hd : F.drop (n + 2) = (F.drop (n + 1)).drop 1 := by rw [List.drop_drop]
 have key : [13, 10].isPrefixOf (F.drop (n + 1)) = true ↔ (pt (F.drop (n + 1)) = 13 /\ F[n + 2]? = some 10) := by
  rw [crlf_pt, <- List.head?_drop, hd]
  constructor
  ·rintro ⟨h1, h2⟩
   refine ⟨h1, ?_⟩
   have h0 : (F.drop (n + 1)).drop 1 ≠ [] := fun e => by rw [e] at h2; cases h2
   obtain ⟨c, r, e, hc, _⟩ := pt_byte h0 (by omega)
   rw [e]
   have : c = 10 := UInt8.toNat_inj.1 (by rw [hc, h2]; rfl)
   rw [this]; rfl
  ·rintro ⟨h1, h2⟩
   refine ⟨h1, ?_⟩
   cases h3 : (F.drop (n + 1)).drop 1 with
   | nil => rw [h3] at h2; cases h2
   | cons c r =>
    rw [h3] at h2
    injection h2 with h2
    subst h2
    exact pt_ascii (c := 10) (by decide) r
 unfold skip
 constructor
 ·intro h1 h2
  rw [if_pos (key.2 ⟨h1, h2⟩)]
 ·intro h
  rw [if_neg (fun e => h (key.1 e))]
theorem skip_len (r : List UInt8) : skip r <= r.length := by
 by_cases h : r = []
 ·subst h; exact Nat.le_refl _
 ·exact (skip_le h).2
def LastOk (L : Nat) (last : Int) : Prop := last = -1 \/ ∃ j : Nat, last = (j : Int) /\ j < L
theorem RI.ok {q : UInt8} {T : List UInt8} {k j : Nat} {last : Int} (h : RI q T k j last) {L : Nat} (hL : k + T.length <= L) : LastOk L last := by
 have hlt : ∀ {l : Nat}, T[l]? = some 92 -> l < T.length := fun h => (List.getElem?_eq_some_iff.1 h).1
 rcases h with ⟨_, _, h⟩ | ⟨_, _, l, h1, _, h2, _⟩
 ·rcases h with ⟨h, _⟩ | ⟨l, h1, _, h2, _⟩
  ·exact .inl h
  ·exact .inr ⟨k + l, h1, by have := hlt h2; omega⟩
 ·exact .inr ⟨k + l, h1, by have := hlt h2; omega⟩
end Jsp
open Go.RowKit
theorem ri_at {j k n m : Nat} (h : k <= n) (hj : m = n + j) : n - k + j = m - k := by omega
theorem kj_at {k n : Nat} (h : k <= n) : k + (n - k) = n := by omega
theorem raw_len {L n x y : Nat} (h : n < L) (hs : y <= L - (n + 1)) (hx : x = n + 1 + y) : L - x + x = L /\ L - x < L - n /\ n <= x := by omega
theorem gn {g n L : Nat} (h : g + n = L) : g = L - n := by omega
theorem wr1L {n L : Nat} (h : n < L) (hL : L <= 1048576) : wrap64 ((n : Int) + 1) = (n : Int) + 1 := wr1 (by omega)
theorem wr2L {n L : Nat} (h : n < L) (hL : L <= 1048576) : wrap64 ((n : Int) + 2) = (n : Int) + 2 := wr2 (by omega)
theorem wrnL {n y L : Nat} (h : n < L) (hL : L <= 1048576) (hy : y <= L - (n + 1)) : wrap64 ((n : Int) + 1 + (y : Int)) = (n : Int) + 1 + (y : Int) := by unfold wrap64; omega
theorem wr12 {n : Nat} (h : n <= 1048580) : wrap64 ((n : Int) + 1 + 2) = (n : Int) + 1 + 2 := by unfold wrap64; omega
theorem rRawT (b : Nat) (F : List UInt8) (a : Int) (kk : List UInt8) (d : Bool) (l : List UInt8) (so : Bool) (e0 p0 : Int) (fr : Fr) (k : Nat) (w : World) (h : MB w b F a kk d l so e0 p0 fr) (hk : k <= F.length) (hl : F.length <= 1048576) :
  Calls Tryz.prog 126 #[.pointer (some ⟨b, 0, none⟩), .int .i64 (k : Int), .int .u8 96] w fun e w' => ∃ tp last : Int, e = .returned (.tuple #[.int .i64 tp, .int .i64 last]) /\ Below w.heap.size w w' /\ Jsp.LastOk F.length last /\ RawP 96 (F.drop k) k tp last := by
 have HL0 := hide h
 have HL := hide hl
 clear h
 go_enter Tryz.func126, Tryz.ntmps126
 go_wp2_with fail
 go_loopg [8, 9] (F.length - k) (fun g s8 s9 wx => ∃ (n : Nat) (last : Int), s9 = .int .i64 (n : Int) /\ s8 = .int .i64 last /\ k <= n /\ g + n = F.length /\ Hid (Below w.heap.size w wx) /\ Hid (Jsp.RI 96 (F.drop k) k (n - k) last))
 case atStart => exact ⟨k, -1, rfl, rfl, Nat.le_refl _, by omega, Below.refl _ _, by unfold Hid; rw [Nat.sub_self]; exact Jsp.RI.start 96 _ k⟩
 case round =>
  obtain ⟨n, last, rfl, rfl, hkn, hgn, hB, hI⟩ := hrel
  have c0 := (HL0.out.below hB.out).cells.1
  have hbs : Hid (w.heap.size <= wr.heap.size) := hB.out.size
  have HOK : Hid (Jsp.LastOk F.length last) := hI.out.ok (by rw [List.length_drop]; omega)
  by_cases hlt : n < F.length
  rotate_left
  ·have hne : n = F.length := by omega
   have q0 : decide ((n : Int) < (F.length : Int)) = false := decide_eq_false (by omega)
   have hi := hI.out
   rw [show n - k = (F.drop k).length by rw [List.length_drop]; omega] at hi
   obtain ⟨e1, e2⟩ := hi.end
   have E1 := hide e1
   have E2 := hide e2
   clear hi e1 e2 hI hne hl
   go_wp2_with fail
   refine bodyPost_ret (v := .tuple #[.int .i64 (-1), .int .i64 last]) (by simp [results, Tryz.results126, go_sem]) rfl ?_
   exact ⟨_, _, rfl, hB.out, HOK.out, .inr (.inr ⟨E1.out, rfl, E2.out⟩)⟩
  have b0 : (0 : Int) <= (n : Int) := by omega
  have b1 : (n : Int) < (F.length : Int) := by omega
  obtain ⟨c, hc⟩ : ∃ c, F[n] = c := ⟨_, rfl⟩
  obtain ⟨r, hr⟩ : ∃ r, F.drop (n + 1) = r := ⟨_, rfl⟩
  have hdn : F.drop n = c :: r := by rw [List.drop_eq_getElem_cons hlt, hc, hr]
  have hT : (F.drop k).drop (n - k) = c :: r := by rw [drop_add hkn, hdn]
  have HT := hide hT
  have hcb := u8_lt c
  have HW1 := hide (wr1L hlt hl)
  have hrl : r.length = F.length - (n + 1) := by rw [<- hr, List.length_drop]
  have HRL := hide hrl
  have HGN := hide (gn hgn)
  have HKN := hide hkn
  clear hT hdn hrl
  by_cases h92 : c = 92
  ·subst h92
   have hI2 := hI.out.esc HT.out (by 
    rintro (h | ⟨_, h⟩)
    ·exact absurd h (by decide)
    ·exact absurd h (by simp [List.isPrefixOf]))
   rw [kj_at hkn] at hI2
   obtain ⟨x, hx⟩ : ∃ x, Jsp.pt r = x := ⟨_, rfl⟩
   obtain ⟨y, hy⟩ : ∃ y, Jsp.pn r = y := ⟨_, rfl⟩
   have HP := fun W => rPoint F (n + 1) W HL.out
   rw [ptV, hr, hx, hy] at HP
   have HP := hide HP
   have hsk := Jsp.skip_eq F n
   have hsl := Jsp.skip_len r
   have hyl := Jsp.pn_len r
   rw [hr, hx, hy] at hsk
   rw [hy] at hyl
   have HW2 := hide (wr2L hlt hl)
   have HW3 := hide (wrnL hlt hl (y := y) (by rw [<- HRL.out]; exact hyl))
   have HN3 := hide (wr12 (n := n) (by omega))
   have b2 : (0 : Int) <= (n : Int) + 2 := by omega
   have b3 : ((n : Int) + 2).toNat = n + 2 := by omega
   have HSK := hide hsk
   have HSL := hide hsl
   have HI2 := hide hI2
   have HYL := hide hyl
   clear hsk hsl hI2 hyl hx hy hI hgn
   by_cases h13 : x = 13
   ·have q3 : ((x : Int) == 13) = true := ji_t h13
    have H13 := hide h13
    clear h13
    by_cases hlt2 : n + 2 < F.length
    ·have q4 : decide ((n : Int) + 2 < (F.length : Int)) = true := decide_eq_true (by omega)
     have q4p : (n : Int) + 2 < (F.length : Int) := by omega
     obtain ⟨v, hv⟩ : ∃ v, F[n + 2] = v := ⟨_, rfl⟩
     have hv? : F[n + 2]? = some v := by rw [List.getElem?_eq_getElem hlt2, hv]
     have hvb := u8_lt v
     by_cases h10 : v = 10
     ·have q5 : ((v.toNat : Int) == 10) = true := u8t h10
      have hs := HSK.out.1 H13.out (by rw [hv?, h10])
      have HS := hide hs
      have hn3 := HN3.out
      have HLT := hide hlt
      have hw1 := HW1.out
      have hw2 := HW2.out
      clear h10 hs hv? hl
      go_wp2_with fail
      refine (HP.out _).mono ?_
      rintro e w2 ⟨rfl, hb2⟩
      have HB2 : Hid (Below w.heap.size w w2) := hB.out.trans (hb2.mono hbs.out)
      have c0' := c0
      clear c0'
      have c0b := (HL0.out.below HB2.out).cells.1
      clear hb2 HP c0
      go_wp2_with fail
      have hz := raw_len (x := n + 3) HLT.out (y := 2) (by have := HSL.out; rw [HS.out, HRL.out] at this; exact this) rfl
      go_roundg (F.length - (n + 3))
      case measure => rw [HGN.out]; exact hz.2.1
      case rel => exact ⟨n + 3, _, (by first | rfl | (rw [hn3]; rfl)), rfl, Nat.le_trans HKN.out hz.2.2, hz.1, HB2, by have := HI2.out; rw [HS.out, ri_at HKN.out (m := n + 3) rfl] at this; exact this⟩
     ·have q5 : ((v.toNat : Int) == 10) = false := u8f h10
      have hs := HSK.out.2 (fun h => h10 (by have := h.2; rw [hv?] at this; injection this))
      have HS := hide hs
      clear h10 hs hv? HN3 hl
      have hw1 := HW1.out
      have hw2 := HW2.out
      have hw3 := HW3.out
      have HLT := hide hlt
      go_wp2_with fail
      refine (HP.out _).mono ?_
      rintro e w2 ⟨rfl, hb2⟩
      have HB2 : Hid (Below w.heap.size w w2) := hB.out.trans (hb2.mono hbs.out)
      have c0b := (HL0.out.below HB2.out).cells.1
      clear hb2 HP c0
      go_wp2_with fail
      have hz := raw_len (x := n + 1 + y) HLT.out (y := y) (by have := HYL.out; rw [HRL.out] at this; exact this) rfl
      go_roundg (F.length - (n + 1 + y))
      case measure => rw [HGN.out]; exact hz.2.1
      case rel => exact ⟨n + 1 + y, _, (by first | rfl | (rw [hw3]; rfl)), rfl, Nat.le_trans HKN.out hz.2.2, hz.1, HB2, by have := HI2.out; rw [HS.out, ri_at HKN.out (m := n + 1 + y) (by rw [Nat.add_assoc])] at this; exact this⟩
    ·have q4 : decide ((n : Int) + 2 < (F.length : Int)) = false := decide_eq_false (by omega)
     have q4p : ¬ (n : Int) + 2 < (F.length : Int) := by omega
     have hs := HSK.out.2 (fun h => by have := h.2; rw [List.getElem?_eq_none (by omega)] at this; cases this)
     have HS := hide hs
     clear hs hlt2 HN3 hl
     have hw1 := HW1.out
     have hw2 := HW2.out
     have hw3 := HW3.out
     have HLT := hide hlt
     go_wp2_with fail
     refine (HP.out _).mono ?_
     rintro e w2 ⟨rfl, hb2⟩
     have HB2 : Hid (Below w.heap.size w w2) := hB.out.trans (hb2.mono hbs.out)
     have c0b := (HL0.out.below HB2.out).cells.1
     clear hb2 HP c0
     go_wp2_with fail
     have hz := raw_len (x := n + 1 + y) HLT.out (y := y) (by have := HYL.out; rw [HRL.out] at this; exact this) rfl
     go_roundg (F.length - (n + 1 + y))
     case measure => rw [HGN.out]; exact hz.2.1
     case rel => exact ⟨n + 1 + y, _, (by first | rfl | (rw [hw3]; rfl)), rfl, Nat.le_trans HKN.out hz.2.2, hz.1, HB2, by have := HI2.out; rw [HS.out, ri_at HKN.out (m := n + 1 + y) (by rw [Nat.add_assoc])] at this; exact this⟩
   ·have q3 : ((x : Int) == 13) = false := ji_f h13
    have hs := HSK.out.2 (fun h => h13 h.1)
    have HS := hide hs
    clear h13 hs HN3 hl
    have hw1 := HW1.out
    have hw2 := HW2.out
    have hw3 := HW3.out
    have HLT := hide hlt
    go_wp2_with fail
    refine (HP.out _).mono ?_
    rintro e w2 ⟨rfl, hb2⟩
    have HB2 : Hid (Below w.heap.size w w2) := hB.out.trans (hb2.mono hbs.out)
    have c0b := (HL0.out.below HB2.out).cells.1
    clear hb2 HP c0
    go_wp2_with fail
    have hz := raw_len (x := n + 1 + y) HLT.out (y := y) (by have := HYL.out; rw [HRL.out] at this; exact this) rfl
    go_roundg (F.length - (n + 1 + y))
    case measure => rw [HGN.out]; exact hz.2.1
    case rel => exact ⟨n + 1 + y, _, (by first | rfl | (rw [hw3]; rfl)), rfl, Nat.le_trans HKN.out hz.2.2, hz.1, HB2, by have := HI2.out; rw [HS.out, ri_at HKN.out (m := n + 1 + y) (by rw [Nat.add_assoc])] at this; exact this⟩
  have q92 : ((c.toNat : Int) == 92) = false := u8f h92
  have H92 := hide h92
  clear h92
  by_cases hcq : c = 96
  ·have q1 : ((c.toNat : Int) == 96) = true := u8t hcq
   obtain ⟨e1, e2⟩ := hI.out.ends HT.out (.inl hcq)
   have E1 := hide e1
   have E2 := hide e2
   clear e1 e2 hcq hI hgn hl
   go_wp2_with fail
   refine bodyPost_ret (v := .tuple #[.int .i64 (n : Int), .int .i64 last]) (by simp [results, Tryz.results126, go_sem]) rfl ?_
   exact ⟨_, _, rfl, hB.out, HOK.out, .inl ⟨n - k, E1.out, by rw [kj_at HKN.out], E2.out⟩⟩
  have q1 : ((c.toNat : Int) == 96) = false := u8f hcq
  have HCQ := hide hcq
  clear hcq
  have z1 : gk - 1 + (n + 1) = F.length := by omega
  have z2 : gk - 1 < gk := by omega
  have hby := fun hc => hI.out.byte HT.out hc (fun h => h.1 rfl) H92.out
  by_cases h36 : c = 36
  ·have q3 : ((c.toNat : Int) == 36) = true := u8t h36
   have H36 := hide h36
   clear h36
   by_cases hlt2 : n + 1 < F.length
   ·have q4 : decide ((n : Int) + 1 < (F.length : Int)) = true := decide_eq_true (by omega)
    have q4p : (n : Int) + 1 < (F.length : Int) := by omega
    have b2 : (0 : Int) <= (n : Int) + 1 := by omega
    have b3 : ((n : Int) + 1).toNat = n + 1 := by omega
    obtain ⟨v, hv⟩ : ∃ v, F[n + 1] = v := ⟨_, rfl⟩
    have hrv : ∃ t, r = v :: t := ⟨F.drop (n + 2), by rw [<- hr, List.drop_eq_getElem_cons hlt2, hv]⟩
    have hvb := u8_lt v
    by_cases h123 : v = 123
    ·have q5 : ((v.toNat : Int) == 123) = true := u8t h123
     obtain ⟨e1, e2⟩ := hI.out.ends HT.out (.inr ⟨rfl, by obtain ⟨t, ht⟩ := hrv; rw [ht, H36.out, h123]; rfl⟩)
     have E1 := hide e1
     have E2 := hide e2
     have hw1 := HW1.out
     clear e1 e2 hI hgn hl hby h123 hrv z1 z2
     go_wp2_with fail
     refine bodyPost_ret (v := .tuple #[.int .i64 (n : Int), .int .i64 last]) (by simp [results, Tryz.results126, go_sem]) rfl ?_
     exact ⟨_, _, rfl, hB.out, HOK.out, .inl ⟨n - k, E1.out, by rw [kj_at HKN.out], E2.out⟩⟩
    ·have q5 : ((v.toNat : Int) == 123) = false := u8f h123
     have HI2 := hide (hby (by
      rintro (h | ⟨_, h⟩)
      ·exact HCQ.out h
      ·obtain ⟨t, ht⟩ := hrv
       rw [ht, H36.out] at h
       simp [List.isPrefixOf] at h
       exact h123 h.symm))
     clear hI hgn hl hby h123 hrv
     have hw1 := HW1.out
     go_wp2_with fail
     go_roundg (gk - 1)
     case measure => exact z2
     case rel => exact ⟨n + 1, _, (by first | rfl | (rw [hw1]; rfl)), rfl, Nat.le_succ_of_le HKN.out, z1, hB, by have := HI2.out; rw [ri_at HKN.out (m := n + 1) rfl] at this; exact this⟩
   ·have q4 : decide ((n : Int) + 1 < (F.length : Int)) = false := decide_eq_false (by omega)
    have q4p : ¬ (n : Int) + 1 < (F.length : Int) := by omega
    have hr0 : r = [] := by rw [<- hr]; exact List.drop_eq_nil_of_le (by omega)
    have HI2 := hide (hby (by
     rintro (h | ⟨_, h⟩)
     ·exact HCQ.out h
     ·rw [hr0] at h
      simp [List.isPrefixOf] at h))
    clear hI hgn hl hby hr0
    have hw1 := HW1.out
    go_wp2_with fail
    go_roundg (gk - 1)
    case measure => exact z2
    case rel => exact ⟨n + 1, _, (by first | rfl | (rw [hw1]; rfl)), rfl, Nat.le_succ_of_le HKN.out, z1, hB, by have := HI2.out; rw [ri_at HKN.out (m := n + 1) rfl] at this; exact this⟩
  ·have q3 : ((c.toNat : Int) == 36) = false := u8f h36
   have HI2 := hide (hby (by
    rintro (h | ⟨_, h⟩)
    ·exact HCQ.out h
    ·simp [List.isPrefixOf] at h
     exact h36 h.1.symm))
   clear hI hgn hl hby h36
   have hw1 := HW1.out
   go_wp2_with fail
   go_roundg (gk - 1)
   case measure => exact z2
   case rel => exact ⟨n + 1, _, (by first | rfl | (rw [hw1]; rfl)), rfl, Nat.le_succ_of_le HKN.out, z1, hB, by have := HI2.out; rw [ri_at HKN.out (m := n + 1) rfl] at this; exact this⟩
theorem rRawQ (q : UInt8) (hq96 : ¬ q = 96) (hq92 : ¬ q = 92) (b : Nat) (F : List UInt8) (a : Int) (kk : List UInt8) (d : Bool) (l : List UInt8) (so : Bool) (e0 p0 : Int) (fr : Fr) (k : Nat) (w : World) (h : MB w b F a kk d l so e0 p0 fr) (hk : k <= F.length) (hl : F.length <= 1048576) :
  Calls Tryz.prog 126 #[.pointer (some ⟨b, 0, none⟩), .int .i64 (k : Int), .int .u8 q.toNat] w fun e w' => ∃ tp last : Int, e = .returned (.tuple #[.int .i64 tp, .int .i64 last]) /\ Below w.heap.size w w' /\ Jsp.LastOk F.length last /\ RawP q (F.drop k) k tp last := by
 have HL0 := hide h
 have hqb := u8_lt q
 have q2 : ((q.toNat : Int) == 96) = false := u8f hq96
 have q2n : ((q.toNat : Int) != 96) = true := u8n hq96
 have q2p : ¬ (q.toNat : Int) = 96 := by simpa using q2
 have HQ96 := hide hq96
 have HQ92 := hide hq92
 clear hq96 hq92
 have HL := hide hl
 clear h
 go_enter Tryz.func126, Tryz.ntmps126
 go_wp2_with fail
 go_loopg [8, 9] (F.length - k) (fun g s8 s9 wx => ∃ (n : Nat) (last : Int), s9 = .int .i64 (n : Int) /\ s8 = .int .i64 last /\ k <= n /\ g + n = F.length /\ Hid (Below w.heap.size w wx) /\ Hid (Jsp.RI q (F.drop k) k (n - k) last))
 case atStart => exact ⟨k, -1, rfl, rfl, Nat.le_refl _, by omega, Below.refl _ _, by unfold Hid; rw [Nat.sub_self]; exact Jsp.RI.start q _ k⟩
 case round =>
  obtain ⟨n, last, rfl, rfl, hkn, hgn, hB, hI⟩ := hrel
  have c0 := (HL0.out.below hB.out).cells.1
  have hbs : Hid (w.heap.size <= wr.heap.size) := hB.out.size
  have HOK : Hid (Jsp.LastOk F.length last) := hI.out.ok (by rw [List.length_drop]; omega)
  by_cases hlt : n < F.length
  rotate_left
  ·have hne : n = F.length := by omega
   have q0 : decide ((n : Int) < (F.length : Int)) = false := decide_eq_false (by omega)
   have hi := hI.out
   rw [show n - k = (F.drop k).length by rw [List.length_drop]; omega] at hi
   obtain ⟨e1, e2⟩ := hi.end
   have E1 := hide e1
   have E2 := hide e2
   clear hi e1 e2 hI hne hl
   go_wp2_with fail
   refine bodyPost_ret (v := .tuple #[.int .i64 (-1), .int .i64 last]) (by simp [results, Tryz.results126, go_sem]) rfl ?_
   exact ⟨_, _, rfl, hB.out, HOK.out, .inr (.inr ⟨E1.out, rfl, E2.out⟩)⟩
  have b0 : (0 : Int) <= (n : Int) := by omega
  have b1 : (n : Int) < (F.length : Int) := by omega
  obtain ⟨c, hc⟩ : ∃ c, F[n] = c := ⟨_, rfl⟩
  obtain ⟨r, hr⟩ : ∃ r, F.drop (n + 1) = r := ⟨_, rfl⟩
  have hdn : F.drop n = c :: r := by rw [List.drop_eq_getElem_cons hlt, hc, hr]
  have hT : (F.drop k).drop (n - k) = c :: r := by rw [drop_add hkn, hdn]
  have HT := hide hT
  have hcb := u8_lt c
  have HW1 := hide (wr1L hlt hl)
  have hrl : r.length = F.length - (n + 1) := by rw [<- hr, List.length_drop]
  have HRL := hide hrl
  have HGN := hide (gn hgn)
  have HKN := hide hkn
  clear hT hdn hrl
  by_cases h92 : c = 92
  ·subst h92
   have hI2 := hI.out.esc HT.out (by 
    rintro (h | ⟨_, h⟩)
    ·exact HQ92.out h.symm
    ·exact absurd h (by simp [List.isPrefixOf]))
   rw [kj_at hkn] at hI2
   obtain ⟨x, hx⟩ : ∃ x, Jsp.pt r = x := ⟨_, rfl⟩
   obtain ⟨y, hy⟩ : ∃ y, Jsp.pn r = y := ⟨_, rfl⟩
   have HP := fun W => rPoint F (n + 1) W HL.out
   rw [ptV, hr, hx, hy] at HP
   have HP := hide HP
   have hsk := Jsp.skip_eq F n
   have hsl := Jsp.skip_len r
   have hyl := Jsp.pn_len r
   rw [hr, hx, hy] at hsk
   rw [hy] at hyl
   have HW2 := hide (wr2L hlt hl)
   have HW3 := hide (wrnL hlt hl (y := y) (by rw [<- HRL.out]; exact hyl))
   have HN3 := hide (wr12 (n := n) (by omega))
   have b2 : (0 : Int) <= (n : Int) + 2 := by omega
   have b3 : ((n : Int) + 2).toNat = n + 2 := by omega
   have HSK := hide hsk
   have HSL := hide hsl
   have HI2 := hide hI2
   have HYL := hide hyl
   clear hsk hsl hI2 hyl hx hy hI hgn
   by_cases h13 : x = 13
   ·have q3 : ((x : Int) == 13) = true := ji_t h13
    have H13 := hide h13
    clear h13
    by_cases hlt2 : n + 2 < F.length
    ·have q4 : decide ((n : Int) + 2 < (F.length : Int)) = true := decide_eq_true (by omega)
     have q4p : (n : Int) + 2 < (F.length : Int) := by omega
     obtain ⟨v, hv⟩ : ∃ v, F[n + 2] = v := ⟨_, rfl⟩
     have hv? : F[n + 2]? = some v := by rw [List.getElem?_eq_getElem hlt2, hv]
     have hvb := u8_lt v
     by_cases h10 : v = 10
     ·have q5 : ((v.toNat : Int) == 10) = true := u8t h10
      have hs := HSK.out.1 H13.out (by rw [hv?, h10])
      have HS := hide hs
      have hn3 := HN3.out
      have HLT := hide hlt
      have hw1 := HW1.out
      have hw2 := HW2.out
      clear h10 hs hv? hl
      go_wp2_with fail
      refine (HP.out _).mono ?_
      rintro e w2 ⟨rfl, hb2⟩
      have HB2 : Hid (Below w.heap.size w w2) := hB.out.trans (hb2.mono hbs.out)
      have c0' := c0
      clear c0'
      have c0b := (HL0.out.below HB2.out).cells.1
      clear hb2 HP c0
      go_wp2_with fail
      have hz := raw_len (x := n + 3) HLT.out (y := 2) (by have := HSL.out; rw [HS.out, HRL.out] at this; exact this) rfl
      go_roundg (F.length - (n + 3))
      case measure => rw [HGN.out]; exact hz.2.1
      case rel => exact ⟨n + 3, _, (by first | rfl | (rw [hn3]; rfl)), rfl, Nat.le_trans HKN.out hz.2.2, hz.1, HB2, by have := HI2.out; rw [HS.out, ri_at HKN.out (m := n + 3) rfl] at this; exact this⟩
     ·have q5 : ((v.toNat : Int) == 10) = false := u8f h10
      have hs := HSK.out.2 (fun h => h10 (by have := h.2; rw [hv?] at this; injection this))
      have HS := hide hs
      clear h10 hs hv? HN3 hl
      have hw1 := HW1.out
      have hw2 := HW2.out
      have hw3 := HW3.out
      have HLT := hide hlt
      go_wp2_with fail
      refine (HP.out _).mono ?_
      rintro e w2 ⟨rfl, hb2⟩
      have HB2 : Hid (Below w.heap.size w w2) := hB.out.trans (hb2.mono hbs.out)
      have c0b := (HL0.out.below HB2.out).cells.1
      clear hb2 HP c0
      go_wp2_with fail
      have hz := raw_len (x := n + 1 + y) HLT.out (y := y) (by have := HYL.out; rw [HRL.out] at this; exact this) rfl
      go_roundg (F.length - (n + 1 + y))
      case measure => rw [HGN.out]; exact hz.2.1
      case rel => exact ⟨n + 1 + y, _, (by first | rfl | (rw [hw3]; rfl)), rfl, Nat.le_trans HKN.out hz.2.2, hz.1, HB2, by have := HI2.out; rw [HS.out, ri_at HKN.out (m := n + 1 + y) (by rw [Nat.add_assoc])] at this; exact this⟩
    ·have q4 : decide ((n : Int) + 2 < (F.length : Int)) = false := decide_eq_false (by omega)
     have q4p : ¬ (n : Int) + 2 < (F.length : Int) := by omega
     have hs := HSK.out.2 (fun h => by have := h.2; rw [List.getElem?_eq_none (by omega)] at this; cases this)
     have HS := hide hs
     clear hs hlt2 HN3 hl
     have hw1 := HW1.out
     have hw2 := HW2.out
     have hw3 := HW3.out
     have HLT := hide hlt
     go_wp2_with fail
     refine (HP.out _).mono ?_
     rintro e w2 ⟨rfl, hb2⟩
     have HB2 : Hid (Below w.heap.size w w2) := hB.out.trans (hb2.mono hbs.out)
     have c0b := (HL0.out.below HB2.out).cells.1
     clear hb2 HP c0
     go_wp2_with fail
     have hz := raw_len (x := n + 1 + y) HLT.out (y := y) (by have := HYL.out; rw [HRL.out] at this; exact this) rfl
     go_roundg (F.length - (n + 1 + y))
     case measure => rw [HGN.out]; exact hz.2.1
     case rel => exact ⟨n + 1 + y, _, (by first | rfl | (rw [hw3]; rfl)), rfl, Nat.le_trans HKN.out hz.2.2, hz.1, HB2, by have := HI2.out; rw [HS.out, ri_at HKN.out (m := n + 1 + y) (by rw [Nat.add_assoc])] at this; exact this⟩
   ·have q3 : ((x : Int) == 13) = false := ji_f h13
    have hs := HSK.out.2 (fun h => h13 h.1)
    have HS := hide hs
    clear h13 hs HN3 hl
    have hw1 := HW1.out
    have hw2 := HW2.out
    have hw3 := HW3.out
    have HLT := hide hlt
    go_wp2_with fail
    refine (HP.out _).mono ?_
    rintro e w2 ⟨rfl, hb2⟩
    have HB2 : Hid (Below w.heap.size w w2) := hB.out.trans (hb2.mono hbs.out)
    have c0b := (HL0.out.below HB2.out).cells.1
    clear hb2 HP c0
    go_wp2_with fail
    have hz := raw_len (x := n + 1 + y) HLT.out (y := y) (by have := HYL.out; rw [HRL.out] at this; exact this) rfl
    go_roundg (F.length - (n + 1 + y))
    case measure => rw [HGN.out]; exact hz.2.1
    case rel => exact ⟨n + 1 + y, _, (by first | rfl | (rw [hw3]; rfl)), rfl, Nat.le_trans HKN.out hz.2.2, hz.1, HB2, by have := HI2.out; rw [HS.out, ri_at HKN.out (m := n + 1 + y) (by rw [Nat.add_assoc])] at this; exact this⟩
  have q92 : ((c.toNat : Int) == 92) = false := u8f h92
  have H92 := hide h92
  clear h92
  by_cases hcq : c = q
  ·have q1 : ((c.toNat : Int) == (q.toNat : Int)) = true := u8t hcq
   obtain ⟨e1, e2⟩ := hI.out.ends HT.out (.inl hcq)
   have E1 := hide e1
   have E2 := hide e2
   clear e1 e2 hcq hI hgn hl
   go_wp2_with fail
   refine bodyPost_ret (v := .tuple #[.int .i64 (n : Int), .int .i64 last]) (by simp [results, Tryz.results126, go_sem]) rfl ?_
   exact ⟨_, _, rfl, hB.out, HOK.out, .inl ⟨n - k, E1.out, by rw [kj_at HKN.out], E2.out⟩⟩
  have q1 : ((c.toNat : Int) == (q.toNat : Int)) = false := u8f hcq
  have HCQ := hide hcq
  clear hcq
  have hnc : ¬ (c = q \/ (q = 96 /\ ([36, 123] : List UInt8).isPrefixOf (c :: r) = true)) := by
   rintro (h | ⟨h, _⟩)
   ·exact HCQ.out h
   ·exact HQ96.out h
  by_cases hln : c = 10 \/ c = 13
  ·have e1 := hI.out.line HT.out hnc ⟨HQ96.out, hln⟩
   have E1 := hide e1
   have q3 : ((c.toNat : Int) == 10) = true \/ (((c.toNat : Int) == 10) = false /\ ((c.toNat : Int) == 13) = true) := by
    by_cases h : c = 10
    ·exact .inl (u8t h)
    ·exact .inr ⟨u8f h, u8t (by rcases hln with h2 | h2; exact absurd h2 h; exact h2)⟩
   clear e1 hI hgn hl hnc hln
   rcases q3 with q3 | ⟨q3, q4⟩
   ·go_wp2_with fail
    refine bodyPost_ret (v := .tuple #[.int .i64 (-2), .int .i64 last]) (by simp [results, Tryz.results126, go_sem]) rfl ?_
    exact ⟨_, _, rfl, hB.out, HOK.out, .inr (.inl ⟨E1.out, rfl⟩)⟩
   ·go_wp2_with fail
    refine bodyPost_ret (v := .tuple #[.int .i64 (-2), .int .i64 last]) (by simp [results, Tryz.results126, go_sem]) rfl ?_
    exact ⟨_, _, rfl, hB.out, HOK.out, .inr (.inl ⟨E1.out, rfl⟩)⟩
  ·have q3 : ((c.toNat : Int) == 10) = false := u8f (fun h => hln (.inl h))
   have q4 : ((c.toNat : Int) == 13) = false := u8f (fun h => hln (.inr h))
   have HI2 := hide (hI.out.byte HT.out hnc (fun h => hln h.2) H92.out)
   have z1 : gk - 1 + (n + 1) = F.length := by omega
   have z2 : gk - 1 < gk := by omega
   have hw1 := HW1.out
   clear hI hgn hl hnc hln
   go_wp2_with fail
   go_roundg (gk - 1)
   case measure => exact z2
   case rel => exact ⟨n + 1, _, (by first | rfl | (rw [hw1]; rfl)), rfl, Nat.le_succ_of_le HKN.out, z1, hB, by have := HI2.out; rw [ri_at HKN.out (m := n + 1) rfl] at this; exact this⟩
end Go.Proofs.YtngccmlcopcghaaGreatDoor
