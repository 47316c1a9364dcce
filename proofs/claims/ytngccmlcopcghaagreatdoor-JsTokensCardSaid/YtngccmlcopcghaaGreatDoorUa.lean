/- raw: where a string or a template ends. -/
import Derived.Test.YtngccmlcopcghaaGreatDoorTb
import Derived.Test.YtngccmlcopcghaaGreatDoorQl
import Derived.Deep.Cut
import Derived.Deep.CutRange
set_option maxRecDepth 100000
set_option maxHeartbeats 8000000
namespace Go.Proofs.YtngccmlcopcghaaGreatDoor
open Go.RowKit
def RawP (q : UInt8) (T : List UInt8) (k : Nat) (tp last : Int) : Prop :=
 (∃ j : Nat, Jsp.raw q T = .ends j /\ tp = ((k + j : Nat) : Int) /\ Jsp.Pth T j) \/ (Jsp.raw q T = .line /\ tp = -2) \/ (Jsp.raw q T = .script /\ tp = -1 /\ Jsp.LastP T k last)
theorem drop_add {F : List UInt8} {k n : Nat} (h : k <= n) : (F.drop k).drop (n - k) = F.drop n := by rw [List.drop_drop]; congr 1; omega
theorem jRaw (F : List UInt8) (B b a k : Nat) (q : UInt8) (st : Jsp.St) (ln : Bool) (w : World) (h : Lx w B b F a st ln) (hk : k <= F.length) (hs : Jsp.Suf (F.drop k)) (hl : F.length <= 4194304) :
  Calls Tryz.prog 71 #[.pointer (some ⟨b, 0, none⟩), .int .i64 (k : Int), .int .u8 q.toNat] w fun e w' => ∃ tp last : Int, e = .returned (.tuple #[.int .i64 tp, .int .i64 last]) /\ Below w.heap.size w w' /\ RawP q (F.drop k) k tp last := by
 have HS := hide hs
 have HL0 := hide h
 have hqb := u8_lt q
 clear h hs
 go_enter Tryz.func71, Tryz.ntmps71
 go_wp2_with fail
 go_loopg [7, 8] (F.length - k) (fun g s7 s8 wx => ∃ (n : Nat) (last : Int), s8 = .int .i64 n /\ s7 = .int .i64 last /\ k <= n /\ g + n = F.length /\ Hid (Below w.heap.size w wx) /\ Hid (Jsp.RI q (F.drop k) k (n - k) last))
 case atStart => exact ⟨k, -1, rfl, rfl, Nat.le_refl _, by omega, Below.refl _ _, by unfold Hid; rw [Nat.sub_self]; exact Jsp.RI.start q _ k⟩
 case round =>
  obtain ⟨n, last, rfl, rfl, hkn, hgn, hB, hI⟩ := hrel
  obtain ⟨ao, cap, lo, hx⟩ := HL0.out.below hB.out
  obtain ⟨c0, -⟩ := hx.cells
  clear hx
  by_cases hlt : n < F.length
  ·have b0 : (0 : Int) <= (n : Int) := by omega
   have b1 : (n : Int) < (F.length : Int) := by omega
   have b2 : (n : Int) <= (F.length : Int) := by omega
   obtain ⟨c, hc⟩ : ∃ c, F[n] = c := ⟨_, rfl⟩
   obtain ⟨r, hr⟩ : ∃ r, F.drop (n + 1) = r := ⟨_, rfl⟩
   have hdn : F.drop n = c :: r := by rw [List.drop_eq_getElem_cons hlt, hc, hr]
   have hT : (F.drop k).drop (n - k) = c :: r := by rw [drop_add hkn, hdn]
   have HT := hide hT
   have HDN := hide hdn
   have HRR := hide hr
   have hcb := u8_lt c
   have hsuf : Jsp.Suf (c :: r) := by rw [<- hT]; exact HS.out.drop _
   have HSUF := hide hsuf
   clear hT hdn hr hsuf
   by_cases hcq : c = q
   ·have q1 : ((c.toNat : Int) == (q.toNat : Int)) = true := u8t hcq
    obtain ⟨e1, e2⟩ := hI.out.ends HT.out (.inl hcq)
    have E1 := hide e1
    have E2 := hide e2
    clear e1 e2 hcq hI
    go_wp2_with fail
    refine bodyPost_ret (v := .tuple #[.int .i64 (n : Int), .int .i64 last]) (by simp [results, Tryz.results71, go_sem]) rfl ?_
    exact ⟨_, _, rfl, hB.out, .inl ⟨n - k, E1.out, by congr 1; omega, E2.out⟩⟩
   have q1 : ((c.toNat : Int) == (q.toNat : Int)) = false := u8f hcq
   have HCQ := hide hcq
   clear hcq
   have HTB := fun W (hW : Below w.heap.size w W) => hide (show Tab W by obtain ⟨_, _, _, h⟩ := HL0.out.below hW; exact h.tab)
   by_cases hq : q = 96
   ·have q2 : ((q.toNat : Int) == 96) = true := u8t hq
    have q2' : ((q.toNat : Int) != 96) = false := u8y hq
    have hnl : ¬ (q ≠ 96 /\ (c = 10 \/ c = 13)) := fun h => h.1 hq
    have HNL := hide hnl
    have HQ := hide hq
    clear hnl hq
    cases hp : ([36, 123] : List UInt8).isPrefixOf (c :: r) with
    | true =>
     have hP := fun W => hide (sHasPreV (F.drop n) [36, 123] true (by rw [HDN.out]; exact hp) W)
     obtain ⟨e1, e2⟩ := hI.out.ends HT.out (.inr ⟨HQ.out, hp⟩)
     have E1 := hide e1
     have E2 := hide e2
     clear e1 e2 hI hp
     go_wp2_with fail
     refine (hP _).out.mono ?_
     rintro e w1 ⟨rfl, rfl⟩
     go_wp2_with fail
     refine bodyPost_ret (v := .tuple #[.int .i64 (n : Int), .int .i64 last]) (by simp [results, Tryz.results71, go_sem]) rfl ?_
     exact ⟨_, _, rfl, hB.out, .inl ⟨n - k, E1.out, by congr 1; omega, E2.out⟩⟩
    | false =>
     have hP := fun W => hide (sHasPreV (F.drop n) [36, 123] false (by rw [HDN.out]; exact hp) W)
     have hno : ¬ (c = q \/ (q = 96 /\ ([36, 123] : List UInt8).isPrefixOf (c :: r) = true)) := by
      rintro (h | ⟨_, h⟩)
      ·exact HCQ.out h
      ·rw [hp] at h; cases h
     have HNO := hide hno
     clear hno hp
     by_cases h92 : c = 92
     ·have q5 : ((c.toNat : Int) == 92) = true := u8t h92
      subst h92
      have e1 := hI.out.esc HT.out HNO.out
      have e2 := Jsp.drop_get HT.out
      have HE := hide e1
      have hvr : Cssp.valid r = true := HSUF.out.valid (by decide)
      have hlen : r.length + (n + 1) = F.length := by rw [<- HRR.out, List.length_drop]; omega
      have b3 : (0 : Int) <= (n : Int) + 1 := by omega
      have b4 : (n : Int) + 1 <= (F.length : Int) := by omega
      have b5 : ((n : Int) + 1).toNat = n + 1 := by omega
      have HV := hide hvr
      have HLEN := hide hlen
      clear e1 e2 hI hvr hlen
      cases hcr : ([13, 10] : List UInt8).isPrefixOf r with
      | true =>
       have hC := fun W => hide (sHasPreV (F.drop (n + 1)) [13, 10] true (by rw [HRR.out]; exact hcr) W)
       obtain ⟨t, ht⟩ := List.isPrefixOf_iff_prefix.1 hcr
       have hsk : Jsp.skip r = 2 := by unfold Jsp.skip; rw [if_pos hcr]
       have hd2 : F.drop (n + 1 + 1) = 10 :: t := by rw [<- List.drop_drop, HRR.out, <- ht]; rfl
       have hv2 : Cssp.valid (10 :: t) = true := by
        have := HSUF.out.tail
        rw [<- ht] at this
        exact Jsp.Suf.valid (c := 13) this (by decide)
       have hl2 : n + 3 <= F.length := by have := HLEN.out; rw [<- ht] at this; simp at this; omega
       have hD : ∀ W, Tab W -> Calls Tryz.prog 56 #[S (F.drop (n + 1 + 1))] W (Fresh (.tuple #[.int .i32 10, .int .i64 1]) W) := fun W hT => by
        have := sDecode (10 :: t) W hT hv2 (by simp)
        rw [Jsp.pt_ascii (by decide), Jsp.pn_ascii (by decide), <- hd2] at this
        exact this
       have HD := fun W hT => hide (hD W hT)
       have HE2 : Hid (Jsp.RI q (F.drop k) k (n + 3 - k) (n : Int)) := by
        unfold Hid
        have := HE.out
        rw [hsk, show n - k + (1 + 2) = n + 3 - k by omega, show k + (n - k) = n by omega] at this
        exact this
       have b6 : (0 : Int) <= (n : Int) + 1 + 1 := by omega
       have b7 : (n : Int) + 1 + 1 <= (F.length : Int) := by omega
       have b8 : ((n : Int) + 1 + 1).toNat = n + 1 + 1 := by omega
       clear hcr ht hsk hd2 hv2 hD HE HV HLEN
       go_wp2_with fail
       refine (hP _).out.mono ?_
       rintro e w1 ⟨rfl, rfl⟩
       go_wp2_with fail
       refine (hC _).out.mono ?_
       rintro e w2 ⟨rfl, rfl⟩
       go_wp2_with fail
       refine (HD _ (HTB _ hB.out).out).out.mono ?_
       rintro e w3 ⟨rfl, hb3⟩
       have hB3 := hB.out.trans (hb3.mono hB.out.size)
       go_wp2_with fail
       go_roundg (gk - 3)
       case measure => omega
       case rel => exact ⟨n + 3, n, by go_num, rfl, by omega, by omega, hB3, HE2.out⟩
      | false =>
       have hC := fun W => hide (sHasPreV (F.drop (n + 1)) [13, 10] false (by rw [HRR.out]; exact hcr) W)
       have hsk : Jsp.skip r = Jsp.pn r := by unfold Jsp.skip; rw [hcr]; rfl
       obtain ⟨m, hm⟩ : ∃ m, Jsp.pn r = m := ⟨_, rfl⟩
       have hD : ∃ z : Nat, ∀ W, Tab W -> Calls Tryz.prog 56 #[S (F.drop (n + 1))] W (Fresh (.tuple #[.int .i32 (z : Int), .int .i64 (m : Int)]) W) := by
        by_cases h0 : r = []
        ·refine ⟨65533, fun W hT => ?_⟩
         rw [HRR.out, h0]
         have : m = 0 := by rw [<- hm, h0]; rfl
         rw [this]
         exact sDecode0 W hT
        ·refine ⟨Jsp.pt r, fun W hT => ?_⟩
         rw [HRR.out, <- hm]
         exact sDecode r W hT HV.out h0
       obtain ⟨z, hD⟩ := hD
       have hml : n + 1 + m <= F.length := by
        by_cases h0 : r = []
        ·have : m = 0 := by rw [<- hm, h0]; rfl
         omega
        ·have := (Jsp.pn_le h0).2
         have := HLEN.out
         omega
       have HD := fun W hT => hide (hD W hT)
       have HE2 : Hid (Jsp.RI q (F.drop k) k (n + m + 1 - k) (n : Int)) := by
        unfold Hid
        have := HE.out
        rw [hsk, hm, show n - k + (1 + m) = n + m + 1 - k by omega, show k + (n - k) = n by omega] at this
        exact this
       clear hcr hsk hm hD HE HV HLEN
       go_wp2_with fail
       refine (hP _).out.mono ?_
       rintro e w1 ⟨rfl, rfl⟩
       go_wp2_with fail
       refine (hC _).out.mono ?_
       rintro e w2 ⟨rfl, rfl⟩
       go_wp2_with fail
       refine (HD _ (HTB _ hB.out).out).out.mono ?_
       rintro e w3 ⟨rfl, hb3⟩
       have hB3 := hB.out.trans (hb3.mono hB.out.size)
       go_wp2_with fail
       go_roundg (gk - (m + 1))
       case measure => omega
       case rel => exact ⟨n + m + 1, n, by go_num, rfl, by omega, by omega, hB3, HE2.out⟩
     ·have q5 : ((c.toNat : Int) == 92) = false := u8f h92
      have e1 := hI.out.byte HT.out HNO.out HNL.out h92
      rw [show n - k + 1 = n + 1 - k by omega] at e1
      have HE := hide e1
      clear e1 hI h92
      go_wp2_with fail
      refine (hP _).out.mono ?_
      rintro e w1 ⟨rfl, rfl⟩
      go_wp2_with fail
      go_roundg (gk - 1)
      case measure => omega
      case rel => exact ⟨n + 1, last, by go_num, rfl, by omega, by omega, hB.out, HE.out⟩
   ·have q2 : ((q.toNat : Int) == 96) = false := u8f hq
    have q2' : ((q.toNat : Int) != 96) = true := u8n hq
    have hno : ¬ (c = q \/ (q = 96 /\ ([36, 123] : List UInt8).isPrefixOf (c :: r) = true)) := by
     rintro (h | ⟨h, _⟩)
     ·exact HCQ.out h
     ·exact hq h
    have HNO := hide hno
    have HQ := hide hq
    clear hno hq
    by_cases h10 : c = 10
    ·have q3 : ((c.toNat : Int) == 10) = true := u8t h10
     have e1 := hI.out.line HT.out HNO.out ⟨HQ.out, .inl h10⟩
     have E1 := hide e1
     clear e1 hI h10
     go_wp2_with fail
     refine bodyPost_ret (v := .tuple #[.int .i64 (-2), .int .i64 last]) (by simp [results, Tryz.results71, go_sem]) rfl ?_
     exact ⟨_, _, rfl, hB.out, .inr (.inl ⟨E1.out, rfl⟩)⟩
    have q3 : ((c.toNat : Int) == 10) = false := u8f h10
    by_cases h13 : c = 13
    ·have q4 : ((c.toNat : Int) == 13) = true := u8t h13
     have e1 := hI.out.line HT.out HNO.out ⟨HQ.out, .inr h13⟩
     have E1 := hide e1
     clear e1 hI h10 h13
     go_wp2_with fail
     refine bodyPost_ret (v := .tuple #[.int .i64 (-2), .int .i64 last]) (by simp [results, Tryz.results71, go_sem]) rfl ?_
     exact ⟨_, _, rfl, hB.out, .inr (.inl ⟨E1.out, rfl⟩)⟩
    have q4 : ((c.toNat : Int) == 13) = false := u8f h13
    have hnl : ¬ (q ≠ 96 /\ (c = 10 \/ c = 13)) := by
     rintro ⟨_, h | h⟩
     ·exact h10 h
     ·exact h13 h
    have HNL := hide hnl
    clear hnl h10 h13
    by_cases h92 : c = 92
    ·have q5 : ((c.toNat : Int) == 92) = true := u8t h92
     subst h92
     have e1 := hI.out.esc HT.out HNO.out
     have e2 := Jsp.drop_get HT.out
     have HE := hide e1
     have hvr : Cssp.valid r = true := HSUF.out.valid (by decide)
     have hlen : r.length + (n + 1) = F.length := by rw [<- HRR.out, List.length_drop]; omega
     have b3 : (0 : Int) <= (n : Int) + 1 := by omega
     have b4 : (n : Int) + 1 <= (F.length : Int) := by omega
     have b5 : ((n : Int) + 1).toNat = n + 1 := by omega
     have HV := hide hvr
     have HLEN := hide hlen
     clear e1 e2 hI hvr hlen
     cases hcr : ([13, 10] : List UInt8).isPrefixOf r with
     | true =>
      have hC := fun W => hide (sHasPreV (F.drop (n + 1)) [13, 10] true (by rw [HRR.out]; exact hcr) W)
      obtain ⟨t, ht⟩ := List.isPrefixOf_iff_prefix.1 hcr
      have hsk : Jsp.skip r = 2 := by unfold Jsp.skip; rw [if_pos hcr]
      have hd2 : F.drop (n + 1 + 1) = 10 :: t := by rw [<- List.drop_drop, HRR.out, <- ht]; rfl
      have hv2 : Cssp.valid (10 :: t) = true := by
       have := HSUF.out.tail
       rw [<- ht] at this
       exact Jsp.Suf.valid (c := 13) this (by decide)
      have hl2 : n + 3 <= F.length := by have := HLEN.out; rw [<- ht] at this; simp at this; omega
      have hD : ∀ W, Tab W -> Calls Tryz.prog 56 #[S (F.drop (n + 1 + 1))] W (Fresh (.tuple #[.int .i32 10, .int .i64 1]) W) := fun W hT => by
       have := sDecode (10 :: t) W hT hv2 (by simp)
       rw [Jsp.pt_ascii (by decide), Jsp.pn_ascii (by decide), <- hd2] at this
       exact this
      have HD := fun W hT => hide (hD W hT)
      have HE2 : Hid (Jsp.RI q (F.drop k) k (n + 3 - k) (n : Int)) := by
       unfold Hid
       have := HE.out
       rw [hsk, show n - k + (1 + 2) = n + 3 - k by omega, show k + (n - k) = n by omega] at this
       exact this
      have b6 : (0 : Int) <= (n : Int) + 1 + 1 := by omega
      have b7 : (n : Int) + 1 + 1 <= (F.length : Int) := by omega
      have b8 : ((n : Int) + 1 + 1).toNat = n + 1 + 1 := by omega
      clear hcr ht hsk hd2 hv2 hD HE HV HLEN
      go_wp2_with fail
      refine (hC _).out.mono ?_
      rintro e w2 ⟨rfl, rfl⟩
      go_wp2_with fail
      refine (HD _ (HTB _ hB.out).out).out.mono ?_
      rintro e w3 ⟨rfl, hb3⟩
      have hB3 := hB.out.trans (hb3.mono hB.out.size)
      go_wp2_with fail
      go_roundg (gk - 3)
      case measure => omega
      case rel => exact ⟨n + 3, n, by go_num, rfl, by omega, by omega, hB3, HE2.out⟩
     | false =>
      have hC := fun W => hide (sHasPreV (F.drop (n + 1)) [13, 10] false (by rw [HRR.out]; exact hcr) W)
      have hsk : Jsp.skip r = Jsp.pn r := by unfold Jsp.skip; rw [hcr]; rfl
      obtain ⟨m, hm⟩ : ∃ m, Jsp.pn r = m := ⟨_, rfl⟩
      have hD : ∃ z : Nat, ∀ W, Tab W -> Calls Tryz.prog 56 #[S (F.drop (n + 1))] W (Fresh (.tuple #[.int .i32 (z : Int), .int .i64 (m : Int)]) W) := by
       by_cases h0 : r = []
       ·refine ⟨65533, fun W hT => ?_⟩
        rw [HRR.out, h0]
        have : m = 0 := by rw [<- hm, h0]; rfl
        rw [this]
        exact sDecode0 W hT
       ·refine ⟨Jsp.pt r, fun W hT => ?_⟩
        rw [HRR.out, <- hm]
        exact sDecode r W hT HV.out h0
      obtain ⟨z, hD⟩ := hD
      have hml : n + 1 + m <= F.length := by
       by_cases h0 : r = []
       ·have : m = 0 := by rw [<- hm, h0]; rfl
        omega
       ·have := (Jsp.pn_le h0).2
        have := HLEN.out
        omega
      have HD := fun W hT => hide (hD W hT)
      have HE2 : Hid (Jsp.RI q (F.drop k) k (n + m + 1 - k) (n : Int)) := by
       unfold Hid
       have := HE.out
       rw [hsk, hm, show n - k + (1 + m) = n + m + 1 - k by omega, show k + (n - k) = n by omega] at this
       exact this
      clear hcr hsk hm hD HE HV HLEN
      go_wp2_with fail
      refine (hC _).out.mono ?_
      rintro e w2 ⟨rfl, rfl⟩
      go_wp2_with fail
      refine (HD _ (HTB _ hB.out).out).out.mono ?_
      rintro e w3 ⟨rfl, hb3⟩
      have hB3 := hB.out.trans (hb3.mono hB.out.size)
      go_wp2_with fail
      go_roundg (gk - (m + 1))
      case measure => omega
      case rel => exact ⟨n + m + 1, n, by go_num, rfl, by omega, by omega, hB3, HE2.out⟩
    ·have q5 : ((c.toNat : Int) == 92) = false := u8f h92
     have e1 := hI.out.byte HT.out HNO.out HNL.out h92
     rw [show n - k + 1 = n + 1 - k by omega] at e1
     have HE := hide e1
     clear e1 hI h92
     go_wp2_with fail
     go_roundg (gk - 1)
     case measure => omega
     case rel => exact ⟨n + 1, last, by go_num, rfl, by omega, by omega, hB.out, HE.out⟩
  ·have e : n = F.length := by omega
   subst e
   have hd := hI.out
   rw [show F.length - k = (F.drop k).length by rw [List.length_drop]] at hd
   obtain ⟨e1, e2⟩ := hd.end
   have E1 := hide e1
   have E2 := hide e2
   clear hd e1 e2 hI
   go_wp2_with fail
   refine bodyPost_ret (v := .tuple #[.int .i64 (-1), .int .i64 last]) (by simp [results, Tryz.results71, go_sem]) rfl ?_
   exact ⟨_, _, rfl, hB.out, .inr (.inr ⟨E1.out, rfl, E2.out⟩)⟩
end Go.Proofs.YtngccmlcopcghaaGreatDoor
