/- The document's answer for texts: bounds, begins, Piece, Decode, Bytes. -/
import Derived.Test.YtngccmlcopcghaaGreatDoorRd
import Derived.Deep.Cut
import Derived.Deep.CutRange
import Derived.Deep.CutBlock
import Derived.IntWalk
import Derived.Lib.BufferRead
import Derived.Laws.IdiomStrings
import Derived.Lib.AppendStr
import Derived.Lib.AppendIntMem
import Derived.Maps.AppendAt
set_option maxRecDepth 100000
set_option maxHeartbeats 8000000
namespace Go.Proofs.YtngccmlcopcghaaGreatDoor
open Go.RowKit
theorem Cssp.at_drop (s : List UInt8) (k i : Nat) : Cssp.at_ (s.drop k) i = Cssp.at_ s (k + i) := by simp [Cssp.at_, List.getD_eq_getElem?_getD, List.getElem?_drop]
theorem ownsRow_below {w w' : World} {base : Nat} {e : TypeId} {size : Nat} {v : Value} {n : Nat} {xs : List Value} (h : w.ownsRow base e size v n xs) (hb : Below w.heap.size w w') : w'.ownsRow base e size v n xs :=
 h.kept (row := none) ⟨hb.os, hb.tape, hb.output, hb.size, fun k hk _ => hb.block k hk⟩ (by cases v.ownBlock <;> simp)
def longN (c : UInt8) : Nat := if c.toNat < 128 then 1 else if 194 <= c.toNat /\ c.toNat < 224 then 2 else if 224 <= c.toNat /\ c.toNat < 240 then 3 else if 240 <= c.toNat /\ c.toNat < 245 then 4 else 0
theorem rLong (c : UInt8) (w : World) : Calls Tryz.prog 79 #[.int .u8 c.toNat] w (Ret (.int .i64 (longN c : Int)) w) := by
 have hc := u8_lt c
 go_enter Tryz.func79, Tryz.ntmps79
 go_wp2
 all_goals go_ret
 all_goals refine Ret.of (v_i ?_)
 all_goals unfold longN
 all_goals (repeat' split)
 all_goals first | rfl | (exfalso; omega) | omega
theorem conv_new (w : World) (l : List UInt8) (cs : Array Value) (n : Nat) (hn : l.length = n) (h : cs = (l.map B8).toArray) :
  Sem.run Tryz.prog (convert 39 9 (.slice (some ⟨w.heap.size, 0, none⟩) n n)) (w.alloc (.cells cs 5)) = .ok (S l) (w.alloc (.cells cs 5)) := by
 subst hn
 exact run_convert_bytes_back _ 39 9 5 ⟨w.heap.size, 0, none⟩ l.length l Tryz.underlying39 Tryz.underlying5 Tryz.underlying9 (fun j hj => by
  have e : (⟨w.heap.size, 0, none⟩ : Addr).add j = ⟨w.heap.size, j, none⟩ := by simp [Addr.add]; try (intro h; exact h.symm)
  rw [e, World.cell?_alloc_at _ _ _ _ rfl, h]
  simp [hj])
theorem enc1k (k : Nat) (h : k < 128) : Lib.encodeRune k = [UInt8.ofNat k] := by
 unfold Lib.encodeRune
 rw [Lib.encodeRuneZ_one (by omega) (by omega)]
 simp
theorem enc2k (k : Nat) (h1 : ¬ k < 128) (h : k < 2048) : Lib.encodeRune k = [UInt8.ofNat (192 + k / 64), UInt8.ofNat (128 + k % 64)] := by
 unfold Lib.encodeRune
 rw [Lib.encodeRuneZ_two (by omega) (by omega)]
 simp only [List.map_cons, List.map_nil]
 rw [show (192 + (k : Int) / 64).toNat = 192 + k / 64 by omega, show (128 + (k : Int) % 64).toNat = 128 + k % 64 by omega]
theorem enc3k (k : Nat) (h1 : ¬ k < 2048) (h : k < 65536) (hs : ¬ (55296 <= k /\ k <= 57343)) : Lib.encodeRune k = [UInt8.ofNat (224 + k / 4096), UInt8.ofNat (128 + k / 64 % 64), UInt8.ofNat (128 + k % 64)] := by
 unfold Lib.encodeRune
 rw [Lib.encodeRuneZ_three (by omega)]
 simp only [List.map_cons, List.map_nil]
 rw [show (224 + (k : Int) / 4096).toNat = 224 + k / 4096 by omega, show (128 + (k : Int) / 64 % 64).toNat = 128 + k / 64 % 64 by omega, show (128 + (k : Int) % 64).toNat = 128 + k % 64 by omega]
theorem enc4k (k : Nat) (h1 : ¬ k < 65536) (h : k <= 1114111) : Lib.encodeRune k = [UInt8.ofNat (240 + k / 262144), UInt8.ofNat (128 + k / 4096 % 64), UInt8.ofNat (128 + k / 64 % 64), UInt8.ofNat (128 + k % 64)] := by
 unfold Lib.encodeRune
 rw [Lib.encodeRuneZ_four (by omega) (by omega)]
 simp only [List.map_cons, List.map_nil]
 rw [show (240 + (k : Int) / 262144).toNat = 240 + k / 262144 by omega, show (128 + (k : Int) / 4096 % 64).toNat = 128 + k / 4096 % 64 by omega, show (128 + (k : Int) / 64 % 64).toNat = 128 + k / 64 % 64 by omega, show (128 + (k : Int) % 64).toNat = 128 + k % 64 by omega]
theorem b8_of (a : Nat) (x : Int) (h : x = a) (ha : a < 256) : Value.int .u8 x = B8 (UInt8.ofNat a) := by
 subst h
 show _ = Value.int .u8 _
 rw [UInt8.toNat_ofNat_of_lt' (by simpa using ha)]
theorem rBytesZ (r : Int) (w : World) (h0 : 0 <= r) (hk : r <= 1114111) (hs : r < 55296 \/ 57343 < r) : Calls Tryz.prog 50 #[.int .i32 r] w (Fresh (S (Lib.encodeRune r)) w) := by
 have hb1 : ∀ o, Below w.heap.size w (w.alloc o) := fun o => (Below.refl _ _).alloc (Nat.le_refl _) o
 have HB1 := hide hb1
 clear hb1
 obtain ⟨l, hl⟩ : ∃ l, Lib.encodeRune r = l := ⟨_, rfl⟩
 obtain ⟨k, hrk⟩ := Int.eq_ofNat_of_zero_le h0
 rw [hl]
 by_cases h1 : r < 128
 ·have he : l = [UInt8.ofNat k] := by rw [<- hl, hrk]; exact enc1k k (by omega)
  have hrun := conv_new w l #[.int .u8 r] 1 (by rw [he]; rfl) (by rw [he, b8_of k r hrk (by omega)]; rfl)
  clear hl hrk he hs
  go_enter Tryz.func50, Tryz.ntmps50
  go_wp2_with fail
  go_ret
  exact ⟨rfl, HB1.out _⟩
 obtain ⟨c, hc⟩ : ∃ c : Int, r % 64 = c := ⟨_, rfl⟩
 have hc0 : 0 <= c /\ c < 64 := by omega
 by_cases h2 : r < 2048
 ·obtain ⟨a, ha⟩ : ∃ a : Int, r / 64 = a := ⟨_, rfl⟩
  have ha0 : 2 <= a /\ a < 32 := by omega
  have he : l = [UInt8.ofNat (192 + k / 64), UInt8.ofNat (128 + k % 64)] := by rw [<- hl, hrk]; exact enc2k k (by omega) (by omega)
  have hrun := conv_new w l #[.int .u8 (192 + a), .int .u8 (128 + c)] 2 (by rw [he]; rfl) (by rw [he, b8_of (192 + k / 64) _ (by omega) (by omega), b8_of (128 + k % 64) _ (by omega) (by omega)]; rfl)
  obtain ⟨c0, c1⟩ := hc0
  obtain ⟨a0, a1⟩ := ha0
  clear hl hrk he hs
  go_enter Tryz.func50, Tryz.ntmps50
  go_wp2_with fail
  go_ret
  exact ⟨rfl, HB1.out _⟩
 obtain ⟨b, hb⟩ : ∃ b : Int, r / 64 % 64 = b := ⟨_, rfl⟩
 have hb0 : 0 <= b /\ b < 64 := by omega
 by_cases h3 : r < 65536
 ·obtain ⟨a, ha⟩ : ∃ a : Int, r / 4096 = a := ⟨_, rfl⟩
  have ha0 : 0 <= a /\ a < 16 := by omega
  have he : l = [UInt8.ofNat (224 + k / 4096), UInt8.ofNat (128 + k / 64 % 64), UInt8.ofNat (128 + k % 64)] := by rw [<- hl, hrk]; exact enc3k k (by omega) (by omega) (by omega)
  have hrun := conv_new w l #[.int .u8 (224 + a), .int .u8 (128 + b), .int .u8 (128 + c)] 3 (by rw [he]; rfl)
   (by rw [he, b8_of (224 + k / 4096) _ (by omega) (by omega), b8_of (128 + k / 64 % 64) _ (by omega) (by omega), b8_of (128 + k % 64) _ (by omega) (by omega)]; rfl)
  obtain ⟨c0, c1⟩ := hc0
  obtain ⟨a0, a1⟩ := ha0
  obtain ⟨b0, b1⟩ := hb0
  clear hl hrk he
  rcases hs with hs | hs
  all_goals
   go_enter Tryz.func50, Tryz.ntmps50
   go_wp2_with fail
   go_ret
   exact ⟨rfl, HB1.out _⟩
 ·obtain ⟨a, ha⟩ : ∃ a : Int, r / 4096 % 64 = a := ⟨_, rfl⟩
  obtain ⟨d, hd⟩ : ∃ d : Int, r / 262144 = d := ⟨_, rfl⟩
  have ha0 : 0 <= a /\ a < 64 := by omega
  have hd0 : 0 <= d /\ d < 5 := by omega
  have he : l = [UInt8.ofNat (240 + k / 262144), UInt8.ofNat (128 + k / 4096 % 64), UInt8.ofNat (128 + k / 64 % 64), UInt8.ofNat (128 + k % 64)] := by rw [<- hl, hrk]; exact enc4k k (by omega) (by omega)
  have hrun := conv_new w l #[.int .u8 (240 + d), .int .u8 (128 + a), .int .u8 (128 + b), .int .u8 (128 + c)] 4 (by rw [he]; rfl)
   (by rw [he, b8_of (240 + k / 262144) _ (by omega) (by omega), b8_of (128 + k / 4096 % 64) _ (by omega) (by omega), b8_of (128 + k / 64 % 64) _ (by omega) (by omega), b8_of (128 + k % 64) _ (by omega) (by omega)]; rfl)
  obtain ⟨c0, c1⟩ := hc0
  obtain ⟨a0, a1⟩ := ha0
  obtain ⟨b0, b1⟩ := hb0
  obtain ⟨d0, d1⟩ := hd0
  clear hl hrk he hs
  go_enter Tryz.func50, Tryz.ntmps50
  go_wp2_with fail
  go_ret
  exact ⟨rfl, HB1.out _⟩
theorem Cssp.bnd_lt (n : Nat) (b : List UInt8) (hx : (Cssp.at_ b 0).toNat - Cssp.base n < 32) (hc : ∀ j, 1 <= j -> j < b.length -> (Cssp.at_ b j).toNat - 128 < 64) : ∀ i, i <= 4 -> (Cssp.bnd n b i).1 < 16777216 /\ (Cssp.bnd n b i).2 < 16777216 := by
 have step : ∀ i m, (Cssp.bnd n b i).1 < m /\ (Cssp.bnd n b i).2 < m -> 1 <= i -> (Cssp.bnd n b (i + 1)).1 < m * 64 /\ (Cssp.bnd n b (i + 1)).2 < m * 64 := fun i m h hi => by
  rw [Cssp.bnd, if_neg (by omega)]
  split
  ·rename_i hl
   have := hc i hi hl
   show _ * 64 + _ < _ /\ _ * 64 + _ < _
   omega
  ·show _ * 64 < _ /\ _ * 64 + 63 < _
   omega
 have h1 : (Cssp.bnd n b 1).1 < 32 /\ (Cssp.bnd n b 1).2 < 32 := by
  rw [Cssp.bnd, if_pos rfl]; exact ⟨hx, hx⟩
 have h2 : (Cssp.bnd n b 2).1 < 2048 /\ (Cssp.bnd n b 2).2 < 2048 := step 1 32 h1 (by omega)
 have h3 : (Cssp.bnd n b 3).1 < 131072 /\ (Cssp.bnd n b 3).2 < 131072 := step 2 2048 h2 (by omega)
 have h4 : (Cssp.bnd n b 4).1 < 8388608 /\ (Cssp.bnd n b 4).2 < 8388608 := step 3 131072 h3 (by omega)
 intro i hi
 have hi : i = 0 \/ i = 1 \/ i = 2 \/ i = 3 \/ i = 4 := by omega
 rcases hi with rfl | rfl | rfl | rfl | rfl
 ·exact ⟨by show 0 < _; omega, by show 0 < _; omega⟩
 ·omega
 ·omega
 ·omega
 ·omega
theorem wrap_bnd {l X : Nat} (hl : l < 16777216) (hX : X < 64) : wrap64 (wrap64 ((l : Int) * 64) + (X : Int)) = ((l * 64 + X : Nat) : Int) := by unfold wrap64; omega
theorem wrap_first (c : UInt8) (X : Nat) (k : Int) (h0 : 0 <= k) (h1 : k < 256) (h : (c.toNat : Int) - 256 + k = (X : Int)) : IntKind.i64.wrap (IntKind.i64.wrap (IntKind.i64.wrap (c.toNat : Int) - 256) + k) = (X : Int) := by
 have := u8_lt c
 rw [IntWalk.i64_in (c.toNat : Int) (by omega), IntWalk.i64_in ((c.toNat : Int) - 256) (by omega), IntWalk.i64_in ((c.toNat : Int) - 256 + k) (by omega), h]
theorem wrap_byte (c : UInt8) (X : Nat) (h : 128 <= c.toNat) (hX : c.toNat - 128 = X) : wrap64 (wrap64 (c.toNat : Int) - 128) = (X : Int) := by have := u8_lt c; unfold wrap64; omega
theorem rBounds2 (b : List UInt8) (w : World) (h0 : 1 <= b.length) (hb : b.length <= 2) (hlo : Hid (192 <= (Cssp.at_ b 0).toNat)) (hhi : Hid ((Cssp.at_ b 0).toNat < 224)) (hc : Hid (∀ j, 1 <= j -> j < b.length -> Cssp.cont (Cssp.at_ b j) = true)) :
  Calls Tryz.prog 80 #[S b, .int .i64 2] w (Fresh (.tuple #[.int .i64 ((Cssp.bnd 2 b 2).1 : Int), .int .i64 ((Cssp.bnd 2 b 2).2 : Int)]) w) := by
 have hbd := hide (Cssp.bnd_lt 2 b (by have := hlo.out; have := hhi.out; rw [show Cssp.base 2 = 192 from rfl]; omega) (fun j h1 h2 => by have := (Cssp.cont_iff _).1 (hc.out j h1 h2); omega))
 have p0 : (0 : Int) < (b.length : Int) := by omega
 obtain ⟨M, hM⟩ : ∃ M, w.heap.size = M := ⟨_, rfl⟩
 have HM := hide hM
 have HB0 : Hid (Below M w w) := by unfold Hid; rw [<- hM]; exact Below.refl _ _
 clear hM
 go_enter Tryz.func80, Tryz.ntmps80
 go_upto_block 0 with fail
 go_cut [6, 7] from 9 (fun s6 s7 wx => s6 = .int .i64 ((Cssp.bnd 2 b 2).1 : Int) /\ s7 = .int .i64 ((Cssp.bnd 2 b 2).2 : Int) /\ Hid (Below M w wx))
 case first =>
  go_wp2_with fail
  go_loopg [6, 7, 8] 2 (fun g s6 s7 s8 wx => ∃ (i l h : Nat), s6 = .int .i64 (l : Int) /\ s7 = .int .i64 (h : Int) /\ s8 = .int .i64 i /\ i + g = 2 /\ Hid (Cssp.bnd 2 b i = (l, h)) /\ Hid (Below M w wx))
  case atStart => exact ⟨0, 0, 0, rfl, rfl, rfl, by omega, rfl, HB0⟩
  case round =>
   obtain ⟨i, l, h, rfl, rfl, rfl, hig, hlh, hbx⟩ := hrel
   have hll := hbd.out i (by omega)
   rw [hlh.out] at hll
   obtain ⟨l1, l2⟩ := hll
   simp only at l1 l2
   by_cases hin : i < 2
   ·have i0 : (i : Int) < 2 := by omega
    have hwi : wrap64 ((i : Int) + 1) = (i : Int) + 1 := by unfold wrap64; omega
    have hbs : M <= wr.heap.size := by have := hbx.out.size; rw [<- HM.out]; exact this
    by_cases hi0 : i = 0
    ·subst hi0
     obtain ⟨c, hcc⟩ : ∃ c, b[0] = c := ⟨_, rfl⟩
     have hac : Cssp.at_ b 0 = c := by rw [Cssp.at_, List.getD_eq_getElem?_getD, List.getElem?_eq_getElem (by omega), hcc]; rfl
     have hlo := hlo.out
     have hhi := hhi.out
     rw [hac] at hlo hhi
     have hn := hlh.out
     have hl0 : l = 0 /\ h = 0 := by injection hn with e1 e2; exact ⟨e1.symm, e2.symm⟩
     obtain ⟨rfl, rfl⟩ := hl0
     obtain ⟨X, hX⟩ : ∃ X : Nat, c.toNat - 192 = X := ⟨_, rfl⟩
     have hx1 : (c.toNat : Int) - 256 + 64 = (X : Int) := by omega
     have hx2 : X < 32 := by omega
     have hnx : Hid (Cssp.bnd 2 b 1 = (X, X)) := by
      unfold Hid
      rw [Cssp.bnd, if_pos rfl, hac, show Cssp.base 2 = 192 from rfl, hX]
     have HX := hide (wrap_first c X 64 (by decide) (by decide) hx1)
     have hcb := u8_lt c
     clear hac hn hX hx1 hlo hhi l1 l2
     go_upto_region 12 with (fail)
     go_cut [9] from 11 to 45 (fun s9 wx => s9 = .int .i64 (X : Int) /\ Hid (Below M w wx))
     case first =>
      have HBX : ∀ wx, Below wr.heap.size wr wx -> Hid (Below M w wx) := fun wx h => hbx.out.trans (h.mono hbs)
      go_region_with (fail)
      all_goals
       go_wp2_with fail
       go_meet
       case rel => exact ⟨by rw [HX.out], HBX _ (by (repeat (first | (with_reducible exact Below.refl _ _) | (with_reducible assumption) | (with_reducible refine Below.drew ?_) | ((with_reducible refine Below.setCell ?_ ?_ _); rotate_left; (focus (first | omega | (simp; done) | (simp; omega)))) | ((with_reducible refine Below.alloc ?_ ?_ _); rotate_left; (focus (first | omega | (simp; done) | (simp; omega)))))))⟩
     case rest =>
     obtain ⟨rfl, hb2⟩ := hcut
     go_wp2_with fail
     go_roundg (gk - 1)
     case measure => omega
     case rel => exact ⟨1, X, X, rfl, rfl, rfl, by omega, hnx, hb2⟩
    ·have i1 : ((i : Int) == 0) = false := by rw [beq_eq_false_iff_ne]; omega
     by_cases hil : i < b.length
     ·have i2 : (i : Int) < (b.length : Int) := by omega
      have i3 : (0 : Int) <= (i : Int) := by omega
      obtain ⟨c, hcc⟩ : ∃ c, b[i] = c := ⟨_, rfl⟩
      have hac : Cssp.at_ b i = c := by rw [Cssp.at_, List.getD_eq_getElem?_getD, List.getElem?_eq_getElem hil, hcc]; rfl
      have hct := (Cssp.cont_iff _).1 (hc.out i (by omega) hil)
      rw [hac] at hct
      obtain ⟨c1, c2⟩ := hct
      obtain ⟨X, hX⟩ : ∃ X : Nat, c.toNat - 128 = X := ⟨_, rfl⟩
      have hx1 := hide (wrap_byte c X c1 hX)
      have hx2 : X < 64 := by omega
      have hx3 : (c.toNat : Int) - 128 = (X : Int) := by omega
      have hnx : Hid (Cssp.bnd 2 b (i + 1) = (l * 64 + X, h * 64 + X)) := by
       unfold Hid
       rw [Cssp.bnd, if_neg hi0, if_pos hil, hlh.out, hac, hX]
      have e1 := wrap_bnd l1 hx2
      have e2 := wrap_bnd l2 hx2
      have E1 := hide e1
      have E2 := hide e2
      clear hac hX c1 c2 e1 e2 hi0 l1 l2 hx3
      go_wp2_with fail
      go_roundg (gk - 1)
      case measure => omega
      case rel => exact ⟨i + 1, l * 64 + X, h * 64 + X, (by rw [hx1.out, E1.out]), (by rw [hx1.out, E2.out]), by go_num, by omega, hnx, hbx⟩
     ·have i2 : ¬ (i : Int) < (b.length : Int) := by omega
      have i2d : decide ((i : Int) < (b.length : Int)) = false := decide_eq_false i2
      have hnx : Hid (Cssp.bnd 2 b (i + 1) = (l * 64, h * 64 + 63)) := by
       unfold Hid
       rw [Cssp.bnd, if_neg hi0, if_neg hil, hlh.out]
      have L1 := hide l1
      have L2 := hide l2
      clear hi0 l1 l2
      go_wp2_with fail
      go_roundg (gk - 1)
      case measure => omega
      case rel => exact ⟨i + 1, l * 64, h * 64 + 63, (by have := L1.out; congr 1; (try unfold wrap64); omega), (by have := L2.out; congr 1; (try unfold wrap64); omega), by go_num, by omega, hnx, hbx⟩
   ·have i0 : ¬ (i : Int) < 2 := by omega
    obtain rfl : i = 2 := by omega
    have hn := hlh.out
    have HN := hide hn
    clear hn
    go_wp2_with fail
    go_meet
    case rel => exact ⟨by rw [HN.out], by rw [HN.out], hbx⟩
 case rest =>
  obtain ⟨rfl, rfl, hb2⟩ := hcut
  have hm := HM.out
  subst hm
  go_wp2_with fail
  go_ret2
  exact ⟨rfl, hb2.out⟩
theorem rBounds3 (b : List UInt8) (w : World) (h0 : 1 <= b.length) (hb : b.length <= 3) (hlo : Hid (224 <= (Cssp.at_ b 0).toNat)) (hhi : Hid ((Cssp.at_ b 0).toNat < 256)) (hc : Hid (∀ j, 1 <= j -> j < b.length -> Cssp.cont (Cssp.at_ b j) = true)) :
  Calls Tryz.prog 80 #[S b, .int .i64 3] w (Fresh (.tuple #[.int .i64 ((Cssp.bnd 3 b 3).1 : Int), .int .i64 ((Cssp.bnd 3 b 3).2 : Int)]) w) := by
 have hbd := hide (Cssp.bnd_lt 3 b (by have := hlo.out; have := hhi.out; rw [show Cssp.base 3 = 224 from rfl]; omega) (fun j h1 h2 => by have := (Cssp.cont_iff _).1 (hc.out j h1 h2); omega))
 have p0 : (0 : Int) < (b.length : Int) := by omega
 obtain ⟨M, hM⟩ : ∃ M, w.heap.size = M := ⟨_, rfl⟩
 have HM := hide hM
 have HB0 : Hid (Below M w w) := by unfold Hid; rw [<- hM]; exact Below.refl _ _
 clear hM
 go_enter Tryz.func80, Tryz.ntmps80
 go_upto_block 0 with fail
 go_cut [6, 7] from 9 (fun s6 s7 wx => s6 = .int .i64 ((Cssp.bnd 3 b 3).1 : Int) /\ s7 = .int .i64 ((Cssp.bnd 3 b 3).2 : Int) /\ Hid (Below M w wx))
 case first =>
  go_wp2_with fail
  go_loopg [6, 7, 8] 3 (fun g s6 s7 s8 wx => ∃ (i l h : Nat), s6 = .int .i64 (l : Int) /\ s7 = .int .i64 (h : Int) /\ s8 = .int .i64 i /\ i + g = 3 /\ Hid (Cssp.bnd 3 b i = (l, h)) /\ Hid (Below M w wx))
  case atStart => exact ⟨0, 0, 0, rfl, rfl, rfl, by omega, rfl, HB0⟩
  case round =>
   obtain ⟨i, l, h, rfl, rfl, rfl, hig, hlh, hbx⟩ := hrel
   have hll := hbd.out i (by omega)
   rw [hlh.out] at hll
   obtain ⟨l1, l2⟩ := hll
   simp only at l1 l2
   by_cases hin : i < 3
   ·have i0 : (i : Int) < 3 := by omega
    have hwi : wrap64 ((i : Int) + 1) = (i : Int) + 1 := by unfold wrap64; omega
    have hbs : M <= wr.heap.size := by have := hbx.out.size; rw [<- HM.out]; exact this
    by_cases hi0 : i = 0
    ·subst hi0
     obtain ⟨c, hcc⟩ : ∃ c, b[0] = c := ⟨_, rfl⟩
     have hac : Cssp.at_ b 0 = c := by rw [Cssp.at_, List.getD_eq_getElem?_getD, List.getElem?_eq_getElem (by omega), hcc]; rfl
     have hlo := hlo.out
     have hhi := hhi.out
     rw [hac] at hlo hhi
     have hn := hlh.out
     have hl0 : l = 0 /\ h = 0 := by injection hn with e1 e2; exact ⟨e1.symm, e2.symm⟩
     obtain ⟨rfl, rfl⟩ := hl0
     obtain ⟨X, hX⟩ : ∃ X : Nat, c.toNat - 224 = X := ⟨_, rfl⟩
     have hx1 : (c.toNat : Int) - 256 + 32 = (X : Int) := by omega
     have hx2 : X < 32 := by omega
     have hnx : Hid (Cssp.bnd 3 b 1 = (X, X)) := by
      unfold Hid
      rw [Cssp.bnd, if_pos rfl, hac, show Cssp.base 3 = 224 from rfl, hX]
     have HX := hide (wrap_first c X 32 (by decide) (by decide) hx1)
     have hcb := u8_lt c
     clear hac hn hX hx1 hlo hhi l1 l2
     go_upto_region 12 with (fail)
     go_cut [9] from 11 to 45 (fun s9 wx => s9 = .int .i64 (X : Int) /\ Hid (Below M w wx))
     case first =>
      have HBX : ∀ wx, Below wr.heap.size wr wx -> Hid (Below M w wx) := fun wx h => hbx.out.trans (h.mono hbs)
      go_region_with (fail)
      all_goals
       go_wp2_with fail
       go_meet
       case rel => exact ⟨by rw [HX.out], HBX _ (by (repeat (first | (with_reducible exact Below.refl _ _) | (with_reducible assumption) | (with_reducible refine Below.drew ?_) | ((with_reducible refine Below.setCell ?_ ?_ _); rotate_left; (focus (first | omega | (simp; done) | (simp; omega)))) | ((with_reducible refine Below.alloc ?_ ?_ _); rotate_left; (focus (first | omega | (simp; done) | (simp; omega)))))))⟩
     case rest =>
     obtain ⟨rfl, hb2⟩ := hcut
     go_wp2_with fail
     go_roundg (gk - 1)
     case measure => omega
     case rel => exact ⟨1, X, X, rfl, rfl, rfl, by omega, hnx, hb2⟩
    ·have i1 : ((i : Int) == 0) = false := by rw [beq_eq_false_iff_ne]; omega
     by_cases hil : i < b.length
     ·have i2 : (i : Int) < (b.length : Int) := by omega
      have i3 : (0 : Int) <= (i : Int) := by omega
      obtain ⟨c, hcc⟩ : ∃ c, b[i] = c := ⟨_, rfl⟩
      have hac : Cssp.at_ b i = c := by rw [Cssp.at_, List.getD_eq_getElem?_getD, List.getElem?_eq_getElem hil, hcc]; rfl
      have hct := (Cssp.cont_iff _).1 (hc.out i (by omega) hil)
      rw [hac] at hct
      obtain ⟨c1, c2⟩ := hct
      obtain ⟨X, hX⟩ : ∃ X : Nat, c.toNat - 128 = X := ⟨_, rfl⟩
      have hx1 := hide (wrap_byte c X c1 hX)
      have hx2 : X < 64 := by omega
      have hx3 : (c.toNat : Int) - 128 = (X : Int) := by omega
      have hnx : Hid (Cssp.bnd 3 b (i + 1) = (l * 64 + X, h * 64 + X)) := by
       unfold Hid
       rw [Cssp.bnd, if_neg hi0, if_pos hil, hlh.out, hac, hX]
      have e1 := wrap_bnd l1 hx2
      have e2 := wrap_bnd l2 hx2
      have E1 := hide e1
      have E2 := hide e2
      clear hac hX c1 c2 e1 e2 hi0 l1 l2 hx3
      go_wp2_with fail
      go_roundg (gk - 1)
      case measure => omega
      case rel => exact ⟨i + 1, l * 64 + X, h * 64 + X, (by rw [hx1.out, E1.out]), (by rw [hx1.out, E2.out]), by go_num, by omega, hnx, hbx⟩
     ·have i2 : ¬ (i : Int) < (b.length : Int) := by omega
      have i2d : decide ((i : Int) < (b.length : Int)) = false := decide_eq_false i2
      have hnx : Hid (Cssp.bnd 3 b (i + 1) = (l * 64, h * 64 + 63)) := by
       unfold Hid
       rw [Cssp.bnd, if_neg hi0, if_neg hil, hlh.out]
      have L1 := hide l1
      have L2 := hide l2
      clear hi0 l1 l2
      go_wp2_with fail
      go_roundg (gk - 1)
      case measure => omega
      case rel => exact ⟨i + 1, l * 64, h * 64 + 63, (by have := L1.out; congr 1; (try unfold wrap64); omega), (by have := L2.out; congr 1; (try unfold wrap64); omega), by go_num, by omega, hnx, hbx⟩
   ·have i0 : ¬ (i : Int) < 3 := by omega
    obtain rfl : i = 3 := by omega
    have hn := hlh.out
    have HN := hide hn
    clear hn
    go_wp2_with fail
    go_meet
    case rel => exact ⟨by rw [HN.out], by rw [HN.out], hbx⟩
 case rest =>
  obtain ⟨rfl, rfl, hb2⟩ := hcut
  have hm := HM.out
  subst hm
  go_wp2_with fail
  go_ret2
  exact ⟨rfl, hb2.out⟩
theorem rBounds4 (b : List UInt8) (w : World) (h0 : 1 <= b.length) (hb : b.length <= 4) (hlo : Hid (240 <= (Cssp.at_ b 0).toNat)) (hhi : Hid ((Cssp.at_ b 0).toNat < 272)) (hc : Hid (∀ j, 1 <= j -> j < b.length -> Cssp.cont (Cssp.at_ b j) = true)) :
  Calls Tryz.prog 80 #[S b, .int .i64 4] w (Fresh (.tuple #[.int .i64 ((Cssp.bnd 4 b 4).1 : Int), .int .i64 ((Cssp.bnd 4 b 4).2 : Int)]) w) := by
 have hbd := hide (Cssp.bnd_lt 4 b (by have := hlo.out; have := hhi.out; rw [show Cssp.base 4 = 240 from rfl]; omega) (fun j h1 h2 => by have := (Cssp.cont_iff _).1 (hc.out j h1 h2); omega))
 have p0 : (0 : Int) < (b.length : Int) := by omega
 obtain ⟨M, hM⟩ : ∃ M, w.heap.size = M := ⟨_, rfl⟩
 have HM := hide hM
 have HB0 : Hid (Below M w w) := by unfold Hid; rw [<- hM]; exact Below.refl _ _
 clear hM
 go_enter Tryz.func80, Tryz.ntmps80
 go_upto_block 0 with fail
 go_cut [6, 7] from 9 (fun s6 s7 wx => s6 = .int .i64 ((Cssp.bnd 4 b 4).1 : Int) /\ s7 = .int .i64 ((Cssp.bnd 4 b 4).2 : Int) /\ Hid (Below M w wx))
 case first =>
  go_wp2_with fail
  go_loopg [6, 7, 8] 4 (fun g s6 s7 s8 wx => ∃ (i l h : Nat), s6 = .int .i64 (l : Int) /\ s7 = .int .i64 (h : Int) /\ s8 = .int .i64 i /\ i + g = 4 /\ Hid (Cssp.bnd 4 b i = (l, h)) /\ Hid (Below M w wx))
  case atStart => exact ⟨0, 0, 0, rfl, rfl, rfl, by omega, rfl, HB0⟩
  case round =>
   obtain ⟨i, l, h, rfl, rfl, rfl, hig, hlh, hbx⟩ := hrel
   have hll := hbd.out i (by omega)
   rw [hlh.out] at hll
   obtain ⟨l1, l2⟩ := hll
   simp only at l1 l2
   by_cases hin : i < 4
   ·have i0 : (i : Int) < 4 := by omega
    have hwi : wrap64 ((i : Int) + 1) = (i : Int) + 1 := by unfold wrap64; omega
    have hbs : M <= wr.heap.size := by have := hbx.out.size; rw [<- HM.out]; exact this
    by_cases hi0 : i = 0
    ·subst hi0
     obtain ⟨c, hcc⟩ : ∃ c, b[0] = c := ⟨_, rfl⟩
     have hac : Cssp.at_ b 0 = c := by rw [Cssp.at_, List.getD_eq_getElem?_getD, List.getElem?_eq_getElem (by omega), hcc]; rfl
     have hlo := hlo.out
     have hhi := hhi.out
     rw [hac] at hlo hhi
     have hn := hlh.out
     have hl0 : l = 0 /\ h = 0 := by injection hn with e1 e2; exact ⟨e1.symm, e2.symm⟩
     obtain ⟨rfl, rfl⟩ := hl0
     obtain ⟨X, hX⟩ : ∃ X : Nat, c.toNat - 240 = X := ⟨_, rfl⟩
     have hx1 : (c.toNat : Int) - 256 + 16 = (X : Int) := by omega
     have hx2 : X < 32 := by omega
     have hnx : Hid (Cssp.bnd 4 b 1 = (X, X)) := by
      unfold Hid
      rw [Cssp.bnd, if_pos rfl, hac, show Cssp.base 4 = 240 from rfl, hX]
     have HX := hide (wrap_first c X 16 (by decide) (by decide) hx1)
     have hcb := u8_lt c
     clear hac hn hX hx1 hlo hhi l1 l2
     go_upto_region 12 with (fail)
     go_cut [9] from 11 to 45 (fun s9 wx => s9 = .int .i64 (X : Int) /\ Hid (Below M w wx))
     case first =>
      have HBX : ∀ wx, Below wr.heap.size wr wx -> Hid (Below M w wx) := fun wx h => hbx.out.trans (h.mono hbs)
      go_region_with (fail)
      all_goals
       go_wp2_with fail
       go_meet
       case rel => exact ⟨by rw [HX.out], HBX _ (by (repeat (first | (with_reducible exact Below.refl _ _) | (with_reducible assumption) | (with_reducible refine Below.drew ?_) | ((with_reducible refine Below.setCell ?_ ?_ _); rotate_left; (focus (first | omega | (simp; done) | (simp; omega)))) | ((with_reducible refine Below.alloc ?_ ?_ _); rotate_left; (focus (first | omega | (simp; done) | (simp; omega)))))))⟩
     case rest =>
     obtain ⟨rfl, hb2⟩ := hcut
     go_wp2_with fail
     go_roundg (gk - 1)
     case measure => omega
     case rel => exact ⟨1, X, X, rfl, rfl, rfl, by omega, hnx, hb2⟩
    ·have i1 : ((i : Int) == 0) = false := by rw [beq_eq_false_iff_ne]; omega
     by_cases hil : i < b.length
     ·have i2 : (i : Int) < (b.length : Int) := by omega
      have i3 : (0 : Int) <= (i : Int) := by omega
      obtain ⟨c, hcc⟩ : ∃ c, b[i] = c := ⟨_, rfl⟩
      have hac : Cssp.at_ b i = c := by rw [Cssp.at_, List.getD_eq_getElem?_getD, List.getElem?_eq_getElem hil, hcc]; rfl
      have hct := (Cssp.cont_iff _).1 (hc.out i (by omega) hil)
      rw [hac] at hct
      obtain ⟨c1, c2⟩ := hct
      obtain ⟨X, hX⟩ : ∃ X : Nat, c.toNat - 128 = X := ⟨_, rfl⟩
      have hx1 := hide (wrap_byte c X c1 hX)
      have hx2 : X < 64 := by omega
      have hx3 : (c.toNat : Int) - 128 = (X : Int) := by omega
      have hnx : Hid (Cssp.bnd 4 b (i + 1) = (l * 64 + X, h * 64 + X)) := by
       unfold Hid
       rw [Cssp.bnd, if_neg hi0, if_pos hil, hlh.out, hac, hX]
      have e1 := wrap_bnd l1 hx2
      have e2 := wrap_bnd l2 hx2
      have E1 := hide e1
      have E2 := hide e2
      clear hac hX c1 c2 e1 e2 hi0 l1 l2 hx3
      go_wp2_with fail
      go_roundg (gk - 1)
      case measure => omega
      case rel => exact ⟨i + 1, l * 64 + X, h * 64 + X, (by rw [hx1.out, E1.out]), (by rw [hx1.out, E2.out]), by go_num, by omega, hnx, hbx⟩
     ·have i2 : ¬ (i : Int) < (b.length : Int) := by omega
      have i2d : decide ((i : Int) < (b.length : Int)) = false := decide_eq_false i2
      have hnx : Hid (Cssp.bnd 4 b (i + 1) = (l * 64, h * 64 + 63)) := by
       unfold Hid
       rw [Cssp.bnd, if_neg hi0, if_neg hil, hlh.out]
      have L1 := hide l1
      have L2 := hide l2
      clear hi0 l1 l2
      go_wp2_with fail
      go_roundg (gk - 1)
      case measure => omega
      case rel => exact ⟨i + 1, l * 64, h * 64 + 63, (by have := L1.out; congr 1; (try unfold wrap64); omega), (by have := L2.out; congr 1; (try unfold wrap64); omega), by go_num, by omega, hnx, hbx⟩
   ·have i0 : ¬ (i : Int) < 4 := by omega
    obtain rfl : i = 4 := by omega
    have hn := hlh.out
    have HN := hide hn
    clear hn
    go_wp2_with fail
    go_meet
    case rel => exact ⟨by rw [HN.out], by rw [HN.out], hbx⟩
 case rest =>
  obtain ⟨rfl, rfl, hb2⟩ := hcut
  have hm := HM.out
  subst hm
  go_wp2_with fail
  go_ret2
  exact ⟨rfl, hb2.out⟩
theorem Cssp.all_cont (b : List UInt8) : (b.drop 1).all Cssp.cont = true ↔ ∀ j, 1 <= j -> j < b.length -> Cssp.cont (Cssp.at_ b j) = true := by
 rw [List.all_eq_true]
 constructor
 ·intro h j h1 h2
  refine h _ ?_
  have e : (b.drop 1)[j - 1]? = some (Cssp.at_ b j) := by
   rw [List.getElem?_drop, show 1 + (j - 1) = j by omega, Cssp.at_, List.getD_eq_getElem?_getD, List.getElem?_eq_getElem h2]; rfl
  exact List.mem_of_getElem? e
 ·intro h x hx
  obtain ⟨j, hj⟩ := List.mem_iff_getElem?.1 hx
  rw [List.getElem?_drop] at hj
  have hl : 1 + j < b.length := by
   rcases Nat.lt_or_ge (1 + j) b.length with h2 | h2
   ·exact h2
   ·rw [List.getElem?_eq_none h2] at hj; cases hj
  have := h (1 + j) (by omega) hl
  rwa [Cssp.at_, List.getD_eq_getElem?_getD, hj] at this
theorem Cssp.begP_0 {b : List UInt8} (h : Cssp.lng (Cssp.at_ b 0) = 0) : Cssp.begP b = false := by unfold Cssp.begP; rw [h]; rfl
theorem Cssp.begP_len {b : List UInt8} (h : Cssp.lng (Cssp.at_ b 0) < b.length) : Cssp.begP b = false := by
 unfold Cssp.begP; rw [decide_eq_false (by omega)]; simp
theorem Cssp.begP_bad {b : List UInt8} {j : Nat} (h1 : 1 <= j) (h2 : j < b.length) (h : Cssp.cont (Cssp.at_ b j) = false) : Cssp.begP b = false := by
 have : (b.drop 1).all Cssp.cont = false := by
  rw [Bool.eq_false_iff]
  intro h3
  rw [Cssp.all_cont] at h3
  rw [h3 j h1 h2] at h; cases h
 unfold Cssp.begP; rw [this]; simp
theorem Cssp.begP_fits {b : List UInt8} {n : Nat} (hn : Cssp.lng (Cssp.at_ b 0) = n) (h0 : n ≠ 0) (hl : b.length <= n) (hc : ∀ j, 1 <= j -> j < b.length -> Cssp.cont (Cssp.at_ b j) = true) : Cssp.begP b = (n == 1 || Cssp.fits n b) := by
 unfold Cssp.begP
 rw [hn, (Cssp.all_cont b).2 hc, decide_eq_true hl, show (n != 0) = true by simpa using h0]
 rfl
theorem rBeg01 (b : List UInt8) (w : World) (h0 : 1 <= b.length) : Calls Tryz.prog 78 #[S b] w (Fresh (.bool (Cssp.begP b)) w) := by
 obtain ⟨c, hcc⟩ : ∃ c, b[0] = c := ⟨_, rfl⟩
 have hac : Cssp.at_ b 0 = c := by rw [Cssp.at_, List.getD_eq_getElem?_getD, List.getElem?_eq_getElem (by omega), hcc]; rfl
 have hl4 := Cssp.lng_le c
 obtain ⟨r1, r2, r3, r4⟩ := Cssp.first_ranges c
 have p0 : (0 : Int) < (b.length : Int) := by omega
 have hL := rLong c w
 rw [show longN c = Cssp.lng c from rfl] at hL
 obtain ⟨R, hR⟩ : ∃ R, Cssp.begP b = R := ⟨_, rfl⟩
 rw [hR]
 have hn : Cssp.lng c = 0 \/ Cssp.lng c = 1 \/ Cssp.lng c = 2 \/ Cssp.lng c = 3 \/ Cssp.lng c = 4 := by omega
 rcases hn with e | e | e | e | e
 ·rw [e] at hL
  have hR2 : R = false := by rw [<- hR, Cssp.begP_0 (by rw [hac, e])]
  subst hR2
  have HL := hide hL
  clear hL hR hac hl4 r1 r2 r3 r4 e
  go_enter Tryz.func78, Tryz.ntmps78
  go_wp2_with fail
  refine Calls.mono HL.out ?_
  rintro e w' ⟨rfl, rfl⟩
  go_wp2_with fail
  go_ret
  exact ⟨rfl, Below.refl _ _⟩
 ·rw [e] at hL
  have HL := hide hL
  by_cases hlen : 1 < b.length
  ·have hR2 : R = false := by rw [<- hR, Cssp.begP_len (by rw [hac, e]; exact hlen)]
   subst hR2
   have d1 : (1 : Int) < (b.length : Int) := by omega
   have d2 : decide ((1 : Int) < (b.length : Int)) = true := decide_eq_true d1
   clear hL hR hac hl4 r1 r2 r3 r4 e hlen
   go_enter Tryz.func78, Tryz.ntmps78
   go_wp2_with fail
   refine Calls.mono HL.out ?_
   rintro e w' ⟨rfl, rfl⟩
   go_wp2_with fail
   go_ret
   exact ⟨rfl, Below.refl _ _⟩
  have d1 : ¬ (1 : Int) < (b.length : Int) := by omega
  have d2 : decide ((1 : Int) < (b.length : Int)) = false := decide_eq_false d1
  have hbad : ∀ j, 1 <= j -> j < b.length -> Cssp.cont (Cssp.at_ b j) = false -> R = false := fun j h1 h2 h3 => by rw [<- hR, Cssp.begP_bad h1 h2 h3]
  have hgood : (∀ j, 1 <= j -> j < b.length -> Cssp.cont (Cssp.at_ b j) = true) -> R = (1 == 1 || Cssp.fits 1 b) := fun h => by rw [<- hR, Cssp.begP_fits (by rw [hac, e]) (by decide) (by omega) h]
  have HBAD := hide hbad
  have HGOOD := hide hgood
  have HAC := hide hac
  have HRG := hide (r1 e)
  have HLEN := hide hlen
  clear hL hR hac hl4 r1 r2 r3 r4 e hlen hbad hgood
  go_enter Tryz.func78, Tryz.ntmps78
  go_wp2_with fail
  refine Calls.mono HL.out ?_
  rintro e w' ⟨rfl, rfl⟩
  go_upto_block 0 with fail
  go_cut [3] from 9 (fun s3 wx => s3 = .int .i64 1 /\ w = wx /\ Hid (∀ j, 1 <= j -> j < b.length -> Cssp.cont (Cssp.at_ b j) = true))
  case first =>
   clear HL hcc
   go_wp2_with fail
   go_loopg [4] b.length (fun g s4 wx => ∃ i : Nat, s4 = .int .i64 i /\ 1 <= i /\ i + g = b.length + 1 /\ w = wx /\ Hid (∀ j, 1 <= j -> j < i -> Cssp.cont (Cssp.at_ b j) = true))
   case atStart => exact ⟨1, rfl, Nat.le_refl _, by omega, rfl, fun j h1 h2 => by omega⟩
   case round =>
    obtain ⟨i, rfl, hi1, hig, hwx, hall⟩ := hrel
    subst hwx
    by_cases hi : i < b.length
    ·have i2 : (i : Int) < (b.length : Int) := by omega
     have i3 : (0 : Int) <= (i : Int) := by omega
     obtain ⟨x, hx⟩ : ∃ x, b[i] = x := ⟨_, rfl⟩
     have hax : Cssp.at_ b i = x := by rw [Cssp.at_, List.getD_eq_getElem?_getD, List.getElem?_eq_getElem hi, hx]; rfl
     have hxb := u8_lt x
     by_cases hlo : x.toNat < 128
     ·have hR2 : R = false := HBAD.out i hi1 hi (by rw [hax, Bool.eq_false_iff]; intro h; have := (Cssp.cont_iff x).1 h; omega)
      subst hR2
      have e1 : (x.toNat : Int) < 128 := by omega
      have e2 : decide ((x.toNat : Int) < 128) = true := decide_eq_true e1
      clear hax hlo
      go_wp2_with fail
      go_ret
      exact ⟨rfl, Below.refl _ _⟩
     have e1 : ¬ (x.toNat : Int) < 128 := by omega
     have e2 : decide ((x.toNat : Int) < 128) = false := decide_eq_false e1
     by_cases hhi : 191 < x.toNat
     ·have hR2 : R = false := HBAD.out i hi1 hi (by rw [hax, Bool.eq_false_iff]; intro h; have := (Cssp.cont_iff x).1 h; omega)
      subst hR2
      have e3 : (191 : Int) < (x.toNat : Int) := by omega
      have e4 : decide ((191 : Int) < (x.toNat : Int)) = true := decide_eq_true e3
      clear hax hlo hhi
      go_wp2_with fail
      go_ret
      exact ⟨rfl, Below.refl _ _⟩
     have e3 : ¬ (191 : Int) < (x.toNat : Int) := by omega
     have e4 : decide ((191 : Int) < (x.toNat : Int)) = false := decide_eq_false e3
     have hcx : Cssp.cont (Cssp.at_ b i) = true := by rw [hax]; exact (Cssp.cont_iff x).2 (by omega)
     have hall2 : Hid (∀ j, 1 <= j -> j < i + 1 -> Cssp.cont (Cssp.at_ b j) = true) := fun j h1 h2 => by
      rcases Nat.lt_or_ge j i with h3 | h3
      ·exact hall.out j h1 h3
      ·have : j = i := by omega
       rw [this]; exact hcx
     have hwr : wrap64 ((i : Int) + 1) = (i : Int) + 1 := by have := HLEN.out; unfold wrap64; omega
     clear hax hlo hhi hcx
     go_wp2_with fail
     go_roundg (gk - 1)
     case measure => omega
     case rel => exact ⟨i + 1, by go_num, by omega, by omega, rfl, hall2⟩
    ·have i2 : ¬ (i : Int) < (b.length : Int) := by omega
     have hall2 : Hid (∀ j, 1 <= j -> j < b.length -> Cssp.cont (Cssp.at_ b j) = true) := fun j h1 h2 => hall.out j h1 (by omega)
     go_wp2_with fail
     go_meet
     case rel => exact ⟨rfl, rfl, hall2⟩
  case rest =>
   obtain ⟨rfl, rfl, hall⟩ := hcut
   have hR2 := HGOOD.out hall.out
   have HR2 := hide hR2
   clear hR2 HL HBAD HGOOD
   go_wp2_with fail
   go_ret
   exact ⟨by rw [HR2.out]; rfl, Below.refl _ _⟩
 ·rw [e] at hL
  have HL := hide hL
  by_cases hlen : 2 < b.length
  ·have hR2 : R = false := by rw [<- hR, Cssp.begP_len (by rw [hac, e]; exact hlen)]
   subst hR2
   have d1 : (2 : Int) < (b.length : Int) := by omega
   have d2 : decide ((2 : Int) < (b.length : Int)) = true := decide_eq_true d1
   clear hL hR hac hl4 r1 r2 r3 r4 e hlen
   go_enter Tryz.func78, Tryz.ntmps78
   go_wp2_with fail
   refine Calls.mono HL.out ?_
   rintro e w' ⟨rfl, rfl⟩
   go_wp2_with fail
   go_ret
   exact ⟨rfl, Below.refl _ _⟩
  have d1 : ¬ (2 : Int) < (b.length : Int) := by omega
  have d2 : decide ((2 : Int) < (b.length : Int)) = false := decide_eq_false d1
  have hbad : ∀ j, 1 <= j -> j < b.length -> Cssp.cont (Cssp.at_ b j) = false -> R = false := fun j h1 h2 h3 => by rw [<- hR, Cssp.begP_bad h1 h2 h3]
  have hgood : (∀ j, 1 <= j -> j < b.length -> Cssp.cont (Cssp.at_ b j) = true) -> R = (2 == 1 || Cssp.fits 2 b) := fun h => by rw [<- hR, Cssp.begP_fits (by rw [hac, e]) (by decide) (by omega) h]
  have HBAD := hide hbad
  have HGOOD := hide hgood
  have HAC := hide hac
  have HRG := hide (r2 e)
  have HLEN := hide hlen
  clear hL hR hac hl4 r1 r2 r3 r4 e hlen hbad hgood
  go_enter Tryz.func78, Tryz.ntmps78
  go_wp2_with fail
  refine Calls.mono HL.out ?_
  rintro e w' ⟨rfl, rfl⟩
  go_upto_block 0 with fail
  go_cut [3] from 9 (fun s3 wx => s3 = .int .i64 2 /\ w = wx /\ Hid (∀ j, 1 <= j -> j < b.length -> Cssp.cont (Cssp.at_ b j) = true))
  case first =>
   clear HL hcc
   go_wp2_with fail
   go_loopg [4] b.length (fun g s4 wx => ∃ i : Nat, s4 = .int .i64 i /\ 1 <= i /\ i + g = b.length + 1 /\ w = wx /\ Hid (∀ j, 1 <= j -> j < i -> Cssp.cont (Cssp.at_ b j) = true))
   case atStart => exact ⟨1, rfl, Nat.le_refl _, by omega, rfl, fun j h1 h2 => by omega⟩
   case round =>
    obtain ⟨i, rfl, hi1, hig, hwx, hall⟩ := hrel
    subst hwx
    by_cases hi : i < b.length
    ·have i2 : (i : Int) < (b.length : Int) := by omega
     have i3 : (0 : Int) <= (i : Int) := by omega
     obtain ⟨x, hx⟩ : ∃ x, b[i] = x := ⟨_, rfl⟩
     have hax : Cssp.at_ b i = x := by rw [Cssp.at_, List.getD_eq_getElem?_getD, List.getElem?_eq_getElem hi, hx]; rfl
     have hxb := u8_lt x
     by_cases hlo : x.toNat < 128
     ·have hR2 : R = false := HBAD.out i hi1 hi (by rw [hax, Bool.eq_false_iff]; intro h; have := (Cssp.cont_iff x).1 h; omega)
      subst hR2
      have e1 : (x.toNat : Int) < 128 := by omega
      have e2 : decide ((x.toNat : Int) < 128) = true := decide_eq_true e1
      clear hax hlo
      go_wp2_with fail
      go_ret
      exact ⟨rfl, Below.refl _ _⟩
     have e1 : ¬ (x.toNat : Int) < 128 := by omega
     have e2 : decide ((x.toNat : Int) < 128) = false := decide_eq_false e1
     by_cases hhi : 191 < x.toNat
     ·have hR2 : R = false := HBAD.out i hi1 hi (by rw [hax, Bool.eq_false_iff]; intro h; have := (Cssp.cont_iff x).1 h; omega)
      subst hR2
      have e3 : (191 : Int) < (x.toNat : Int) := by omega
      have e4 : decide ((191 : Int) < (x.toNat : Int)) = true := decide_eq_true e3
      clear hax hlo hhi
      go_wp2_with fail
      go_ret
      exact ⟨rfl, Below.refl _ _⟩
     have e3 : ¬ (191 : Int) < (x.toNat : Int) := by omega
     have e4 : decide ((191 : Int) < (x.toNat : Int)) = false := decide_eq_false e3
     have hcx : Cssp.cont (Cssp.at_ b i) = true := by rw [hax]; exact (Cssp.cont_iff x).2 (by omega)
     have hall2 : Hid (∀ j, 1 <= j -> j < i + 1 -> Cssp.cont (Cssp.at_ b j) = true) := fun j h1 h2 => by
      rcases Nat.lt_or_ge j i with h3 | h3
      ·exact hall.out j h1 h3
      ·have : j = i := by omega
       rw [this]; exact hcx
     have hwr : wrap64 ((i : Int) + 1) = (i : Int) + 1 := by have := HLEN.out; unfold wrap64; omega
     clear hax hlo hhi hcx
     go_wp2_with fail
     go_roundg (gk - 1)
     case measure => omega
     case rel => exact ⟨i + 1, by go_num, by omega, by omega, rfl, hall2⟩
    ·have i2 : ¬ (i : Int) < (b.length : Int) := by omega
     have hall2 : Hid (∀ j, 1 <= j -> j < b.length -> Cssp.cont (Cssp.at_ b j) = true) := fun j h1 h2 => hall.out j h1 (by omega)
     go_wp2_with fail
     go_meet
     case rel => exact ⟨rfl, rfl, hall2⟩
  case rest =>
   obtain ⟨rfl, rfl, hall⟩ := hcut
   have hR2 := HGOOD.out hall.out
   have HR2 := hide hR2
   clear hR2 HL HBAD HGOOD
   have hrg := HRG.out
   have hlo : Hid (192 <= (Cssp.at_ b 0).toNat) := by unfold Hid; rw [HAC.out]; omega
   have hhi : Hid ((Cssp.at_ b 0).toNat < 224) := by unfold Hid; rw [HAC.out]; omega
   have HB := hide (rBounds2 b w h0 (by have := HLEN.out; omega) hlo hhi hall)
   obtain ⟨⟨l, h⟩, hlh⟩ : ∃ x, Cssp.bnd 2 b 2 = x := ⟨_, rfl⟩
   have hft := Cssp.fits2 b _ hlh
   rw [hlh] at HB
   have HFT := hide hft
   clear hft hlh hrg
   go_wp2_with fail
   refine Calls.mono HB.out ?_
   rintro e w2 ⟨rfl, hb2⟩
   have HB2 := hide hb2
   clear HB hb2
   go_upto_region 14 with (fail)
   have HB3 : Hid (Below w.heap.size w _) := (HB2.out.alloc HB2.out.size (.cells #[.int .i64 0, .int .i64 0, .int .i64 128, .int .i64 2048, .int .i64 65536] 3)).alloc (by have := HB2.out.size; simp; omega) (.cells #[.int .i64 0, .int .i64 0, .int .i64 2047, .int .i64 65535, .int .i64 1114111] 3)
   change Code.wp _ _ _ _ ((w2.alloc (.cells #[.int .i64 0, .int .i64 0, .int .i64 128, .int .i64 2048, .int .i64 65536] 3)).alloc (.cells #[.int .i64 0, .int .i64 0, .int .i64 2047, .int .i64 65535, .int .i64 1114111] 3))
   generalize (w2.alloc (.cells #[.int .i64 0, .int .i64 0, .int .i64 128, .int .i64 2048, .int .i64 65536] 3)).alloc (.cells #[.int .i64 0, .int .i64 0, .int .i64 2047, .int .i64 65535, .int .i64 1114111] 3) = w3 at HB3 ⊢
   go_wp2_with fail
   go_ret
   refine ⟨?_, HB3.out⟩
   rw [HR2.out, show (2 == 1 || Cssp.fits 2 b) = Cssp.fits 2 b from rfl]
   exact congrArg _ (v_b (by
    rw [Bool.eq_iff_iff, decide_eq_true_eq, HFT.out, Int.max_le, Int.le_min, Int.le_min]
    omega))
 ·rw [e] at hL
  have HL := hide hL
  by_cases hlen : 3 < b.length
  ·have hR2 : R = false := by rw [<- hR, Cssp.begP_len (by rw [hac, e]; exact hlen)]
   subst hR2
   have d1 : (3 : Int) < (b.length : Int) := by omega
   have d2 : decide ((3 : Int) < (b.length : Int)) = true := decide_eq_true d1
   clear hL hR hac hl4 r1 r2 r3 r4 e hlen
   go_enter Tryz.func78, Tryz.ntmps78
   go_wp2_with fail
   refine Calls.mono HL.out ?_
   rintro e w' ⟨rfl, rfl⟩
   go_wp2_with fail
   go_ret
   exact ⟨rfl, Below.refl _ _⟩
  have d1 : ¬ (3 : Int) < (b.length : Int) := by omega
  have d2 : decide ((3 : Int) < (b.length : Int)) = false := decide_eq_false d1
  have hbad : ∀ j, 1 <= j -> j < b.length -> Cssp.cont (Cssp.at_ b j) = false -> R = false := fun j h1 h2 h3 => by rw [<- hR, Cssp.begP_bad h1 h2 h3]
  have hgood : (∀ j, 1 <= j -> j < b.length -> Cssp.cont (Cssp.at_ b j) = true) -> R = (3 == 1 || Cssp.fits 3 b) := fun h => by rw [<- hR, Cssp.begP_fits (by rw [hac, e]) (by decide) (by omega) h]
  have HBAD := hide hbad
  have HGOOD := hide hgood
  have HAC := hide hac
  have HRG := hide (r3 e)
  have HLEN := hide hlen
  clear hL hR hac hl4 r1 r2 r3 r4 e hlen hbad hgood
  go_enter Tryz.func78, Tryz.ntmps78
  go_wp2_with fail
  refine Calls.mono HL.out ?_
  rintro e w' ⟨rfl, rfl⟩
  go_upto_block 0 with fail
  go_cut [3] from 9 (fun s3 wx => s3 = .int .i64 3 /\ w = wx /\ Hid (∀ j, 1 <= j -> j < b.length -> Cssp.cont (Cssp.at_ b j) = true))
  case first =>
   clear HL hcc
   go_wp2_with fail
   go_loopg [4] b.length (fun g s4 wx => ∃ i : Nat, s4 = .int .i64 i /\ 1 <= i /\ i + g = b.length + 1 /\ w = wx /\ Hid (∀ j, 1 <= j -> j < i -> Cssp.cont (Cssp.at_ b j) = true))
   case atStart => exact ⟨1, rfl, Nat.le_refl _, by omega, rfl, fun j h1 h2 => by omega⟩
   case round =>
    obtain ⟨i, rfl, hi1, hig, hwx, hall⟩ := hrel
    subst hwx
    by_cases hi : i < b.length
    ·have i2 : (i : Int) < (b.length : Int) := by omega
     have i3 : (0 : Int) <= (i : Int) := by omega
     obtain ⟨x, hx⟩ : ∃ x, b[i] = x := ⟨_, rfl⟩
     have hax : Cssp.at_ b i = x := by rw [Cssp.at_, List.getD_eq_getElem?_getD, List.getElem?_eq_getElem hi, hx]; rfl
     have hxb := u8_lt x
     by_cases hlo : x.toNat < 128
     ·have hR2 : R = false := HBAD.out i hi1 hi (by rw [hax, Bool.eq_false_iff]; intro h; have := (Cssp.cont_iff x).1 h; omega)
      subst hR2
      have e1 : (x.toNat : Int) < 128 := by omega
      have e2 : decide ((x.toNat : Int) < 128) = true := decide_eq_true e1
      clear hax hlo
      go_wp2_with fail
      go_ret
      exact ⟨rfl, Below.refl _ _⟩
     have e1 : ¬ (x.toNat : Int) < 128 := by omega
     have e2 : decide ((x.toNat : Int) < 128) = false := decide_eq_false e1
     by_cases hhi : 191 < x.toNat
     ·have hR2 : R = false := HBAD.out i hi1 hi (by rw [hax, Bool.eq_false_iff]; intro h; have := (Cssp.cont_iff x).1 h; omega)
      subst hR2
      have e3 : (191 : Int) < (x.toNat : Int) := by omega
      have e4 : decide ((191 : Int) < (x.toNat : Int)) = true := decide_eq_true e3
      clear hax hlo hhi
      go_wp2_with fail
      go_ret
      exact ⟨rfl, Below.refl _ _⟩
     have e3 : ¬ (191 : Int) < (x.toNat : Int) := by omega
     have e4 : decide ((191 : Int) < (x.toNat : Int)) = false := decide_eq_false e3
     have hcx : Cssp.cont (Cssp.at_ b i) = true := by rw [hax]; exact (Cssp.cont_iff x).2 (by omega)
     have hall2 : Hid (∀ j, 1 <= j -> j < i + 1 -> Cssp.cont (Cssp.at_ b j) = true) := fun j h1 h2 => by
      rcases Nat.lt_or_ge j i with h3 | h3
      ·exact hall.out j h1 h3
      ·have : j = i := by omega
       rw [this]; exact hcx
     have hwr : wrap64 ((i : Int) + 1) = (i : Int) + 1 := by have := HLEN.out; unfold wrap64; omega
     clear hax hlo hhi hcx
     go_wp2_with fail
     go_roundg (gk - 1)
     case measure => omega
     case rel => exact ⟨i + 1, by go_num, by omega, by omega, rfl, hall2⟩
    ·have i2 : ¬ (i : Int) < (b.length : Int) := by omega
     have hall2 : Hid (∀ j, 1 <= j -> j < b.length -> Cssp.cont (Cssp.at_ b j) = true) := fun j h1 h2 => hall.out j h1 (by omega)
     go_wp2_with fail
     go_meet
     case rel => exact ⟨rfl, rfl, hall2⟩
  case rest =>
   obtain ⟨rfl, rfl, hall⟩ := hcut
   have hR2 := HGOOD.out hall.out
   have HR2 := hide hR2
   clear hR2 HL HBAD HGOOD
   have hrg := HRG.out
   have hlo : Hid (224 <= (Cssp.at_ b 0).toNat) := by unfold Hid; rw [HAC.out]; omega
   have hhi : Hid ((Cssp.at_ b 0).toNat < 256) := by unfold Hid; rw [HAC.out]; omega
   have HB := hide (rBounds3 b w h0 (by have := HLEN.out; omega) hlo hhi hall)
   obtain ⟨⟨l, h⟩, hlh⟩ : ∃ x, Cssp.bnd 3 b 3 = x := ⟨_, rfl⟩
   have hft := Cssp.fits3 b _ hlh
   rw [hlh] at HB
   have HFT := hide hft
   clear hft hlh hrg
   go_wp2_with fail
   refine Calls.mono HB.out ?_
   rintro e w2 ⟨rfl, hb2⟩
   have HB2 := hide hb2
   clear HB hb2
   go_upto_region 14 with (fail)
   have HB3 : Hid (Below w.heap.size w _) := (HB2.out.alloc HB2.out.size (.cells #[.int .i64 0, .int .i64 0, .int .i64 128, .int .i64 2048, .int .i64 65536] 3)).alloc (by have := HB2.out.size; simp; omega) (.cells #[.int .i64 0, .int .i64 0, .int .i64 2047, .int .i64 65535, .int .i64 1114111] 3)
   change Code.wp _ _ _ _ ((w2.alloc (.cells #[.int .i64 0, .int .i64 0, .int .i64 128, .int .i64 2048, .int .i64 65536] 3)).alloc (.cells #[.int .i64 0, .int .i64 0, .int .i64 2047, .int .i64 65535, .int .i64 1114111] 3))
   generalize (w2.alloc (.cells #[.int .i64 0, .int .i64 0, .int .i64 128, .int .i64 2048, .int .i64 65536] 3)).alloc (.cells #[.int .i64 0, .int .i64 0, .int .i64 2047, .int .i64 65535, .int .i64 1114111] 3) = w3 at HB3 ⊢
   have hfn : ∀ P : Bool, P = Cssp.fits 3 b -> Ending.returned (.bool P) = Ending.returned (.bool R) := fun P h => by
    rw [HR2.out, show (3 == 1 || Cssp.fits 3 b) = Cssp.fits 3 b from rfl, h]
   have HFN := hide hfn
   clear hfn
   by_cases q1 : 55296 <= l
   ·have m1 : (55296 : Int) <= max (l : Int) 2048 := Int.le_trans (by omega) (Int.le_max_left _ _)
    have m1d : decide ((55296 : Int) <= max (l : Int) 2048) = true := decide_eq_true m1
    by_cases q2 : h <= 57343
    ·have m2 : min (h : Int) 65535 <= 57343 := Int.le_trans (Int.min_le_left _ _) (by omega)
     have m2d : decide (min (h : Int) 65535 <= 57343) = true := decide_eq_true m2
     have hf : false = Cssp.fits 3 b := by
      symm
      rw [Bool.eq_false_iff]
      intro hh
      have := (HFT.out.1 hh).1 q1
      omega
     have HF := hide hf
     clear hf q1 q2
     go_wp2_with fail
     go_ret
     exact ⟨HFN.out _ HF.out, HB3.out⟩
    ·have m2 : ¬ min (h : Int) 65535 <= 57343 := fun hm => absurd (Int.le_trans (Int.le_min.2 ⟨(by omega : (57344 : Int) <= (h : Int)), (by decide : (57344 : Int) <= 65535)⟩) hm) (by decide)
     have m2d : decide (min (h : Int) 65535 <= 57343) = false := decide_eq_false m2
     have Q1 := hide q1
     have Q2 := hide q2
     clear q1 q2
     go_wp2_with fail
     go_ret
     refine ⟨HFN.out _ ?_, HB3.out⟩
     have q2 := Q2.out
     rw [Bool.eq_iff_iff, decide_eq_true_eq, HFT.out, Int.max_le, Int.le_min, Int.le_min]
     omega
   ·have m1 : ¬ (55296 : Int) <= max (l : Int) 2048 := fun hm => absurd (Int.le_trans hm (Int.max_le.2 ⟨(by omega : (l : Int) <= 55295), (by decide : (2048 : Int) <= 55295)⟩)) (by decide)
    have m1d : decide ((55296 : Int) <= max (l : Int) 2048) = false := decide_eq_false m1
    have Q1 := hide q1
    clear q1
    go_wp2_with fail
    go_ret
    refine ⟨HFN.out _ ?_, HB3.out⟩
    have q1 := Q1.out
    rw [Bool.eq_iff_iff, decide_eq_true_eq, HFT.out, Int.max_le, Int.le_min, Int.le_min]
    omega
 ·rw [e] at hL
  have HL := hide hL
  by_cases hlen : 4 < b.length
  ·have hR2 : R = false := by rw [<- hR, Cssp.begP_len (by rw [hac, e]; exact hlen)]
   subst hR2
   have d1 : (4 : Int) < (b.length : Int) := by omega
   have d2 : decide ((4 : Int) < (b.length : Int)) = true := decide_eq_true d1
   clear hL hR hac hl4 r1 r2 r3 r4 e hlen
   go_enter Tryz.func78, Tryz.ntmps78
   go_wp2_with fail
   refine Calls.mono HL.out ?_
   rintro e w' ⟨rfl, rfl⟩
   go_wp2_with fail
   go_ret
   exact ⟨rfl, Below.refl _ _⟩
  have d1 : ¬ (4 : Int) < (b.length : Int) := by omega
  have d2 : decide ((4 : Int) < (b.length : Int)) = false := decide_eq_false d1
  have hbad : ∀ j, 1 <= j -> j < b.length -> Cssp.cont (Cssp.at_ b j) = false -> R = false := fun j h1 h2 h3 => by rw [<- hR, Cssp.begP_bad h1 h2 h3]
  have hgood : (∀ j, 1 <= j -> j < b.length -> Cssp.cont (Cssp.at_ b j) = true) -> R = (4 == 1 || Cssp.fits 4 b) := fun h => by rw [<- hR, Cssp.begP_fits (by rw [hac, e]) (by decide) (by omega) h]
  have HBAD := hide hbad
  have HGOOD := hide hgood
  have HAC := hide hac
  have HRG := hide (r4 e)
  have HLEN := hide hlen
  clear hL hR hac hl4 r1 r2 r3 r4 e hlen hbad hgood
  go_enter Tryz.func78, Tryz.ntmps78
  go_wp2_with fail
  refine Calls.mono HL.out ?_
  rintro e w' ⟨rfl, rfl⟩
  go_upto_block 0 with fail
  go_cut [3] from 9 (fun s3 wx => s3 = .int .i64 4 /\ w = wx /\ Hid (∀ j, 1 <= j -> j < b.length -> Cssp.cont (Cssp.at_ b j) = true))
  case first =>
   clear HL hcc
   go_wp2_with fail
   go_loopg [4] b.length (fun g s4 wx => ∃ i : Nat, s4 = .int .i64 i /\ 1 <= i /\ i + g = b.length + 1 /\ w = wx /\ Hid (∀ j, 1 <= j -> j < i -> Cssp.cont (Cssp.at_ b j) = true))
   case atStart => exact ⟨1, rfl, Nat.le_refl _, by omega, rfl, fun j h1 h2 => by omega⟩
   case round =>
    obtain ⟨i, rfl, hi1, hig, hwx, hall⟩ := hrel
    subst hwx
    by_cases hi : i < b.length
    ·have i2 : (i : Int) < (b.length : Int) := by omega
     have i3 : (0 : Int) <= (i : Int) := by omega
     obtain ⟨x, hx⟩ : ∃ x, b[i] = x := ⟨_, rfl⟩
     have hax : Cssp.at_ b i = x := by rw [Cssp.at_, List.getD_eq_getElem?_getD, List.getElem?_eq_getElem hi, hx]; rfl
     have hxb := u8_lt x
     by_cases hlo : x.toNat < 128
     ·have hR2 : R = false := HBAD.out i hi1 hi (by rw [hax, Bool.eq_false_iff]; intro h; have := (Cssp.cont_iff x).1 h; omega)
      subst hR2
      have e1 : (x.toNat : Int) < 128 := by omega
      have e2 : decide ((x.toNat : Int) < 128) = true := decide_eq_true e1
      clear hax hlo
      go_wp2_with fail
      go_ret
      exact ⟨rfl, Below.refl _ _⟩
     have e1 : ¬ (x.toNat : Int) < 128 := by omega
     have e2 : decide ((x.toNat : Int) < 128) = false := decide_eq_false e1
     by_cases hhi : 191 < x.toNat
     ·have hR2 : R = false := HBAD.out i hi1 hi (by rw [hax, Bool.eq_false_iff]; intro h; have := (Cssp.cont_iff x).1 h; omega)
      subst hR2
      have e3 : (191 : Int) < (x.toNat : Int) := by omega
      have e4 : decide ((191 : Int) < (x.toNat : Int)) = true := decide_eq_true e3
      clear hax hlo hhi
      go_wp2_with fail
      go_ret
      exact ⟨rfl, Below.refl _ _⟩
     have e3 : ¬ (191 : Int) < (x.toNat : Int) := by omega
     have e4 : decide ((191 : Int) < (x.toNat : Int)) = false := decide_eq_false e3
     have hcx : Cssp.cont (Cssp.at_ b i) = true := by rw [hax]; exact (Cssp.cont_iff x).2 (by omega)
     have hall2 : Hid (∀ j, 1 <= j -> j < i + 1 -> Cssp.cont (Cssp.at_ b j) = true) := fun j h1 h2 => by
      rcases Nat.lt_or_ge j i with h3 | h3
      ·exact hall.out j h1 h3
      ·have : j = i := by omega
       rw [this]; exact hcx
     have hwr : wrap64 ((i : Int) + 1) = (i : Int) + 1 := by have := HLEN.out; unfold wrap64; omega
     clear hax hlo hhi hcx
     go_wp2_with fail
     go_roundg (gk - 1)
     case measure => omega
     case rel => exact ⟨i + 1, by go_num, by omega, by omega, rfl, hall2⟩
    ·have i2 : ¬ (i : Int) < (b.length : Int) := by omega
     have hall2 : Hid (∀ j, 1 <= j -> j < b.length -> Cssp.cont (Cssp.at_ b j) = true) := fun j h1 h2 => hall.out j h1 (by omega)
     go_wp2_with fail
     go_meet
     case rel => exact ⟨rfl, rfl, hall2⟩
  case rest =>
   obtain ⟨rfl, rfl, hall⟩ := hcut
   have hR2 := HGOOD.out hall.out
   have HR2 := hide hR2
   clear hR2 HL HBAD HGOOD
   have hrg := HRG.out
   have hlo : Hid (240 <= (Cssp.at_ b 0).toNat) := by unfold Hid; rw [HAC.out]; omega
   have hhi : Hid ((Cssp.at_ b 0).toNat < 272) := by unfold Hid; rw [HAC.out]; omega
   have HB := hide (rBounds4 b w h0 (by have := HLEN.out; omega) hlo hhi hall)
   obtain ⟨⟨l, h⟩, hlh⟩ : ∃ x, Cssp.bnd 4 b 4 = x := ⟨_, rfl⟩
   have hft := Cssp.fits4 b _ hlh
   rw [hlh] at HB
   have HFT := hide hft
   clear hft hlh hrg
   go_wp2_with fail
   refine Calls.mono HB.out ?_
   rintro e w2 ⟨rfl, hb2⟩
   have HB2 := hide hb2
   clear HB hb2
   go_upto_region 14 with (fail)
   have HB3 : Hid (Below w.heap.size w _) := (HB2.out.alloc HB2.out.size (.cells #[.int .i64 0, .int .i64 0, .int .i64 128, .int .i64 2048, .int .i64 65536] 3)).alloc (by have := HB2.out.size; simp; omega) (.cells #[.int .i64 0, .int .i64 0, .int .i64 2047, .int .i64 65535, .int .i64 1114111] 3)
   change Code.wp _ _ _ _ ((w2.alloc (.cells #[.int .i64 0, .int .i64 0, .int .i64 128, .int .i64 2048, .int .i64 65536] 3)).alloc (.cells #[.int .i64 0, .int .i64 0, .int .i64 2047, .int .i64 65535, .int .i64 1114111] 3))
   generalize (w2.alloc (.cells #[.int .i64 0, .int .i64 0, .int .i64 128, .int .i64 2048, .int .i64 65536] 3)).alloc (.cells #[.int .i64 0, .int .i64 0, .int .i64 2047, .int .i64 65535, .int .i64 1114111] 3) = w3 at HB3 ⊢
   go_wp2_with fail
   go_ret
   refine ⟨?_, HB3.out⟩
   rw [HR2.out, show (4 == 1 || Cssp.fits 4 b) = Cssp.fits 4 b from rfl]
   exact congrArg _ (v_b (by
    rw [Bool.eq_iff_iff, decide_eq_true_eq, HFT.out, Int.max_le, Int.le_min, Int.le_min]
    omega))
theorem i32_in (n : Int) (h : 0 <= n /\ n <= 1114111) : wrap32 n = n /\ wrap32 (wrap64 n) = n := by
 have h1 : wrap64 n = n := by unfold wrap64; omega
 rw [h1]
 unfold wrap32; omega
theorem rPiece (s : List UInt8) (k : Nat) (w : World) (hl : s.length <= 1048576) (hk : k < s.length) (P : Nat × Bool) (hP : Hid (Cssp.piece (s.drop k) = P)) (C : Nat) (hC : Hid (Cssp.cpt (s.drop k) = C)) :
  Calls Tryz.prog 49 #[S s, .int .i64 k] w (Fresh (.tuple #[.int .i64 (P.1 : Int), .int .i32 (C : Int), .bool P.2]) w) := by
 obtain ⟨L, hL⟩ : ∃ L, s.drop k = L := ⟨_, rfl⟩
 have hLl : L.length = s.length - k := by rw [<- hL, List.length_drop]
 have hL0 : L ≠ [] := fun e => by rw [e] at hLl; simp at hLl; omega
 obtain ⟨c, hcc⟩ : ∃ c, s[k] = c := ⟨_, rfl⟩
 have hac : Cssp.at_ L 0 = c := by rw [<- hL, Cssp.at_drop, Cssp.at_, List.getD_eq_getElem?_getD, Nat.add_zero, List.getElem?_eq_getElem hk, hcc]; rfl
 obtain ⟨hp, hp0, hpl⟩ := Cssp.piece_lead L hL0
 obtain ⟨hq4, hql⟩ := Cssp.lead4_le L hL0
 have hbt := Cssp.beg_take L
 have hok := Cssp.cpt_ok L hL0
 have hcpt : Cssp.cpt L = if (Cssp.piece L).2 = true then (if (Cssp.piece L).1 = 1 then (Cssp.at_ L 0).toNat else (Cssp.bnd (Cssp.piece L).1 (L.take (Cssp.piece L).1) (Cssp.piece L).1).1) else 65533 := rfl
 have hPp := hP.out
 have hCc := hC.out
 rw [hL] at hPp hCc
 rw [hPp, hCc] at hcpt
 rw [hCc] at hok
 rw [hPp] at hp
 obtain ⟨q, hq⟩ : ∃ q, Cssp.lead4 L = q := ⟨_, rfl⟩
 rw [hq] at hp hp0 hpl hq4 hql hbt
 rw [hac] at hp hp0 hpl hcpt
 have HC := hide hok.2.1
 have HBT := hide hbt
 have hkq : k + q <= s.length := by clear hcpt hp; omega
 have HPL := hide (And.intro hp (And.intro hp0 hpl))
 have HCPT := hide hcpt
 have HAC := hide hac
 have HLL := hide hLl
 have HL := hide hL
 obtain ⟨M, hM⟩ : ∃ M, w.heap.size = M := ⟨_, rfl⟩
 have HM := hide hM
 have HB0 : Hid (Below M w w) := by unfold Hid; rw [<- hM]; exact Below.refl _ _
 have b0 : (0 : Int) <= (k : Int) := by omega
 have b1 : (k : Int) < (s.length : Int) := by omega
 clear hp hp0 hpl hbt hok hcpt hPp hCc hq hac hLl hL0 hL hM hql hP hC
 go_enter Tryz.func49, Tryz.ntmps49
 go_upto_block 0 with fail
 go_cut [7] from 9 (fun s7 wx => s7 = .int .i64 q /\ Hid (Below M w wx))
 case first =>
  clear hcc b1
  go_wp2_with fail
  go_loopg [7, 8] (q + 1) (fun g s7 s8 wx => ∃ m : Nat, s7 = .int .i64 m /\ s8 = .int .i64 ((m + 1 : Nat) : Int) /\ m + g = q + 1 /\ m <= q /\ Hid (Below M w wx))
  case atStart => exact ⟨0, rfl, rfl, by omega, by omega, HB0⟩
  case round =>
   obtain ⟨m, rfl, rfl, hmg, hmq, hbx⟩ := hrel
   obtain ⟨n, hn⟩ : ∃ n, n = m + 1 := ⟨_, rfl⟩
   rw [<- hn]
   have hwk : wrap64 ((k : Int) + (n : Int)) = (k : Int) + (n : Int) := by unfold wrap64; omega
   have hwn : wrap64 ((n : Int) + 1) = (n : Int) + 1 := by unfold wrap64; omega
   by_cases h4 : n <= 4
   ·have e4 : (n : Int) <= 4 := by omega
    by_cases hkn : k + n <= s.length
    ·have e5 : (k : Int) + (n : Int) <= (s.length : Int) := by omega
     have e6 : (k : Int) <= (k : Int) + (n : Int) := by omega
     have hbg := HBT.out n (by omega) (by have := HLL.out; omega)
     have htl : 1 <= ((s.drop k).take n).length := by rw [List.length_take, List.length_drop]; omega
     have hRB := rBeg01 ((s.drop k).take n) wr htl
     rw [HL.out] at hRB
     have hbs : M <= wr.heap.size := by have := hbx.out.size; rw [<- HM.out]; exact this
     cases hb : Cssp.begP (L.take n) with
     | true =>
      rw [hb] at hRB
      have hle : n <= q := hbg.1 hb
      rw [<- HL.out] at hRB
      have HRB := hide hRB
      have HN := hide hn
      clear hRB hbg hb htl h4 hkn hn
      go_wp2_with fail
      refine Calls.mono HRB.out ?_
      rintro e w2 ⟨rfl, hb2⟩
      have HB2 : Hid (Below M w w2) := hbx.out.trans (hb2.mono hbs)
      clear hb2 HRB
      go_wp2_with fail
      go_roundg (gk - 1)
      case measure => omega
      case rel => exact ⟨n, rfl, by go_num, (by have := HN.out; omega), hle, HB2⟩
     | false =>
      rw [hb] at hRB
      have hle : ¬ n <= q := fun h => by rw [hbg.2 h] at hb; cases hb
      have hmq2 : m = q := by omega
      subst hmq2
      rw [<- HL.out] at hRB
      have HRB := hide hRB
      clear hRB hbg hb htl h4 hkn hn
      go_wp2_with fail
      refine Calls.mono HRB.out ?_
      rintro e w2 ⟨rfl, hb2⟩
      have HB2 : Hid (Below M w w2) := hbx.out.trans (hb2.mono hbs)
      clear hb2 HRB
      go_wp2_with fail
      go_meet
      case rel => exact ⟨rfl, HB2⟩
    ·have e5 : ¬ (k : Int) + (n : Int) <= (s.length : Int) := by omega
     have e5d : decide ((k : Int) + (n : Int) <= (s.length : Int)) = false := decide_eq_false e5
     have hmq2 : m = q := by omega
     subst hmq2
     clear h4 hkn hn
     go_wp2_with fail
     go_meet
     case rel => exact ⟨rfl, hbx⟩
   ·have e4 : ¬ (n : Int) <= 4 := by omega
    have e4d : decide ((n : Int) <= 4) = false := decide_eq_false e4
    have hmq2 : m = q := by omega
    subst hmq2
    clear h4 hn
    go_wp2_with fail
    go_meet
    case rel => exact ⟨rfl, hbx⟩
 case rest =>
  obtain ⟨rfl, hb1⟩ := hcut
  have hm := HM.out
  subst hm
  clear HM HB0
  obtain ⟨hp, hp0, hpl⟩ := HPL.out
  by_cases h0 : q = 0
  ·rw [if_pos h0] at hp
   subst hp
   have hcpt := HCPT.out
   rw [if_neg (by decide)] at hcpt
   subst hcpt
   subst h0
   clear hp0 hpl
   go_wp2_with fail
   refine bodyPost_ret (v := .tuple #[.int .i64 1, .int .i32 65533, .bool false]) (by simp [results, Tryz.results49, go_sem]) rfl ?_
   exact ⟨rfl, hb1.out⟩
  rw [if_neg h0] at hp
  have q0 : ((q : Int) == 0) = false := by rw [beq_eq_false_iff_ne]; omega
  have hLG := fun W => rLong c W
  rw [show longN c = Cssp.lng c from rfl] at hLG
  obtain ⟨n, hn⟩ : ∃ n, Cssp.lng c = n := ⟨_, rfl⟩
  rw [hn] at hp hpl hLG
  have HLG := hide hLG
  clear hLG
  by_cases hlt : q < n
  ·rw [if_pos hlt] at hp
   subst hp
   have hcpt := HCPT.out
   rw [if_neg (by simp)] at hcpt
   subst hcpt
   have e1 : (q : Int) < (n : Int) := by omega
   clear hp0 hpl hlt hn h0
   go_wp2_with fail
   refine (HLG.out _).mono ?_
   rintro e w' ⟨rfl, rfl⟩
   go_wp2_with fail
   refine bodyPost_ret (v := .tuple #[.int .i64 (q : Int), .int .i32 65533, .bool false]) (by simp [results, Tryz.results49, go_sem]) rfl ?_
   exact ⟨rfl, hb1.out⟩
  rw [if_neg hlt] at hp
  subst hp
  have hqn : q = n := by omega
  subst hqn
  have e1 : ¬ (q : Int) < (q : Int) := by omega
  have e1d : decide ((q : Int) < (q : Int)) = false := decide_eq_false e1
  have hq : q = 1 \/ q = 2 \/ q = 3 \/ q = 4 := by omega
  clear hp0 hpl hlt h0
  have hbg := (HBT.out q (by omega) (by have := HLL.out; omega)).2 (Nat.le_refl _)
  obtain ⟨r1, r2, r3, r4⟩ := Cssp.first_ranges c
  rcases hq with rfl | rfl | rfl | rfl
  ·have hcpt : C = c.toNat := by rw [HCPT.out, if_pos rfl, if_pos rfl]
   subst hcpt
   have HWC := hide (i32_in (c.toNat : Int) (by have := u8_lt c; omega))
   clear r1 r2 r3 r4 hbg hn
   go_wp2_with fail
   refine (HLG.out _).mono ?_
   rintro e w' ⟨rfl, rfl⟩
   go_wp2_with fail
   refine bodyPost_ret (v := .tuple #[.int .i64 1, .int .i32 (c.toNat : Int), .bool true]) (by simp [results, Tryz.results49, go_sem, HWC.out.2]) rfl ?_
   exact ⟨rfl, hb1.out⟩
  ·have hcpt : C = (Cssp.bnd 2 (L.take 2) 2).1 := by rw [HCPT.out, if_pos rfl, if_neg (by decide)]
   have hrg := r2 hn
   have hb0 : Cssp.at_ (L.take 2) 0 = c := by
    have := HAC.out
    rw [Cssp.at_, List.getD_eq_getElem?_getD, List.getElem?_take_of_lt (by decide), <- List.getD_eq_getElem?_getD]
    exact this
   have htl : (L.take 2).length = 2 := by rw [List.length_take]; have := HLL.out; omega
   have hall : Hid (∀ j, 1 <= j -> j < (L.take 2).length -> Cssp.cont (Cssp.at_ (L.take 2) j) = true) := by
    unfold Hid
    refine (Cssp.all_cont _).1 ?_
    unfold Cssp.begP at hbg
    simp only [Bool.and_eq_true] at hbg
    exact hbg.1.2
   have HB := fun W => rBounds2 (L.take 2) W (by omega) (by omega) (by unfold Hid; rw [hb0]; omega) (by unfold Hid; rw [hb0]; omega) hall
   rw [<- hcpt, <- HL.out] at HB
   have HB := hide HB
   obtain ⟨D, hD⟩ : ∃ D, (Cssp.bnd 2 (List.take 2 (List.drop k s)) 2).2 = D := ⟨_, rfl⟩
   rw [hD] at HB
   have hwc := i32_in (C : Int) (by have := HC.out; omega)
   have HWC := hide hwc
   have s1 : (k : Int) <= (k : Int) + 2 := by omega
   have s2 : (k : Int) + 2 <= (s.length : Int) := by omega
   have hwk : wrap64 ((k : Int) + 2) = (k : Int) + 2 := by unfold wrap64; omega
   clear r1 r2 r3 r4 hbg hn hcpt hrg hb0 htl hall hwc hD
   go_wp2_with fail
   refine (HLG.out _).mono ?_
   rintro e w' ⟨rfl, rfl⟩
   go_wp2_with fail
   refine (HB.out _).mono ?_
   rintro e w2 ⟨rfl, hb2⟩
   have HB2 : Hid (Below w.heap.size w w2) := hb1.out.trans (hb2.mono hb1.out.size)
   clear hb2
   go_wp2_with fail
   refine bodyPost_ret (v := .tuple #[.int .i64 2, .int .i32 (C : Int), .bool true]) (by simp [results, Tryz.results49, go_sem, HWC.out.1]) rfl ?_
   exact ⟨rfl, HB2.out⟩
  ·have hcpt : C = (Cssp.bnd 3 (L.take 3) 3).1 := by rw [HCPT.out, if_pos rfl, if_neg (by decide)]
   have hrg := r3 hn
   have hb0 : Cssp.at_ (L.take 3) 0 = c := by
    have := HAC.out
    rw [Cssp.at_, List.getD_eq_getElem?_getD, List.getElem?_take_of_lt (by decide), <- List.getD_eq_getElem?_getD]
    exact this
   have htl : (L.take 3).length = 3 := by rw [List.length_take]; have := HLL.out; omega
   have hall : Hid (∀ j, 1 <= j -> j < (L.take 3).length -> Cssp.cont (Cssp.at_ (L.take 3) j) = true) := by
    unfold Hid
    refine (Cssp.all_cont _).1 ?_
    unfold Cssp.begP at hbg
    simp only [Bool.and_eq_true] at hbg
    exact hbg.1.2
   have HB := fun W => rBounds3 (L.take 3) W (by omega) (by omega) (by unfold Hid; rw [hb0]; omega) (by unfold Hid; rw [hb0]; omega) hall
   rw [<- hcpt, <- HL.out] at HB
   have HB := hide HB
   obtain ⟨D, hD⟩ : ∃ D, (Cssp.bnd 3 (List.take 3 (List.drop k s)) 3).2 = D := ⟨_, rfl⟩
   rw [hD] at HB
   have hwc := i32_in (C : Int) (by have := HC.out; omega)
   have HWC := hide hwc
   have s1 : (k : Int) <= (k : Int) + 3 := by omega
   have s2 : (k : Int) + 3 <= (s.length : Int) := by omega
   have hwk : wrap64 ((k : Int) + 3) = (k : Int) + 3 := by unfold wrap64; omega
   clear r1 r2 r3 r4 hbg hn hcpt hrg hb0 htl hall hwc hD
   go_wp2_with fail
   refine (HLG.out _).mono ?_
   rintro e w' ⟨rfl, rfl⟩
   go_wp2_with fail
   refine (HB.out _).mono ?_
   rintro e w2 ⟨rfl, hb2⟩
   have HB2 : Hid (Below w.heap.size w w2) := hb1.out.trans (hb2.mono hb1.out.size)
   clear hb2
   go_wp2_with fail
   refine bodyPost_ret (v := .tuple #[.int .i64 3, .int .i32 (C : Int), .bool true]) (by simp [results, Tryz.results49, go_sem, HWC.out.1]) rfl ?_
   exact ⟨rfl, HB2.out⟩
  ·have hcpt : C = (Cssp.bnd 4 (L.take 4) 4).1 := by rw [HCPT.out, if_pos rfl, if_neg (by decide)]
   have hrg := r4 hn
   have hb0 : Cssp.at_ (L.take 4) 0 = c := by
    have := HAC.out
    rw [Cssp.at_, List.getD_eq_getElem?_getD, List.getElem?_take_of_lt (by decide), <- List.getD_eq_getElem?_getD]
    exact this
   have htl : (L.take 4).length = 4 := by rw [List.length_take]; have := HLL.out; omega
   have hall : Hid (∀ j, 1 <= j -> j < (L.take 4).length -> Cssp.cont (Cssp.at_ (L.take 4) j) = true) := by
    unfold Hid
    refine (Cssp.all_cont _).1 ?_
    unfold Cssp.begP at hbg
    simp only [Bool.and_eq_true] at hbg
    exact hbg.1.2
   have HB := fun W => rBounds4 (L.take 4) W (by omega) (by omega) (by unfold Hid; rw [hb0]; omega) (by unfold Hid; rw [hb0]; omega) hall
   rw [<- hcpt, <- HL.out] at HB
   have HB := hide HB
   obtain ⟨D, hD⟩ : ∃ D, (Cssp.bnd 4 (List.take 4 (List.drop k s)) 4).2 = D := ⟨_, rfl⟩
   rw [hD] at HB
   have hwc := i32_in (C : Int) (by have := HC.out; omega)
   have HWC := hide hwc
   have s1 : (k : Int) <= (k : Int) + 4 := by omega
   have s2 : (k : Int) + 4 <= (s.length : Int) := by omega
   have hwk : wrap64 ((k : Int) + 4) = (k : Int) + 4 := by unfold wrap64; omega
   clear r1 r2 r3 r4 hbg hn hcpt hrg hb0 htl hall hwc hD
   go_wp2_with fail
   refine (HLG.out _).mono ?_
   rintro e w' ⟨rfl, rfl⟩
   go_wp2_with fail
   refine (HB.out _).mono ?_
   rintro e w2 ⟨rfl, hb2⟩
   have HB2 : Hid (Below w.heap.size w w2) := hb1.out.trans (hb2.mono hb1.out.size)
   clear hb2
   go_wp2_with fail
   refine bodyPost_ret (v := .tuple #[.int .i64 4, .int .i32 (C : Int), .bool true]) (by simp [results, Tryz.results49, go_sem, HWC.out.1]) rfl ?_
   exact ⟨rfl, HB2.out⟩
theorem escStr (c : List UInt8) : Lib.strCells ⟨c.toArray⟩ = c.map B8 := by simp [Lib.strCells]
theorem row_text {w : World} {B n : Nat} {v : Value} {l : List UInt8} (h : w.ownsRow B 5 1 v n (l.map B8)) (hn : l.length = n) : (convert 39 9 v).run Tryz.prog w = .ok (S l) w := by
 rcases h.2 with ⟨rfl, h0⟩ | ⟨g, cap, cur, rfl, hg, hgg, _⟩
 ·have : l = [] := List.eq_nil_of_length_eq_zero (by omega)
  subst this
  exact Lib.run_convert_nil_bytes w _ _ 5 0 Tryz.underlying39 Tryz.underlying5 Tryz.underlying9
 ·have hc := h.cells (g := g) rfl
  rw [<- hn]
  exact run_convert_bytes_back w 39 9 5 ⟨g, 0, none⟩ cap l Tryz.underlying39 Tryz.underlying5 Tryz.underlying9 (fun j hj => hc j _ (by rw [List.getElem?_map, List.getElem?_eq_getElem hj]; rfl))
theorem rDecode (s : List UInt8) (w : World) (hl : s.length <= 1048576) :
  Calls Tryz.prog 22 #[S s] w (Fresh (S (Cssp.decode s)) w) := by
 obtain ⟨i0, hi0, hz0, hz1, hz2⟩ := info_parts info_byte
 obtain ⟨u, hu⟩ : ∃ u, Cssp.decode s = u := ⟨_, rfl⟩
 rw [hu]
 obtain ⟨M, hM⟩ : ∃ M, w.heap.size = M := ⟨_, rfl⟩
 have HM := hide hM
 have HU := hide hu
 have hnil := World.ownsRow_nil w M 5 1
 clear hM hu
 go_enter Tryz.func22, Tryz.ntmps22
 go_wp2_with fail
 go_loopg [3, 4] s.length (fun g s3 s4 wx => ∃ (i : Nat) (acc : List UInt8), i + g = s.length /\ s4 = .int .i64 i /\ acc.length <= 3 * i /\ wx.ownsRow M 5 1 s3 acc.length (acc.map B8) /\ Below M w wx /\ Hid (acc ++ Cssp.decode (s.drop i) = u))
 case atStart => exact ⟨0, [], by omega, rfl, by simp, hnil, by rw [<- HM.out]; exact Below.refl _ _, by unfold Hid; simpa using HU.out⟩
 case round =>
  obtain ⟨i, acc, hi, rfl, hal, hown, hb, hd⟩ := hrel
  clear hnil
  have hs := hb.size
  rw [HM.out] at hs
  by_cases hlt : i < s.length
  ·have hn0 : s.drop i ≠ [] := fun e => by have := congrArg List.length e; rw [List.length_drop, List.length_nil] at this; omega
   obtain ⟨P, hP⟩ : ∃ P, Cssp.piece (s.drop i) = P := ⟨_, rfl⟩
   obtain ⟨C, hC⟩ : ∃ C, Cssp.cpt (s.drop i) = C := ⟨_, rfl⟩
   obtain ⟨cc, hcc⟩ : ∃ cc, Cssp.code (s.drop i) = cc := ⟨_, rfl⟩
   have hPC := hide (rPiece s i wr hl hlt P hP C hC)
   obtain ⟨k1, k2, k3⟩ := Cssp.cpt_ok (s.drop i) hn0
   have hst := Cssp.decode_step (s.drop i) hn0
   have hle := (Cssp.piece_le (s.drop i) hn0)
   have hcl := Cssp.code_len3 (s.drop i) hn0
   rw [hcc, hC] at k1
   rw [hC] at k2 k3
   rw [hP] at hst hle hcl
   rw [hcc, List.drop_drop] at hst
   rw [hcc] at hcl
   rw [List.length_drop] at hle
   obtain ⟨p, ok⟩ := P
   simp only at hst hle hcl hPC
   obtain ⟨l1, l2, l3⟩ := hle
   have hd2 := hd.out
   rw [hst] at hd2
   have HBY := fun W => hide (rBytesZ (C : Int) W (by omega) (by omega) (by omega))
   rw [k1] at HBY
   have HD := hide hd2
   have hip : i + p <= s.length := by omega
   have hA : acc.length + cc.length <= 4000000 := by omega
   clear hn0 hP hC hcc k1 k2 k3 hst l2 l3 hd2 hd
   go_wp2_with fail
   refine hPC.out.mono ?_
   rintro e w2 ⟨rfl, hb2⟩
   have HY := HBY w2
   clear HBY hPC
   have hown2 := ownsRow_below hown hb2
   have hbm2 : Below M w w2 := hb.trans (hb2.mono hs)
   have hs2 := hb2.size
   clear hb2 hown hb
   go_wp2_with fail
   refine Calls.mono HY.out ?_
   rintro e w3 ⟨rfl, hb3⟩
   have hown := ownsRow_below hown2 hb3
   have hb : Below M w w3 := hbm2.trans (hb3.mono (by omega))
   have hs3 := hb3.size
   clear hb3 hown2 hbm2 HY
   go_wp2_with (at_builtin; refine Lib.wpList_append_own_string _ rfl (.tmp 19) _ 39 9 rfl M 5 i0 Tryz.underlying39 Tryz.underlying9 hi0 hz0 hz1 hz2 _ _ _ rfl hown ⟨cc.toArray⟩ rfl (by rw [bl_size]; exact Nat.le_trans hA (by unfold maxLen; decide)) (by rw [bl_size]; exact Nat.le_trans hA (by decide)) (by omega) ?_)
   intro v' w6 hown6 hgrow _
   have hb6 : Below M w w6 := hb.grown hgrow (by omega) (fun k hk => (hown.lt k hk).1)
   have hown7 : w6.ownsRow M 5 1 v' (acc ++ cc).length ((acc ++ cc).map B8) := by rw [List.length_append, List.map_append, <- escStr cc]; exact hown6
   clear hgrow hown hown6
   go_wp2_with fail
   go_roundg (gk - p)
   case measure => omega
   case rel => exact ⟨i + p, acc ++ cc, by omega, by go_num, by simp; omega, hown7, hb6, by unfold Hid; rw [<- HD.out]; simp⟩
  ·have e : i = s.length := by omega
   subst e
   have hd2 := hd.out
   rw [List.drop_length, Cssp.decode_nil, List.append_nil] at hd2
   subst hd2
   have hcv := row_text hown rfl
   clear hd
   go_wp2_with fail
   go_ret
   exact ⟨rfl, by rw [HM.out]; exact hb⟩
end Go.Proofs.YtngccmlcopcghaaGreatDoor
