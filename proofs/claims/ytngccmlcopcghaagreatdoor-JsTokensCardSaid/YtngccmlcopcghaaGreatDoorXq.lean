/- The reference's brackets. -/
import Derived.Test.YtngccmlcopcghaaGreatDoorXp
import Derived.Test.YtngccmlcopcghaaGreatDoorYa
set_option maxRecDepth 100000
set_option maxHeartbeats 8000000
namespace Go.Proofs.YtngccmlcopcghaaGreatDoor
open Go.RowKit
def txK : List UInt8 := [105, 102, 32, 102, 111, 114, 32, 119, 104, 105, 108, 101, 32, 119, 105, 116, 104]
def txB : List UInt8 := [59, 32, 123, 32, 125, 32, 41, 32, 61, 62, 32, 101, 108, 115, 101, 32, 100, 111]
theorem rAmongK (s : List UInt8) (w : World) : Calls Tryz.prog 53 #[S s, S txK] w (Ret (.bool (Jsp.wordsOf Jsp.aheadK s)) w) := by
 rw [<- Jsp.among_words (W := txK) (L := Jsp.aheadK) (by rfl) (by decide)]
 exact rAmong s txK w (by decide)
theorem rAmongB (s : List UInt8) (w : World) : Calls Tryz.prog 53 #[S s, S txB] w (Ret (.bool (Jsp.wordsOf Jsp.aheadB s)) w) := by
 rw [<- Jsp.among_words (W := txB) (L := Jsp.aheadB) (by rfl) (by decide)]
 exact rAmong s txB w (by decide)
def BrP (b : Nat) (F : List UInt8) (n : Nat) (st : Jsp.St) (m : List UInt8) (w : World) (e : Ending) (w' : World) : Prop := match Jsp.bracket st m with
 | none => e = .returned (.tuple #[]) /\ Km b w w' /\ ∃ a k d l so fr, MB w' b F a k d l so 177 (n : Int) fr
 | some st2 => e = .returned (.tuple #[]) /\ Km b w w' /\ ∃ pl fr, MB w' b F (n : Int) st2.stk (!st2.goal) st2.last st2.some 0 pl fr
theorem BrP.no {b : Nat} {F : List UInt8} {n : Nat} {st : Jsp.St} {m : List UInt8} {w w' : World} (h : Jsp.bracket st m = none) (hk : Km b w w') {a : Int} {k : List UInt8} {d : Bool} {l : List UInt8} {so : Bool} {fr : Fr} (hm : MB w' b F a k d l so 177 (n : Int) fr) : BrP b F n st m w (.returned (.tuple #[])) w' := by
 unfold BrP; rw [h]; exact ⟨rfl, hk, _, _, _, _, _, _, hm⟩
theorem BrP.yes {b : Nat} {F : List UInt8} {n : Nat} {st st2 : Jsp.St} {m : List UInt8} {w w' : World} (h : Jsp.bracket st m = some st2) (hk : Km b w w') {pl : Int} {fr : Fr} {k l : List UInt8} {d so : Bool} (hm : MB w' b F (n : Int) k d l so 0 pl fr) (e1 : k = st2.stk) (e2 : d = !st2.goal) (e3 : l = st2.last) (e4 : so = st2.some) : BrP b F n st m w (.returned (.tuple #[])) w' := by
 subst e1; subst e2; subst e3; subst e4
 unfold BrP; rw [h]; exact ⟨rfl, hk, _, _, hm⟩
theorem BrP.push {b : Nat} {F : List UInt8} {n : Nat} {st st1 : Jsp.St} {m : List UInt8} {c : UInt8} {w w1 w' : World} (h : Jsp.bracket st m = Jsp.push st1 c) (e1 : st1.goal = true) (e2 : st1.stk = st.stk) (e3 : st1.last = st.last) (e4 : st1.some = st.some) (hk : Km b w w1) (hk2 : Km b w1 w') {pl : Int} {fr : Fr} (hp : PushP b F (n : Int) st.stk false st.last st.some 0 pl fr c (n : Int) w') : BrP b F n st m w (.returned (.tuple #[])) w' := by
 have hkk : Km b w w' := World.grownBy.trans hk hk2
 unfold PushP at hp
 unfold Jsp.push Jsp.most at h
 split at hp
 ·rename_i hlen
  obtain ⟨fr', hm⟩ := hp
  rw [e2, if_pos hlen] at h
  exact BrP.no h hkk hm
 ·rename_i hlen
  rw [e2, if_neg hlen] at h
  exact BrP.yes h hkk hp rfl (by simp [e1]) e3.symm e4.symm
theorem top_eq (st : Jsp.St) : (st.stk = [] /\ Jsp.top st = 0) \/ ∃ h : st.stk.length - 1 < st.stk.length, st.stk ≠ [] /\ Jsp.top st = st.stk[st.stk.length - 1]'h := by
 by_cases h0 : st.stk = []
 ·exact .inl ⟨h0, by unfold Jsp.top; rw [h0]; rfl⟩
 ·exact .inr ⟨by have := List.length_pos_iff.2 h0; omega, h0, top_get h0⟩
theorem u8nep {c : UInt8} {z : Int} (h : ¬ (c.toNat : Int) = z) : ((c.toNat : Int) != z) = true := by rw [bne_iff_ne]; exact h
theorem rBrackets (b : Nat) (F : List UInt8) (n : Nat) (st : Jsp.St) (m : List UInt8) (p0 : Int) (fr : Fr) (w : World) (h : MB w b F (n : Int) st.stk (!st.goal) st.last st.some 0 p0 fr) (hk : st.stk.length <= 200) (hso : st.some = false -> st.last = []) :
  Calls Tryz.prog 131 #[.pointer (some ⟨b, 0, none⟩), S m] w (BrP b F n st m w) := by
 have HM := hide h
 have HK := hide hk
 have HSO := hide hso
 have c2 := h.cells.2.2.1
 obtain ⟨t, ht⟩ : ∃ t, Jsp.top st = t := ⟨_, rfl⟩
 have htop := top_eq st
 rw [ht] at htop
 have HT := hide ht
 clear h hk hso ht
 go_enter Tryz.func131, Tryz.ntmps131
 go_upto_if 13 with (fail)
 obtain ⟨dd, hdd⟩ : ∃ dd, decide (0 < st.stk.length) = dd := ⟨_, rfl⟩
 rw [hdd]
 go_cut [4] from 8 (fun s4 wx => s4 = .int .u8 t.toNat /\ Hid (MB wx b F (n : Int) st.stk (!st.goal) st.last st.some 0 p0 fr) /\ Hid (Km b w wx))
 case first =>
  rcases htop with ⟨h0, ht0⟩ | ⟨hlt, h0, ht0⟩
  ·obtain rfl : dd = false := by rw [<- hdd, h0]; rfl
   subst ht0
   clear h0 hdd
   go_wp2_with fail
   go_meet
   case rel => exact ⟨rfl, HM, Km.refl b w⟩
  ·obtain rfl : dd = true := by rw [<- hdd]; exact decide_eq_true (by omega)
   clear hdd
   have b0 : (0 : Int) <= (st.stk.length : Int) - 1 := by omega
   have b1 : (st.stk.length : Int) - 1 < (st.stk.length : Int) := by omega
   have b2 : ((st.stk.length : Int) - 1).toNat = st.stk.length - 1 := by omega
   have hpos : 0 < st.stk.length := by omega
   have hw := wl1 hpos (by have := HK.out; omega)
   have ht1 : st.stk[st.stk.length - 1] = t := ht0.symm
   clear ht0
   go_wp2_with fail
   go_quiet (fail)
   go_wp2_with fail
   go_meet
   case rel => exact ⟨rfl, HM.out.drewN _, (Km.refl b w).drewN _⟩
 case rest =>
  obtain ⟨rfl, hm1, hk1⟩ := hcut
  clear htop c2 HM
  have c3 := hm1.out.cells.2.2.2.1
  have f3 := hm1.out.frozen 3
  go_upto_region 5 with (fail)
  change Code.wp _ _ _ _ (wc.setCell ⟨b, 3, none⟩ (.bool false))
  have hm2 := hm1.out.set3 false
  have hk2 := hk1.out.set 3 (.bool false)
  generalize wc.setCell ⟨b, 3, none⟩ (.bool false) = w2 at hm2 hk2 ⊢
  have HM2 := hide hm2
  have HK2 := hide hk2
  clear hm2 hk2 hm1 hk1 c3 f3
  have c1 := HM2.out.cells.2.1
  have c4 := HM2.out.cells.2.2.2.2.1
  have c5 := HM2.out.cells.2.2.2.2.2.1
  have c2 := HM2.out.cells.2.2.1
  have c3 := HM2.out.cells.2.2.2.1
  have f3 := HM2.out.frozen 3
  have f2 := HM2.out.frozen 2
  have HPU := hide (fun c : UInt8 => rPush b F (n : Int) st.stk false st.last st.some 0 p0 fr c (n : Int) w2 HM2.out HK.out)
  have HFL := hide (rFail b F (n : Int) st.stk false st.last st.some 0 p0 fr 177 (n : Int) 0 0 false false [] w2 HM2.out)
  have htb := u8_lt t
  by_cases m40 : m = [40]
  ·subst m40
   have hbr : Jsp.bracket st [40] = Jsp.push { st with goal := true } (Jsp.paren st) := rfl
   unfold Jsp.paren at hbr
   obtain ⟨so, hsoe⟩ : ∃ so, st.some = so := ⟨_, rfl⟩
   obtain ⟨v, hv⟩ : ∃ v, Jsp.wordsOf Jsp.aheadK st.last = v := ⟨_, rfl⟩
   have HA := hide (fun W => rAmongK st.last W)
   rw [hv] at hbr
   simp only [hv] at HA
   rw [hsoe] at c5
   have HV := hide hv
   have HSE := hide hsoe
   clear hv hsoe
   cases so
   ·have hvf : v = false := by rw [<- HV.out, HSO.out HSE.out]; rfl
    subst hvf
    have HBR := hide (show Jsp.bracket st [40] = Jsp.push { st with goal := true } 112 from hbr)
    clear hbr HA
    go_wp2_with fail
    refine (HPU.out 112).mono ?_
    rintro e w3 ⟨rfl, hp, hk3⟩
    go_wp2_with fail
    refine bodyPost_end (results_none (by kernel_rfl) _ _ _) rfl ?_
    exact BrP.push (st1 := { st with goal := true }) (c := 112) (HBR.out) rfl rfl rfl rfl HK2.out hk3 hp
   ·cases v
    ·have HBR := hide (show Jsp.bracket st [40] = Jsp.push { st with goal := true } 112 from hbr)
     clear hbr
     go_wp2_with fail
     refine (HA.out _).mono ?_
     rintro e w3 ⟨rfl, rfl⟩
     go_wp2_with fail
     refine (HPU.out 112).mono ?_
     rintro e w3 ⟨rfl, hp, hk3⟩
     go_wp2_with fail
     refine bodyPost_end (results_none (by kernel_rfl) _ _ _) rfl ?_
     exact BrP.push (st1 := { st with goal := true }) (c := 112) (HBR.out) rfl rfl rfl rfl HK2.out hk3 hp
    ·have HBR := hide (show Jsp.bracket st [40] = Jsp.push { st with goal := true } 107 from hbr)
     clear hbr
     go_wp2_with fail
     refine (HA.out _).mono ?_
     rintro e w3 ⟨rfl, rfl⟩
     go_wp2_with fail
     refine (HPU.out 107).mono ?_
     rintro e w3 ⟨rfl, hp, hk3⟩
     go_wp2_with fail
     refine bodyPost_end (results_none (by kernel_rfl) _ _ _) rfl ?_
     exact BrP.push (st1 := { st with goal := true }) (c := 107) (HBR.out) rfl rfl rfl rfl HK2.out hk3 hp
  have q40 : (m == [40]) = false := by simpa using m40
  by_cases m91 : m = [91]
  ·subst m91
   have HBR := hide (show Jsp.bracket st [91] = Jsp.push { st with goal := true } 91 from rfl)
   clear m40 q40
   go_wp2_with fail
   refine (HPU.out 91).mono ?_
   rintro e w3 ⟨rfl, hp, hk3⟩
   go_wp2_with fail
   refine bodyPost_end (results_none (by kernel_rfl) _ _ _) rfl ?_
   exact BrP.push (st1 := { st with goal := true }) (c := 91) (HBR.out) rfl rfl rfl rfl HK2.out hk3 hp
  have q91 : (m == [91]) = false := by simpa using m91
  by_cases m123 : m = [123]
  ·subst m123
   have hbr : Jsp.bracket st [123] = Jsp.push { st with goal := true } (Jsp.brace st) := rfl
   unfold Jsp.brace at hbr
   obtain ⟨so, hsoe⟩ : ∃ so, st.some = so := ⟨_, rfl⟩
   obtain ⟨g, hg⟩ : ∃ g, st.goal = g := ⟨_, rfl⟩
   obtain ⟨v, hv⟩ : ∃ v, Jsp.wordsOf Jsp.aheadB st.last = v := ⟨_, rfl⟩
   have HA := hide (fun W => rAmongB st.last W)
   rw [hv, hg, hsoe] at hbr
   simp only [hv] at HA
   rw [hsoe] at c5
   have HBR0 := hide hbr
   have HSE := hide hsoe
   clear hv m40 q40 m91 q91 hbr
   cases g
   ·have HBR := hide (show Jsp.bracket st [123] = Jsp.push { st with goal := true } 98 from by rw [HBR0.out, if_pos (.inl rfl), HSE.out])
    clear hsoe
    go_wp2_with fail
    refine (HPU.out 98).mono ?_
    rintro e w3 ⟨rfl, hp, hk3⟩
    go_wp2_with fail
    refine bodyPost_end (results_none (by kernel_rfl) _ _ _) rfl ?_
    exact BrP.push (st1 := { st with goal := true }) (c := 98) (HBR.out) rfl rfl rfl rfl HK2.out hk3 hp
   ·cases so
    ·have HBR := hide (show Jsp.bracket st [123] = Jsp.push { st with goal := true } 98 from by rw [HBR0.out, if_pos (.inr (.inl rfl)), HSE.out])
     clear hsoe
     go_wp2_with fail
     refine (HPU.out 98).mono ?_
     rintro e w3 ⟨rfl, hp, hk3⟩
     go_wp2_with fail
     refine bodyPost_end (results_none (by kernel_rfl) _ _ _) rfl ?_
     exact BrP.push (st1 := { st with goal := true }) (c := 98) (HBR.out) rfl rfl rfl rfl HK2.out hk3 hp
    ·cases v
     ·have HBR := hide (show Jsp.bracket st [123] = Jsp.push { st with goal := true } 101 from by rw [HBR0.out, if_neg (by decide), HSE.out])
      clear hsoe
      go_wp2_with fail
      refine (HA.out _).mono ?_
      rintro e w3 ⟨rfl, rfl⟩
      go_wp2_with fail
      refine (HPU.out 101).mono ?_
      rintro e w3 ⟨rfl, hp, hk3⟩
      go_wp2_with fail
      refine bodyPost_end (results_none (by kernel_rfl) _ _ _) rfl ?_
      exact BrP.push (st1 := { st with goal := true }) (c := 101) (HBR.out) rfl rfl rfl rfl HK2.out hk3 hp
     ·have HBR := hide (show Jsp.bracket st [123] = Jsp.push { st with goal := true } 98 from by rw [HBR0.out, if_pos (.inr (.inr rfl)), HSE.out])
      clear hsoe
      go_wp2_with fail
      refine (HA.out _).mono ?_
      rintro e w3 ⟨rfl, rfl⟩
      go_wp2_with fail
      refine (HPU.out 98).mono ?_
      rintro e w3 ⟨rfl, hp, hk3⟩
      go_wp2_with fail
      refine bodyPost_end (results_none (by kernel_rfl) _ _ _) rfl ?_
      exact BrP.push (st1 := { st with goal := true }) (c := 98) (HBR.out) rfl rfl rfl rfl HK2.out hk3 hp
  have q123 : (m == [123]) = false := by simpa using m123
  have hsl := wl1 (n := st.stk.length)
  have hstk : Jsp.top st ≠ 0 -> 0 < st.stk.length := fun h => by
   rcases top_eq st with ⟨_, h2⟩ | ⟨h2, _⟩
   ·exact absurd h2 h
   ·omega
  rw [HT.out] at hstk
  have HSL := hide hsl
  have HSTK := hide hstk
  clear hsl hstk
  by_cases m41 : m = [41]
  ·subst m41
   clear m40 q40 m91 q91 m123 q123
   have hbr : Jsp.bracket st [41] = if Jsp.top st = 107 \/ Jsp.top st = 112 then some { Jsp.pop st with goal := Jsp.top st == 107 } else none := rfl
   rw [HT.out] at hbr
   by_cases t107 : t = 107
   ·subst t107
    have HBR := hide (show Jsp.bracket st [41] = some { Jsp.pop st with goal := true } from by rw [hbr]; rfl)
    have hpos := HSTK.out (by decide)
    have hw := HSL.out hpos (by have := HK.out; omega)
    have b0 : (0 : Int) <= (st.stk.length : Int) - 1 := by omega
    have b1 : (st.stk.length : Int) - 1 <= (st.stk.length : Int) := by omega
    have b2 : ((st.stk.length : Int) - 1).toNat = st.stk.length - 1 := by omega
    clear hbr HPU HFL htb hpos
    go_upto_region 22 with (fail)
    change Code.wp _ _ _ _ (w2.setCell ⟨b, 3, none⟩ (.bool false))
    have hm3 := HM2.out.set3 false
    have hk3 := HK2.out.set 3 (.bool false)
    generalize w2.setCell ⟨b, 3, none⟩ (.bool false) = w3 at hm3 hk3 ⊢
    have HM3 := hide hm3
    have HK3 := hide hk3
    clear hm3 hk3 HM2 HK2 c1 c2 c3 c4 c5 f2 f3
    have c2 := HM3.out.cells.2.2.1
    have f2 := HM3.out.frozen 2
    go_region
    go_wp2_with fail
    refine bodyPost_end (results_none (by kernel_rfl) _ _ _) rfl ?_
    exact BrP.yes HBR.out ((HK3.out.set 2 _).drewN 1) ((HM3.out.set2 _).drewN 1) (by simp [Jsp.pop, List.dropLast_eq_take]) (by rfl) rfl rfl
   have t107p : ¬ (t.toNat : Int) = 107 := fun e => t107 (u8_inj e)
   have t107n := u8nep t107p
   by_cases t112 : t = 112
   ·subst t112
    have HBR := hide (show Jsp.bracket st [41] = some { Jsp.pop st with goal := false } from by rw [hbr]; rfl)
    have hpos := HSTK.out (by decide)
    have hw := HSL.out hpos (by have := HK.out; omega)
    have b0 : (0 : Int) <= (st.stk.length : Int) - 1 := by omega
    have b1 : (st.stk.length : Int) - 1 <= (st.stk.length : Int) := by omega
    have b2 : ((st.stk.length : Int) - 1).toNat = st.stk.length - 1 := by omega
    clear hbr HPU HFL htb hpos
    go_upto_region 22 with (fail)
    change Code.wp _ _ _ _ (w2.setCell ⟨b, 3, none⟩ (.bool true))
    have hm3 := HM2.out.set3 true
    have hk3 := HK2.out.set 3 (.bool true)
    generalize w2.setCell ⟨b, 3, none⟩ (.bool true) = w3 at hm3 hk3 ⊢
    have HM3 := hide hm3
    have HK3 := hide hk3
    clear hm3 hk3 HM2 HK2 c1 c2 c3 c4 c5 f2 f3
    have c2 := HM3.out.cells.2.2.1
    have f2 := HM3.out.frozen 2
    go_region
    go_wp2_with fail
    refine bodyPost_end (results_none (by kernel_rfl) _ _ _) rfl ?_
    exact BrP.yes HBR.out ((HK3.out.set 2 _).drewN 1) ((HM3.out.set2 _).drewN 1) (by simp [Jsp.pop, List.dropLast_eq_take]) (by rfl) rfl rfl
   have t112p : ¬ (t.toNat : Int) = 112 := fun e => t112 (u8_inj e)
   have t112n := u8nep t112p
   have HBR := hide (show Jsp.bracket st [41] = none from by rw [hbr, if_neg (fun h => h.elim t107 t112)])
   clear hbr t107 t112
   go_wp2_with fail
   refine HFL.out.mono ?_
   rintro e w9 ⟨rfl, ⟨fr9, hm9⟩, hk9⟩
   go_wp2_with fail
   refine bodyPost_ret (v := .tuple #[]) (by simp [results, Tryz.results131, go_sem]) rfl ?_
   exact BrP.no HBR.out (World.grownBy.trans HK2.out hk9) hm9
  have q41 : (m == [41]) = false := by simpa using m41
  by_cases m93 : m = [93]
  ·subst m93
   clear m40 q40 m91 q91 m123 q123 m41 q41
   have hbr : Jsp.bracket st [93] = if Jsp.top st = 91 then some { Jsp.pop st with goal := false } else none := rfl
   rw [HT.out] at hbr
   by_cases t91 : t = 91
   ·subst t91
    have HBR := hide (show Jsp.bracket st [93] = some { Jsp.pop st with goal := false } from by rw [hbr]; rfl)
    have hpos := HSTK.out (by decide)
    have hw := HSL.out hpos (by have := HK.out; omega)
    have b0 : (0 : Int) <= (st.stk.length : Int) - 1 := by omega
    have b1 : (st.stk.length : Int) - 1 <= (st.stk.length : Int) := by omega
    have b2 : ((st.stk.length : Int) - 1).toNat = st.stk.length - 1 := by omega
    clear hbr HPU HFL htb hpos
    go_upto_region 27 with (fail)
    change Code.wp _ _ _ _ (w2.setCell ⟨b, 3, none⟩ (.bool true))
    have hm3 := HM2.out.set3 true
    have hk3 := HK2.out.set 3 (.bool true)
    generalize w2.setCell ⟨b, 3, none⟩ (.bool true) = w3 at hm3 hk3 ⊢
    have HM3 := hide hm3
    have HK3 := hide hk3
    clear hm3 hk3 HM2 HK2 c1 c2 c3 c4 c5 f2 f3
    have c2 := HM3.out.cells.2.2.1
    have f2 := HM3.out.frozen 2
    go_region
    go_wp2_with fail
    refine bodyPost_end (results_none (by kernel_rfl) _ _ _) rfl ?_
    exact BrP.yes HBR.out ((HK3.out.set 2 _).drewN 1) ((HM3.out.set2 _).drewN 1) (by simp [Jsp.pop, List.dropLast_eq_take]) (by rfl) rfl rfl
   have t91p : ¬ (t.toNat : Int) = 91 := fun e => t91 (u8_inj e)
   have t91n := u8nep t91p
   have HBR := hide (show Jsp.bracket st [93] = none from by rw [hbr, if_neg (by intro h; exact t91 h)])
   clear hbr t91
   go_wp2_with fail
   refine HFL.out.mono ?_
   rintro e w9 ⟨rfl, ⟨fr9, hm9⟩, hk9⟩
   go_wp2_with fail
   refine bodyPost_ret (v := .tuple #[]) (by simp [results, Tryz.results131, go_sem]) rfl ?_
   exact BrP.no HBR.out (World.grownBy.trans HK2.out hk9) hm9
  have q93 : (m == [93]) = false := by simpa using m93
  by_cases m125 : m = [125]
  ·subst m125
   clear m40 q40 m91 q91 m123 q123 m41 q41 m93 q93
   have hbr : Jsp.bracket st [125] = if Jsp.top st = 98 \/ Jsp.top st = 101 then some { Jsp.pop st with goal := Jsp.top st == 98 } else none := rfl
   rw [HT.out] at hbr
   by_cases t98 : t = 98
   ·subst t98
    have HBR := hide (show Jsp.bracket st [125] = some { Jsp.pop st with goal := true } from by rw [hbr]; rfl)
    have hpos := HSTK.out (by decide)
    have hw := HSL.out hpos (by have := HK.out; omega)
    have b0 : (0 : Int) <= (st.stk.length : Int) - 1 := by omega
    have b1 : (st.stk.length : Int) - 1 <= (st.stk.length : Int) := by omega
    have b2 : ((st.stk.length : Int) - 1).toNat = st.stk.length - 1 := by omega
    clear hbr HPU HFL htb hpos
    go_upto_region 32 with (fail)
    change Code.wp _ _ _ _ (w2.setCell ⟨b, 3, none⟩ (.bool false))
    have hm3 := HM2.out.set3 false
    have hk3 := HK2.out.set 3 (.bool false)
    generalize w2.setCell ⟨b, 3, none⟩ (.bool false) = w3 at hm3 hk3 ⊢
    have HM3 := hide hm3
    have HK3 := hide hk3
    clear hm3 hk3 HM2 HK2 c1 c2 c3 c4 c5 f2 f3
    have c2 := HM3.out.cells.2.2.1
    have f2 := HM3.out.frozen 2
    go_region
    go_wp2_with fail
    refine bodyPost_end (results_none (by kernel_rfl) _ _ _) rfl ?_
    exact BrP.yes HBR.out ((HK3.out.set 2 _).drewN 1) ((HM3.out.set2 _).drewN 1) (by simp [Jsp.pop, List.dropLast_eq_take]) (by rfl) rfl rfl
   have t98p : ¬ (t.toNat : Int) = 98 := fun e => t98 (u8_inj e)
   have t98n := u8nep t98p
   by_cases t101 : t = 101
   ·subst t101
    have HBR := hide (show Jsp.bracket st [125] = some { Jsp.pop st with goal := false } from by rw [hbr]; rfl)
    have hpos := HSTK.out (by decide)
    have hw := HSL.out hpos (by have := HK.out; omega)
    have b0 : (0 : Int) <= (st.stk.length : Int) - 1 := by omega
    have b1 : (st.stk.length : Int) - 1 <= (st.stk.length : Int) := by omega
    have b2 : ((st.stk.length : Int) - 1).toNat = st.stk.length - 1 := by omega
    clear hbr HPU HFL htb hpos
    go_upto_region 32 with (fail)
    change Code.wp _ _ _ _ (w2.setCell ⟨b, 3, none⟩ (.bool true))
    have hm3 := HM2.out.set3 true
    have hk3 := HK2.out.set 3 (.bool true)
    generalize w2.setCell ⟨b, 3, none⟩ (.bool true) = w3 at hm3 hk3 ⊢
    have HM3 := hide hm3
    have HK3 := hide hk3
    clear hm3 hk3 HM2 HK2 c1 c2 c3 c4 c5 f2 f3
    have c2 := HM3.out.cells.2.2.1
    have f2 := HM3.out.frozen 2
    go_region
    go_wp2_with fail
    refine bodyPost_end (results_none (by kernel_rfl) _ _ _) rfl ?_
    exact BrP.yes HBR.out ((HK3.out.set 2 _).drewN 1) ((HM3.out.set2 _).drewN 1) (by simp [Jsp.pop, List.dropLast_eq_take]) (by rfl) rfl rfl
   have t101p : ¬ (t.toNat : Int) = 101 := fun e => t101 (u8_inj e)
   have t101n := u8nep t101p
   have HBR := hide (show Jsp.bracket st [125] = none from by rw [hbr, if_neg (fun h => h.elim t98 t101)])
   clear hbr t98 t101
   go_wp2_with fail
   refine HFL.out.mono ?_
   rintro e w9 ⟨rfl, ⟨fr9, hm9⟩, hk9⟩
   go_wp2_with fail
   refine bodyPost_ret (v := .tuple #[]) (by simp [results, Tryz.results131, go_sem]) rfl ?_
   exact BrP.no HBR.out (World.grownBy.trans HK2.out hk9) hm9
  have q125 : (m == [125]) = false := by simpa using m125
  have hrest : Jsp.bracket st m = if m = [43, 43] \/ m = [45, 45] then some { st with goal := false } else some { st with goal := true } := by
   unfold Jsp.bracket
   rw [if_neg m40, if_neg m91, if_neg m123, if_neg m41, if_neg m93, if_neg m125]
  clear m40 m91 m123 m41 m93 m125 HPU HFL htb HSL HSTK
  by_cases mpp : m = [43, 43]
  ·have HBR := hide (show Jsp.bracket st m = some { st with goal := false } from by rw [hrest, if_pos (.inl mpp)])
   subst mpp
   clear hrest q40 q91 q123 q41 q93 q125
   go_wp2_with fail
   refine bodyPost_end (results_none (by kernel_rfl) _ _ _) rfl ?_
   exact BrP.yes HBR.out (HK2.out.set 3 _) (HM2.out.set3 _) rfl rfl rfl rfl
  have qpp : (m == [43, 43]) = false := by simpa using mpp
  by_cases mmm : m = [45, 45]
  ·have HBR := hide (show Jsp.bracket st m = some { st with goal := false } from by rw [hrest, if_pos (.inr mmm)])
   subst mmm
   clear hrest q40 q91 q123 q41 q93 q125 qpp mpp
   go_wp2_with fail
   refine bodyPost_end (results_none (by kernel_rfl) _ _ _) rfl ?_
   exact BrP.yes HBR.out (HK2.out.set 3 _) (HM2.out.set3 _) rfl rfl rfl rfl
  have qmm : (m == [45, 45]) = false := by simpa using mmm
  have HBR := hide (show Jsp.bracket st m = some { st with goal := true } from by rw [hrest, if_neg (fun h => h.elim mpp mmm)])
  clear hrest mpp mmm
  go_wp2_with fail
  refine bodyPost_end (results_none (by kernel_rfl) _ _ _) rfl ?_
  exact BrP.yes HBR.out HK2.out HM2.out rfl rfl rfl rfl
end Go.Proofs.YtngccmlcopcghaaGreatDoor
