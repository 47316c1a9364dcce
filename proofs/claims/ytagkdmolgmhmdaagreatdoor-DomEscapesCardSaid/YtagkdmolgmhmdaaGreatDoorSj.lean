/- Whether a node has just the fields that its kind names. -/
import Derived.Test.YtagkdmolgmhmdaaGreatDoorSh
import Derived.Test.YtagkdmolgmhmdaaGreatDoorSi
namespace Go.Proofs.YtagkdmolgmhmdaaGreatDoor
open Go.RowKit Go.WideMaps

def plainOk (d : Dm.D) (n : Nat) : Bool :=
  if d.kd = 1 then d.sp ++ d.nm ++ d.tx ++ d.pb ++ d.sy == [] && d.ats.length == 0
  else if d.kd = 2 then d.sp ++ d.tx == [] && d.ats.length + n == 0
  else if d.kd = 3 then d.nm != [] && Dm.spaces.contains d.sp && Dm.attrsOk [] d.ats && (d.tx ++ d.pb ++ d.sy == [])
  else if d.kd = 4 then d.tx != [] && d.sp ++ d.nm ++ d.pb ++ d.sy == [] && d.ats.length + n == 0
  else if d.kd = 5 then d.sp ++ d.nm ++ d.pb ++ d.sy == [] && d.ats.length + n == 0
  else false
set_option maxRecDepth 100000 in
set_option maxHeartbeats 16000000 in
theorem plain (d : Dm.D) (ks : List Dm.T) (av kv : Value) (w : World) (htab : Tab w) (hs : RdT w (.mk d ks) av kv) (hlim : d.Lim 140737488355328) (hl : ks.length ≤ 140737488355328) (hal : d.ats.length ≤ 1048576) :
    Calls Tryz.prog 35 #[NV d av kv] w (Fresh (.bool (plainOk d ks.length)) w) := by
  obtain ⟨ha, hk⟩ := RdT.mk_iff.1 hs
  obtain ⟨ka, kc, rfl⟩ := hk.length
  obtain ⟨aa, ac, rfl⟩ := ha.length
  clear hs hk
  obtain ⟨R, hR⟩ : ∃ R, plainOk d ks.length = R := ⟨_, rfl⟩
  rw [hR]
  have HR := hide hR
  clear hR
  obtain ⟨z1, z2, z3, z4, z5, z6, z7⟩ := hlim
  obtain ⟨n, hn⟩ : ∃ n, ks.length = n := ⟨_, rfl⟩
  rw [hn] at hl HR ⊢
  have hattrs := hide (p := ∀ a ∈ d.ats, a.Lim 9223372036854775807) (fun a h => by have := z7 a h; exact ⟨by have := this.1; omega, by have := this.2.1; omega, by have := this.2.2; omega⟩)
  clear hn z7
  have b1 := ((Box.new w d (.slice aa d.ats.length ac) (.slice ka n kc))).alloc (.cells #[.int .u8 d.kd, S d.sp, S d.nm, .slice aa d.ats.length ac, S d.tx, S d.pb, S d.sy, .slice ka n kc] 26)
  have b2 := Box.new (w.alloc (.cells #[.int .u8 d.kd, S d.sp, S d.nm, .slice aa d.ats.length ac, S d.tx, S d.pb, S d.sy, .slice ka n kc] 26)) d (.slice aa d.ats.length ac) (.slice ka n kc)
  have hw1 := (((Below.refl w.heap.size w).alloc (Nat.le_refl _) (.cells #[.int .u8 d.kd, S d.sp, S d.nm, .slice aa d.ats.length ac, S d.tx, S d.pb, S d.sy, .slice ka n kc] 26))).alloc (by simp) (.cells #[.int .u8 d.kd, S d.sp, S d.nm, .slice aa d.ats.length ac, S d.tx, S d.pb, S d.sy, .slice ka n kc] 26)
  rw [show (w.alloc (.cells #[.int .u8 d.kd, S d.sp, S d.nm, .slice aa d.ats.length ac, S d.tx, S d.pb, S d.sy, .slice ka n kc] 26)).heap.size = w.heap.size + 1 by simp] at b2
  go_enter Tryz.func35, Tryz.ntmps35
  go_upto_region 2 with (fail)
  generalize hgen : (w.alloc (.cells #[.int .u8 d.kd, S d.sp, S d.nm, .slice aa d.ats.length ac, S d.tx, S d.pb, S d.sy, .slice ka n kc] 26)).alloc (.cells #[.int .u8 d.kd, S d.sp, S d.nm, .slice aa d.ats.length ac, S d.tx, S d.pb, S d.sy, .slice ka n kc] 26) = w1 at b1 b2 hw1 ⊢
  clear hgen
  obtain ⟨kd, sp, nm, ats, tx, pb, sy⟩ := d
  obtain ⟨d0, d1, d2, d3, d4, d5, d6, d7⟩ := b1.cells
  obtain ⟨e0, e1, e2, e3, e4, e5, e6, e7⟩ := b2.cells
  have hz : ∀ o, w1.frozen? ⟨w.heap.size + 1, o, none⟩ = false := fun o => b2.frozen o
  have HA := hide ha
  have HW := hide hw1
  have HB1 := hide b1
  have HB2 := hide b2
  clear ha hw1 b1 b2
  simp only at d0 d1 d2 d3 d4 d5 d6 d7 e0 e1 e2 e3 e4 e5 e6 e7 z1 z2 z3 z4 z5 z6 hattrs HA hal
  by_cases k1 : kd = 1
  · subst k1
    by_cases hc : sp ++ nm ++ tx ++ pb ++ sy = []
    · simp only [List.append_eq_nil_iff] at hc
      obtain ⟨⟨⟨⟨rfl, rfl⟩, rfl⟩, rfl⟩, rfl⟩ := hc
      by_cases hn : ats.length = 0
      · have HE : Hid (R = true) := by unfold Hid; rw [← HR.out]; simp [plainOk, hn]
        go_wp2_with fail
        go_ret
        exact ⟨by rw [HE.out]; rfl, by have := HW.out; (repeat (first | (with_reducible exact Below.refl _ _) | (with_reducible assumption) | (with_reducible refine Below.drew ?_) | ((with_reducible refine Below.setCell ?_ ?_ _); rotate_left; (focus (first | omega | (simp; done) | (simp; omega)))) | ((with_reducible refine Below.alloc ?_ ?_ _); rotate_left; (focus (first | omega | (simp; done) | (simp; omega))))))⟩
      · have HE : Hid (R = false) := by unfold Hid; rw [← HR.out]; simp [plainOk, hn]
        have hnb : ((ats.length : Int) == 0) = false := by simpa using hn
        go_wp2_with fail
        go_ret
        exact ⟨by rw [HE.out]; rfl, by have := HW.out; (repeat (first | (with_reducible exact Below.refl _ _) | (with_reducible assumption) | (with_reducible refine Below.drew ?_) | ((with_reducible refine Below.setCell ?_ ?_ _); rotate_left; (focus (first | omega | (simp; done) | (simp; omega)))) | ((with_reducible refine Below.alloc ?_ ?_ _); rotate_left; (focus (first | omega | (simp; done) | (simp; omega))))))⟩
    · have HE : Hid (R = false) := by unfold Hid; rw [← HR.out]; simp only [plainOk, if_true]; rw [Bool.and_eq_false_iff]; exact .inl (by simpa using hc)
      have g1 : ¬ 9223372036854775807 < sp.length + nm.length := by omega
      have g2 : ¬ 9223372036854775807 < sp.length + nm.length + tx.length := by omega
      have g3 : ¬ 9223372036854775807 < sp.length + nm.length + tx.length + pb.length := by omega
      have g4 : ¬ 9223372036854775807 < sp.length + nm.length + tx.length + pb.length + sy.length := by omega
      have hcb : (sp ++ nm ++ tx ++ pb ++ sy == []) = false := by simpa using hc
      have hcb2 : (sp ++ (nm ++ (tx ++ (pb ++ sy))) == []) = false := by simpa [List.append_assoc] using hc
      have HC := hide hc
      clear hc
      go_wp2_with fail
      go_ret
      exact ⟨by rw [HE.out]; rfl, by have := HW.out; (repeat (first | (with_reducible exact Below.refl _ _) | (with_reducible assumption) | (with_reducible refine Below.drew ?_) | ((with_reducible refine Below.setCell ?_ ?_ _); rotate_left; (focus (first | omega | (simp; done) | (simp; omega)))) | ((with_reducible refine Below.alloc ?_ ?_ _); rotate_left; (focus (first | omega | (simp; done) | (simp; omega))))))⟩
  by_cases k2 : kd = 2
  · subst k2
    by_cases hc : sp ++ tx = []
    · simp only [List.append_eq_nil_iff] at hc
      obtain ⟨rfl, rfl⟩ := hc
      by_cases hn : ats.length = 0
      · by_cases hm : n = 0
        · have HE : Hid (R = true) := by unfold Hid; rw [← HR.out]; simp [plainOk, hn, hm]
          subst hm
          go_wp2_with fail
          go_ret
          exact ⟨by rw [HE.out]; rfl, by have := HW.out; (repeat (first | (with_reducible exact Below.refl _ _) | (with_reducible assumption) | (with_reducible refine Below.drew ?_) | ((with_reducible refine Below.setCell ?_ ?_ _); rotate_left; (focus (first | omega | (simp; done) | (simp; omega)))) | ((with_reducible refine Below.alloc ?_ ?_ _); rotate_left; (focus (first | omega | (simp; done) | (simp; omega))))))⟩
        · have HE : Hid (R = false) := by unfold Hid; rw [← HR.out]; simp [plainOk, hn, hm]
          have hnb : ((ats.length : Int) + (n : Int) == 0) = false := by rw [beq_eq_false_iff_ne]; omega
          have hmb : ((n : Int) == 0) = false := by rw [beq_eq_false_iff_ne]; omega
          go_wp2_with fail
          go_ret
          exact ⟨by rw [HE.out]; rfl, by have := HW.out; (repeat (first | (with_reducible exact Below.refl _ _) | (with_reducible assumption) | (with_reducible refine Below.drew ?_) | ((with_reducible refine Below.setCell ?_ ?_ _); rotate_left; (focus (first | omega | (simp; done) | (simp; omega)))) | ((with_reducible refine Below.alloc ?_ ?_ _); rotate_left; (focus (first | omega | (simp; done) | (simp; omega))))))⟩
      · have HE : Hid (R = false) := by unfold Hid; rw [← HR.out]; simp [plainOk, hn]
        have hnb : ((ats.length : Int) + (n : Int) == 0) = false := by rw [beq_eq_false_iff_ne]; omega
        have hnc : ¬ ((ats.length : Int) + (n : Int) = 0) := by omega
        go_wp2_with fail
        go_ret
        exact ⟨by rw [HE.out]; rfl, by have := HW.out; (repeat (first | (with_reducible exact Below.refl _ _) | (with_reducible assumption) | (with_reducible refine Below.drew ?_) | ((with_reducible refine Below.setCell ?_ ?_ _); rotate_left; (focus (first | omega | (simp; done) | (simp; omega)))) | ((with_reducible refine Below.alloc ?_ ?_ _); rotate_left; (focus (first | omega | (simp; done) | (simp; omega))))))⟩
    · have HE : Hid (R = false) := by
        unfold Hid; rw [← HR.out]
        rw [Bool.eq_false_iff]
        intro h
        simp [plainOk] at h
        apply hc
        simp [h]
      have g0 : ¬ 9223372036854775807 < sp.length + tx.length := by omega
      have hcb : (sp ++ tx == []) = false := by simpa using hc
      have hcb2 : (sp ++ (tx) == []) = false := by simpa [List.append_assoc] using hc
      clear hc
      go_wp2_with fail
      go_ret
      exact ⟨by rw [HE.out]; rfl, by have := HW.out; (repeat (first | (with_reducible exact Below.refl _ _) | (with_reducible assumption) | (with_reducible refine Below.drew ?_) | ((with_reducible refine Below.setCell ?_ ?_ _); rotate_left; (focus (first | omega | (simp; done) | (simp; omega)))) | ((with_reducible refine Below.alloc ?_ ?_ _); rotate_left; (focus (first | omega | (simp; done) | (simp; omega))))))⟩
  by_cases k4 : kd = 4
  · subst k4
    by_cases ht : tx = []
    · have HE : Hid (R = false) := by unfold Hid; rw [← HR.out, ht]; simp [plainOk]
      subst ht
      go_wp2_with fail
      go_ret
      exact ⟨by rw [HE.out]; rfl, by have := HW.out; (repeat (first | (with_reducible exact Below.refl _ _) | (with_reducible assumption) | (with_reducible refine Below.drew ?_) | ((with_reducible refine Below.setCell ?_ ?_ _); rotate_left; (focus (first | omega | (simp; done) | (simp; omega)))) | ((with_reducible refine Below.alloc ?_ ?_ _); rotate_left; (focus (first | omega | (simp; done) | (simp; omega))))))⟩
    have htb : (tx == []) = false := by simpa using ht
    by_cases hc : sp ++ nm ++ pb ++ sy = []
    · simp only [List.append_eq_nil_iff] at hc
      obtain ⟨⟨⟨rfl, rfl⟩, rfl⟩, rfl⟩ := hc
      by_cases hn : ats.length = 0
      · by_cases hm : n = 0
        · have HE : Hid (R = true) := by unfold Hid; rw [← HR.out]; simp [plainOk, hn, hm, ht]
          subst hm
          go_wp2_with fail
          go_ret
          exact ⟨by rw [HE.out]; rfl, by have := HW.out; (repeat (first | (with_reducible exact Below.refl _ _) | (with_reducible assumption) | (with_reducible refine Below.drew ?_) | ((with_reducible refine Below.setCell ?_ ?_ _); rotate_left; (focus (first | omega | (simp; done) | (simp; omega)))) | ((with_reducible refine Below.alloc ?_ ?_ _); rotate_left; (focus (first | omega | (simp; done) | (simp; omega))))))⟩
        · have HE : Hid (R = false) := by unfold Hid; rw [← HR.out]; simp [plainOk, hn, hm]
          have hnb : ((ats.length : Int) + (n : Int) == 0) = false := by rw [beq_eq_false_iff_ne]; omega
          have hmb : ((n : Int) == 0) = false := by rw [beq_eq_false_iff_ne]; omega
          go_wp2_with fail
          go_ret
          exact ⟨by rw [HE.out]; rfl, by have := HW.out; (repeat (first | (with_reducible exact Below.refl _ _) | (with_reducible assumption) | (with_reducible refine Below.drew ?_) | ((with_reducible refine Below.setCell ?_ ?_ _); rotate_left; (focus (first | omega | (simp; done) | (simp; omega)))) | ((with_reducible refine Below.alloc ?_ ?_ _); rotate_left; (focus (first | omega | (simp; done) | (simp; omega))))))⟩
      · have HE : Hid (R = false) := by unfold Hid; rw [← HR.out]; simp [plainOk, hn]
        have hnb : ((ats.length : Int) + (n : Int) == 0) = false := by rw [beq_eq_false_iff_ne]; omega
        have hnc : ¬ ((ats.length : Int) + (n : Int) = 0) := by omega
        go_wp2_with fail
        go_ret
        exact ⟨by rw [HE.out]; rfl, by have := HW.out; (repeat (first | (with_reducible exact Below.refl _ _) | (with_reducible assumption) | (with_reducible refine Below.drew ?_) | ((with_reducible refine Below.setCell ?_ ?_ _); rotate_left; (focus (first | omega | (simp; done) | (simp; omega)))) | ((with_reducible refine Below.alloc ?_ ?_ _); rotate_left; (focus (first | omega | (simp; done) | (simp; omega))))))⟩
    · have HE : Hid (R = false) := by
        unfold Hid; rw [← HR.out]
        rw [Bool.eq_false_iff]
        intro h
        simp [plainOk] at h
        apply hc
        simp [h]
      have g0 : ¬ 9223372036854775807 < sp.length + nm.length := by omega
      have g1 : ¬ 9223372036854775807 < sp.length + nm.length + pb.length := by omega
      have g2 : ¬ 9223372036854775807 < sp.length + nm.length + pb.length + sy.length := by omega
      have hcb : (sp ++ nm ++ pb ++ sy == []) = false := by simpa using hc
      have hcb2 : (sp ++ (nm ++ (pb ++ (sy))) == []) = false := by simpa [List.append_assoc] using hc
      clear hc
      go_wp2_with fail
      go_ret
      exact ⟨by rw [HE.out]; rfl, by have := HW.out; (repeat (first | (with_reducible exact Below.refl _ _) | (with_reducible assumption) | (with_reducible refine Below.drew ?_) | ((with_reducible refine Below.setCell ?_ ?_ _); rotate_left; (focus (first | omega | (simp; done) | (simp; omega)))) | ((with_reducible refine Below.alloc ?_ ?_ _); rotate_left; (focus (first | omega | (simp; done) | (simp; omega))))))⟩
  by_cases k5 : kd = 5
  · subst k5
    by_cases hc : sp ++ nm ++ pb ++ sy = []
    · simp only [List.append_eq_nil_iff] at hc
      obtain ⟨⟨⟨rfl, rfl⟩, rfl⟩, rfl⟩ := hc
      by_cases hn : ats.length = 0
      · by_cases hm : n = 0
        · have HE : Hid (R = true) := by unfold Hid; rw [← HR.out]; simp [plainOk, hn, hm]
          subst hm
          go_wp2_with fail
          go_ret
          exact ⟨by rw [HE.out]; rfl, by have := HW.out; (repeat (first | (with_reducible exact Below.refl _ _) | (with_reducible assumption) | (with_reducible refine Below.drew ?_) | ((with_reducible refine Below.setCell ?_ ?_ _); rotate_left; (focus (first | omega | (simp; done) | (simp; omega)))) | ((with_reducible refine Below.alloc ?_ ?_ _); rotate_left; (focus (first | omega | (simp; done) | (simp; omega))))))⟩
        · have HE : Hid (R = false) := by unfold Hid; rw [← HR.out]; simp [plainOk, hn, hm]
          have hnb : ((ats.length : Int) + (n : Int) == 0) = false := by rw [beq_eq_false_iff_ne]; omega
          have hmb : ((n : Int) == 0) = false := by rw [beq_eq_false_iff_ne]; omega
          go_wp2_with fail
          go_ret
          exact ⟨by rw [HE.out]; rfl, by have := HW.out; (repeat (first | (with_reducible exact Below.refl _ _) | (with_reducible assumption) | (with_reducible refine Below.drew ?_) | ((with_reducible refine Below.setCell ?_ ?_ _); rotate_left; (focus (first | omega | (simp; done) | (simp; omega)))) | ((with_reducible refine Below.alloc ?_ ?_ _); rotate_left; (focus (first | omega | (simp; done) | (simp; omega))))))⟩
      · have HE : Hid (R = false) := by unfold Hid; rw [← HR.out]; simp [plainOk, hn]
        have hnb : ((ats.length : Int) + (n : Int) == 0) = false := by rw [beq_eq_false_iff_ne]; omega
        have hnc : ¬ ((ats.length : Int) + (n : Int) = 0) := by omega
        go_wp2_with fail
        go_ret
        exact ⟨by rw [HE.out]; rfl, by have := HW.out; (repeat (first | (with_reducible exact Below.refl _ _) | (with_reducible assumption) | (with_reducible refine Below.drew ?_) | ((with_reducible refine Below.setCell ?_ ?_ _); rotate_left; (focus (first | omega | (simp; done) | (simp; omega)))) | ((with_reducible refine Below.alloc ?_ ?_ _); rotate_left; (focus (first | omega | (simp; done) | (simp; omega))))))⟩
    · have HE : Hid (R = false) := by
        unfold Hid; rw [← HR.out]
        rw [Bool.eq_false_iff]
        intro h
        simp [plainOk] at h
        apply hc
        simp [h]
      have g0 : ¬ 9223372036854775807 < sp.length + nm.length := by omega
      have g1 : ¬ 9223372036854775807 < sp.length + nm.length + pb.length := by omega
      have g2 : ¬ 9223372036854775807 < sp.length + nm.length + pb.length + sy.length := by omega
      have hcb : (sp ++ nm ++ pb ++ sy == []) = false := by simpa using hc
      have hcb2 : (sp ++ (nm ++ (pb ++ (sy))) == []) = false := by simpa [List.append_assoc] using hc
      clear hc
      go_wp2_with fail
      go_ret
      exact ⟨by rw [HE.out]; rfl, by have := HW.out; (repeat (first | (with_reducible exact Below.refl _ _) | (with_reducible assumption) | (with_reducible refine Below.drew ?_) | ((with_reducible refine Below.setCell ?_ ?_ _); rotate_left; (focus (first | omega | (simp; done) | (simp; omega)))) | ((with_reducible refine Below.alloc ?_ ?_ _); rotate_left; (focus (first | omega | (simp; done) | (simp; omega))))))⟩
  by_cases k3 : kd = 3
  · subst k3
    by_cases hnm : nm = []
    · have HE : Hid (R = false) := by unfold Hid; rw [← HR.out, hnm]; simp [plainOk]
      subst hnm
      go_wp2_with fail
      go_quiet (fail)
      go_wp2_with fail
      go_ret
      exact ⟨by rw [HE.out]; rfl, below_drewN (HW.out.setCell (by simp) _) _⟩
    have hn1 : (nm == []) = false := by simpa using hnm
    go_upto_region 10 with (fail)
    generalize hgen : w1.setCell ⟨w.heap.size + 1, 0, none⟩ (.int .u8 0) = w2
    have HW2 : Hid (Below w.heap.size w w2) := by rw [← hgen]; exact HW.out.setCell (by simp) _
    have c1 : Box w2 w.heap.size ⟨3, sp, nm, ats, tx, pb, sy⟩ (.slice aa ats.length ac) (.slice ka n kc) := by rw [← hgen]; exact HB1.out.far (by simp) _
    have c2 : Box w2 (w.heap.size + 1) ⟨0, sp, nm, ats, tx, pb, sy⟩ (.slice aa ats.length ac) (.slice ka n kc) := by
      rw [← hgen]
      have := HB2.out
      unfold Box at this ⊢
      simp [World.setCell, Array.getElem?_modify, this]
    clear hgen hz d0 d1 d2 d3 d4 d5 d6 d7 e0 e1 e2 e3 e4 e5 e6 e7
    obtain ⟨d0, d1, d2, d3, d4, d5, d6, d7⟩ := c1.cells
    obtain ⟨e0, e1, e2, e3, e4, e5, e6, e7⟩ := c2.cells
    simp only at d0 d1 d2 d3 d4 d5 d6 d7 e0 e1 e2 e3 e4 e5 e6 e7
    have ht2 := hide (htab.below HW2.out)
    have HC1 := hide c1
    have HC2 := hide c2
    clear c1 c2 htab
    obtain ⟨q, hq⟩ : ∃ q, Dm.spaces.contains sp = q := ⟨_, rfl⟩
    have HIN := hide hq
    clear hq
    cases q with
    | false =>
      have HE : Hid (R = false) := by unfold Hid; rw [← HR.out]; simp only [plainOk]; rw [HIN.out]; simp
      first | go_region_with (first | (go_at_call 39; refine Calls.mono (set_space _ (ht2.out.below (Below.refl _ _).drew)) ?_; rintro e w3 ⟨rfl, hown3, hb3'⟩; have hb3 : Below w2.heap.size w2 w3 := ((Below.refl _ w2).drew).trans hb3'; have h47 : (Instr.lookup 47 (.map (some w2.heap.size)) (S sp) false).run Tryz.prog w3 = _ := set_look hown3 (by omega); rw [HIN.out] at h47; simp only [Bool.false_eq_true, if_false] at h47; have x1 := (HC1.out.below hb3 HC1.out.lt).cells.2.1)) | fail
      all_goals
        go_simp
        go_wp2_with fail
        go_ret
        exact ⟨by rw [HE.out]; rfl, HW2.out.trans (hb3.mono HW2.out.size)⟩
    | true =>
      obtain ⟨r, hr⟩ : ∃ r, Dm.attrsOk [] ats = r := ⟨_, rfl⟩
      have HAT := hide hr
      clear hr
      have HCA : Hid (∀ W, Below w2.heap.size w2 W → Calls Tryz.prog 54 #[.slice aa ats.length ac] W (Fresh (.bool r) W)) := fun W hW => by
        rw [← HAT.out]
        exact attrs _ ats W (ht2.out.below hW) (HA.out.below (HW2.out.trans (hW.mono HW2.out.size))) hal hattrs.out
      cases r with
      | false =>
        have HE : Hid (R = false) := by unfold Hid; rw [← HR.out]; simp only [plainOk]; rw [HAT.out]; simp
        first | go_region_with (first | (go_at_call 39; refine Calls.mono (set_space _ (ht2.out.below (Below.refl _ _).drew)) ?_; rintro e w3 ⟨rfl, hown3, hb3'⟩; have hb3 : Below w2.heap.size w2 w3 := ((Below.refl _ w2).drew).trans hb3'; have h47 : (Instr.lookup 47 (.map (some w2.heap.size)) (S sp) false).run Tryz.prog w3 = _ := set_look hown3 (by omega); rw [HIN.out] at h47; simp only [if_true] at h47; have x1 := (HC1.out.below hb3 HC1.out.lt).cells.2.1; have x3 := (HC1.out.below hb3 HC1.out.lt).cells.2.2.2.1) | (go_at_call 54; refine Calls.mono (HCA.out _ (by assumption)) ?_; rintro e w4 ⟨rfl, hb4'⟩; have hb4 : Below w2.heap.size w2 w4 := hb3.trans (hb4'.mono hb3.size))) | fail
        all_goals
          go_simp
          go_wp2_with fail
          go_ret
          exact ⟨by rw [HE.out]; rfl, HW2.out.trans (hb4.mono HW2.out.size)⟩
      | true =>
        have HREST : Hid (R = (tx ++ pb ++ sy == [])) := by
          unfold Hid; rw [← HR.out]; simp only [plainOk]; rw [HIN.out, HAT.out, bne, hn1]; rfl
        first | go_region_with (first | (go_at_call 39; refine Calls.mono (set_space _ (ht2.out.below (Below.refl _ _).drew)) ?_; rintro e w3 ⟨rfl, hown3, hb3'⟩; have hb3 : Below w2.heap.size w2 w3 := ((Below.refl _ w2).drew).trans hb3'; have h47 : (Instr.lookup 47 (.map (some w2.heap.size)) (S sp) false).run Tryz.prog w3 = _ := set_look hown3 (by omega); rw [HIN.out] at h47; simp only [if_true] at h47; have x1 := (HC1.out.below hb3 HC1.out.lt).cells.2.1; have x3 := (HC1.out.below hb3 HC1.out.lt).cells.2.2.2.1) | (go_at_call 54; refine Calls.mono (HCA.out _ (by assumption)) ?_; rintro e w4 ⟨rfl, hb4'⟩; have hb4 : Below w2.heap.size w2 w4 := hb3.trans (hb4'.mono hb3.size))) | fail
        all_goals
          go_simp
          have hbW : Below w.heap.size w w4 := HW2.out.trans (hb4.mono HW2.out.size)
          obtain ⟨p0, p1, p2, p3, p4, p5, p6, p7⟩ := (HC2.out.below hb4 HC2.out.lt).cells
          have hz : ∀ o, w4.frozen? ⟨w.heap.size + 1, o, none⟩ = false := fun o => (HC2.out.below hb4 HC2.out.lt).frozen o
          have g1 : ¬ 9223372036854775807 < tx.length + pb.length := by omega
          have g2 : ¬ 9223372036854775807 < tx.length + pb.length + sy.length := by omega
          clear h47 x1 x3 hown3 hb3' hb4' hb3
          by_cases hc : tx ++ pb ++ sy = []
          · simp only [List.append_eq_nil_iff] at hc
            obtain ⟨⟨rfl, rfl⟩, rfl⟩ := hc
            go_wp2_with fail
            go_ret
            exact ⟨by rw [HREST.out]; rfl, by (repeat (first | (with_reducible exact Below.refl _ _) | (with_reducible assumption) | (with_reducible refine Below.drew ?_) | ((with_reducible refine Below.setCell ?_ ?_ _); rotate_left; (focus (first | omega | (simp; done) | (simp; omega)))) | ((with_reducible refine Below.alloc ?_ ?_ _); rotate_left; (focus (first | omega | (simp; done) | (simp; omega))))))⟩
          · have hcb : (tx ++ pb ++ sy == []) = false := by simpa using hc
            have hcb2 : (tx ++ (pb ++ sy) == []) = false := by simpa [List.append_assoc] using hc
            have HE : Hid (R = false) := HREST.out.trans hcb
            clear hc
            go_wp2_with fail
            go_ret
            exact ⟨by rw [HE.out]; rfl, by (repeat (first | (with_reducible exact Below.refl _ _) | (with_reducible assumption) | (with_reducible refine Below.drew ?_) | ((with_reducible refine Below.setCell ?_ ?_ _); rotate_left; (focus (first | omega | (simp; done) | (simp; omega)))) | ((with_reducible refine Below.alloc ?_ ?_ _); rotate_left; (focus (first | omega | (simp; done) | (simp; omega))))))⟩
  have k1b : (kd == 1) = false := by simpa using k1
  have k2b : (kd == 2) = false := by simpa using k2
  have k3b : (kd == 3) = false := by simpa using k3
  have k4b : (kd == 4) = false := by simpa using k4
  have k5b : (kd == 5) = false := by simpa using k5
  have HE : Hid (R = false) := by unfold Hid; rw [← HR.out]; simp [plainOk, k1, k2, k3, k4, k5]
  go_wp2_with fail
  go_ret
  exact ⟨by rw [HE.out]; rfl, by have := HW.out; (repeat (first | (with_reducible exact Below.refl _ _) | (with_reducible assumption) | (with_reducible refine Below.drew ?_) | ((with_reducible refine Below.setCell ?_ ?_ _); rotate_left; (focus (first | omega | (simp; done) | (simp; omega)))) | ((with_reducible refine Below.alloc ?_ ?_ _); rotate_left; (focus (first | omega | (simp; done) | (simp; omega))))))⟩
end Go.Proofs.YtagkdmolgmhmdaaGreatDoor
