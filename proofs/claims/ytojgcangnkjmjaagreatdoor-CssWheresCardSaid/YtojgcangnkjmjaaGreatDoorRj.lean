/- A generic replacer is made: its bytes' places. -/
import Derived.Test.YtojgcangnkjmjaaGreatDoorRt
import Derived.Deep.MidRow
import Derived.Deep.RegionHeld3
import Derived.IntWalk
import Derived.StillTailTactics
namespace Go.Proofs.YtojgcangnkjmjaaGreatDoor
open Go.RowKit

set_option maxHeartbeats 4000000 in
set_option maxRecDepth 100000 in
theorem zeroG : Tryz.zeroCells178 = #[S [], .int .i64 0, S [], .pointer none, .slice none 0 0, .int .i64 0] ++ Array.replicate 256 (.int .u8 0) := by kernel_rfl
theorem map_new (w : World) : MapAt (w.alloc (.cells Tryz.zeroCells178 178)) w.heap.size (headG 0 (.slice none 0 0)) (fun _ => 0) := by
  refine ⟨_, heap_alloc_last _ _, by rw [zeroG]; simp, rfl, fun j hj => ?_, fun c hc => ?_⟩
  · rw [zeroG, Array.getElem?_append_left (by simpa using hj)]
    have : j = 0 ∨ j = 1 ∨ j = 2 ∨ j = 3 ∨ j = 4 ∨ j = 5 := by omega
    rcases this with rfl | rfl | rfl | rfl | rfl | rfl <;> rfl
  · rw [zeroG, Array.getElem?_append_right (by simp)]
    simp [hc]
theorem run_index_bytes (cs : Array Value) (i : Nat) (x : Int) (w : World) (hi : i < 256) (hx : cs[i]? = some (.int .u8 x)) : (Instr.index 66 (.agg cs) (.int .i64 (i : Int))).run Tryz.prog w = .ok (.int .u8 x) w := by
  have hn : 0 ≤ (i : Int) ∧ (i : Int) < 256 := by omega
  have hc : Tryz.prog.cellsOf 5 = 1 := by kernel_rfl
  simp [Instr.index, run_underlying Tryz.underlying66, asIntOf, hn, go_sem]
  rw [if_pos hi, hx]
  rfl
theorem info_node : (Tryz.prog.info? 173).map (fun i => (i.zero, i.size, i.bytes)) = some (some (.pointer none), 1, 8) := by kernel_rfl
theorem made_row {w : World} {B : Nat} {e : TypeId} {g n : Nat} {z : Value} (h : w.ownsRow B e 1 (.slice (some ⟨g, 0, none⟩) n n) n (List.replicate n z)) : ∃ C : Array Value, w.heap[g]? = some (.cells C e (0, 0)) ∧ C.size = n ∧ ∀ j, j < n → C[j]? = some z := by
  obtain ⟨_, h | ⟨g', cap, cur, hv, _, hh, _, _, hs, ht⟩⟩ := h
  · simp at h
  · simp only [Value.slice.injEq, Option.some.injEq, Addr.mk.injEq] at hv
    obtain ⟨⟨rfl, _⟩, _, rfl⟩ := hv
    refine ⟨cur, hh, by omega, fun j hj => ?_⟩
    have := congrArg (fun l => l[j]?) ht
    simp [hj] at this
    simpa using this
theorem PairsAt.below {w w' : World} {b : Nat} {ps : List (List UInt8 × List UInt8)} (h : PairsAt w b ps) (hb : Below w.heap.size w w') : PairsAt w' b ps := fun k x hx => ⟨((hb.cell (World.block_lt_of_cell? w _ (h k x hx).1)).trans (h k x hx).1), ((hb.cell (World.block_lt_of_cell? w _ (h k x hx).2)).trans (h k x hx).2)⟩
def keysOf (ps : List (List UInt8 × List UInt8)) : List UInt8 := ps.flatMap (·.1)
theorem mark_snoc (ks : List UInt8) (c : UInt8) (d : Nat) : Rp.mark (inKeys (ks ++ [c])) d = if d = c.toNat then 1 else Rp.mark (inKeys ks) d := by
  unfold Rp.mark inKeys
  rw [List.any_append]
  by_cases h : d = c.toNat
  · subst h; simp
  · have : (c.toNat == d) = false := beq_eq_false_iff_ne.2 (fun e => h e.symm)
    simp [this, h]

set_option maxHeartbeats 4000000 in
set_option maxRecDepth 100000 in
theorem mkGen (ps : List (List UInt8 × List UInt8)) (b cap : Nat) (w : World) (hps : Hid (PairsAt w b ps)) (hn : ps.length ≤ 100) (hks : Hid (∀ x ∈ ps, x.1.length ≤ 2)) (hkeys : Hid (∀ (k : Nat) x, ps[k]? = some x → ∃ c rest, x.1 = c :: rest ∧ rest.length ≤ 1 ∧ KeyOk (lookTo ps k) c rest)) (p : Nat → Bool) (hp : Hid (inKeys (keysOf ps) = p)) (kk : Nat) (hkk : Hid (Rp.cnt p 256 = kk)) (hk255 : kk ≤ 255) :
    Calls Tryz.prog 120 #[.slice (some ⟨b, 0, none⟩) (2 * ps.length) cap] w fun e w' => (∃ R, e = .returned (.pointer (some ⟨R, 0, none⟩)) ∧ Gen w' R (lookTo ps ps.length)) ∧ Below w.heap.size w w' := by
  obtain ⟨n, hnn⟩ : ∃ n, ps.length = n := ⟨_, rfl⟩
  rw [hnn] at hn ⊢
  have HN := hide hnn
  have hm0 := map_new w
  have hb0 : Below w.heap.size w (w.alloc (.cells Tryz.zeroCells178 178)) := (Below.refl _ _).alloc (Nat.le_refl _) _
  clear hnn
  go_enter Tryz.func120, Tryz.ntmps120
  go_upto_region 2 with (fail)
  obtain ⟨w1, hw1⟩ : ∃ x, x = w.alloc (.cells Tryz.zeroCells178 178) := ⟨_, rfl⟩
  obtain ⟨R, hR⟩ : ∃ x, w.heap.size = x := ⟨_, rfl⟩
  rw [← hw1] at hm0 hb0 ⊢
  rw [hR] at hm0 hb0 ⊢
  have HR := hide hR
  clear hw1 hR
  go_wp2_with fail
  go_loopg [4] n (fun g s4 wx => ∃ k : Nat, k + g = n ∧ s4 = .int .i64 (2 * (k : Int)) ∧ Hid (MapAt wx R (headG 0 (.slice none 0 0)) (Rp.mark (inKeys (keysOf (ps.take k))))) ∧ Below R w wx)
  case atStart => exact ⟨0, by omega, rfl, hm0, hb0⟩
  case round =>
    obtain ⟨k, hk, rfl, hM, hB⟩ := hrel
    clear hm0 hb0
    by_cases hlt : k < n
    · obtain ⟨x, hx⟩ : ∃ x, ps[k]? = some x := ⟨ps[k]'(by rw [HN.out]; exact hlt), List.getElem?_eq_getElem _⟩
      obtain ⟨c0, c1⟩ := (hps.out.below (by rw [HR.out]; exact hB)) k x hx
      have t0 : (2 * (k : Int)).toNat = 2 * k := by omega
      have t1 : 2 * (k : Int) < 2 * (n : Int) := by omega
      have hx2 := hks.out x (List.mem_of_getElem? hx)
      obtain ⟨key, val⟩ := x
      dsimp only at c0 c1 hx2
      have htk : keysOf (ps.take (k + 1)) = keysOf (ps.take k) ++ key := by
        obtain ⟨hl, e⟩ := List.getElem?_eq_some_iff.1 hx
        unfold keysOf
        rw [List.take_succ_eq_append_getElem hl, List.flatMap_append, e]
        simp
      have HTK := hide htk
      obtain ⟨ks, hks2⟩ : ∃ ks, keysOf (ps.take k) = ks := ⟨_, rfl⟩
      rw [hks2] at hM htk
      have HKS := hide htk
      clear hx htk hks2 HTK
      go_wp2_with fail
      go_loopg [6] key.length (fun g s6 wx => ∃ j : Nat, j + g = key.length ∧ s6 = .int .i64 j ∧ Hid (MapAt wx R (headG 0 (.slice none 0 0)) (Rp.mark (inKeys (ks ++ key.take j)))) ∧ Below R w wx)
      case atStart => exact ⟨0, by omega, rfl, by unfold Hid; rw [List.take_zero, List.append_nil]; exact hM.out, hB⟩
      case round =>
        obtain ⟨j, hj, rfl, hM, hB⟩ := hrel
        by_cases hlj : j < key.length
        · obtain ⟨c, hc⟩ : ∃ c, key[j] = c := ⟨_, rfl⟩
          have hcb := u8_lt c
          have hcb0 : (0 : Int) ≤ (c.toNat : Int) := by omega
          have bj0 : (0 : Int) ≤ (j : Int) := by omega
          have bj1 : (j : Int) < (key.length : Int) := by omega
          have hcell := hM.out.byte c.toNat c.toNat_lt
          have hfr := hM.out.free (6 + c.toNat)
          have hM2 := hM.out.setByte c.toNat c.toNat_lt 1
          have hM3 : MapAt (wr.setCell ⟨R, 6 + c.toNat, none⟩ (.int .u8 1)) R (headG 0 (.slice none 0 0)) (Rp.mark (inKeys (ks ++ key.take (j + 1)))) := hM2.ext fun d _ => by
            rw [List.take_succ_eq_append_getElem hlj, hc, ← List.append_assoc, mark_snoc]
          have HM3 := hide hM3
          clear hM2 hM3
          go_wp2_with fail
          go_region_held3 (fun _ => True) (trivial) (fail)
          all_goals
            go_wp2_with fail
            go_roundg (gk - 1)
            (case measure => omega)
            (case rel => exact ⟨j + 1, by omega, by go_num, HM3, hB.drew.setCell (Nat.le_refl _) _⟩)
        · have e : j = key.length := by omega
          subst e
          rw [List.take_length] at hM
          go_wp2_with fail
          go_roundg (n - (k + 1))
          case measure => omega
          case rel => exact ⟨k + 1, by omega, by go_num, by unfold Hid; rw [HKS.out]; exact hM.out, hB⟩
    · have e : k = n := by omega
      subst e
      have hM2 := hM.out
      rw [List.take_of_length_le (by rw [HN.out]; exact Nat.le_refl _), hp.out] at hM2
      obtain ⟨cs, hcl, hcs⟩ : ∃ cs : List Value, cs.length = 256 ∧ ∀ c, c < 256 → cs[c]? = some (.int .u8 (Rp.mark p c)) := ⟨(List.range 256).map fun c => .int .u8 (Rp.mark p c), by simp, fun c hc => by simp [hc]⟩
      have hrange : ∀ W : World, ∀ h, MapAt W R h (Rp.mark p) → W.rangeAt R 6 cs := fun W h hW j v hj => by
        have hj2 := (List.getElem?_eq_some_iff.1 hj).1
        rw [hcl] at hj2
        rw [hcs j hj2] at hj
        rw [← Option.some.inj hj]
        exact hW.byte j hj2
      have hsz : (Tryz.prog.info? 66).map (·.size) = some cs.length := by rw [hcl]; kernel_rfl
      have HSZ := hide hsz
      clear hsz
      have hr1 := hrange wr _ hM2
      have HM := hide hM2
      have HRANGE := hide hrange
      have HCS := hide hcs
      clear hM hM2 hrange hcs hcl
      go_wp2_with (refine wpList_load_mid rfl 66 _ rfl R 6 rfl cs _ hr1 Tryz.underlying66 (by rfl) HSZ.out ?_)
      clear hr1
      go_loopg [41] 256 (fun g s41 wx => ∃ i : Nat, i + g = 256 ∧ s41 = .int .i64 i ∧ Hid (MapAt wx R (headG (Rp.cnt p i) (.slice none 0 0)) (Rp.mark p)) ∧ Below R w wx)
      case atStart => exact ⟨0, by omega, rfl, HM, hB⟩
      case round =>
        obtain ⟨i, hi, rfl, hM, hBx⟩ := hrel
        clear HM
        by_cases hlt : i < 256
        · have hix := fun W => run_index_bytes cs.toArray i (Rp.mark p i) W hlt (by simpa using HCS.out i hlt)
          obtain ⟨m, hm⟩ : ∃ m, Rp.mark p i = m := ⟨_, rfl⟩
          have hm01 : 0 ≤ m ∧ m ≤ 1 := by rw [← hm]; unfold Rp.mark; split <;> decide
          obtain ⟨hm0, hm1⟩ := hm01
          have hcn : (Rp.cnt p (i + 1) : Int) = (Rp.cnt p i : Int) + m := by
            rw [← hm, Rp.cnt]
            unfold Rp.mark
            split <;> simp
          have hcl := Rp.cnt_le p i
          have h5 := hM.out.head 5 _ rfl
          have f5 := hM.out.free 5
          have hM3 := hM.out.setHead 5 (by decide) (.int .i64 ((Rp.cnt p i : Int) + m))
          rw [← hcn] at hM3
          have HM3 : Hid (MapAt (wr.setCell ⟨R, 5, none⟩ (.int .i64 (Rp.cnt p (i + 1) : Int))) R (headG (Rp.cnt p (i + 1)) (.slice none 0 0)) (Rp.mark p)) := hM3
          rw [hm] at hix
          have HCN := hide hcn
          obtain ⟨q, hq⟩ : ∃ q, Rp.cnt p i = q := ⟨_, rfl⟩
          rw [hq] at h5 hcl
          have HQ := hide hq
          have tj : (i : Int) < 256 := by omega
          clear hM3 hm hcn hq
          go_wp2_with fail
          go_roundg (gk - 1)
          case measure => omega
          case rel => exact ⟨i + 1, by omega, by go_num, by
            have := HM3.out
            rw [HCN.out, HQ.out] at this
            unfold Hid
            rw [HCN.out, HQ.out]
            exact this, hBx.setCell (Nat.le_refl _) _⟩
        · have e : i = 256 := by omega
          subst e
          have hM2 := hM.out
          rw [hkk.out] at hM2
          have hr1 := HRANGE.out wr _ hM2
          have hM0 : Hid (MapAt wr R (headG kk (.slice none 0 0)) (fun c => if c < 0 then Rp.place p kk c else Rp.mark p c)) := hide (hM2.ext fun c _ => by rw [if_neg (by omega)])
          clear hM hM2 hB
          go_wp2_with (refine wpList_load_mid rfl 66 _ rfl R 6 rfl cs _ hr1 Tryz.underlying66 (by rfl) HSZ.out ?_)
          clear hr1
          go_loopg [9, 58] 256 (fun g s9 s58 wx => ∃ i : Nat, i + g = 256 ∧ s58 = .int .i64 i ∧ s9 = .int .u8 (Rp.cnt p i) ∧ Hid (MapAt wx R (headG kk (.slice none 0 0)) (fun c => if c < i then Rp.place p kk c else Rp.mark p c)) ∧ Below R w wx)
          case atStart => exact ⟨0, by omega, rfl, rfl, hM0, hBx⟩
          case round =>
            obtain ⟨i, hi, rfl, rfl, hM, hBy⟩ := hrel
            clear hM0 hBx
            by_cases hlt : i < 256
            · have hix := fun W => run_index_bytes cs.toArray i (Rp.mark p i) W hlt (by simpa using HCS.out i hlt)
              have hcl : Rp.cnt p i ≤ kk := by
                have := Rp.cnt_mono p i (256 - i)
                rw [show i + (256 - i) = 256 by omega, hkk.out] at this
                exact this
              have h5 := hM.out.head 5 _ rfl
              have f5 := hM.out.free 5
              have hby := hM.out.byte i hlt
              have ffr := hM.out.free (6 + i)
              rw [if_neg (by omega)] at hby
              have tj : (i : Int) < 256 := by omega
              have ti0 : (0 : Int) ≤ (i : Int) := by omega
              have hnext : ∀ v : Int, v = Rp.place p kk i → MapAt (wr.setCell ⟨R, 6 + i, none⟩ (.int .u8 v)) R (headG kk (.slice none 0 0)) (fun c => if c < i + 1 then Rp.place p kk c else Rp.mark p c) := fun v hv => (hM.out.setByte i hlt v).ext fun c _ => by
                by_cases h1 : c = i
                · rw [if_pos (by omega), if_pos h1, hv, h1]
                · rw [if_neg h1]
                  by_cases h2 : c < i
                  · rw [if_pos (by omega), if_pos h2]
                  · rw [if_neg (by omega), if_neg h2]
              have HNEXT := hide hnext
              clear hnext
              obtain ⟨q, hq⟩ : ∃ q, Rp.cnt p i = q := ⟨_, rfl⟩
              rw [hq] at hcl ⊢
              cases hpi : p i with
              | false =>
                have hm : Rp.mark p i = 0 := by unfold Rp.mark; rw [hpi]; rfl
                have hpl : (kk : Int) = Rp.place p kk i := by unfold Rp.place; rw [hpi]; rfl
                have hcn : q = Rp.cnt p (i + 1) := by rw [Rp.cnt, hpi, hq]; simp
                rw [hm] at hix hby
                have HM4 := hide (HNEXT.out kk hpl)
                have HCN := hide hcn
                have m1 : IntKind.u8.wrap (kk : Int) = kk := IntWalk.u8_in _ (by omega)
                clear hm hpl hcn hpi hq
                go_wp2_with fail
                go_region_held3 (fun w' => w'.cell? ⟨R, 5, none⟩ = some (.int .i64 kk)) (first | exact h5 | exact HM4.out.head 5 _ rfl) (fail)
                all_goals
                  go_wp2_with fail
                  go_roundg (gk - 1)
                  (case measure => omega)
                  (case rel => exact ⟨i + 1, by omega, by go_num, by rw [← HCN.out], HM4, hBy.drew.setCell (Nat.le_refl _) _⟩)
              | true =>
                have hm : Rp.mark p i = 1 := by unfold Rp.mark; rw [hpi]; rfl
                have hpl : (q : Int) = Rp.place p kk i := by unfold Rp.place; rw [hpi, hq]; rfl
                have hcn : q + 1 = Rp.cnt p (i + 1) := by rw [Rp.cnt, hpi, hq]; simp
                have hq2 : q + 1 ≤ kk := by
                  have := Rp.cnt_mono p (i + 1) (256 - (i + 1))
                  rw [show i + 1 + (256 - (i + 1)) = 256 by omega, hkk.out, ← hcn] at this
                  exact this
                rw [hm] at hix hby
                have HM4 := hide (HNEXT.out q hpl)
                have HCN := hide hcn
                clear hm hpl hcn hpi hq
                go_wp2_with fail
                go_roundg (gk - 1)
                (case measure => omega)
                (case rel => exact ⟨i + 1, by omega, by go_num, by rw [← HCN.out]; go_num, HM4, hBy.setCell (Nat.le_refl _) _⟩)
            · have e : i = 256 := by omega
              subst e
              have hM2 := hM.out.ext (m' := Rp.place p kk) fun c hc => by rw [if_pos hc]
              have h5 := hM2.head 5 _ rfl
              have f4 := hM2.free 4
              clear hM HRANGE HCS HSZ
              obtain ⟨i0, hi0, hz0, hz1, hz2⟩ := info_parts info_node
              go_wp2_with (refine wpList_make_full _ rfl _ _ 174 rfl wr.heap.size 173 i0 (.pointer none) 1 Tryz.underlying174 hi0 hz0 hz1 .i64 .i64 _ _ kk rfl rfl rfl rfl (by rw [hz2]; omega) (by unfold maxLen; omega) (Nat.le_refl _) ?_)
              intro w1 hown hgrow
              have hBw := (Below.refl wr.heap.size wr).grown hgrow (Nat.le_refl _) (fun k hk => by cases hk)
              have hM3 := hM2.below hBw
              have hBz : Below R w w1 := hBy.trans (hBw.mono (by have := hBy.size; rw [HR.out] at this; exact this))
              have hRT : R < wr.heap.size := by obtain ⟨C2, hC2, _⟩ := hM2; exact heap_lt hC2
              obtain ⟨T, hT⟩ : ∃ x, wr.heap.size = x := ⟨_, rfl⟩
              rw [hT] at hown hRT ⊢
              rw [show (madeCells #[Value.pointer none] kk).toList = List.replicate kk (Value.pointer none) by
                refine List.ext_getElem (by simp [size_madeCells]) fun n h1 h2 => ?_
                have hm : n % 1 = 0 := Nat.mod_one n
                simp [madeCells, hm]] at hown
              obtain ⟨C, hC, hCs, hCz⟩ := made_row hown
              have f4' := hM3.free 4
              have c4' := hM3.head 4 _ rfl
              have hM4 := hM3.setHead 4 (by decide) (.slice (some ⟨T, 0, none⟩) kk kk)
              have hTr : Tr (w1.setCell ⟨R, 4, none⟩ (.slice (some ⟨T, 0, none⟩) kk kk)) R T kk p (lookTo ps 0) := by
                refine ⟨hM4, C, ?_, fun c hc => ?_⟩
                · have : ¬ R = T := by omega
                  simp [World.setCell, Array.getElem?_modify, this, hC]
                · exact hCz _ (by rw [← hkk.out]; exact Rp.cnt_lt p _ _ hc c.toNat_lt)
              have HTr := hide hTr
              have hBq : Below R w (w1.setCell ⟨R, 4, none⟩ (.slice (some ⟨T, 0, none⟩) kk kk)) := hBz.setCell (Nat.le_refl _) _
              obtain ⟨w2, hw2⟩ : ∃ x, x = w1.setCell ⟨R, 4, none⟩ (.slice (some ⟨T, 0, none⟩) kk kk) := ⟨_, rfl⟩
              rw [← hw2] at HTr hBq
              clear hM2 hM3 hM4 hTr hown hgrow hBw hBz hBy h5 f4
              go_upto_region 25 with (fail)
              rw [← hw2]
              clear hw2 f4' c4'
              go_wp2_with fail
              go_loopg [12] k (fun g s12 wx => ∃ q : Nat, q + g = k ∧ s12 = .int .i64 (2 * (q : Int)) ∧ Hid (Tr wx R T kk p (lookTo ps q)) ∧ Below R w wx)
              case atStart => exact ⟨0, by omega, rfl, HTr, hBq⟩
              case round =>
                obtain ⟨q, hq, rfl, hTx, hBt⟩ := hrel
                clear HTr hBq
                by_cases hlt : q < k
                · obtain ⟨x, hx⟩ : ∃ x, ps[q]? = some x := ⟨ps[q]'(by rw [HN.out]; exact hlt), List.getElem?_eq_getElem _⟩
                  obtain ⟨cc0, cc1⟩ := (hps.out.below (by rw [HR.out]; exact hBt)) q x hx
                  obtain ⟨c, rest, hkey, hrest, hlook⟩ := hkeys.out q x hx
                  have hxm := List.mem_of_getElem? hx
                  obtain ⟨key, val⟩ := x
                  dsimp only at cc0 cc1 hkey
                  subst hkey
                  have hpc : p c.toNat = true := by
                    rw [← hp.out]
                    unfold inKeys keysOf
                    rw [List.any_eq_true]
                    exact ⟨c, List.mem_flatMap.2 ⟨_, hxm, by simp⟩, by simp⟩
                  have hstep := lookTo_succ hx
                  rw [HN.out] at hstep
                  have t0 : (2 * (q : Int)).toNat = 2 * q := by omega
                  have t1 : 2 * (q : Int) < 2 * (k : Int) := by omega
                  have t2 : (2 * (q : Int) + 1).toNat = 2 * q + 1 := by omega
                  have t3 : 2 * (q : Int) + 1 < 2 * (k : Int) := by omega
                  have t4 : IntKind.i64.wrap (2 * (q : Int) + 1) = 2 * (q : Int) + 1 := IntWalk.i64_in _ (by omega)
                  have t5 : IntKind.i64.wrap (2 * (k : Int) - 2 * (q : Int)) = ((2 * k - 2 * q : Nat) : Int) := by rw [show ((2 * k - 2 * q : Nat) : Int) = 2 * (k : Int) - 2 * (q : Int) by omega]; exact IntWalk.i64_in _ (by omega)
                  have t6 : (0 : Int) ≤ 2 * (q : Int) := by omega
                  have t7 : (0 : Int) ≤ 2 * (q : Int) + 1 := by omega
                  have HSTEP := hide hstep
                  have HLK := hide hlook
                  clear hx hxm hstep hlook
                  go_wp2_with fail
                  go_still_tail 17, (by kernel_rfl)
                  change wpList _ _ _ _ _ (wr.drewN 1)
                  have hTd := hide (hTx.out.below (belowN wr 1))
                  have hBd : Below R w (wr.drewN 1) := hBt.trans ((belowN wr 1).mono (by have := hBt.size; rw [HR.out] at this; exact this))
                  obtain ⟨w3, hw3⟩ : ∃ x, x = wr.drewN 1 := ⟨_, rfl⟩
                  rw [← hw3] at hTd hBd ⊢
                  clear hw3 hTx hBt cc0 cc1
                  go_wp2_with fail
                  refine (addAny R T kk R p (lookTo ps q) c rest val (2 * k - 2 * q) w3 hTd hpc HLK hkk.out hk255 (by omega) (Nat.le_refl _) hrest).mono ?_
                  rintro e w4 ⟨rfl, hT4, hB4⟩
                  rw [← HSTEP.out] at hT4
                  have HT4 := hide hT4
                  have hB5 : Below R w w4 := hBd.trans hB4
                  clear hT4 hTd hBd hB4 HSTEP HLK t4 t5
                  go_wp2_with fail
                  go_roundg (gk - 1)
                  case measure => omega
                  case rel => exact ⟨q + 1, by omega, by go_num, HT4, hB5⟩
                · have e : q = k := by omega
                  subst e
                  have hG := hTx.out.gen hkk.out hk255 fun c hc => by
                    obtain ⟨y, hy, hcy⟩ := lookTo_key ps c _ hc
                    rw [← hp.out]
                    unfold inKeys keysOf
                    rw [List.any_eq_true]
                    exact ⟨c, List.mem_flatMap.2 ⟨_, hy, hcy⟩, by simp⟩
                  have HG := hide hG
                  clear hG hTx
                  go_wp2_with fail
                  go_ret
                  exact ⟨⟨R, rfl, HG.out⟩, by first | exact hBt | (rw [HR.out]; exact hBt)⟩
end Go.Proofs.YtojgcangnkjmjaaGreatDoor
