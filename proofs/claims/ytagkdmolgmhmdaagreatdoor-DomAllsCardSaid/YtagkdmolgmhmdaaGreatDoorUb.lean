/- dom.walk: what comes, in which order. -/
import Derived.Test.YtagkdmolgmhmdaaGreatDoorBu
import Derived.Test.YtagkdmolgmhmdaaGreatDoorDc
import Derived.RangeFuncNested
import Derived.RangeFuncBound
import Derived.RangeFuncCalls
import Derived.RangeFuncLeaves
import Derived.Shelf.Abstract
import Derived.Shelf.RegionOpen
import Derived.OwnWalkIn
import Derived.TacticsInMore
import Derived.LoopNIn
import Derived.LoopIn
namespace Go.Proofs.YtagkdmolgmhmdaaGreatDoor
open Go.RowKit Go.Shelf
attribute [local go_sem] Oper.semAt_some

theorem room_none {F : Fence} (hd : F.depth = none) (k : Nat) : F.room k := fun d h => by rw [hd] at h; cases h
theorem RoundIn.any {F : Fence} (hd : F.depth = none) {m m' : Nat} {P : Program} {l : Nat} {f : FuncId} {tmps : Array Value} {assign body : Code} {w : World} {R : Ending → World → Prop}
    (h : RoundIn F m P l f tmps assign body w R) : RoundIn F m' P l f tmps assign body w R := ⟨h.1, fun c cs _ => h.2 c cs (room_none hd _)⟩
theorem YieldAt.any {F : Fence} (hd : F.depth = none) {m : Nat} (m' : Nat) {P : Program} {l : Nat} {args : Array Value} {W : World} {R : Ending → World → Prop} (h : YieldAt F m P l args W R) : YieldAt F m' P l args W R := by
  obtain ⟨fn, tmps, assign, body, hy, hR⟩ := h
  exact ⟨fn, tmps, assign, body, hy, RoundIn.any hd hR⟩

/-- a tree where the range began, and its slices -/
abbrev El (w0 : World) := {x : Dm.T × Value × Value // RdT w0 x.1 x.2.1 x.2.2 ∧ x.1.wt ≤ 1048576}
def encE {w0 : World} (x : El w0) : Array Value := #[NV x.val.1.d x.val.2.1 x.val.2.2]
/-- the trees of what has come -/
def tr {w0 : World} (l : List (El w0)) : List Dm.T := l.map fun x => x.val.1
theorem tr_append {w0 : World} (l m : List (El w0)) : tr (l ++ m) = tr l ++ tr m := by simp [tr]
theorem allK_take (ks : List Dm.T) (i : Nat) (t : Dm.T) (h : ks[i]? = some t) : Dm.allK (ks.take (i + 1)) = Dm.allK (ks.take i) ++ t.all := by
  have app : ∀ l m : List Dm.T, Dm.allK (l ++ m) = Dm.allK l ++ Dm.allK m := by
    intro l m
    induction l with
    | nil => simp [Dm.allK]
    | cons a l ih => simp only [List.cons_append, Dm.allK, ih, List.append_assoc]
  rw [List.take_add_one, h, app]
  simp [Dm.allK]
theorem allK_split (ks : List Dm.T) (i : Nat) (t : Dm.T) (h : ks[i]? = some t) : ∃ r, Dm.allK ks = Dm.allK (ks.take i) ++ (t.all ++ r) := by
  have app : ∀ l m : List Dm.T, Dm.allK (l ++ m) = Dm.allK l ++ Dm.allK m := by
    intro l m
    induction l with
    | nil => simp [Dm.allK]
    | cons a l ih => simp only [List.cons_append, Dm.allK, ih, List.append_assoc]
  refine ⟨Dm.allK (ks.drop (i + 1)), ?_⟩
  have e := app (ks.take (i + 1)) (ks.drop (i + 1))
  rw [List.take_append_drop, allK_take ks i t h, List.append_assoc] at e
  exact e
def WalkPost (w0 : World) (J Jx : List (El w0) → World → Prop) (t : Dm.T) (pre : List (El w0)) (W : World) (e : Ending) (W' : World) : Prop :=
  (e = .returned (.bool true) ∧ (∃ ys, tr ys = t.all ∧ J (pre ++ ys) W') ∧ Keep w0.heap.size W W') ∨ (e = .returned (.bool false) ∧ ∃ q, (∃ r, tr q ++ r = t.all) ∧ Jx (pre ++ q) W')
set_option maxRecDepth 100000 in
set_option maxHeartbeats 4000000 in
theorem walk_in (F : Fence) (hd : F.depth = none) (hf : F.fn 44) (hro : F.round = none) (l N : Nat) (w0 : World) (J Jx : List (El w0) → World → Prop)
    (hJa : ∀ s W o, w0.heap.size ≤ W.heap.size → J s W → J s (W.alloc o))
    (hY : ∀ m pre x W, J pre W → pre.length < N → YieldAt F m Tryz.prog l (encE x) W fun e W' =>
      (e = .returned (.bool true) ∧ J (pre ++ [x]) W' ∧ Keep w0.heap.size W W') ∨ (e = .returned (.bool false) ∧ Jx (pre ++ [x]) W')) (t : Dm.T) :
    ∀ (n : Nat) (av kv : Value) (pre : List (El w0)) (W : World), RdT w0 t av kv → Keep w0.heap.size w0 W → t.Lim 140737488355328 → t.wt ≤ 1048576 → J pre W → pre.length + t.all.length ≤ N →
      CallsIn F n Tryz.prog 44 #[NV t.d av kv, .func (.yield l) #[] #[]] W (WalkPost w0 J Jx t pre W) := by
  refine Dm.T.induct (C := fun t => ∀ (n : Nat) (av kv : Value) (pre : List (El w0)) (W : World), RdT w0 t av kv → Keep w0.heap.size w0 W → t.Lim 140737488355328 → t.wt ≤ 1048576 → J pre W → pre.length + t.all.length ≤ N →
      CallsIn F n Tryz.prog 44 #[NV t.d av kv, .func (.yield l) #[] #[]] W (WalkPost w0 J Jx t pre W)) (fun d ks ih n av kv pre W hs hkW hlim hwt hJ hN => ?_) t
  have hdd : ∀ k : Nat, (F.depth.isSome = true → 1 ≤ k) := fun k h => by rw [hd] at h; cases h
  obtain ⟨⟨aa, ac, rfl⟩, ka, kc, rfl⟩ := (⟨(hs.eta).1.length, (hs.eta).2.length⟩ : (∃ ao c, av = .slice ao d.ats.length c) ∧ ∃ ko c, kv = .slice ko ks.length c)
  have b1 := Box.new W d (.slice aa d.ats.length ac) (.slice ka ks.length kc)
  have hJ1 := hJa pre W (.cells #[.int .u8 d.kd, S d.sp, S d.nm, .slice aa d.ats.length ac, S d.tx, S d.pb, S d.sy, .slice ka ks.length kc] 26) hkW.below.size hJ
  have hal := (Below.refl W.heap.size W).alloc (Nat.le_refl _) (.cells #[.int .u8 d.kd, S d.sp, S d.nm, .slice aa d.ats.length ac, S d.tx, S d.pb, S d.sy, .slice ka ks.length kc] 26)
  show CallsIn F n Tryz.prog 44 #[NV d (.slice aa d.ats.length ac) (.slice ka ks.length kc), .func (.yield l) #[] #[]] W _
  refine callsIn_of_wp Tryz.func44 rfl hf ?_ hro
  simp only [Tryz.ntmps44, List.size_toArray, List.length_cons, List.length_nil, Nat.reduceAdd, Nat.reduceSub, Array.replicate_succ, Array.replicate_zero, List.push_toArray, List.append_toArray, List.nil_append, List.cons_append]
  obtain ⟨d0, d1, d2, d3, d4, d5, d6, d7⟩ := b1.cells
  have hlen : pre.length < N := by simp only [Dm.T.all, List.length_cons] at hN; omega
  have hyy : YieldAt F (n - 1) Tryz.prog l #[NV d (.slice aa d.ats.length ac) (.slice ka ks.length kc)] _ _ := hY (n - 1) pre ⟨(.mk d ks, .slice aa d.ats.length ac, .slice ka ks.length kc), hs, hwt⟩ _ hJ1 hlen
  obtain ⟨fn, tmps, assign, body, hy, hR⟩ := hyy
  have hk1 : Keep w0.heap.size w0 (W.alloc (.cells #[.int .u8 d.kd, S d.sp, S d.nm, .slice aa d.ats.length ac, S d.tx, S d.pb, S d.sy, .slice ka ks.length kc] 26)) := hkW.alloc hkW.below.size _
  gi_wp2
  refine hR.mono ?_
  rintro e W3 (⟨rfl, hJ3, hk3⟩ | ⟨rfl, hJx3⟩)
  rotate_left
  · gi_wp2
    go_ret
    exact .inr ⟨rfl, [_], ⟨Dm.allK ks, by simp [tr, Dm.T.all]⟩, hJx3⟩
  · have c7 : W3.cell? ⟨W.heap.size, 7, none⟩ = some (.slice ka ks.length kc) := by
      have h := hk3.kept _ _ _ _ b1 (by decide) (by decide)
      rw [Lib.cell_of_heap h]; rfl
    clear d0 d1 d2 d3 d4 d5 d6 d7
    gi_wp2
    have hkS := (RdT.mk_iff.1 hs).2
    have HSS := hide hkS
    have HKW := hide hkW
    have HK3 := hide (hk1.trans hk3)
    have HKW3 := hide ((Keep.of_below (hkW.below.size) hal).trans hk3)
    have HLK := hide (p := ∀ t ∈ ks, t.Lim 140737488355328) (fun t ht => by simp only [Dm.T.Lim] at hlim; exact hlim.2.2.mem ht)
    have hl : ks.length ≤ 140737488355328 := by simp only [Dm.T.Lim] at hlim; exact hlim.2.1
    have HN := hide hN
    have HWT := hide (p := ∀ t ∈ ks, t.wt ≤ 1048576) (fun t ht => by have := Dm.wtK_mem ht; simp only [Dm.T.wt, Dm.D.own] at hwt; omega)
    clear hkS hkW hk1 hk3 hal b1 hJ1 hJ hlim hN c7 hR hy
    gi_loopw [14] (fun i wr => ∃ (k : Nat) (ys : List (El w0)), k ≤ ks.length ∧ i = .int .i64 k ∧ Hid (tr ys = .mk d ks :: Dm.allK (ks.take k)) ∧ Hid (J (pre ++ ys) wr) ∧ Hid (Keep w0.heap.size w0 wr ∧ Keep w0.heap.size W wr))
      (fun i _ => ks.length - (intOf i).toNat)
    case atStart => exact ⟨0, [_], Nat.zero_le _, rfl, by simp [Hid, tr, Dm.allK], hJ3, ⟨HK3.out, HKW3.out⟩⟩
    case round =>
      obtain ⟨k, ys, hk, rfl, hys, hJs, hks⟩ := hrel
      by_cases hlt : k < ks.length
      · obtain ⟨t, ht⟩ : ∃ t, ks[k]? = some t := ⟨_, List.getElem?_eq_getElem hlt⟩
        obtain ⟨b, o, av, kv, rfl, hat, hrt⟩ := HSS.out.at ht
        obtain ⟨⟨xo, xc, rfl⟩, yo, yc, rfl⟩ := (⟨(hrt.eta).1.length, (hrt.eta).2.length⟩ : (∃ ao c, av = .slice ao t.d.ats.length c) ∧ ∃ ko c, kv = .slice ko t.ks.length c)
        have hmem := List.mem_of_getElem? ht
        obtain ⟨m0, m1, m2, m3, m4, m5, m6, m7⟩ := AtN.stay hat (Stay.of_below hks.out.1.below)
        obtain ⟨r, hsp⟩ := allK_split ks k t ht
        have htk := allK_take ks k t ht
        have hlen2 : (pre ++ ys).length + t.all.length ≤ N := by
          have h1 := HN.out
          have h2 : ys.length = (tr ys).length := by simp [tr]
          rw [hys.out] at h2
          simp only [Dm.T.all, List.length_cons, hsp, List.length_append] at h1 h2 ⊢
          omega
        have b4 := Box.new wr t.d (.slice xo t.d.ats.length xc) (.slice yo t.ks.length yc)
        obtain ⟨d0, d1, d2, d3, d4, d5, d6, d7⟩ := b4.cells
        have hJ4 := hJa (pre ++ ys) wr (.cells #[.int .u8 t.d.kd, S t.d.sp, S t.d.nm, .slice xo t.d.ats.length xc, S t.d.tx, S t.d.pb, S t.d.sy, .slice yo t.ks.length yc] 26) hks.out.1.below.size hJs.out
        have hk4 := hks.out.1.alloc hks.out.1.below.size (.cells #[.int .u8 t.d.kd, S t.d.sp, S t.d.nm, .slice xo t.d.ats.length xc, S t.d.tx, S t.d.pb, S t.d.sy, .slice yo t.ks.length yc] 26)
        have hk5 := hks.out.2.alloc (Nat.le_trans HKW.out.below.size hks.out.2.below.size) (.cells #[.int .u8 t.d.kd, S t.d.sp, S t.d.nm, .slice xo t.d.ats.length xc, S t.d.tx, S t.d.pb, S t.d.sy, .slice yo t.ks.length yc] 26)
        have hcall := hide (ih t hmem (n - 1) _ _ (pre ++ ys) _ hrt hk4 (HLK.out t hmem) (HWT.out t hmem) hJ4 hlen2)
        have HYS := hide (p := tr ys = .mk d ks :: Dm.allK (ks.take k)) hys.out
        have HSP := hide (p := Dm.allK ks = Dm.allK (ks.take k) ++ (t.all ++ r)) hsp
        have HTK := hide (p := Dm.allK (ks.take (k + 1)) = Dm.allK (ks.take k) ++ t.all) htk
        have HK4 := hide hk4
        have HK5 := hide hk5
        clear hk4 hk5 hJ4 hat hrt b4 hsp htk hys hlen2
        gi_wp2_with ((try refine ⟨hdd _, ?_⟩); gi_at_call 44; refine hcall.out.mono ?_; clear hcall; rintro e W5 (⟨rfl, ⟨zs, hz, hJ5⟩, hk6⟩ | ⟨rfl, q, ⟨r2, hq⟩, hx⟩))
        · go_roundw
          case rel => exact ⟨k + 1, ys ++ zs, by omega, by go_num, by unfold Hid; rw [tr_append, HYS.out, hz, HTK.out]; simp, by unfold Hid; rw [← List.append_assoc]; exact hJ5, ⟨HK4.out.trans hk6, HK5.out.trans hk6⟩⟩
          case measure => simp [intOf]; omega
        · go_ret
          exact .inr ⟨rfl, ys ++ q, ⟨r2 ++ r, by rw [tr_append, HYS.out, Dm.T.all, HSP.out, ← hq]; simp⟩, by rw [← List.append_assoc]; exact hx⟩
      · obtain rfl : k = ks.length := by omega
        have hys2 := hys.out
        rw [List.take_of_length_le (Nat.le_refl _)] at hys2
        have HYS := hide (p := tr ys = .mk d ks :: Dm.allK ks) hys2
        clear hys2
        gi_wp2
        go_ret
        exact .inl ⟨rfl, ⟨ys, by rw [HYS.out, Dm.T.all], hJs.out⟩, hks.out.2⟩
end Go.Proofs.YtagkdmolgmhmdaaGreatDoor
namespace Go.Proofs.YtagkdmolgmhmdaaGreatDoor
open Go.RowKit Go.Shelf
attribute [local go_sem] Oper.semAt_some

set_option maxRecDepth 100000 in
set_option maxHeartbeats 2000000 in
theorem all1_in (F : Fence) (hd : F.depth = none) (n : Nat) (hf1 : F.fn 43) (hf : F.fn 44) (hro : F.round = none) (l Bt : Nat) (w0 : World) (t : Dm.T) (av kv : Value) (J Jx : List (El w0) → World → Prop)
    (hJa : ∀ s W o, w0.heap.size ≤ W.heap.size → J s W → J s (W.alloc o))
    (hY : ∀ pre x W, J pre W → pre.length < t.all.length → YieldAt F (n - 1) Tryz.prog l (encE x) W fun e W' =>
      (e = .returned (.bool true) ∧ J (pre ++ [x]) W' ∧ Keep w0.heap.size W W') ∨ (e = .returned (.bool false) ∧ Jx (pre ++ [x]) W'))
    (W : World) (hb : Box W Bt t.d av kv) (hr : RdT w0 t av kv) (hk : Keep w0.heap.size w0 W) (hlim : t.Lim 140737488355328) (hwt : t.wt ≤ 1048576) (h0 : J [] W) :
    CallsIn F n Tryz.prog 43 #[.func (.yield l) #[] #[], .pointer (some ⟨Bt, 0, none⟩)] W fun e W' => (∃ v, e = .returned v) ∧
      ((∃ ys, tr ys = t.all ∧ J ys W') ∨ (∃ pre, (∃ r, tr pre ++ r = t.all) ∧ Jx pre W')) := by
  have hdd : ∀ k : Nat, (F.depth.isSome = true → 1 ≤ k) := fun k h => by rw [hd] at h; cases h
  have hw := walk_in F hd hf hro l t.all.length w0 J Jx hJa (fun m pre x W hj hl => YieldAt.any hd m (hY pre x W hj hl)) t (n - 1) av kv [] W hr hk hlim hwt h0 (by simp)
  obtain ⟨⟨aa, ac, rfl⟩, ka, kc, rfl⟩ := (⟨(hr.eta).1.length, (hr.eta).2.length⟩ : (∃ ao c, av = .slice ao t.d.ats.length c) ∧ ∃ ko c, kv = .slice ko t.ks.length c)
  obtain ⟨d0, d1, d2, d3, d4, d5, d6, d7⟩ := hb.cells
  have HW := hide hw
  clear hw hY hJa
  refine callsIn_of_wp Tryz.func43 rfl hf1 ?_ hro
  simp only [Tryz.ntmps43, List.size_toArray, List.length_cons, List.length_nil, Nat.reduceAdd, Nat.reduceSub, Array.replicate_succ, Array.replicate_zero, List.push_toArray, List.append_toArray, List.nil_append, List.cons_append]
  gi_wp2_with ((try refine ⟨hdd _, ?_⟩); gi_at_call 44; refine HW.out.mono ?_; rintro e W1 (⟨rfl, ⟨ys, hy, hJ1⟩, _⟩ | ⟨rfl, q, hq, hx⟩))
  · go_end0
    exact ⟨⟨_, rfl⟩, .inl ⟨ys, hy, by simpa using hJ1⟩⟩
  · go_end0
    exact ⟨⟨_, rfl⟩, .inr ⟨q, hq, by simpa using hx⟩⟩
/-- w0: where the trees read; wc: where the range begins -/
theorem all_stops (F : Fence) (hd : F.depth = none) (n : Nat) (hf1 : F.fn 43) (hf : F.fn 44) (hro : F.round = none) (Bt : Nat) (w0 wc : World) (t : Dm.T) (av kv : Value)
    (hb : Box wc Bt t.d av kv) (hr : RdT w0 t av kv) (hk : Keep w0.heap.size w0 wc) (hlim : t.Lim 140737488355328) (hwt : t.wt ≤ 1048576) :
    SeqStopsK F n Tryz.prog 43 #[.pointer (some ⟨Bt, 0, none⟩)] (encE (w0 := w0)) (Keep w0.heap.size) (fun ys => tr ys = t.all) (fun pre => ∃ r, tr pre ++ r = t.all) t.all.length wc := fun l J Jx W hW hJ _ hY h0 =>
  all1_in F hd n hf1 hf hro l Bt w0 t av kv J Jx (fun s W' o _ hs => hJ s W' _ none hs (World.grownBy_alloc W' o none) (fun r e => by cases e)) hY W (hb.below hW hb.lt) hr (hk.trans (Keep.of_below hk.below.size hW)) hlim hwt h0
set_option maxRecDepth 100000 in
set_option maxHeartbeats 2000000 in
theorem all_ (t : Dm.T) (av kv : Value) (w : World) (hr : RdT w t av kv) :
    Calls Tryz.prog 22 #[NV t.d av kv] w fun e w' => e = .returned (.func (.func 43) #[] #[.pointer (some ⟨w.heap.size, 0, none⟩)]) ∧ Box w' w.heap.size t.d av kv ∧ Below w.heap.size w w' := by
  have hmf : ∀ (fn : Fn) (first cap : Array Value) (w : World), (Instr.makeFunc fn first cap).run Tryz.prog w = .ok (.func fn first cap) w := fun _ _ _ _ => rfl
  obtain ⟨⟨aa, ac, rfl⟩, ka, kc, rfl⟩ := (⟨(hr.eta).1.length, (hr.eta).2.length⟩ : (∃ ao c, av = .slice ao t.d.ats.length c) ∧ ∃ ko c, kv = .slice ko t.ks.length c)
  have b1 := Box.new w t.d (.slice aa t.d.ats.length ac) (.slice ka t.ks.length kc)
  have hal := (Below.refl w.heap.size w).alloc (Nat.le_refl _) (.cells #[.int .u8 t.d.kd, S t.d.sp, S t.d.nm, .slice aa t.d.ats.length ac, S t.d.tx, S t.d.pb, S t.d.sy, .slice ka t.ks.length kc] 26)
  clear hr
  go_enter Tryz.func22, Tryz.ntmps22
  go_wp2_with fail
  go_ret
  exact ⟨rfl, b1, hal⟩
end Go.Proofs.YtagkdmolgmhmdaaGreatDoor
