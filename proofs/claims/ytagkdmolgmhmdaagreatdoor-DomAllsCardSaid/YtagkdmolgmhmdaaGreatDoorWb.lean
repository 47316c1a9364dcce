/- dom.walk and dom.All for a body that writes into boxes of its own: nodes are kept. -/
import Derived.Test.YtagkdmolgmhmdaaGreatDoorUb
namespace Go.Proofs.YtagkdmolgmhmdaaGreatDoor
open Go.RowKit Go.Shelf
attribute [local go_sem] Oper.semAt_some

/-- Below block B all is as it was; of what is new, rows of nodes stand. -/
structure KeepT (B : Nat) (w w' : World) : Prop where
  below : Below B w w'
  kept : ∀ (k : Nat) (cs : Array Value) (f : Nat × Nat), w.heap[k]? = some (Obj.cells cs 26 f) → w'.heap[k]? = some (Obj.cells cs 26 f)
theorem KeepT.refl (B : Nat) (w : World) : KeepT B w w := ⟨Below.refl _ _, fun _ _ _ h => h⟩
theorem KeepT.trans {B : Nat} {a b c : World} (h : KeepT B a b) (k : KeepT B b c) : KeepT B a c :=
  ⟨h.below.trans k.below, fun i cs f hi => k.kept i cs f (h.kept i cs f hi)⟩
theorem KeepT.of_below {B : Nat} {w w' : World} (hB : B ≤ w.heap.size) (h : Below w.heap.size w w') : KeepT B w w' :=
  ⟨h.mono hB, fun k _ _ hk => (h.block k (heap_lt hk)).trans hk⟩
theorem KeepT.alloc {B : Nat} {a w : World} (h : KeepT B a w) (hB : B ≤ w.heap.size) (o : Obj) : KeepT B a (w.alloc o) :=
  ⟨h.below.alloc hB o, fun k cs f hk => by
    have := h.kept k cs f hk
    rw [Below.heap_alloc _ _ _ (heap_lt this)]; exact this⟩
theorem KeepT.setCell {B : Nat} {a w : World} (h : KeepT B a w) {p : Addr} (hp : B ≤ p.block) {cs : Array Value} {t : TypeId} {f : Nat × Nat} (hb : w.heap[p.block]? = some (Obj.cells cs t f))
    (ht : t ≠ 26) (u : Value) : KeepT B a (w.setCell p u) :=
  ⟨h.below.setCell hp u, fun k cs' f' hk => by
    have hk' := h.kept k cs' f' hk
    have hne : k ≠ p.block := by
      rintro rfl
      rw [hb] at hk'
      injection hk' with e
      injection e with _ e _
      exact ht e
    rw [Below.heap_setCell _ _ _ _ hne]; exact hk'⟩
theorem KeepT.put {B : Nat} {w : World} (hB : B ≤ w.heap.size) (W : World) (l : Nat) (o o' : Obj) (hl : w.heap.size ≤ l) (h : W.heap[l]? = some o) (hc : o.isCells = false) (hw : o.isWalk = false) : KeepT B W (W.putObj l o') :=
  ⟨belowK_b hB W l o o' hl h hc hw, fun k cs f hk => by
    rw [World.putObj_heap_other (fun e => by
      subst e
      rw [h] at hk
      injection hk with hk
      rw [hk] at hc
      cases hc)]
    exact hk⟩
def WalkPostT (w0 : World) (J Jx : List (El w0) → World → Prop) (t : Dm.T) (pre : List (El w0)) (W : World) (e : Ending) (W' : World) : Prop :=
  (e = .returned (.bool true) ∧ (∃ ys, tr ys = t.all ∧ J (pre ++ ys) W') ∧ KeepT w0.heap.size W W') ∨ (e = .returned (.bool false) ∧ ∃ q, (∃ r, tr q ++ r = t.all) ∧ Jx (pre ++ q) W')
set_option maxRecDepth 100000 in
set_option maxHeartbeats 4000000 in
theorem walk_inT (F : Fence) (hd : F.depth = none) (hf : F.fn 44) (hro : F.round = none) (l N : Nat) (w0 : World) (J Jx : List (El w0) → World → Prop)
    (hJa : ∀ s W o, w0.heap.size ≤ W.heap.size → J s W → J s (W.alloc o))
    (hY : ∀ m pre x W, J pre W → pre.length < N → YieldAt F m Tryz.prog l (encE x) W fun e W' =>
      (e = .returned (.bool true) ∧ J (pre ++ [x]) W' ∧ KeepT w0.heap.size W W') ∨ (e = .returned (.bool false) ∧ Jx (pre ++ [x]) W')) (t : Dm.T) :
    ∀ (n : Nat) (av kv : Value) (pre : List (El w0)) (W : World), RdT w0 t av kv → KeepT w0.heap.size w0 W → t.Lim 140737488355328 → t.wt ≤ 1048576 → J pre W → pre.length + t.all.length ≤ N →
      CallsIn F n Tryz.prog 44 #[NV t.d av kv, .func (.yield l) #[] #[]] W (WalkPostT w0 J Jx t pre W) := by
  refine Dm.T.induct (C := fun t => ∀ (n : Nat) (av kv : Value) (pre : List (El w0)) (W : World), RdT w0 t av kv → KeepT w0.heap.size w0 W → t.Lim 140737488355328 → t.wt ≤ 1048576 → J pre W → pre.length + t.all.length ≤ N →
      CallsIn F n Tryz.prog 44 #[NV t.d av kv, .func (.yield l) #[] #[]] W (WalkPostT w0 J Jx t pre W)) (fun d ks ih n av kv pre W hs hkW hlim hwt hJ hN => ?_) t
  have hdd : ∀ k : Nat, (F.depth.isSome = true → 1 ≤ k) := fun k h => by rw [hd] at h; cases h
  obtain ⟨⟨aa, ac, rfl⟩, ka, kc, rfl⟩ := (⟨(hs.eta).1.length, (hs.eta).2.length⟩ : (∃ ao c, av = .slice ao d.ats.length c) ∧ ∃ ko c, kv = .slice ko ks.length c)
  have b1 := Box.new W d (.slice aa d.ats.length ac) (.slice ka ks.length kc)
  have hJ1 := hJa pre W (.cells #[.int .u8 d.kd, S d.sp, S d.nm, .slice aa d.ats.length ac, S d.tx, S d.pb, S d.sy, .slice ka ks.length kc] 26) hkW.below.size hJ
  have hal := (Below.refl W.heap.size W).alloc (Nat.le_refl _) (.cells #[.int .u8 d.kd, S d.sp, S d.nm, .slice aa d.ats.length ac, S d.tx, S d.pb, S d.sy, .slice ka ks.length kc] 26)
  show CallsIn F n Tryz.prog 44 #[NV d (.slice aa d.ats.length ac) (.slice ka ks.length kc), .func (.yield l) #[] #[]] W _
  refine callsIn_of_wp Tryz.func44 rfl hf ?_ hro
  simp only [Tryz.ntmps44, List.size_toArray, List.length_cons, List.length_nil, Nat.reduceAdd, Nat.reduceSub, Array.replicate_succ, Array.replicate_zero, List.push_toArray, List.append_toArray, List.nil_append, List.cons_append]
  obtain ⟨d0, d1, d2, d3, d4, d5, d6, d7⟩ := b1.cells
  have hlen : pre.length < N := by simp only [Dm.T.all, List.length_cons] at hN; omega
  have hyy : YieldAt F (n - 1) Tryz.prog l #[NV d (.slice aa d.ats.length ac) (.slice ka ks.length kc)] _ _ := hY (n - 1) pre ⟨(.mk d ks, .slice aa d.ats.length ac, .slice ka ks.length kc), hs, hwt⟩ _ hJ1 hlen
  obtain ⟨fn, tmps, assign, body, hy, hR⟩ := hyy
  have hk1 : KeepT w0.heap.size w0 (W.alloc (.cells #[.int .u8 d.kd, S d.sp, S d.nm, .slice aa d.ats.length ac, S d.tx, S d.pb, S d.sy, .slice ka ks.length kc] 26)) := hkW.alloc hkW.below.size _
  gi_wp2
  refine hR.mono ?_
  rintro e W3 (⟨rfl, hJ3, hk3⟩ | ⟨rfl, hJx3⟩)
  rotate_left
  · gi_wp2
    go_ret
    exact .inr ⟨rfl, [_], ⟨Dm.allK ks, by simp [tr, Dm.T.all]⟩, hJx3⟩
  · have c7 : W3.cell? ⟨W.heap.size, 7, none⟩ = some (.slice ka ks.length kc) := by
      have h := hk3.kept _ _ _ b1
      rw [Lib.cell_of_heap h]; rfl
    clear d0 d1 d2 d3 d4 d5 d6 d7
    gi_wp2
    have hkS := (RdT.mk_iff.1 hs).2
    have HSS := hide hkS
    have HKW := hide hkW
    have HK3 := hide (hk1.trans hk3)
    have HKW3 := hide ((KeepT.of_below (hkW.below.size) hal).trans hk3)
    have HLK := hide (p := ∀ t ∈ ks, t.Lim 140737488355328) (fun t ht => by simp only [Dm.T.Lim] at hlim; exact hlim.2.2.mem ht)
    have hl : ks.length ≤ 140737488355328 := by simp only [Dm.T.Lim] at hlim; exact hlim.2.1
    have HN := hide hN
    have HWT := hide (p := ∀ t ∈ ks, t.wt ≤ 1048576) (fun t ht => by have := Dm.wtK_mem ht; simp only [Dm.T.wt, Dm.D.own] at hwt; omega)
    clear hkS hkW hk1 hk3 hal b1 hJ1 hJ hlim hN c7 hR hy
    gi_loopw [14] (fun i wr => ∃ (k : Nat) (ys : List (El w0)), k ≤ ks.length ∧ i = .int .i64 k ∧ Hid (tr ys = .mk d ks :: Dm.allK (ks.take k)) ∧ Hid (J (pre ++ ys) wr) ∧ Hid (KeepT w0.heap.size w0 wr ∧ KeepT w0.heap.size W wr))
      (fun i _ => ks.length - (intOf i).toNat)
    case atStart => exact ⟨0, [_], Nat.zero_le _, rfl, by simp [Hid, tr, Dm.allK], hJ3, ⟨HK3.out, HKW3.out⟩⟩
    case round =>
      obtain ⟨k, ys, hk, rfl, hys, hJs, hks⟩ := hrel
      by_cases hlt : k < ks.length
      · obtain ⟨t, ht⟩ : ∃ t, ks[k]? = some t := ⟨_, List.getElem?_eq_getElem hlt⟩
        obtain ⟨b, o, av, kv, rfl, hat, hrt⟩ := HSS.out.at ht
        obtain ⟨⟨xo, xc, rfl⟩, yo, yc, rfl⟩ := (⟨(hrt.eta).1.length, (hrt.eta).2.length⟩ : (∃ ao c, av = .slice ao t.d.ats.length c) ∧ ∃ ko c, kv = .slice ko t.ks.length c)
        have hmem := List.mem_of_getElem? ht
        obtain ⟨m0, m1, m2, m3, m4, m5, m6, m7⟩ := AtN.stay hat (Stay.of_below hks.out.1.below)
        obtain ⟨r, hsp⟩ := allK_split ks k t ht
        have htk := allK_take ks k t ht
        have hlen2 : (pre ++ ys).length + t.all.length ≤ N := by
          have h1 := HN.out
          have h2 : ys.length = (tr ys).length := by simp [tr]
          rw [hys.out] at h2
          simp only [Dm.T.all, List.length_cons, hsp, List.length_append] at h1 h2 ⊢
          omega
        have b4 := Box.new wr t.d (.slice xo t.d.ats.length xc) (.slice yo t.ks.length yc)
        obtain ⟨d0, d1, d2, d3, d4, d5, d6, d7⟩ := b4.cells
        have hJ4 := hJa (pre ++ ys) wr (.cells #[.int .u8 t.d.kd, S t.d.sp, S t.d.nm, .slice xo t.d.ats.length xc, S t.d.tx, S t.d.pb, S t.d.sy, .slice yo t.ks.length yc] 26) hks.out.1.below.size hJs.out
        have hk4 := hks.out.1.alloc hks.out.1.below.size (.cells #[.int .u8 t.d.kd, S t.d.sp, S t.d.nm, .slice xo t.d.ats.length xc, S t.d.tx, S t.d.pb, S t.d.sy, .slice yo t.ks.length yc] 26)
        have hk5 := hks.out.2.alloc (Nat.le_trans HKW.out.below.size hks.out.2.below.size) (.cells #[.int .u8 t.d.kd, S t.d.sp, S t.d.nm, .slice xo t.d.ats.length xc, S t.d.tx, S t.d.pb, S t.d.sy, .slice yo t.ks.length yc] 26)
        have hcall := hide (ih t hmem (n - 1) _ _ (pre ++ ys) _ hrt hk4 (HLK.out t hmem) (HWT.out t hmem) hJ4 hlen2)
        have HYS := hide (p := tr ys = .mk d ks :: Dm.allK (ks.take k)) hys.out
        have HSP := hide (p := Dm.allK ks = Dm.allK (ks.take k) ++ (t.all ++ r)) hsp
        have HTK := hide (p := Dm.allK (ks.take (k + 1)) = Dm.allK (ks.take k) ++ t.all) htk
        have HK4 := hide hk4
        have HK5 := hide hk5
        clear hk4 hk5 hJ4 hat hrt b4 hsp htk hys hlen2
        gi_wp2_with ((try refine ⟨hdd _, ?_⟩); gi_at_call 44; refine hcall.out.mono ?_; clear hcall; rintro e W5 (⟨rfl, ⟨zs, hz, hJ5⟩, hk6⟩ | ⟨rfl, q, ⟨r2, hq⟩, hx⟩))
        · go_roundw
          case rel => exact ⟨k + 1, ys ++ zs, by omega, by go_num, by unfold Hid; rw [tr_append, HYS.out, hz, HTK.out]; simp, by unfold Hid; rw [← List.append_assoc]; exact hJ5, ⟨HK4.out.trans hk6, HK5.out.trans hk6⟩⟩
          case measure => simp [intOf]; omega
        · go_ret
          exact .inr ⟨rfl, ys ++ q, ⟨r2 ++ r, by rw [tr_append, HYS.out, Dm.T.all, HSP.out, ← hq]; simp⟩, by rw [← List.append_assoc]; exact hx⟩
      · obtain rfl : k = ks.length := by omega
        have hys2 := hys.out
        rw [List.take_of_length_le (Nat.le_refl _)] at hys2
        have HYS := hide (p := tr ys = .mk d ks :: Dm.allK ks) hys2
        clear hys2
        gi_wp2
        go_ret
        exact .inl ⟨rfl, ⟨ys, by rw [HYS.out, Dm.T.all], hJs.out⟩, hks.out.2⟩
set_option maxRecDepth 100000 in
set_option maxHeartbeats 2000000 in
theorem all1_inT (F : Fence) (hd : F.depth = none) (n : Nat) (hf1 : F.fn 43) (hf : F.fn 44) (hro : F.round = none) (l Bt : Nat) (w0 : World) (t : Dm.T) (av kv : Value) (J Jx : List (El w0) → World → Prop)
    (hJa : ∀ s W o, w0.heap.size ≤ W.heap.size → J s W → J s (W.alloc o))
    (hY : ∀ pre x W, J pre W → pre.length < t.all.length → YieldAt F (n - 1) Tryz.prog l (encE x) W fun e W' =>
      (e = .returned (.bool true) ∧ J (pre ++ [x]) W' ∧ KeepT w0.heap.size W W') ∨ (e = .returned (.bool false) ∧ Jx (pre ++ [x]) W'))
    (W : World) (hb : Box W Bt t.d av kv) (hr : RdT w0 t av kv) (hk : KeepT w0.heap.size w0 W) (hlim : t.Lim 140737488355328) (hwt : t.wt ≤ 1048576) (h0 : J [] W) :
    CallsIn F n Tryz.prog 43 #[.func (.yield l) #[] #[], .pointer (some ⟨Bt, 0, none⟩)] W fun e W' => (∃ v, e = .returned v) ∧
      ((∃ ys, tr ys = t.all ∧ J ys W') ∨ (∃ pre, (∃ r, tr pre ++ r = t.all) ∧ Jx pre W')) := by
  have hdd : ∀ k : Nat, (F.depth.isSome = true → 1 ≤ k) := fun k h => by rw [hd] at h; cases h
  have hw := walk_inT F hd hf hro l t.all.length w0 J Jx hJa (fun m pre x W hj hl => YieldAt.any hd m (hY pre x W hj hl)) t (n - 1) av kv [] W hr hk hlim hwt h0 (by simp)
  obtain ⟨⟨aa, ac, rfl⟩, ka, kc, rfl⟩ := (⟨(hr.eta).1.length, (hr.eta).2.length⟩ : (∃ ao c, av = .slice ao t.d.ats.length c) ∧ ∃ ko c, kv = .slice ko t.ks.length c)
  obtain ⟨d0, d1, d2, d3, d4, d5, d6, d7⟩ := hb.cells
  have HW := hide hw
  clear hw hY hJa
  refine callsIn_of_wp Tryz.func43 rfl hf1 ?_ hro
  simp only [Tryz.ntmps43, List.size_toArray, List.length_cons, List.length_nil, Nat.reduceAdd, Nat.reduceSub, Array.replicate_succ, Array.replicate_zero, List.push_toArray, List.append_toArray, List.nil_append, List.cons_append]
  gi_wp2_with ((try refine ⟨hdd _, ?_⟩); gi_at_call 44; refine HW.out.mono ?_; rintro e W1 (⟨rfl, ⟨ys, hy, hJ1⟩, _⟩ | ⟨rfl, q, hq, hx⟩))
  · go_end0
    exact ⟨⟨_, rfl⟩, .inl ⟨ys, hy, by simpa using hJ1⟩⟩
  · go_end0
    exact ⟨⟨_, rfl⟩, .inr ⟨q, hq, by simpa using hx⟩⟩
/-- w0: where the trees read; wc: where the range begins -/
theorem all_stopsT (F : Fence) (hd : F.depth = none) (n : Nat) (hf1 : F.fn 43) (hf : F.fn 44) (hro : F.round = none) (Bt : Nat) (w0 wc : World) (t : Dm.T) (av kv : Value)
    (hb : Box wc Bt t.d av kv) (hr : RdT w0 t av kv) (hk : KeepT w0.heap.size w0 wc) (hlim : t.Lim 140737488355328) (hwt : t.wt ≤ 1048576) :
    SeqStopsK F n Tryz.prog 43 #[.pointer (some ⟨Bt, 0, none⟩)] (encE (w0 := w0)) (KeepT w0.heap.size) (fun ys => tr ys = t.all) (fun pre => ∃ r, tr pre ++ r = t.all) t.all.length wc := fun l J Jx W hW hJ _ hY h0 =>
  all1_inT F hd n hf1 hf hro l Bt w0 t av kv J Jx (fun s W' o _ hs => hJ s W' _ none hs (World.grownBy_alloc W' o none) (fun r e => by cases e)) hY W (hb.below hW hb.lt) hr (hk.trans (KeepT.of_below hk.below.size hW)) hlim hwt h0
end Go.Proofs.YtagkdmolgmhmdaaGreatDoor
