/- Trees as they come in. -/
import Derived.Test.YtagkdmolgmhmdaaGreatDoorDa
import Derived.Test.YtagkdmolgmhmdaaGreatDoorCards
import Derived.Test.YtagkdmolgmhmdaaGreatDoorTie
import Derived.WalkKit
import Derived.ProofKit
import Derived.OpenShut
import Derived.ChangeMaps5
import Derived.ChangeSlices
import Derived.SliceStrings
import Derived.Deep.Slices
import Derived.SizedLaws
namespace Go.Proofs.YtagkdmolgmhmdaaGreatDoor
open Go.ChangeShapes Go.WideShapes Go.ChangeAt Go.RowKit Go.ChangeMaps Go.Deep

theorem a_nd : Tryz.prog.cellsOf 26 = 8 := by kernel_rfl
theorem a_at : Tryz.prog.cellsOf 43 = 3 := by kernel_rfl
theorem a_st : Tryz.prog.cellsOf 9 = 1 := by kernel_rfl
theorem a_kd : Tryz.prog.cellsOf 22 = 1 := by kernel_rfl
theorem a_sa : Tryz.prog.cellsOf 23 = 1 := by kernel_rfl
theorem a_sn : Tryz.prog.cellsOf 24 = 1 := by kernel_rfl
theorem b_at : Tryz.prog.bytesOf 43 = 48 := by kernel_rfl
theorem b_nd : Tryz.prog.bytesOf 26 = 136 := by kernel_rfl
theorem attr_fields : ∃ f0 f1 f2 : Field, Tryz.prog.underlying 43 = some (.struct #[f0, f1, f2]) ∧ f0.offset = 0 ∧ f1.offset = 1 ∧ f2.offset = 2 ∧ f0.type = 9 ∧ f1.type = 9 ∧ f2.type = 9 :=
  ⟨_, _, _, Tryz.underlying43, rfl, rfl, rfl, rfl, rfl, rfl⟩
theorem node_fields : ∃ f0 f1 f2 f3 f4 f5 f6 f7 : Field, Tryz.prog.underlying 26 = some (.struct #[f0, f1, f2, f3, f4, f5, f6, f7]) ∧ (f0.offset = 0 ∧ f1.offset = 1 ∧ f2.offset = 2 ∧ f3.offset = 3 ∧ f4.offset = 4 ∧ f5.offset = 5 ∧ f6.offset = 6 ∧ f7.offset = 7) ∧
    f0.type = 22 ∧ f1.type = 9 ∧ f2.type = 9 ∧ f3.type = 23 ∧ f4.type = 9 ∧ f5.type = 9 ∧ f6.type = 9 ∧ f7.type = 24 :=
  ⟨_, _, _, _, _, _, _, _, Tryz.underlying26, ⟨rfl, rfl, rfl, rfl, rfl, rfl, rfl, rfl⟩, rfl, rfl, rfl, rfl, rfl, rfl, rfl, rfl⟩

theorem part_le {H : Type} {d : DataW H} {l : List (DataW H)} (h : d ∈ l) : Rows.uptoBulk d ≤ Rows.uptoBulkAll l := by
  induction l with
  | nil => cases h
  | cons x r ih =>
    simp only [Rows.uptoBulkAll]
    rcases List.mem_cons.1 h with e | e
    · subst e; omega
    · have := ih e; omega
theorem wAll_mem {H : Type} {P : Program} {e : TypeId} {d : DataW H} {l : List (DataW H)} (h : d ∈ l) {n : Nat} (hn : n ∈ d.weights P e) : n ∈ DataW.weightsAll P e l := by
  induction l with
  | nil => cases h
  | cons x r ih =>
    simp only [DataW.weightsAll, List.mem_append]
    rcases List.mem_cons.1 h with e' | e'
    · subst e'; exact .inl hn
    · exact .inr (ih e')
theorem range_at {α : Type} {len i : Nat} {q : Nat → α} {c : α} (hc : ((List.range len).map q)[i]? = some c) : i < len ∧ c = q i := by
  have hi : i < len := by
    have := (List.getElem?_eq_some_iff.1 hc).1
    simpa using this
  refine ⟨hi, ?_⟩
  rw [List.getElem?_map, List.getElem?_range hi] at hc
  simpa using hc.symm
abbrev Ok {H : Type} (t : TypeId) (d : DataW H) : Prop := ∀ n ∈ d.weights Tryz.prog t, n ≤ reachBytes
theorem ok_str {H : Type} {s : List UInt8} (h : Ok (H := H) 9 (.lit (.string s))) : s.length ≤ 140737488355328 := by
  have := h s.length (by simp [DataW.weights])
  unfold reachBytes at this
  omega
section
variable {H : Type} {enc : TypeId × Value → H} {W : World}

set_option maxRecDepth 100000 in
theorem open_attr {fuel : Nat} {cs : List Value} {x : DataW H × List MemPlace} (hf : DataW.trod enc Tryz.prog W 0 (fun _ => true) true fuel 43 cs = some x) (hok : Ok 43 x.1) :
    ∃ a : Dm.A, cs = [S a.sp, S a.nm, S a.vl] ∧ a.Lim 140737488355328 ∧ a.tot ≤ Rows.uptoBulk x.1 := by
  obtain ⟨f0, f1, f2, he, o0, o1, o2, t0, t1, t2⟩ := attr_fields
  obtain ⟨xs, n, _, hx, hl, hxl, hfs⟩ := DataW.trod_struct he hf
  rw [a_at] at hl
  match xs, hxl, cs, hl with
  | [y0, y1, y2], _, [v0, v1, v2], _ =>
    have g0 := hfs 0 f0 rfl
    have g1 := hfs 1 f1 rfl
    have g2 := hfs 2 f2 rfl
    simp [o0, o1, o2, t0, t1, t2, a_st] at g0 g1 g2
    obtain ⟨s0, e0, z0, _⟩ := DataW.trod_string Tryz.underlying9 g0
    obtain ⟨s1, e1, z1, _⟩ := DataW.trod_string Tryz.underlying9 g1
    obtain ⟨s2, e2, z2, _⟩ := DataW.trod_string Tryz.underlying9 g2
    simp only [List.cons.injEq, and_true] at e0 e1 e2
    subst e0; subst e1; subst e2
    subst hx
    have hw : ∀ (j : Nat) (t : TypeId) (d : DataW H), [f0.type, f1.type, f2.type][j]? = some t → [y0.1, y1.1, y2.1][j]? = some d → Ok t d := fun j t d h1 h2 n hn => by
      refine hok n ?_
      simp only [List.map_cons, List.map_nil, DataW.weights, he]
      exact DataW.weights_mem_each (j := j) h1 h2 n hn
    rw [t0, t1, t2] at hw
    have k0 := hw 0 _ _ rfl rfl
    have k1 := hw 1 _ _ rfl rfl
    have k2 := hw 2 _ _ rfl rfl
    rw [z0] at k0
    rw [z1] at k1
    rw [z2] at k2
    refine ⟨⟨s0.data.toList, s1.data.toList, s2.data.toList⟩, rfl, ⟨ok_str k0, ok_str k1, ok_str k2⟩, ?_⟩
    simp only [List.map_cons, List.map_nil, z0, z1, z2, Rows.uptoBulk, Rows.uptoBulkAll, Dm.A.tot]
    omega
theorem totA_le {len : Nat} {q : Nat → Dm.A} {D : Nat → DataW H} (h : ∀ i, i < len → (q i).tot ≤ Rows.uptoBulk (D i)) : Dm.totA ((List.range len).map q) ≤ Rows.uptoBulkAll ((List.range len).map D) := by
  have key : ∀ l : List Nat, (∀ i ∈ l, (q i).tot ≤ Rows.uptoBulk (D i)) → Dm.totA (l.map q) ≤ Rows.uptoBulkAll (l.map D) := by
    intro l
    induction l with
    | nil => intro _; simp [Dm.totA]
    | cons i r ih =>
      intro hl
      have h1 := hl i (by simp)
      have h2 := ih fun j hj => hl j (by simp [hj])
      simp only [List.map_cons, Dm.totA, Rows.uptoBulkAll]
      omega
  exact key _ fun i hi => h i (List.mem_range.1 hi)
theorem totK_le {len : Nat} {q : Nat → Dm.T} {D : Nat → DataW H} (h : ∀ i, i < len → (q i).tot ≤ Rows.uptoBulk (D i)) : Dm.totK ((List.range len).map q) ≤ Rows.uptoBulkAll ((List.range len).map D) := by
  have key : ∀ l : List Nat, (∀ i ∈ l, (q i).tot ≤ Rows.uptoBulk (D i)) → Dm.totK (l.map q) ≤ Rows.uptoBulkAll (l.map D) := by
    intro l
    induction l with
    | nil => intro _; simp [Dm.totK]
    | cons i r ih =>
      intro hl
      have h1 := hl i (by simp)
      have h2 := ih fun j hj => hl j (by simp [hj])
      simp only [List.map_cons, Dm.totK, Rows.uptoBulkAll]
      omega
  exact key _ fun i hi => h i (List.mem_range.1 hi)
instance : Inhabited Dm.A := ⟨⟨[], [], []⟩⟩
instance : Inhabited Dm.T := ⟨.mk ⟨0, [], [], [], [], [], []⟩ []⟩
theorem spot_none {a : Addr} {v : Value} (h : W.cell? (a.add 0) = some v) : ∃ b o, a = ⟨b, o, none⟩ := by
  obtain ⟨b, o, s⟩ := a
  rw [Addr.add, if_pos rfl] at h
  have e : s = none := World.cell?_spot h
  exact ⟨b, o, by rw [e]⟩
theorem open_attrs {fuel : Nat} {cs : List Value} {x : DataW H × List MemPlace} (hf : DataW.trod enc Tryz.prog W 0 (fun _ => true) true fuel 23 cs = some x) (hok : Ok 23 x.1) :
    ∃ (l : List Dm.A) (v : Value), cs = [v] ∧ RdA W v l ∧ l.length ≤ 140737488355328 ∧ (∀ a ∈ l, a.Lim 140737488355328) ∧ Dm.totA l ≤ Rows.uptoBulk x.1 := by
  rcases open_slice Tryz.underlying23 hf with ⟨rfl, rfl⟩ | ⟨a, len, cap, m, n, D, Pl, rfl, _, hl, hm, hmm, hx, hcell⟩
  · exact ⟨[], _, rfl, RdA.nil W, Nat.zero_le _, (fun a h => by cases h), Nat.zero_le _⟩
  · simp only [if_true] at hmm
    obtain rfl : cap = m := hmm.symm
    rw [a_at] at hcell
    rcases Nat.eq_zero_or_pos len with h0 | hp
    · subst h0
      exact ⟨[], _, rfl, ⟨some a, cap, rfl, (fun h => by cases h), fun i a h => by simp at h⟩, Nat.zero_le _, (fun a h => by cases h), Nat.zero_le _⟩
    obtain ⟨b, o, rfl⟩ : ∃ b o, a = ⟨b, o, none⟩ := by
      obtain ⟨cs', h1, h2⟩ := hcell 0 (by omega)
      obtain ⟨_, hlen, hc⟩ := World.cells?_some h1
      have c0 := hc 0 (by omega)
      rw [add_add] at c0
      obtain ⟨z, hz⟩ : ∃ z, cs'[0]? = some z := ⟨cs'[0], List.getElem?_eq_getElem (by omega)⟩
      rw [hz] at c0
      exact spot_none c0
    have hD : ∀ i, i < len → D i ∈ (List.range len).map D := fun i hi => List.mem_map.2 ⟨i, List.mem_range.2 hi, rfl⟩
    have each : ∀ i, i < len → ∃ c : Dm.A, AtA W b (o + i * 3) c ∧ c.Lim 140737488355328 ∧ c.tot ≤ Rows.uptoBulk (D i) := by
      intro i hi
      obtain ⟨cs', h1, h2⟩ := hcell i (by omega)
      obtain ⟨_, hlen, hc⟩ := World.cells?_some h1
      have hoki : Ok 43 (D i) := fun n hn => by
        refine hok n ?_
        rw [hx]
        simp only [DataW.weights, Tryz.underlying23, List.mem_cons, List.mem_append]
        exact .inr (.inl (wAll_mem (hD i hi) hn))
      obtain ⟨c, rfl, q1, q2⟩ := open_attr h2 hoki
      refine ⟨c, ?_, q1, q2⟩
      have c0 := hc 0 (by omega)
      have c1 := hc 1 (by omega)
      have c2 := hc 2 (by omega)
      rw [add_add] at c0 c1 c2
      simp only [add_plain] at c0 c1 c2
      exact ⟨c0, c1, c2⟩
    obtain ⟨q, hq⟩ := choose_lt each
    refine ⟨(List.range len).map q, _, rfl, ⟨some ⟨b, o, none⟩, cap, by simp, (fun h => by cases h), fun i c hc => ?_⟩, ?_, fun c hc => ?_, ?_⟩
    · obtain ⟨hi, rfl⟩ := range_at hc
      exact ⟨b, o, rfl, (hq i hi).1⟩
    · have h2 := hok ((((List.range len).map D).length + ((List.range (cap - len)).map fun j => D (len + j)).length) * Tryz.prog.bytesOf 43) (by rw [hx]; simp [DataW.weights, Tryz.underlying23])
      rw [b_at] at h2
      simp at h2
      unfold reachBytes at h2
      simp
      omega
    · obtain ⟨i, hi, rfl⟩ := List.mem_map.1 hc
      exact (hq i (List.mem_range.1 hi)).2.1
    · rw [hx]
      simp only [Rows.uptoBulk]
      have := totA_le (D := D) (fun i hi => (hq i hi).2.2)
      omega

set_option maxRecDepth 100000 in
set_option maxHeartbeats 2000000 in
theorem open_tree (N : Nat) : ∀ (fuel : Nat) (cs : List Value) (x : DataW H × List MemPlace), Rows.uptoBulk x.1 ≤ N → DataW.trod enc Tryz.prog W 0 (fun _ => true) true fuel 26 cs = some x → Ok 26 x.1 →
    ∃ (t : Dm.T) (av kv : Value), cs = [.int .u8 t.d.kd, S t.d.sp, S t.d.nm, av, S t.d.tx, S t.d.pb, S t.d.sy, kv] ∧ RdT W t av kv ∧ t.Lim 140737488355328 ∧ t.tot ≤ Rows.uptoBulk x.1 := by
  induction N with
  | zero =>
    intro fuel cs x hN hf hok
    obtain ⟨f0, f1, f2, f3, f4, f5, f6, f7, he, _⟩ := node_fields
    obtain ⟨xs, n, _, hx, _⟩ := DataW.trod_struct he hf
    rw [hx] at hN
    simp [Rows.uptoBulk] at hN
  | succ N ih =>
    intro fuel cs x hN hf hok
    obtain ⟨f0, f1, f2, f3, f4, f5, f6, f7, he, ⟨o0, o1, o2, o3, o4, o5, o6, o7⟩, t0, t1, t2, t3, t4, t5, t6, t7⟩ := node_fields
    obtain ⟨xs, n, _, hx, hl, hxl, hfs⟩ := DataW.trod_struct he hf
    rw [a_nd] at hl
    match xs, hxl, cs, hl with
    | [y0, y1, y2, y3, y4, y5, y6, y7], _, [v0, v1, v2, v3, v4, v5, v6, v7], _ =>
      have g0 := hfs 0 f0 rfl
      have g1 := hfs 1 f1 rfl
      have g2 := hfs 2 f2 rfl
      have g3 := hfs 3 f3 rfl
      have g4 := hfs 4 f4 rfl
      have g5 := hfs 5 f5 rfl
      have g6 := hfs 6 f6 rfl
      have g7 := hfs 7 f7 rfl
      simp [o0, t0, a_kd] at g0
      simp [o1, t1, a_st] at g1
      simp [o2, t2, a_st] at g2
      simp [o3, t3, a_sa] at g3
      simp [o4, t4, a_st] at g4
      simp [o5, t5, a_st] at g5
      simp [o6, t6, a_st] at g6
      simp [o7, t7, a_sn] at g7
      obtain ⟨k, e0, z0, _⟩ := DataW.trod_int Tryz.underlying22 g0
      obtain ⟨s1, e1, z1, _⟩ := DataW.trod_string Tryz.underlying9 g1
      obtain ⟨s2, e2, z2, _⟩ := DataW.trod_string Tryz.underlying9 g2
      obtain ⟨s4, e4, z4, _⟩ := DataW.trod_string Tryz.underlying9 g4
      obtain ⟨s5, e5, z5, _⟩ := DataW.trod_string Tryz.underlying9 g5
      obtain ⟨s6, e6, z6, _⟩ := DataW.trod_string Tryz.underlying9 g6
      simp only [List.cons.injEq, and_true] at e0 e1 e2 e4 e5 e6
      subst e0; subst e1; subst e2; subst e4; subst e5; subst e6
      subst hx
      have hw : ∀ (j : Nat) (t : TypeId) (d : DataW H), [f0.type, f1.type, f2.type, f3.type, f4.type, f5.type, f6.type, f7.type][j]? = some t → [y0.1, y1.1, y2.1, y3.1, y4.1, y5.1, y6.1, y7.1][j]? = some d → Ok t d := fun j t d h1 h2 n hn => by
        refine hok n ?_
        simp only [List.map_cons, List.map_nil, DataW.weights, he]
        exact DataW.weights_mem_each (j := j) h1 h2 n hn
      rw [t0, t1, t2, t3, t4, t5, t6, t7] at hw
      have k1 := hw 1 _ _ rfl rfl
      have k2 := hw 2 _ _ rfl rfl
      have k3 := hw 3 _ _ rfl rfl
      have k4 := hw 4 _ _ rfl rfl
      have k5 := hw 5 _ _ rfl rfl
      have k6 := hw 6 _ _ rfl rfl
      have k7 := hw 7 _ _ rfl rfl
      rw [z1] at k1
      rw [z2] at k2
      rw [z4] at k4
      rw [z5] at k5
      rw [z6] at k6
      have r1 := ok_str k1
      have r2 := ok_str k2
      have r4 := ok_str k4
      have r5 := ok_str k5
      have r6 := ok_str k6
      obtain ⟨ats, w3, e3, ra, la, lima, tota⟩ := open_attrs g3 k3
      simp only [List.cons.injEq, and_true] at e3
      subst e3
      have hb7 : Rows.uptoBulk y7.1 + (s1.data.toList.length + s2.data.toList.length + Rows.uptoBulk y3.1 + s4.data.toList.length + s5.data.toList.length + s6.data.toList.length + 1) ≤ Rows.uptoBulk (DataW.agg ([y0, y1, y2, y3, y4, y5, y6, y7].map (·.1))) := by
        simp only [List.map_cons, List.map_nil, z0, z1, z2, z4, z5, z6, Rows.uptoBulk, Rows.uptoBulkAll]
        omega
      have hkids : ∃ (ks : List Dm.T), RdS W v7 ks ∧ ks.length ≤ 140737488355328 ∧ Dm.LimK 140737488355328 ks ∧ Dm.totK ks ≤ Rows.uptoBulk y7.1 := by
        rcases open_slice Tryz.underlying24 g7 with ⟨ec, ey⟩ | ⟨a, len, cap, m, n', D, Pl, ec, _, hl', hm, hmm, hx', hcell⟩
        · simp only [List.cons.injEq, and_true] at ec
          subst ec
          exact ⟨[], RdS.nil W none 0, Nat.zero_le _, by simp [Dm.LimK], Nat.zero_le _⟩
        · simp only [List.cons.injEq, and_true] at ec
          subst ec
          simp only [if_true] at hmm
          obtain rfl : cap = m := hmm.symm
          rw [a_nd] at hcell
          rcases Nat.eq_zero_or_pos len with h0 | hp
          · subst h0
            exact ⟨[], RdS.nil W _ _, Nat.zero_le _, by simp [Dm.LimK], Nat.zero_le _⟩
          obtain ⟨b, o, rfl⟩ : ∃ b o, a = ⟨b, o, none⟩ := by
            obtain ⟨cs', h1, h2⟩ := hcell 0 (by omega)
            obtain ⟨_, hlen, hc⟩ := World.cells?_some h1
            have c0 := hc 0 (by omega)
            rw [add_add] at c0
            obtain ⟨z, hz⟩ : ∃ z, cs'[0]? = some z := ⟨cs'[0], List.getElem?_eq_getElem (by omega)⟩
            rw [hz] at c0
            exact spot_none c0
          have hD : ∀ i, i < len → D i ∈ (List.range len).map D := fun i hi => List.mem_map.2 ⟨i, List.mem_range.2 hi, rfl⟩
          have each : ∀ i, i < len → ∃ c : Dm.T, (∃ av kv, AtN W b (o + i * 8) c.d av kv ∧ RdT W c av kv) ∧ c.Lim 140737488355328 ∧ c.tot ≤ Rows.uptoBulk (D i) := by
            intro i hi
            obtain ⟨cs', h1, h2⟩ := hcell i (by omega)
            obtain ⟨_, hlen, hc⟩ := World.cells?_some h1
            have hoki : Ok 26 (D i) := fun n hn => by
              refine k7 n ?_
              rw [hx']
              simp only [DataW.weights, Tryz.underlying24, List.mem_cons, List.mem_append]
              exact .inr (.inl (wAll_mem (hD i hi) hn))
            have hbi : Rows.uptoBulk (D i) ≤ N := by
              have h3 := part_le (hD i hi)
              have hb8 : Rows.uptoBulkAll ((List.range len).map D) + 1 ≤ Rows.uptoBulk y7.1 := by rw [hx']; simp only [Rows.uptoBulk]; omega
              have hN' : Rows.uptoBulk (DataW.agg ([y0, y1, y2, y3, y4, y5, y6, y7].map (·.1))) ≤ N + 1 := hN
              omega
            obtain ⟨c, av, kv, rfl, q1, q2, q3⟩ := ih _ _ (D i, Pl i) hbi h2 hoki
            refine ⟨c, ⟨av, kv, ?_, q1⟩, q2, q3⟩
            have c0 := hc 0 (by omega)
            have c1 := hc 1 (by omega)
            have c2 := hc 2 (by omega)
            have c3 := hc 3 (by omega)
            have c4 := hc 4 (by omega)
            have c5 := hc 5 (by omega)
            have c6 := hc 6 (by omega)
            have c7 := hc 7 (by omega)
            rw [add_add] at c0 c1 c2 c3 c4 c5 c6 c7
            simp only [add_plain] at c0 c1 c2 c3 c4 c5 c6 c7
            exact ⟨c0, c1, c2, c3, c4, c5, c6, c7⟩
          obtain ⟨q, hq⟩ := choose_lt each
          refine ⟨(List.range len).map q, ?_, ?_, Dm.LimK.of fun c hc => ?_, ?_⟩
          · have := RdS.of (w := W) (ao := some ⟨b, o, none⟩) (c := cap) (ks := (List.range len).map q) fun i c hc => by
              obtain ⟨hi, rfl⟩ := range_at hc
              obtain ⟨av, kv, h1, h2⟩ := (hq i hi).1
              exact ⟨b, o, av, kv, rfl, h1, h2⟩
            simpa using this
          · have h2 := k7 ((((List.range len).map D).length + ((List.range (cap - len)).map fun j => D (len + j)).length) * Tryz.prog.bytesOf 26) (by rw [hx']; simp [DataW.weights, Tryz.underlying24])
            rw [b_nd] at h2
            simp at h2
            unfold reachBytes at h2
            simp
            omega
          · obtain ⟨i, hi, rfl⟩ := List.mem_map.1 hc
            exact (hq i (List.mem_range.1 hi)).2.1
          · rw [hx']
            simp only [Rows.uptoBulk]
            have := totK_le (D := D) (fun i hi => (hq i hi).2.2)
            omega
      obtain ⟨ks, rk, lk, limk, totk⟩ := hkids
      refine ⟨.mk ⟨k, s1.data.toList, s2.data.toList, ats, s4.data.toList, s5.data.toList, s6.data.toList⟩ ks, v3, v7, rfl, RdT.mk_iff.2 ⟨ra, rk⟩, ?_, ?_⟩
      · simp only [Dm.T.Lim, Dm.D.Lim]
        exact ⟨⟨r1, r2, la, r4, r5, r6, lima⟩, lk, limk⟩
      · simp only [Dm.T.tot, Dm.D.tot]
        omega
set_option maxRecDepth 100000 in
theorem open_node {r : Reach} {b0 : Nat} {v : Value} {d : DataW H} {p : List MemPlace} (hv : Value.okWide Tryz.prog W r b0 26 v) (h : DataW.Trod enc Tryz.prog W 0 (fun _ => true) true 26 v d p) (hok : Ok 26 d) :
    ∃ (t : Dm.T) (av kv : Value), v = .agg #[.int .u8 t.d.kd, S t.d.sp, S t.d.nm, av, S t.d.tx, S t.d.pb, S t.d.sy, kv] ∧ RdT W t av kv ∧ t.Lim 140737488355328 ∧ t.tot ≤ Rows.uptoBulk d := by
  obtain ⟨cs, rfl, hsz⟩ := okWide_struct Tryz.underlying26 hv
  obtain ⟨fuel, hf⟩ := h
  obtain ⟨t, av, kv, e, h1, h2, h3⟩ := open_tree _ fuel cs.toList (d, p) (Nat.le_refl _) hf hok
  refine ⟨t, av, kv, ?_, h1, h2, h3⟩
  congr 1
  exact Array.ext' (by rw [e])
theorem ok_of {ts : List TypeId} {ds : List (DataW H)} (h : (DataW.weightsEach Tryz.prog ts ds).all (· ≤ reachBytes) = true) {j : Nat} {t : TypeId} {d : DataW H} (ht : ts[j]? = some t) (hd : ds[j]? = some d) : Ok t d := fun n hn => by
  have := List.all_eq_true.1 h n (DataW.weights_mem_each ht hd n hn)
  simpa using this
end
end Go.Proofs.YtagkdmolgmhmdaaGreatDoor
