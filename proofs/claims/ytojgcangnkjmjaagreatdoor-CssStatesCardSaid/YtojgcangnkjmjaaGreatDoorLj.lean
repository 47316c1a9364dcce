/- The law CssJoins, walked. -/
import Derived.Test.YtojgcangnkjmjaaGreatDoorWk
import Derived.Test.YtojgcangnkjmjaaGreatDoorPq
import Derived.Deep.Upon
namespace Go.Proofs.YtojgcangnkjmjaaGreatDoor
open Go.RowKit

theorem Cssp.lp_count : ∀ (f : Nat) (s : List UInt8) (w : Cssp.Wh) (t : List UInt8), s.length ≤ f → (Cssp.lp s w t).l.length ≤ s.length
  | f, s, w, t, hf => by
    by_cases h0 : s = []
    · subst h0; exact Nat.le_refl _
    have hpos := List.length_pos_iff.2 h0
    match f, hf with
    | 0, hf => omega
    | f + 1, hf =>
      rw [Cssp.lp_step s w t h0]
      by_cases hc : [47, 42].isPrefixOf s = true
      · rw [if_pos hc]
        cases Cssp.shut (s.drop 2) with
        | none => exact Nat.zero_le _
        | some k =>
          have := Cssp.lp_count f (s.drop (2 + k + 2)) ⟨1, 0⟩ t (by rw [List.length_drop]; omega)
          rw [List.length_drop] at this
          show (Cssp.lp _ _ _).l.length ≤ _
          omega
      · rw [if_neg hc]
        obtain ⟨o1, o2, -, -⟩ := Cssp.one_le s h0
        have := Cssp.lp_count f (s.drop (Cssp.one s).k) (Cssp.ends (Cssp.one s) (Cssp.at_ s 0)) (s.drop (Cssp.one s).e) (by rw [List.length_drop]; omega)
        rw [List.length_drop] at this
        show (_ :: _).length ≤ _
        rw [List.length_cons]
        omega
theorem Cssp.read_count (s : List UInt8) : (Cssp.read s).l.length ≤ 9 * s.length := by
  have h1 := Cssp.lp_count _ (Cssp.clean (Cssp.decode s)) ⟨1, 0⟩ [] (Nat.le_refl _)
  have h2 := cleanC_len false (Cssp.decode s)
  have h3 := Cssp.decode_len _ s (Nat.le_refl _)
  have h4 : (Cssp.read s).l = (Cssp.lp (Cssp.clean (Cssp.decode s)) ⟨1, 0⟩ []).l := Cssp.all_l _
  have h5 : (Cssp.clean (Cssp.decode s)).length ≤ 3 * (Cssp.decode s).length := h2
  rw [h4]
  omega
theorem last_get (s : List UInt8) (h : 0 < s.length) (x : UInt8) (hx : s[s.length - 1] = x) : ∀ c, s.getLast? = some c → c = x := fun c hc => by
  rw [List.getLast?_eq_getElem?, List.getElem?_eq_getElem (by omega), hx] at hc
  injection hc with hc; exact hc.symm
theorem where_neq (a q a' q' : Int) (w : World) : Sem.run Tryz.prog (binOp .neq 36 (.agg #[.int .u8 a, .int .u8 q]) (.agg #[.int .u8 a', .int .u8 q'])) w = .ok (.bool !((a == a') && (q == q'))) w := by
  have hf : Tryz.prog.underlying 36 = some (.struct (Tryz.prog.fieldsOf 36)) := by kernel_rfl
  have hh : Tryz.prog.stoodInHeld 36 = false := by kernel_rfl
  have heq : ∀ d, Sem.run Tryz.prog (Op.equalIn (d + 2) 36 (.agg #[.int .u8 a, .int .u8 q]) (.agg #[.int .u8 a', .int .u8 q'])) w = .ok ((a == a') && (q == q')) w := fun d => by
    rw [run_equalIn_struct w (d + 1) 36 _ _ hf hh]
    simp [go_sem, Tryz.underlying36]
    by_cases h1 : a = a' <;> by_cases h2 : q = q' <;> simp [h1, h2]
  simp only [binOp]
  simp only [Op.equal, Op.maxDepth, Sem.run_bind, heq 9998, Result.andThen_ok, Sem.run_pure]
/-- an append whose run is known -/
theorem wpList_append_run {P : Program} {w w' : World} {ops : Array Oper} {rest : List Oper} {o : Oper} {a : Act} {Q : Exit → Act → World → Prop} (hgd : o.guard = none) (s x : Operand) (t : TypeId)
    (ho : o.op = .call { callee := .builtin .append, args := #[s, x], argTypes := #[t, t] }) (va vx v' : Value) (hs : a.eval s = va) (hx : a.eval x = vx)
    (hrun : (Builtin.append_ #[t, t] o.type #[va, vx]).run P w = .ok v' w') (h : wpList P ops Q rest (a.put o.dst v') w') : wpList P ops Q (o :: rest) a w := by
  refine wpList_plain hgd fun K hK => ?_
  unfold Oper.wp
  simp [execOp, ho, resolve, invoke, builtin, hs, hx, hrun, Result.andThen]
  exact hK _ _ h
/-- two lists of tokens, one behind the other, in memory of the call's own -/
theorem app_run (ao : Option Addr) (vy : Value) (l m : List Cssp.Tk) (w : World) (hx : (l = [] ∧ ao = none) ∨ ∃ b, ao = some ⟨b, 0, none⟩ ∧ ∀ (j : Nat) u, (tokCells l)[j]? = some u → w.cell? ⟨b, j, none⟩ = some u) (hlx : RT w (.slice ao l.length l.length) l)
    (hy : RT w vy m) (hl : l.length ≤ 1048576) (hm : m.length ≤ 1048576) :
    ∃ v' w', (Builtin.append_ #[23, 23] 23 #[.slice ao l.length l.length, vy]).run Tryz.prog w = .ok v' w' ∧ RT w' v' (l ++ m) ∧ Below w.heap.size w w' := by
  obtain ⟨i0, hi, hz0, hz1, hz2⟩ := info_parts info_tok
  have hk := Tryz.underlying23
  have tl : ∀ l : List Cssp.Tk, (tokCells l).length = l.length * 4 := fun l => by
    induction l with
    | nil => rfl
    | cons a r ih =>
      have e : tokCells (a :: r) = [.int .u8 a.kind, S a.t, S a.u, .bool a.flag] ++ tokCells r := rfl
      rw [e, List.length_append, ih]; simp; omega
  have one : ∀ l : List Cssp.Tk, ∀ u ∈ tokCells l, u.oneCell' = true := fun l u hu => by
    obtain ⟨x, -, hx⟩ := List.mem_flatMap.1 hu
    simp at hx
    rcases hx with rfl | rfl | rfl | rfl <;> rfl
  have addE : ∀ (b o j : Nat), (⟨b, o, none⟩ : Addr).add j = ⟨b, o + j, none⟩ := fun b o j => by unfold Addr.add; split <;> simp_all
  have cellsOf : ∀ (m : List Cssp.Tk) (b o : Nat), (∀ (i : Nat) (c : Cssp.Tk), m[i]? = some c → w.cell? ⟨b, o + i * 4, none⟩ = some (.int .u8 c.kind) ∧ w.cell? ⟨b, o + i * 4 + 1, none⟩ = some (S c.t) ∧ w.cell? ⟨b, o + i * 4 + 2, none⟩ = some (S c.u) ∧ w.cell? ⟨b, o + i * 4 + 3, none⟩ = some (.bool c.flag)) →
      ∀ (j : Nat) u, (tokCells m)[j]? = some u → w.cell? ⟨b, o + j, none⟩ = some u := fun m b o h j u hu => by
    have hj : j < m.length * 4 := by rw [← tl]; exact (List.getElem?_eq_some_iff.1 hu).1
    obtain ⟨i, r, hr, rfl⟩ : ∃ i r, r < 4 ∧ j = i * 4 + r := ⟨j / 4, j % 4, Nat.mod_lt _ (by decide), by omega⟩
    have hi : i < m.length := by omega
    have hc := List.getElem?_eq_getElem hi
    rw [tok_at m i _ r hc hr] at hu
    obtain ⟨h0, h1, h2, h3⟩ := h i _ hc
    rw [← Nat.add_assoc]
    match r, hr with
    | 0, _ => simp at hu; subst hu; exact h0
    | 1, _ => simp at hu; subst hu; exact h1
    | 2, _ => simp at hu; subst hu; exact h2
    | 3, _ => simp at hu; subst hu; exact h3
  rcases hy with ⟨rfl, a, c, rfl⟩ | ⟨b, o, cap, rfl, hb, hc⟩
  · refine ⟨_, w, ?_, by rw [List.append_nil]; exact hlx, Below.refl _ _⟩
    refine run_append_nothing w _ _ _ _ i0 hk hi ao l.length l.length (Nat.le_refl _) _ ?_
    cases a with
    | none => exact Src.ofNil w hk c
    | some a => exact Src.ofSlice w hk a 0 c [] (by simp) (fun j u h => by simp at h) (fun u h => by cases h)
  · by_cases hm0 : m = []
    · subst hm0
      refine ⟨_, w, ?_, by rw [List.append_nil]; exact hlx, Below.refl _ _⟩
      exact run_append_nothing w _ _ _ _ i0 hk hi ao l.length l.length (Nat.le_refl _) _ (Src.ofSlice w hk _ 0 cap [] (by simp) (fun j u h => by simp at h) (fun u h => by cases h))
    · have hml : 0 < m.length := List.length_pos_iff.2 hm0
      have hsrc : Src Tryz.prog i0.size 23 (.slice (some ⟨b, o, none⟩) m.length cap) m.length (tokCells m) w :=
        Src.ofSlice w hk _ _ _ _ (by rw [hz1, tl]) (fun j u hu => by rw [addE]; exact cellsOf m b o hc j u hu) (one m)
      have hold : (Builtin.firstCells i0.size l.length (.slice ao l.length l.length)).run Tryz.prog w.drew = .ok (tokCells l).toArray w.drew := by
        rcases hx with ⟨rfl, rfl⟩ | ⟨b2, rfl, hc2⟩
        · exact run_firstCells_none w.drew i0.size 0 0 0
        · exact run_firstCells_some w.drew i0.size _ _ _ _ _ (by rw [hz1, tl]) (fun j u hu => by rw [addE, Nat.zero_add]; exact hc2 j u hu)
      have hg : l.length < l.length + m.length := by omega
      have hrun := run_append_grow_src (P := Tryz.prog) w 23 23 23 27 i0 _ hk hi hz0 ao l.length l.length (tokCells l) hold _ m.length (tokCells m) hsrc hg (by omega) (growslice_fits hg (by rw [hz2]; omega))
      refine ⟨_, _, hrun, ?_, (Below.refl _ w).drew.alloc (Nat.le_refl _) _⟩
      refine .inr ⟨w.heap.size, 0, _, by rw [List.length_append], by simp, fun i c hi' => ?_⟩
      have hcell : ∀ j, j < 4 → (w.drew.alloc (.cells ((tokCells l ++ tokCells m).toArray ++ Builtin.zeroCells (Value.agg #[.int .u8 0, .string .empty, .string .empty, .bool false]).cells (grownCap w (l.length + m.length) l.length 27 - (l.length + m.length))) 27)).cell? ⟨w.heap.size, 0 + i * 4 + j, none⟩ = [.int .u8 c.kind, S c.t, S c.u, .bool c.flag][j]? := fun j hj => by
        have hlt : i < (l ++ m).length := (List.getElem?_eq_some_iff.1 hi').1
        have e1 : (w.drew.alloc (.cells ((tokCells l ++ tokCells m).toArray ++ Builtin.zeroCells (Value.agg #[.int .u8 0, .string .empty, .string .empty, .bool false]).cells (grownCap w (l.length + m.length) l.length 27 - (l.length + m.length))) 27)).cell? ⟨w.heap.size, 0 + i * 4 + j, none⟩ = _ := World.cell?_alloc_new w.drew _ _ _
        rw [e1, Array.getElem?_append_left (by rw [List.size_toArray, ← tokCells_append, tl]; omega), List.getElem?_toArray, ← tokCells_append, Nat.zero_add, tok_at (l ++ m) i c j hi' hj]
      exact ⟨by simpa using hcell 0 (by omega), by simpa using hcell 1 (by omega), by simpa using hcell 2 (by omega), by simpa using hcell 3 (by omega)⟩
set_option maxRecDepth 100000 in
set_option maxHeartbeats 8000000 in
theorem law_joins (s u : List UInt8) (w : World) (hs : s.length ≤ 9223372036854775807) (hu : u.length ≤ 9223372036854775807) (ht : Tab w) : Calls Tryz.prog 6 #[S s, S u] w (Fresh (.bool true) w) := by
  have hlt := ht.lt
  have HW := hide (works_ w ht)
  go_enter Tryz.func6, Tryz.ntmps6
  go_wp2_with fail
  refine HW.out.mono ?_
  rintro e w1 ⟨rfl, hb1⟩
  have HB1 := hide hb1
  have ht1 := ht.below (by omega) hb1
  have HT1 := hide ht1
  have hsz1 := hb1.size
  clear HW hb1 ht1
  by_cases hlen : 8192 < s.length
  · have d1 : (8192 : Int) < (s.length : Int) := by omega
    go_wp2_with fail
    go_ret
    exact ⟨rfl, HB1.out⟩
  have d1 : decide ((8192 : Int) < (s.length : Int)) = false := by rw [decide_eq_false_iff_not]; omega
  by_cases hlen2 : 8192 < u.length
  · have d2 : (8192 : Int) < (u.length : Int) := by omega
    go_wp2_with fail
    go_ret
    exact ⟨rfl, HB1.out⟩
  have d2 : decide ((8192 : Int) < (u.length : Int)) = false := by rw [decide_eq_false_iff_not]; omega
  have HV := hide (valid_ s w1 HT1.out hs)
  go_wp2_with fail
  refine HV.out.mono ?_
  rintro e w2 ⟨rfl, hb2⟩
  have HB2 := hide (HB1.out.trans (hb2.mono hsz1))
  have HT2 := hide (HT1.out.below (by omega) hb2)
  clear HV hb2 HB1 HT1
  cases hv : Cssp.valid s with
  | false =>
    clear hv
    go_wp2_with fail
    go_ret
    exact ⟨rfl, HB2.out⟩
  | true =>
  have HVS := hide hv
  have HV := hide (valid_ u w2 HT2.out hu)
  clear hv
  go_wp2_with fail
  refine HV.out.mono ?_
  rintro e w3 ⟨rfl, hb3⟩
  have HT3 := hide (HT2.out.below (by have := HB2.out.size; omega) hb3)
  have HB3 := hide (HB2.out.trans (hb3.mono HB2.out.size))
  clear HV hb3 HB2 HT2
  cases hv : Cssp.valid u with
  | false =>
    clear hv
    go_wp2_with fail
    go_ret
    exact ⟨rfl, HB3.out⟩
  | true =>
  have HVU := hide hv
  clear hv
  have HWh := where_ s w3 HT3.out (by omega)
  obtain ⟨WA, hWA⟩ : ∃ x, (Cssp.read s).w = x := ⟨_, rfl⟩
  rw [hWA] at HWh
  obtain ⟨WS, WQ⟩ := WA
  have HWA := hide hWA
  have HH := hide HWh
  clear HWh hWA
  go_wp2_with fail
  refine HH.out.mono ?_
  rintro e w4 ⟨rfl, hb4⟩
  have HT4 := hide (HT3.out.below (by have := HB3.out.size; omega) hb4)
  have HB4 := hide (HB3.out.trans (hb4.mono HB3.out.size))
  clear HH hb4 HB3 HT3
  by_cases hpl : WS = 1 ∧ WQ = 0
  · obtain ⟨rfl, rfl⟩ := hpl
    have e1 := fun W => where_neq 1 0 1 0 W
    by_cases h0 : s = []
    · have hl : ∀ c, s.getLast? = some c → c ≠ 32 ∧ ¬ (9 ≤ c.toNat ∧ c.toNat ≤ 13) := fun c h => by rw [h0] at h; cases h
      have HL := hide hl
      have hS : s.isEmpty = true := by rw [h0]; rfl
      clear hl h0
      go_wp2_with fail
      obtain ⟨j1, j2⟩ := Cssp.read_join s u HVS.out HVU.out (show (Cssp.read' s).w = _ from HWA.out) HL.out
      have hcl := Cssp.read_count s
      have hcm := Cssp.read_count u
      have K1 := tokens_ s w4 HT4.out (by omega)
      have K2 := fun W (hT : Tab W) => tokens_ u W hT (by omega)
      have K3 := fun W (hT : Tab W) => tokens_ (s ++ u) W hT (by rw [List.length_append]; omega)
      have K4 := fun W (hT : Tab W) => where_ (s ++ u) W hT (by rw [List.length_append]; omega)
      have K5 := fun W (hT : Tab W) => where_ u W hT (by omega)
      rw [show (Cssp.read (s ++ u)).l = (Cssp.read s).l ++ (Cssp.read u).l from j1] at K3
      rw [show (Cssp.read (s ++ u)).w = (Cssp.read u).w from j2] at K4
      obtain ⟨L, hL⟩ : ∃ L, (Cssp.read s).l = L := ⟨_, rfl⟩
      obtain ⟨M, hM⟩ : ∃ M, (Cssp.read u).l = M := ⟨_, rfl⟩
      obtain ⟨U, hU⟩ : ∃ U, (Cssp.read u).w = U := ⟨_, rfl⟩
      rw [hL] at hcl K1 K3
      rw [hM] at hcm K2 K3
      rw [hU] at K4 K5
      obtain ⟨US, UQ⟩ := U
      have H1 := hide K1
      have H2 := fun W hT => hide (K2 W hT)
      have H4 := fun W hT => hide (K4 W hT)
      have H5 := fun W hT => hide (K5 W hT)
      have hn3 : ¬ 9223372036854775807 < s.length + u.length := by omega
      have hlm : (L ++ M).length ≤ 1048576 := by rw [List.length_append]; omega
      obtain ⟨P, hP⟩ : ∃ P, L ++ M = P := ⟨_, rfl⟩
      have HP := hide hP
      rw [hP] at K3 hlm
      have H3 := fun W hT => hide (K3 W hT)
      clear hP
      clear K1 K2 K3 K4 K5 j1 j2 hL hM hU HL HVS HVU HWA e1
      refine Calls.mono H1.out ?_
      rintro e w5 ⟨vx, rfl, ho5, hb5⟩
      have HT5 := hide (HT4.out.below (by have := HB4.out.size; omega) hb5)
      have HB5 := hide (HB4.out.trans (hb5.mono HB4.out.size))
      have H2' := hide (H2 w5 HT5.out).out
      have HRX := hide (RT.of_own ho5)
      have hcell5 : ∀ g cap, vx = .slice (some ⟨g, 0, none⟩) L.length cap → ∀ (j : Nat) y, (tokCells L)[j]? = some y → w5.cell? ⟨g, j, none⟩ = some y := fun g cap hv j y hy => by
        have := ho5.cells (g := g) (by rw [hv]; rfl) j y hy
        rwa [show (⟨g, 0, none⟩ : Addr).add j = ⟨g, j, none⟩ by unfold Addr.add; split <;> simp_all] at this
      have hform : (vx = .slice none 0 0 ∧ L = []) ∨ ∃ g cap, vx = .slice (some ⟨g, 0, none⟩) L.length cap ∧ L.length ≤ cap := by
        rcases ho5.2 with ⟨hv, h0⟩ | ⟨g, cap, cur, hv, _, _, hle, _⟩
        · exact .inl ⟨hv, List.eq_nil_of_length_eq_zero h0⟩
        · exact .inr ⟨g, cap, hv, hle⟩
      have HC5 := hide hcell5
      clear H1 H2 ho5 hb5 HB4 HT4 hcell5
      rcases hform with ⟨rfl, rfl⟩ | ⟨g, cap, rfl, hcap⟩
      · go_wp2_with fail
        refine Calls.mono H2'.out ?_
        rintro e w6 ⟨vy, rfl, ho6, hb6⟩
        obtain ⟨ay, cy, rfl⟩ := slice_of ho6
        have HT6 := hide (HT5.out.below (by have := HB5.out.size; omega) hb6)
        have HB6 := hide (HB5.out.trans (hb6.mono HB5.out.size))
        have hRX6 := HRX.out.below hb6
        obtain ⟨v7, w7, hrun, hr7, hb7⟩ := app_run none (.slice ay M.length cy) [] M w6 (.inl ⟨rfl, rfl⟩) hRX6 (RT.of_own ho6) (by simp) (by omega)
        rw [HP.out] at hr7
        have hrun' : (Builtin.append_ #[23, 23] 23 #[.slice none 0 0, .slice ay M.length cy]).run Tryz.prog w6 = .ok v7 w7 := hrun
        have HR7 := hide hr7
        have HB7 := hide (HB6.out.trans (hb7.mono HB6.out.size))
        clear hr7 hb7 hRX6 H2' ho6 hb6 HRX HC5 HB5 hrun
        go_wp2_with (at_builtin; refine wpList_append_run rfl _ _ _ rfl _ _ v7 rfl rfl hrun' ?_)
        clear hrun'
        have hsh7 : ∃ a c, v7 = .slice a P.length c := by
          rcases HR7.out with ⟨h, a, c, hv⟩ | ⟨b, o, c, hv, _⟩
          · exact ⟨a, c, by rw [hv, h]; rfl⟩
          · exact ⟨_, _, hv⟩
        obtain ⟨a7, c7, rfl⟩ := hsh7
        have HT7 := hide (ht.below (by omega) HB7.out)
        have H3' := H3 w7 HT7.out
        clear HT6 HB6 H3
        go_wp2_with fail
        refine Calls.mono H3'.out ?_
        rintro e w8 ⟨v8, rfl, ho8, hb8⟩
        obtain ⟨a8, c8, rfl⟩ := slice_of ho8
        have hs8 := same_any _ _ P P _ (RT.of_own ho8) (HR7.out.below hb8) (by unfold maxLen; omega) (by unfold maxLen; omega)
        have HS8 := hide hs8
        have HB8 := hide (HB7.out.trans (hb8.mono HB7.out.size))
        clear hs8 ho8 hb8 H3' HR7 HB7
        go_wp2_with fail
        refine Calls.mono HS8.out ?_
        rintro e w9 ⟨rfl, hd9⟩
        have HB9 := hide (HB8.out.trans ((below_drawn hd9).mono HB8.out.size))
        have H4' := H4 w9 (ht.below (by omega) HB9.out)
        clear HS8 hd9 HB8 H4
        go_wp2_with fail
        refine Calls.mono H4'.out ?_
        rintro e w10 ⟨rfl, hb10⟩
        have HB10 := hide (HB9.out.trans (hb10.mono HB9.out.size))
        have H5' := H5 w10 (ht.below (by omega) HB10.out)
        have e2 := fun W => where_eql US UQ.toNat US UQ.toNat W
        clear H4' hb10 HB9 H5
        go_wp2_with fail
        refine Calls.mono H5'.out ?_
        rintro e w11 ⟨rfl, hb11⟩
        have HB11 := hide (HB10.out.trans (hb11.mono HB10.out.size))
        clear H5' hb11 HB10
        go_wp2_with fail
        go_ret
        exact ⟨by simp, HB11.out⟩
      · have hcap1 : (L.length : Int) ≤ (cap : Int) := by omega
        go_wp2_with fail
        refine Calls.mono H2'.out ?_
        rintro e w6 ⟨vy, rfl, ho6, hb6⟩
        obtain ⟨ay, cy, rfl⟩ := slice_of ho6
        have HT6 := hide (HT5.out.below (by have := HB5.out.size; omega) hb6)
        have HB6 := hide (HB5.out.trans (hb6.mono HB5.out.size))
        have hRX6 := HRX.out.below hb6
        have hcells6 : ∀ (j : Nat) y, (tokCells L)[j]? = some y → w6.cell? ⟨g, j, none⟩ = some y := fun j y hy => cell_below (HC5.out g cap rfl j y hy) hb6
        have hRX7 : RT w6 (.slice (some ⟨g, 0, none⟩) L.length L.length) L := by
          rcases hRX6 with ⟨rfl, a, c, hv⟩ | ⟨b, o, c, hv, hb, hc⟩
          · exact .inl ⟨rfl, _, _, rfl⟩
          · injection hv with hv _ _
            injection hv with hv
            injection hv with hv1 hv2
            subst hv1 hv2
            exact .inr ⟨_, _, _, rfl, hb, hc⟩
        obtain ⟨v7, w7, hrun, hr7, hb7⟩ := app_run (some ⟨g, 0, none⟩) (.slice ay M.length cy) L M w6 (.inr ⟨g, rfl, hcells6⟩) hRX7 (RT.of_own ho6) (by omega) (by omega)
        rw [HP.out] at hr7
        have HR7 := hide hr7
        have HB7 := hide (HB6.out.trans (hb7.mono HB6.out.size))
        clear hr7 hb7 hRX7 hcells6 hRX6 H2' ho6 hb6 HRX HC5 HB5
        go_wp2_with (at_builtin; refine wpList_append_run rfl _ _ _ rfl _ _ v7 rfl rfl hrun ?_)
        clear hrun
        have hsh7 : ∃ a c, v7 = .slice a P.length c := by
          rcases HR7.out with ⟨h, a, c, hv⟩ | ⟨b, o, c, hv, _⟩
          · exact ⟨a, c, by rw [hv, h]; rfl⟩
          · exact ⟨_, _, hv⟩
        obtain ⟨a7, c7, rfl⟩ := hsh7
        have HT7 := hide (ht.below (by omega) HB7.out)
        have H3' := H3 w7 HT7.out
        clear HT6 HB6 H3
        go_wp2_with fail
        refine Calls.mono H3'.out ?_
        rintro e w8 ⟨v8, rfl, ho8, hb8⟩
        obtain ⟨a8, c8, rfl⟩ := slice_of ho8
        have hs8 := same_any _ _ P P _ (RT.of_own ho8) (HR7.out.below hb8) (by unfold maxLen; omega) (by unfold maxLen; omega)
        have HS8 := hide hs8
        have HB8 := hide (HB7.out.trans (hb8.mono HB7.out.size))
        clear hs8 ho8 hb8 H3' HR7 HB7
        go_wp2_with fail
        refine Calls.mono HS8.out ?_
        rintro e w9 ⟨rfl, hd9⟩
        have HB9 := hide (HB8.out.trans ((below_drawn hd9).mono HB8.out.size))
        have H4' := H4 w9 (ht.below (by omega) HB9.out)
        clear HS8 hd9 HB8 H4
        go_wp2_with fail
        refine Calls.mono H4'.out ?_
        rintro e w10 ⟨rfl, hb10⟩
        have HB10 := hide (HB9.out.trans (hb10.mono HB9.out.size))
        have H5' := H5 w10 (ht.below (by omega) HB10.out)
        have e2 := fun W => where_eql US UQ.toNat US UQ.toNat W
        clear H4' hb10 HB9 H5
        go_wp2_with fail
        refine Calls.mono H5'.out ?_
        rintro e w11 ⟨rfl, hb11⟩
        have HB11 := hide (HB10.out.trans (hb11.mono HB10.out.size))
        clear H5' hb11 HB10
        go_wp2_with fail
        go_ret
        exact ⟨by simp, HB11.out⟩
    · have hpos : 0 < s.length := List.length_pos_iff.2 h0
      have hS : s.isEmpty = false := by cases s with
        | nil => exact absurd rfl h0
        | cons _ _ => rfl
      have hp1 : (1 : Int) ≤ (s.length : Int) := by omega
      have hp2 : (s.length : Int) - 1 < (s.length : Int) := by omega
      obtain ⟨x, hx⟩ : ∃ x, s[s.length - 1] = x := ⟨_, rfl⟩
      have hlx := last_get s hpos x hx
      have HLX := hide hlx
      clear hlx
      by_cases q : x = 32
      · have q1 : ((x.toNat : Int) == 32) = true := u8t q
        clear q
        go_wp2_with fail
        go_ret
        exact ⟨rfl, HB4.out⟩
      have q1 : ((x.toNat : Int) == 32) = false := u8f q
      by_cases q9 : 9 ≤ x.toNat
      · by_cases q13 : x.toNat ≤ 13
        · have r1 : (9 : Int) ≤ (x.toNat : Int) := by omega
          have r2 : (x.toNat : Int) ≤ 13 := by omega
          clear q q9 q13
          go_wp2_with fail
          go_ret
          exact ⟨rfl, HB4.out⟩
        · have hl : ∀ c, s.getLast? = some c → c ≠ 32 ∧ ¬ (9 ≤ c.toNat ∧ c.toNat ≤ 13) := fun c h => by rw [HLX.out c h]; exact ⟨q, fun h => q13 h.2⟩
          have HL := hide hl
          have r1 : (9 : Int) ≤ (x.toNat : Int) := by omega
          have r2 : ¬ (x.toNat : Int) ≤ 13 := by omega
          clear q q9 q13 hl HLX
          go_wp2_with fail
          obtain ⟨j1, j2⟩ := Cssp.read_join s u HVS.out HVU.out (show (Cssp.read' s).w = _ from HWA.out) HL.out
          have hcl := Cssp.read_count s
          have hcm := Cssp.read_count u
          have K1 := tokens_ s w4 HT4.out (by omega)
          have K2 := fun W (hT : Tab W) => tokens_ u W hT (by omega)
          have K3 := fun W (hT : Tab W) => tokens_ (s ++ u) W hT (by rw [List.length_append]; omega)
          have K4 := fun W (hT : Tab W) => where_ (s ++ u) W hT (by rw [List.length_append]; omega)
          have K5 := fun W (hT : Tab W) => where_ u W hT (by omega)
          rw [show (Cssp.read (s ++ u)).l = (Cssp.read s).l ++ (Cssp.read u).l from j1] at K3
          rw [show (Cssp.read (s ++ u)).w = (Cssp.read u).w from j2] at K4
          obtain ⟨L, hL⟩ : ∃ L, (Cssp.read s).l = L := ⟨_, rfl⟩
          obtain ⟨M, hM⟩ : ∃ M, (Cssp.read u).l = M := ⟨_, rfl⟩
          obtain ⟨U, hU⟩ : ∃ U, (Cssp.read u).w = U := ⟨_, rfl⟩
          rw [hL] at hcl K1 K3
          rw [hM] at hcm K2 K3
          rw [hU] at K4 K5
          obtain ⟨US, UQ⟩ := U
          have H1 := hide K1
          have H2 := fun W hT => hide (K2 W hT)
          have H4 := fun W hT => hide (K4 W hT)
          have H5 := fun W hT => hide (K5 W hT)
          have hn3 : ¬ 9223372036854775807 < s.length + u.length := by omega
          have hlm : (L ++ M).length ≤ 1048576 := by rw [List.length_append]; omega
          obtain ⟨P, hP⟩ : ∃ P, L ++ M = P := ⟨_, rfl⟩
          have HP := hide hP
          rw [hP] at K3 hlm
          have H3 := fun W hT => hide (K3 W hT)
          clear hP
          clear K1 K2 K3 K4 K5 j1 j2 hL hM hU HL HVS HVU HWA e1
          refine Calls.mono H1.out ?_
          rintro e w5 ⟨vx, rfl, ho5, hb5⟩
          have HT5 := hide (HT4.out.below (by have := HB4.out.size; omega) hb5)
          have HB5 := hide (HB4.out.trans (hb5.mono HB4.out.size))
          have H2' := hide (H2 w5 HT5.out).out
          have HRX := hide (RT.of_own ho5)
          have hcell5 : ∀ g cap, vx = .slice (some ⟨g, 0, none⟩) L.length cap → ∀ (j : Nat) y, (tokCells L)[j]? = some y → w5.cell? ⟨g, j, none⟩ = some y := fun g cap hv j y hy => by
            have := ho5.cells (g := g) (by rw [hv]; rfl) j y hy
            rwa [show (⟨g, 0, none⟩ : Addr).add j = ⟨g, j, none⟩ by unfold Addr.add; split <;> simp_all] at this
          have hform : (vx = .slice none 0 0 ∧ L = []) ∨ ∃ g cap, vx = .slice (some ⟨g, 0, none⟩) L.length cap ∧ L.length ≤ cap := by
            rcases ho5.2 with ⟨hv, h0⟩ | ⟨g, cap, cur, hv, _, _, hle, _⟩
            · exact .inl ⟨hv, List.eq_nil_of_length_eq_zero h0⟩
            · exact .inr ⟨g, cap, hv, hle⟩
          have HC5 := hide hcell5
          clear H1 H2 ho5 hb5 HB4 HT4 hcell5
          rcases hform with ⟨rfl, rfl⟩ | ⟨g, cap, rfl, hcap⟩
          · go_wp2_with fail
            refine Calls.mono H2'.out ?_
            rintro e w6 ⟨vy, rfl, ho6, hb6⟩
            obtain ⟨ay, cy, rfl⟩ := slice_of ho6
            have HT6 := hide (HT5.out.below (by have := HB5.out.size; omega) hb6)
            have HB6 := hide (HB5.out.trans (hb6.mono HB5.out.size))
            have hRX6 := HRX.out.below hb6
            obtain ⟨v7, w7, hrun, hr7, hb7⟩ := app_run none (.slice ay M.length cy) [] M w6 (.inl ⟨rfl, rfl⟩) hRX6 (RT.of_own ho6) (by simp) (by omega)
            rw [HP.out] at hr7
            have hrun' : (Builtin.append_ #[23, 23] 23 #[.slice none 0 0, .slice ay M.length cy]).run Tryz.prog w6 = .ok v7 w7 := hrun
            have HR7 := hide hr7
            have HB7 := hide (HB6.out.trans (hb7.mono HB6.out.size))
            clear hr7 hb7 hRX6 H2' ho6 hb6 HRX HC5 HB5 hrun
            go_wp2_with (at_builtin; refine wpList_append_run rfl _ _ _ rfl _ _ v7 rfl rfl hrun' ?_)
            clear hrun'
            have hsh7 : ∃ a c, v7 = .slice a P.length c := by
              rcases HR7.out with ⟨h, a, c, hv⟩ | ⟨b, o, c, hv, _⟩
              · exact ⟨a, c, by rw [hv, h]; rfl⟩
              · exact ⟨_, _, hv⟩
            obtain ⟨a7, c7, rfl⟩ := hsh7
            have HT7 := hide (ht.below (by omega) HB7.out)
            have H3' := H3 w7 HT7.out
            clear HT6 HB6 H3
            go_wp2_with fail
            refine Calls.mono H3'.out ?_
            rintro e w8 ⟨v8, rfl, ho8, hb8⟩
            obtain ⟨a8, c8, rfl⟩ := slice_of ho8
            have hs8 := same_any _ _ P P _ (RT.of_own ho8) (HR7.out.below hb8) (by unfold maxLen; omega) (by unfold maxLen; omega)
            have HS8 := hide hs8
            have HB8 := hide (HB7.out.trans (hb8.mono HB7.out.size))
            clear hs8 ho8 hb8 H3' HR7 HB7
            go_wp2_with fail
            refine Calls.mono HS8.out ?_
            rintro e w9 ⟨rfl, hd9⟩
            have HB9 := hide (HB8.out.trans ((below_drawn hd9).mono HB8.out.size))
            have H4' := H4 w9 (ht.below (by omega) HB9.out)
            clear HS8 hd9 HB8 H4
            go_wp2_with fail
            refine Calls.mono H4'.out ?_
            rintro e w10 ⟨rfl, hb10⟩
            have HB10 := hide (HB9.out.trans (hb10.mono HB9.out.size))
            have H5' := H5 w10 (ht.below (by omega) HB10.out)
            have e2 := fun W => where_eql US UQ.toNat US UQ.toNat W
            clear H4' hb10 HB9 H5
            go_wp2_with fail
            refine Calls.mono H5'.out ?_
            rintro e w11 ⟨rfl, hb11⟩
            have HB11 := hide (HB10.out.trans (hb11.mono HB10.out.size))
            clear H5' hb11 HB10
            go_wp2_with fail
            go_ret
            exact ⟨by simp, HB11.out⟩
          · have hcap1 : (L.length : Int) ≤ (cap : Int) := by omega
            go_wp2_with fail
            refine Calls.mono H2'.out ?_
            rintro e w6 ⟨vy, rfl, ho6, hb6⟩
            obtain ⟨ay, cy, rfl⟩ := slice_of ho6
            have HT6 := hide (HT5.out.below (by have := HB5.out.size; omega) hb6)
            have HB6 := hide (HB5.out.trans (hb6.mono HB5.out.size))
            have hRX6 := HRX.out.below hb6
            have hcells6 : ∀ (j : Nat) y, (tokCells L)[j]? = some y → w6.cell? ⟨g, j, none⟩ = some y := fun j y hy => cell_below (HC5.out g cap rfl j y hy) hb6
            have hRX7 : RT w6 (.slice (some ⟨g, 0, none⟩) L.length L.length) L := by
              rcases hRX6 with ⟨rfl, a, c, hv⟩ | ⟨b, o, c, hv, hb, hc⟩
              · exact .inl ⟨rfl, _, _, rfl⟩
              · injection hv with hv _ _
                injection hv with hv
                injection hv with hv1 hv2
                subst hv1 hv2
                exact .inr ⟨_, _, _, rfl, hb, hc⟩
            obtain ⟨v7, w7, hrun, hr7, hb7⟩ := app_run (some ⟨g, 0, none⟩) (.slice ay M.length cy) L M w6 (.inr ⟨g, rfl, hcells6⟩) hRX7 (RT.of_own ho6) (by omega) (by omega)
            rw [HP.out] at hr7
            have HR7 := hide hr7
            have HB7 := hide (HB6.out.trans (hb7.mono HB6.out.size))
            clear hr7 hb7 hRX7 hcells6 hRX6 H2' ho6 hb6 HRX HC5 HB5
            go_wp2_with (at_builtin; refine wpList_append_run rfl _ _ _ rfl _ _ v7 rfl rfl hrun ?_)
            clear hrun
            have hsh7 : ∃ a c, v7 = .slice a P.length c := by
              rcases HR7.out with ⟨h, a, c, hv⟩ | ⟨b, o, c, hv, _⟩
              · exact ⟨a, c, by rw [hv, h]; rfl⟩
              · exact ⟨_, _, hv⟩
            obtain ⟨a7, c7, rfl⟩ := hsh7
            have HT7 := hide (ht.below (by omega) HB7.out)
            have H3' := H3 w7 HT7.out
            clear HT6 HB6 H3
            go_wp2_with fail
            refine Calls.mono H3'.out ?_
            rintro e w8 ⟨v8, rfl, ho8, hb8⟩
            obtain ⟨a8, c8, rfl⟩ := slice_of ho8
            have hs8 := same_any _ _ P P _ (RT.of_own ho8) (HR7.out.below hb8) (by unfold maxLen; omega) (by unfold maxLen; omega)
            have HS8 := hide hs8
            have HB8 := hide (HB7.out.trans (hb8.mono HB7.out.size))
            clear hs8 ho8 hb8 H3' HR7 HB7
            go_wp2_with fail
            refine Calls.mono HS8.out ?_
            rintro e w9 ⟨rfl, hd9⟩
            have HB9 := hide (HB8.out.trans ((below_drawn hd9).mono HB8.out.size))
            have H4' := H4 w9 (ht.below (by omega) HB9.out)
            clear HS8 hd9 HB8 H4
            go_wp2_with fail
            refine Calls.mono H4'.out ?_
            rintro e w10 ⟨rfl, hb10⟩
            have HB10 := hide (HB9.out.trans (hb10.mono HB9.out.size))
            have H5' := H5 w10 (ht.below (by omega) HB10.out)
            have e2 := fun W => where_eql US UQ.toNat US UQ.toNat W
            clear H4' hb10 HB9 H5
            go_wp2_with fail
            refine Calls.mono H5'.out ?_
            rintro e w11 ⟨rfl, hb11⟩
            have HB11 := hide (HB10.out.trans (hb11.mono HB10.out.size))
            clear H5' hb11 HB10
            go_wp2_with fail
            go_ret
            exact ⟨by simp, HB11.out⟩
      · have hl : ∀ c, s.getLast? = some c → c ≠ 32 ∧ ¬ (9 ≤ c.toNat ∧ c.toNat ≤ 13) := fun c h => by rw [HLX.out c h]; exact ⟨q, fun h => q9 h.1⟩
        have HL := hide hl
        have r1 : decide ((9 : Int) ≤ (x.toNat : Int)) = false := by rw [decide_eq_false_iff_not]; omega
        clear q q9 hl HLX
        go_wp2_with fail
        obtain ⟨j1, j2⟩ := Cssp.read_join s u HVS.out HVU.out (show (Cssp.read' s).w = _ from HWA.out) HL.out
        have hcl := Cssp.read_count s
        have hcm := Cssp.read_count u
        have K1 := tokens_ s w4 HT4.out (by omega)
        have K2 := fun W (hT : Tab W) => tokens_ u W hT (by omega)
        have K3 := fun W (hT : Tab W) => tokens_ (s ++ u) W hT (by rw [List.length_append]; omega)
        have K4 := fun W (hT : Tab W) => where_ (s ++ u) W hT (by rw [List.length_append]; omega)
        have K5 := fun W (hT : Tab W) => where_ u W hT (by omega)
        rw [show (Cssp.read (s ++ u)).l = (Cssp.read s).l ++ (Cssp.read u).l from j1] at K3
        rw [show (Cssp.read (s ++ u)).w = (Cssp.read u).w from j2] at K4
        obtain ⟨L, hL⟩ : ∃ L, (Cssp.read s).l = L := ⟨_, rfl⟩
        obtain ⟨M, hM⟩ : ∃ M, (Cssp.read u).l = M := ⟨_, rfl⟩
        obtain ⟨U, hU⟩ : ∃ U, (Cssp.read u).w = U := ⟨_, rfl⟩
        rw [hL] at hcl K1 K3
        rw [hM] at hcm K2 K3
        rw [hU] at K4 K5
        obtain ⟨US, UQ⟩ := U
        have H1 := hide K1
        have H2 := fun W hT => hide (K2 W hT)
        have H4 := fun W hT => hide (K4 W hT)
        have H5 := fun W hT => hide (K5 W hT)
        have hn3 : ¬ 9223372036854775807 < s.length + u.length := by omega
        have hlm : (L ++ M).length ≤ 1048576 := by rw [List.length_append]; omega
        obtain ⟨P, hP⟩ : ∃ P, L ++ M = P := ⟨_, rfl⟩
        have HP := hide hP
        rw [hP] at K3 hlm
        have H3 := fun W hT => hide (K3 W hT)
        clear hP
        clear K1 K2 K3 K4 K5 j1 j2 hL hM hU HL HVS HVU HWA e1
        refine Calls.mono H1.out ?_
        rintro e w5 ⟨vx, rfl, ho5, hb5⟩
        have HT5 := hide (HT4.out.below (by have := HB4.out.size; omega) hb5)
        have HB5 := hide (HB4.out.trans (hb5.mono HB4.out.size))
        have H2' := hide (H2 w5 HT5.out).out
        have HRX := hide (RT.of_own ho5)
        have hcell5 : ∀ g cap, vx = .slice (some ⟨g, 0, none⟩) L.length cap → ∀ (j : Nat) y, (tokCells L)[j]? = some y → w5.cell? ⟨g, j, none⟩ = some y := fun g cap hv j y hy => by
          have := ho5.cells (g := g) (by rw [hv]; rfl) j y hy
          rwa [show (⟨g, 0, none⟩ : Addr).add j = ⟨g, j, none⟩ by unfold Addr.add; split <;> simp_all] at this
        have hform : (vx = .slice none 0 0 ∧ L = []) ∨ ∃ g cap, vx = .slice (some ⟨g, 0, none⟩) L.length cap ∧ L.length ≤ cap := by
          rcases ho5.2 with ⟨hv, h0⟩ | ⟨g, cap, cur, hv, _, _, hle, _⟩
          · exact .inl ⟨hv, List.eq_nil_of_length_eq_zero h0⟩
          · exact .inr ⟨g, cap, hv, hle⟩
        have HC5 := hide hcell5
        clear H1 H2 ho5 hb5 HB4 HT4 hcell5
        rcases hform with ⟨rfl, rfl⟩ | ⟨g, cap, rfl, hcap⟩
        · go_wp2_with fail
          refine Calls.mono H2'.out ?_
          rintro e w6 ⟨vy, rfl, ho6, hb6⟩
          obtain ⟨ay, cy, rfl⟩ := slice_of ho6
          have HT6 := hide (HT5.out.below (by have := HB5.out.size; omega) hb6)
          have HB6 := hide (HB5.out.trans (hb6.mono HB5.out.size))
          have hRX6 := HRX.out.below hb6
          obtain ⟨v7, w7, hrun, hr7, hb7⟩ := app_run none (.slice ay M.length cy) [] M w6 (.inl ⟨rfl, rfl⟩) hRX6 (RT.of_own ho6) (by simp) (by omega)
          rw [HP.out] at hr7
          have hrun' : (Builtin.append_ #[23, 23] 23 #[.slice none 0 0, .slice ay M.length cy]).run Tryz.prog w6 = .ok v7 w7 := hrun
          have HR7 := hide hr7
          have HB7 := hide (HB6.out.trans (hb7.mono HB6.out.size))
          clear hr7 hb7 hRX6 H2' ho6 hb6 HRX HC5 HB5 hrun
          go_wp2_with (at_builtin; refine wpList_append_run rfl _ _ _ rfl _ _ v7 rfl rfl hrun' ?_)
          clear hrun'
          have hsh7 : ∃ a c, v7 = .slice a P.length c := by
            rcases HR7.out with ⟨h, a, c, hv⟩ | ⟨b, o, c, hv, _⟩
            · exact ⟨a, c, by rw [hv, h]; rfl⟩
            · exact ⟨_, _, hv⟩
          obtain ⟨a7, c7, rfl⟩ := hsh7
          have HT7 := hide (ht.below (by omega) HB7.out)
          have H3' := H3 w7 HT7.out
          clear HT6 HB6 H3
          go_wp2_with fail
          refine Calls.mono H3'.out ?_
          rintro e w8 ⟨v8, rfl, ho8, hb8⟩
          obtain ⟨a8, c8, rfl⟩ := slice_of ho8
          have hs8 := same_any _ _ P P _ (RT.of_own ho8) (HR7.out.below hb8) (by unfold maxLen; omega) (by unfold maxLen; omega)
          have HS8 := hide hs8
          have HB8 := hide (HB7.out.trans (hb8.mono HB7.out.size))
          clear hs8 ho8 hb8 H3' HR7 HB7
          go_wp2_with fail
          refine Calls.mono HS8.out ?_
          rintro e w9 ⟨rfl, hd9⟩
          have HB9 := hide (HB8.out.trans ((below_drawn hd9).mono HB8.out.size))
          have H4' := H4 w9 (ht.below (by omega) HB9.out)
          clear HS8 hd9 HB8 H4
          go_wp2_with fail
          refine Calls.mono H4'.out ?_
          rintro e w10 ⟨rfl, hb10⟩
          have HB10 := hide (HB9.out.trans (hb10.mono HB9.out.size))
          have H5' := H5 w10 (ht.below (by omega) HB10.out)
          have e2 := fun W => where_eql US UQ.toNat US UQ.toNat W
          clear H4' hb10 HB9 H5
          go_wp2_with fail
          refine Calls.mono H5'.out ?_
          rintro e w11 ⟨rfl, hb11⟩
          have HB11 := hide (HB10.out.trans (hb11.mono HB10.out.size))
          clear H5' hb11 HB10
          go_wp2_with fail
          go_ret
          exact ⟨by simp, HB11.out⟩
        · have hcap1 : (L.length : Int) ≤ (cap : Int) := by omega
          go_wp2_with fail
          refine Calls.mono H2'.out ?_
          rintro e w6 ⟨vy, rfl, ho6, hb6⟩
          obtain ⟨ay, cy, rfl⟩ := slice_of ho6
          have HT6 := hide (HT5.out.below (by have := HB5.out.size; omega) hb6)
          have HB6 := hide (HB5.out.trans (hb6.mono HB5.out.size))
          have hRX6 := HRX.out.below hb6
          have hcells6 : ∀ (j : Nat) y, (tokCells L)[j]? = some y → w6.cell? ⟨g, j, none⟩ = some y := fun j y hy => cell_below (HC5.out g cap rfl j y hy) hb6
          have hRX7 : RT w6 (.slice (some ⟨g, 0, none⟩) L.length L.length) L := by
            rcases hRX6 with ⟨rfl, a, c, hv⟩ | ⟨b, o, c, hv, hb, hc⟩
            · exact .inl ⟨rfl, _, _, rfl⟩
            · injection hv with hv _ _
              injection hv with hv
              injection hv with hv1 hv2
              subst hv1 hv2
              exact .inr ⟨_, _, _, rfl, hb, hc⟩
          obtain ⟨v7, w7, hrun, hr7, hb7⟩ := app_run (some ⟨g, 0, none⟩) (.slice ay M.length cy) L M w6 (.inr ⟨g, rfl, hcells6⟩) hRX7 (RT.of_own ho6) (by omega) (by omega)
          rw [HP.out] at hr7
          have HR7 := hide hr7
          have HB7 := hide (HB6.out.trans (hb7.mono HB6.out.size))
          clear hr7 hb7 hRX7 hcells6 hRX6 H2' ho6 hb6 HRX HC5 HB5
          go_wp2_with (at_builtin; refine wpList_append_run rfl _ _ _ rfl _ _ v7 rfl rfl hrun ?_)
          clear hrun
          have hsh7 : ∃ a c, v7 = .slice a P.length c := by
            rcases HR7.out with ⟨h, a, c, hv⟩ | ⟨b, o, c, hv, _⟩
            · exact ⟨a, c, by rw [hv, h]; rfl⟩
            · exact ⟨_, _, hv⟩
          obtain ⟨a7, c7, rfl⟩ := hsh7
          have HT7 := hide (ht.below (by omega) HB7.out)
          have H3' := H3 w7 HT7.out
          clear HT6 HB6 H3
          go_wp2_with fail
          refine Calls.mono H3'.out ?_
          rintro e w8 ⟨v8, rfl, ho8, hb8⟩
          obtain ⟨a8, c8, rfl⟩ := slice_of ho8
          have hs8 := same_any _ _ P P _ (RT.of_own ho8) (HR7.out.below hb8) (by unfold maxLen; omega) (by unfold maxLen; omega)
          have HS8 := hide hs8
          have HB8 := hide (HB7.out.trans (hb8.mono HB7.out.size))
          clear hs8 ho8 hb8 H3' HR7 HB7
          go_wp2_with fail
          refine Calls.mono HS8.out ?_
          rintro e w9 ⟨rfl, hd9⟩
          have HB9 := hide (HB8.out.trans ((below_drawn hd9).mono HB8.out.size))
          have H4' := H4 w9 (ht.below (by omega) HB9.out)
          clear HS8 hd9 HB8 H4
          go_wp2_with fail
          refine Calls.mono H4'.out ?_
          rintro e w10 ⟨rfl, hb10⟩
          have HB10 := hide (HB9.out.trans (hb10.mono HB9.out.size))
          have H5' := H5 w10 (ht.below (by omega) HB10.out)
          have e2 := fun W => where_eql US UQ.toNat US UQ.toNat W
          clear H4' hb10 HB9 H5
          go_wp2_with fail
          refine Calls.mono H5'.out ?_
          rintro e w11 ⟨rfl, hb11⟩
          have HB11 := hide (HB10.out.trans (hb11.mono HB10.out.size))
          clear H5' hb11 HB10
          go_wp2_with fail
          go_ret
          exact ⟨by simp, HB11.out⟩
  · have e1 : ∀ W, Sem.run Tryz.prog (binOp .neq 36 (.agg #[.int .u8 WS, .int .u8 WQ.toNat]) (.agg #[.int .u8 1, .int .u8 0])) W = .ok (.bool true) W := fun W => by
      rw [where_neq]
      have : ((WS : Int) == 1 && (WQ.toNat : Int) == 0) = false := by
        rw [Bool.eq_false_iff]
        intro h
        rw [Bool.and_eq_true, beq_iff_eq, beq_iff_eq] at h
        exact hpl ⟨by omega, UInt8.toNat_inj.1 (by rw [show (0 : UInt8).toNat = 0 from rfl]; omega)⟩
      rw [this]; rfl
    clear hpl
    go_wp2_with fail
    go_ret
    exact ⟨rfl, HB4.out⟩
end Go.Proofs.YtojgcangnkjmjaaGreatDoor
