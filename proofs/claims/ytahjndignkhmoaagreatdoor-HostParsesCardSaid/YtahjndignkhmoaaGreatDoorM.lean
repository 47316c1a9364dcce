/- An address of four as two groups, read. -/
import Derived.Test.YtahjndignkhmoaaGreatDoorL
import Derived.LoopN
import Derived.Shelf.Pu.ParseUintPublic10
namespace Go.Proofs.YtahjndignkhmoaaGreatDoor
open Go.RowKit

def Pu8End (t : List UInt8) (e : Ending) : Prop := (∃ u : Nat, Lib.parseUintB 8 t = .ok u ∧ e = .returned (.tuple #[.int .u64 u, .nilIface])) ∨ ((∀ u, Lib.parseUintB 8 t ≠ .ok u) ∧ ∃ n ty p, e = .returned (.tuple #[.int .u64 n, .iface ty p]))
theorem sPU8 (t : List UInt8) (w : World) (ht : Tab w) (hl : t.length ≤ 4194304) :
    Calls Tryz.prog 58 #[S t, .int .i64 10, .int .i64 8] w fun e w' => Pu8End t e ∧ Below w.heap.size w w' := by
  obtain ⟨t1, p1, h1⟩ := ht.syn
  obtain ⟨t2, p2, h2⟩ := ht.rng
  cases hp : Lib.parseUintB 8 t
  · refine (Tryz.strconv_ParseUint_10_at8_ok ⟨t.toArray⟩ (by rw [bl_size]; omega) _ hp w).mono ?_
    rintro e w' ⟨rfl, h⟩
    refine ⟨.inl ⟨_, hp, rfl⟩, ?_⟩
    rcases h with rfl | rfl
    · exact Below.refl _ _
    · exact below_bytes _ _ _
  · refine (Any.strconv_ParseUint_10_at8_syntax Tryz.laysPu14 ⟨t.toArray⟩ (by rw [bl_size]; omega) hp _ w h1 (.inr ⟨_, _, rfl⟩)).mono ?_
    rintro e w' ⟨N, rfl, _, _, h⟩
    exact ⟨.inr ⟨fun u h => (by rw [hp] at h; cases h), 0, _, _, rfl⟩, h⟩
  · refine (Tryz.strconv_ParseUint_10_at8_range ⟨t.toArray⟩ (by rw [bl_size]; omega) hp _ w h2 (.inr ⟨_, _, rfl⟩)).mono ?_
    rintro e w' ⟨N, rfl, _, _, h⟩
    exact ⟨.inr ⟨fun u h => (by rw [hp] at h; cases h), 255, _, _, rfl⟩, h⟩
theorem sItoa (u : Nat) (hu : u < 256) (w : World) (ht : Tab w) : Calls Tryz.prog 38 #[.int .i64 u] w (Fresh (S (Lib.decDigits u)) w) :=
  (Tryz.strconv_Itoa (u : Int) (by omega) (by omega) w ht.pow).mono fun e w' h => by
    obtain ⟨h1, k, os, h2⟩ := h
    refine ⟨by rw [h1, Lib.itoa_nonneg], ?_⟩
    rw [h2]
    exact ⟨rfl, rfl, rfl, by show w.heap.size ≤ (w.heap ++ os).size; rw [Array.size_append]; omega, fun j hj => Sort.heap_grow_old _ os hj⟩

theorem or16b (a b : Int) (h0 : 0 ≤ a) (h1 : a < 256) (h2 : 0 ≤ b) (h3 : b < 256) : bits BinOp.or .u16 (a * 256) b = a * 256 + b := by
  obtain ⟨A, rfl⟩ := Int.eq_ofNat_of_zero_le h0
  obtain ⟨B, rfl⟩ := Int.eq_ofNat_of_zero_le h2
  have := u16_or_nat (A * 256) B (by omega) (by omega)
  rw [show ((A * 256 : Nat) : Int) = (A : Int) * 256 by omega] at this
  rw [this, Nat.mul_comm A 256, show (256 : Nat) = 2 ^ 8 from rfl, ← Nat.two_pow_add_eq_or_of_lt (show B < 2 ^ 8 by omega)]
  omega

/-- numbers in a block -/
def Nums (w : World) (B m : Nat) (T : TypeId) (ns : List Int) : Prop := ∃ C : Array Value, w.heap[B]? = some (Obj.cells C T (0, 0)) ∧ C.size = m ∧ ∀ j (h : j < ns.length), C[j]? = some (.int .u16 ns[j])
theorem Nums.cell {w : World} {B m : Nat} {T : TypeId} {ns : List Int} (h : Nums w B m T ns) (j : Nat) (hj : j < ns.length) : w.cell? ⟨B, j, none⟩ = some (.int .u16 ns[j]) := by
  obtain ⟨C, h1, h2, h3⟩ := h
  rw [Lib.cell_of_heap h1]; exact h3 j hj
theorem Nums.some {w : World} {B m : Nat} {T : TypeId} {ns : List Int} (h : Nums w B m T ns) (j : Nat) (hj : j < m) : ∃ v, w.cell? ⟨B, j, none⟩ = some v := by
  obtain ⟨C, h1, h2, h3⟩ := h
  rw [Lib.cell_of_heap h1]; exact ⟨C[j], Array.getElem?_eq_getElem (by omega)⟩
theorem Nums.free {w : World} {B m : Nat} {T : TypeId} {ns : List Int} (h : Nums w B m T ns) (j : Nat) : w.frozen? ⟨B, j, none⟩ = false := by
  obtain ⟨C, h1, h2, h3⟩ := h
  simp [World.frozen?, h1]
theorem Nums.snoc {w : World} {B m : Nat} {T : TypeId} {ns : List Int} (h : Nums w B m T ns) (hm : ns.length < m) (u : Int) : Nums (w.setCell ⟨B, ns.length, none⟩ (.int .u16 u)) B m T (ns ++ [u]) := by
  obtain ⟨C, h1, h2, h3⟩ := h
  refine ⟨_, row_set h1 _ _, by simpa using h2, fun j hj => ?_⟩
  rw [List.length_append, List.length_singleton] at hj
  rw [Array.getElem?_setIfInBounds]
  by_cases e : ns.length = j
  · subst e
    rw [if_pos rfl, if_pos (by omega)]
    simp
  · rw [if_neg e, h3 j (by omega), List.getElem_append_left (by omega)]
theorem Nums.below {w w' : World} {B m : Nat} {T : TypeId} {ns : List Int} (h : Nums w B m T ns) (hb : Below w.heap.size w w') : Nums w' B m T ns := by
  obtain ⟨C, h1, h2, h3⟩ := h
  exact ⟨C, (hb.block B (heap_lt h1)).trans h1, h2, h3⟩

def fourL : List (List UInt8) → Option (List Int)
  | [a, b, c, d] => match Hostp.byteP a, Hostp.byteP b, Hostp.byteP c, Hostp.byteP d with
    | some a, some b, some c, some d => some [a * 256 + b, c * 256 + d]
    | _, _, _, _ => none
  | _ => none
theorem fourP_eq (s : List UInt8) : Hostp.fourP s = fourL (Hostp.splitOn 46 s) := by
  unfold Hostp.fourP fourL
  rfl
theorem fourL_len (xs : List (List UInt8)) (h : ¬ xs.length = 4) : fourL xs = none := by
  match xs, h with
  | [], _ => rfl
  | [_], _ => rfl
  | [_, _], _ => rfl
  | [_, _, _], _ => rfl
  | [_, _, _, _], h => exact absurd rfl h
  | _ :: _ :: _ :: _ :: _ :: _, _ => rfl
theorem four_none (xs : List (List UInt8)) (i : Nat) (t : List UInt8) (h : xs[i]? = some t) (hb : Hostp.byteP t = none) : fourL xs = none := by
  match xs, h with
  | [], _ => rfl
  | [_], _ => rfl
  | [_, _], _ => rfl
  | [_, _, _], _ => rfl
  | _ :: _ :: _ :: _ :: _ :: _, _ => rfl
  | [a, b, c, d], h =>
    show (match Hostp.byteP a, Hostp.byteP b, Hostp.byteP c, Hostp.byteP d with
      | some a, some b, some c, some d => some [a * 256 + b, c * 256 + d]
      | _, _, _, _ => none) = none
    match i, h with
    | 0, h =>
      obtain rfl : a = t := by simpa using h
      rw [hb]
    | 1, h =>
      obtain rfl : b = t := by simpa using h
      rw [hb]
      cases Hostp.byteP a <;> rfl
    | 2, h =>
      obtain rfl : c = t := by simpa using h
      rw [hb]
      cases Hostp.byteP a <;> cases Hostp.byteP b <;> rfl
    | 3, h =>
      obtain rfl : d = t := by simpa using h
      rw [hb]
      cases Hostp.byteP a <;> cases Hostp.byteP b <;> cases Hostp.byteP c <;> rfl
    | n + 4, h => simp at h
theorem four_some (xs : List (List UInt8)) (ns : List Int) (hl : xs.length = 4) (hn : ns.length = 4) (h : ∀ (j : Nat) (t : List UInt8) (n : Int), xs[j]? = some t → ns[j]? = some n → Hostp.byteP t = some n) :
    ∃ a b c d, ns = [a, b, c, d] ∧ fourL xs = some [a * 256 + b, c * 256 + d] := by
  match xs, hl, ns, hn with
  | [x0, x1, x2, x3], _, [a, b, c, d], _ =>
    refine ⟨a, b, c, d, rfl, ?_⟩
    have h0 := h 0 x0 a rfl rfl
    have h1 := h 1 x1 b rfl rfl
    have h2 := h 2 x2 c rfl rfl
    have h3 := h 3 x3 d rfl rfl
    simp [fourL, h0, h1, h2, h3]

/-- what gives up -/
abbrev broke : Ending := .panicked [{ v := .iface 63 (.agg #[]), recovered := false }]
/-- an address of four as two groups, or it gives up -/
def FourEnd (r : Option (List Int)) (B : Nat) (e : Ending) (w : World) : Prop :=
  (∃ x y g, r = some [x, y] ∧ 0 ≤ x ∧ x < 65536 ∧ 0 ≤ y ∧ y < 65536 ∧ B ≤ g ∧ e = .returned (.slice (some ⟨g, 0, none⟩) 2 2) ∧ w.cell? ⟨g, 0, none⟩ = some (.int .u16 x) ∧ w.cell? ⟨g, 1, none⟩ = some (.int .u16 y)) ∨ (r = none ∧ e = broke)

set_option maxHeartbeats 8000000 in
set_option maxRecDepth 100000 in
theorem hFour (s : List UInt8) (r : Option (List Int)) (w : World) (ht : Tab w) (hl : s.length ≤ 4194304) (hr : Hid (Hostp.fourP s = r)) :
    Calls Tryz.prog 62 #[S s] w fun e w' => FourEnd r w.heap.size e w' ∧ Below w.heap.size w w' := by
  obtain ⟨l0, l1⟩ := splitOn_len 46 s
  obtain ⟨m, hm⟩ := ht.max
  obtain ⟨xs, hxs⟩ : ∃ xs, Hostp.splitOn 46 s = xs := ⟨_, rfl⟩
  have hr2 := hr.out
  rw [fourP_eq, hxs] at hr2
  rw [hxs] at l0 l1
  have HXS := hide hxs
  have hmem : ∀ t ∈ xs, t.length ≤ s.length := fun t h => splitOn_mem 46 s t (by rw [hxs]; exact h)
  have HM := hide hmem
  have HR := hide hr2
  clear hxs hr hmem hr2
  go_enter Tryz.func62, Tryz.ntmps62
  go_wp2_with fail
  refine (sSplit 46 s m _ (by omega) hm xs HXS).mono ?_
  rintro e w2 ⟨rfl, ht2, hb2⟩
  obtain ⟨B, hB⟩ : ∃ B, w.heap.size = B := ⟨_, rfl⟩
  have htab : Tab w2 := ht.below hb2
  rw [hB] at ht2 hb2 ⊢
  have hs2 : B ≤ w2.heap.size := by rw [← hB]; exact hb2.size
  clear ht hm
  by_cases h4 : xs.length = 4
  · rw [h4]
    have H4 := hide h4
    have HT := hide ht2
    clear h4 ht2
    have hnew : (w2.alloc (.cells #[.int .u16 0, .int .u16 0, .int .u16 0, .int .u16 0] 121)).heap[w2.heap.size]? = some (.cells #[.int .u16 0, .int .u16 0, .int .u16 0, .int .u16 0] 121 (0, 0)) := heap_alloc_last _ _
    have hnb : Below w2.heap.size w2 (w2.alloc (.cells #[.int .u16 0, .int .u16 0, .int .u16 0, .int .u16 0] 121)) := (Below.refl _ _).alloc (Nat.le_refl _) _
    go_wp2_with fail
    obtain ⟨G, hG⟩ : ∃ G, w2.heap.size = G := ⟨_, rfl⟩
    obtain ⟨w3, hw3⟩ : ∃ x, x = w2.alloc (.cells #[.int .u16 0, .int .u16 0, .int .u16 0, .int .u16 0] 121) := ⟨_, rfl⟩
    rw [← hw3, hG] at hnew hnb ⊢
    have hG' := hide hG
    clear hw3
    go_loopg [18] 4 (fun g s18 wx => ∃ (i : Nat) (ns : List Int), i + g = 4 ∧ s18 = .int .i64 i ∧ ns.length = i ∧ Hid (∀ (j : Nat) (t : List UInt8) (n : Int), xs[j]? = some t → ns[j]? = some n → Hostp.byteP t = some n) ∧ Hid (∀ n ∈ ns, 0 ≤ n ∧ n < 256) ∧ Nums wx G 4 121 ns ∧ Below G w2 wx)
    case atStart => exact ⟨0, [], by omega, rfl, rfl, fun j t n _ h => by simp at h, fun n h => by simp at h, ⟨_, hnew, rfl, fun j h => by simp at h⟩, hnb⟩
    case round =>
      obtain ⟨i, ns, hi, rfl, hni, hP, hR, hN, hbx⟩ := hrel
      have hbw : Below B w wr := hb2.trans (hbx.mono (by omega))
      have htabx : Tab wr := htab.below (by rw [hG]; exact hbx)
      by_cases hlt : i < 4
      · obtain ⟨t, hxt⟩ : ∃ t, xs[i]? = some t := ⟨xs[i]'(by rw [H4.out]; exact hlt), List.getElem?_eq_getElem _⟩
        have hc : wr.cell? ⟨B, i, none⟩ = some (S t) := cell_below (HT.out i t hxt) (by rw [hG]; exact hbx)
        have htl := HM.out t (List.mem_of_getElem? hxt)
        have HX := hide hxt
        clear hxt hnew hnb
        go_wp2_with fail
        refine (sPU8 t _ htabx (by omega)).mono ?_
        rintro e w4 ⟨hE, hb4⟩
        have hs4 := hb4.size
        have hbw4 := hbw.trans (hb4.mono (by have := hbw.size; omega))
        rcases hE with ⟨u, hu, rfl⟩ | ⟨hno, n, ty, p, rfl⟩
        · obtain ⟨hu256, hby⟩ := Hostp.byte_ok t u hu
          have HBY := hide hby
          clear hby hu
          go_wp2_with fail
          refine (sItoa u hu256 _ (htabx.below hb4)).mono ?_
          rintro e w5 ⟨rfl, hb5⟩
          have hs5 := hb5.size
          have hbw5 := hbw4.trans (hb5.mono (by have := hbw.size; omega))
          have hN5 := (hN.below hb4).below hb5
          have hf5 := hN5.free i
          obtain ⟨v5, hv5⟩ := hN5.some i hlt
          by_cases hd : Lib.decDigits u = t
          · have hby := HBY.out
            rw [if_pos hd] at hby
            have HD := hide hd
            have HBY2 := hide hby
            have hd' : (!(Lib.decDigits u == t)) = false := by rw [hd]; simp
            clear hd hby HBY
            go_wp2_with fail
            have hN6 := hN5.snoc (by omega) (u : Int)
            rw [hni] at hN6
            go_roundg (gk - 1)
            case measure => omega
            case rel => exact ⟨i + 1, ns ++ [(u : Int)], by omega, by go_num, by simp [hni], fun j t' n h1 h2 => by
              rw [List.getElem?_append] at h2
              split at h2
              · exact hP.out j t' n h1 h2
              · rename_i hj
                have hj0 : j - ns.length = 0 := by
                  have := (List.getElem?_eq_some_iff.1 h2).1
                  simp at this; omega
                rw [hj0] at h2
                have hji : j = i := by omega
                subst hji
                rw [HX.out] at h1
                injection h1 with h1
                subst h1
                simp at h2
                rw [← h2]; exact HBY2.out, fun n hn => by
              rcases List.mem_append.1 hn with hn | hn
              · exact hR.out n hn
              · rw [List.mem_singleton.1 hn]; omega, hN6, ((hbx.trans (hb4.mono (by have := hbx.size; omega))).trans (hb5.mono (by have := hbx.size; omega))).setCell (Nat.le_refl _) _⟩
          · have hby := HBY.out
            rw [if_neg hd] at hby
            have hrn := HR.out
            rw [four_none xs i t HX.out hby] at hrn
            subst hrn
            have hd' : (!(Lib.decDigits u == t)) = true := by simpa using hd
            clear hd hby HBY
            go_wp2_with fail
            exact ⟨rfl, .inr ⟨rfl, rfl⟩, by rw [hB]; exact hbw5⟩
        · have hby := Hostp.byte_no t hno
          have hrn := HR.out
          rw [four_none xs i t HX.out hby] at hrn
          subst hrn
          clear hno hby
          go_wp2_with fail
          exact ⟨rfl, .inr ⟨rfl, rfl⟩, by rw [hB]; exact hbw4⟩
      · have e : i = 4 := by omega
        subst e
        obtain ⟨a, b, c, d, rfl, hres⟩ := four_some xs ns H4.out hni hP.out
        have ra := hR.out a (by simp)
        have rb := hR.out b (by simp)
        have rc := hR.out c (by simp)
        have rd := hR.out d (by simp)
        have c0 := hN.cell 0 (by simp)
        have c1 := hN.cell 1 (by simp)
        have c2 := hN.cell 2 (by simp)
        have c3 := hN.cell 3 (by simp)
        rw [HR.out] at hres
        subst hres
        simp only [List.getElem_cons_zero, List.getElem_cons_succ] at c0 c1 c2 c3
        have o1 := or16b a b ra.1 ra.2 rb.1 rb.2
        have o2 := or16b c d rc.1 rc.2 rd.1 rd.2
        clear HR hP hR
        go_wp2_with fail
        go_ret
        have hsb : B ≤ wr.heap.size := by have := hbw.size; omega
        rw [hB]
        refine ⟨.inl ⟨a * 256 + b, c * 256 + d, wr.heap.size, rfl, by omega, by omega, by omega, by omega, hsb, rfl, ?_, ?_⟩, hbw.alloc hsb _⟩
        · rw [World.cell?_alloc_at _ _ _ _ rfl]; rfl
        · rw [World.cell?_alloc_at _ _ _ _ rfl]; rfl
  · have h4' : ((xs.length : Int) == 4) = false := beq_eq_false_iff_ne.2 (by omega)
    have hrn := HR.out
    rw [fourL_len xs h4] at hrn
    subst hrn
    go_wp2_with fail
    exact ⟨rfl, .inr ⟨rfl, rfl⟩, by rw [hB]; exact hb2⟩
end Go.Proofs.YtahjndignkhmoaaGreatDoor
