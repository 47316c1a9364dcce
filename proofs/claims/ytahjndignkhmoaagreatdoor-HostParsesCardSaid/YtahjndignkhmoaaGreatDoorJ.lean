/- strings.IndexAny, strings.ContainsAny at an ASCII set for EVERY text; strings.ContainsFunc; a host of a scheme that is not special. -/
import Derived.Test.YtahjndignkhmoaaGreatDoorI
import Derived.Shelf.Strings.SlTrimAscii
import Derived.Lib.SpaceUEq
namespace Go.Proofs.YtahjndignkhmoaaGreatDoor
open Go.RowKit

theorem ascii_all {l : List UInt8} (h : l.all (fun b => decide (b.toNat < 128)) = true) : ∀ (j : Nat) b, l[j]? = some b → b.toNat < 128 := ascii_of_all h
theorem indexByte (l : List UInt8) (c : UInt8) (w : World) :
    Calls Tryz.prog 93 #[S l, B8 c] w (Ret (.int .i64 (Lib.indexByte l c)) w) :=
  (Tryz.strings_IndexByte ⟨l.toArray⟩ (c.toNat : Int) w).mono fun _ _ h => ⟨by rw [h.1]; simp, h.2.symm⟩

theorem quiet_add_left {P : Program} {f : FuncId} {args : Array Value} {w : World} {a n : Nat} {v : Value}
    (h : Calls P f args (w.drewN (a + n)) (Ret v (w.drewN (a + n)))) : Calls P f args (w.drewN (a + n)) fun e w'' => e = .returned v ∧ ∃ m, w'' = w.drewN (a + m) :=
  h.mono fun _ _ ⟨he, hm⟩ => ⟨he, n, hm.symm⟩

theorem indexByte_none : ∀ (l : List UInt8) (c : UInt8), (∀ b ∈ l, b ≠ c) → Lib.indexByte l c = -1
  | [], _, _ => rfl
  | b :: l, c, h => by
    have hb : (b == c) = false := beq_eq_false_iff_ne.2 (h b (by simp))
    have ih := indexByte_none l c (fun x hx => h x (by simp [hx]))
    unfold Lib.indexByte
    simp [hb, ih]

set_option maxRecDepth 1000000 in
/-- strings.IndexRune at a code point beyond ASCII in a text of ASCII: there is none -/
theorem indexRune_high (l : List UInt8) (r : Nat) (w : World) (_ : l.length < 4294967281) (ha : l.all (fun b => decide (b.toNat < 128)) = true) (h1 : 128 ≤ r) (h2 : r ≤ 2147483647) :
    Calls Tryz.prog 78 #[S l, .int .i32 (r : Int)] w (Fresh (.int .i64 (-1)) w) := by
  have hA : ∀ (j : Nat) b, l[j]? = some b → b.toNat < 128 := ascii_all ha
  have hw : ¬ ((r : Int) < 128) := by omega
  have h0 : (0 : Int) ≤ (r : Int) := by omega
  by_cases he : r = 65533
  · have her : (r : Int) = 65533 := by omega
    rw [her]
    have HA := hide hA
    clear her he hw h0 h1 h2
    clear hA ha
    go_enter Tryz.func78, Tryz.ntmps78
    go_wp2
    go_loopg [5, 6] l.length (fun g _ _ wx => ∃ i : Nat, i + g = l.length ∧ wx = w.iter ⟨l.toArray⟩ i)
    case atStart => exact ⟨0, by omega, rfl⟩
    case round =>
      obtain ⟨i, hi, rfl⟩ := hrel
      by_cases hlt : i < l.length
      · obtain ⟨x, hx⟩ : ∃ x, l[i] = x := ⟨_, rfl⟩
        have hx128 : x.toNat < 128 := HA.out i x (by rw [List.getElem?_eq_getElem hlt, hx])
        have hnx := fun ty => run_next_ascii (P := Tryz.prog) w ⟨l.toArray⟩ i ty (by rw [bl_size]; exact hlt) (by rw [bl_get, hx]; exact hx128)
        rw [bl_get, hx] at hnx
        have hne : ((x.toNat : Int) == 65533) = false := beq_eq_false_iff_ne.2 (by omega)
        clear hx
        go_wp2
        go_roundg (gk - 1)
        case measure => omega
        case rel => exact ⟨i + 1, by omega, rfl⟩
      · obtain rfl : i = l.length := by omega
        have hnx := fun ty => run_next_end (P := Tryz.prog) w ⟨l.toArray⟩ l.length ty (by rw [bl_size]; omega)
        go_wp2
        go_ret
        exact ⟨rfl, (Below.refl _ _).alloc (Nat.le_refl _) _⟩
  · have hne : ((r : Int) == 65533) = false := beq_eq_false_iff_ne.2 (by omega)
    have HA := hide ha
    clear hA ha
    have hvr := (Tryz.utf8_ValidRune (r : Int) w).mono (R' := Ret (.bool (Lib.validRune (r : Int))) w) fun _ _ h => ⟨h.1, h.2.symm⟩
    rw [show Lib.validRune (r : Int) = Utf8.valid (r : Int) by rw [validRune_eq]; rfl] at hvr
    cases hv : Utf8.valid (r : Int)
    · rw [hv] at hvr
      have HV := hide hvr
      clear hvr hv
      go_enter Tryz.func78, Tryz.ntmps78
      go_wp2_with (go_at_call 95; refine (Hid.out HV).mono ?_; rintro e w' ⟨rfl, rfl⟩)
      go_ret
      exact ⟨rfl, Below.refl _ _⟩
    · rw [hv] at hvr
      have HV := hide hvr
      obtain ⟨e1, e2, e3⟩ := encode_facts (r : Int) hv (by omega)
      obtain ⟨m, hm, hms⟩ := bl_of (Utf8.encode (r : Int))
      obtain ⟨q, x, rfl⟩ : ∃ q x, m = q ++ [x] := by
        have : m ≠ [] := by rintro rfl; rw [hms] at e1; simp at e1
        exact ⟨m.dropLast, m.getLast this, (List.dropLast_concat_getLast this).symm⟩
      have f1 : 1 ≤ q.length := by simp at hms; omega
      have f2 : q.length ≤ 3 := by simp at hms; omega
      have hx' : 128 ≤ x.toNat := by
        have e3' := e3 (by omega)
        have : (Utf8.encode (r : Int))[(Utf8.encode (r : Int)).size - 1]'(by omega) = x := by
          simp only [hms]
          have e : (⟨(q ++ [x]).toArray⟩ : ByteArray)[(q ++ [x]).length - 1]'(by rw [bl_size]; simp) = x := by rw [bl_get]; simp
          conv => rhs; rw [← e]
          congr 1
        rwa [this] at e3'
      have hxz : (128 : Int) ≤ (x.toNat : Int) := by omega
      clear e1 e2 e3 hvr hv hms
      by_cases hlong : q.length < l.length
      · obtain ⟨y, hy⟩ : ∃ y, l[q.length] = y := ⟨_, rfl⟩
        have hy' : y.toNat < 128 := by
          have := (List.all_eq_true.1 HA.out) y (by rw [← hy]; exact List.getElem_mem _)
          simpa using this
        have hyx2 : ((y.toNat : Int) != (x.toNat : Int)) = true := by rw [bne_iff_ne]; omega
        have hib : ∀ (t : List UInt8), (∀ b ∈ t, b ∈ l) → ∀ W, Calls Tryz.prog 93 #[S t, B8 x] W (Ret (.int .i64 (-1)) W) := fun t ht W => by
          have e := indexByte_none t x fun b hb hbx => by
            have := (List.all_eq_true.1 HA.out) b (ht b hb)
            rw [hbx] at this
            have : x.toNat < 128 := by simpa using this
            omega
          have c := indexByte t x W
          rw [e] at c
          exact c
        have HI := hide hib
        clear hib HA hx' hy'
        go_enter Tryz.func78, Tryz.ntmps78
        go_wp2_with (go_at_call 95; refine (Hid.out HV).mono ?_; rintro e w' ⟨rfl, rfl⟩)
        go_step3
        go_wp2_with fail
        clear hm hne he hw h0 h1 h2 HV
        go_loopg [9, 10] 0 (fun g s9 s10 wx => s9 = .int .i64 (q.length : Int) ∧ s10 = .int .i64 0 ∧ w = wx)
        case atStart => exact ⟨rfl, rfl, rfl⟩
        case round =>
          obtain ⟨rfl, rfl, rfl⟩ := hrel
          go_wp2_with fail
          go_step3
          go_wp2_with fail
          go_quiet (fail)
          go_wp2_with fail
          go_quiet ((go_at_call 93; exact quiet_add_left ((Hid.out HI) _ (fun b hb => List.mem_of_mem_drop hb) _)))
          go_wp2_with fail
          rw [Exit.noGoto_ret]
          go_ret
          exact ⟨rfl, belowN _ _⟩
      · go_enter Tryz.func78, Tryz.ntmps78
        go_wp2_with (go_at_call 95; refine (Hid.out HV).mono ?_; rintro e w' ⟨rfl, rfl⟩)
        go_step3
        go_wp2_with fail
        clear hm hne he hw h0 h1 h2 HV
        go_loopg [9, 10] 0 (fun g s9 s10 wx => s9 = .int .i64 (q.length : Int) ∧ s10 = .int .i64 0 ∧ w = wx)
        case atStart => exact ⟨rfl, rfl, rfl⟩
        case round =>
          obtain ⟨rfl, rfl, rfl⟩ := hrel
          go_wp2_with fail
          rw [Exit.noGoto_ret]
          go_ret
          exact ⟨rfl, Below.refl _ _⟩

/-- a code point beyond ASCII: its bytes are there, and none is ASCII -/
theorem decode_span (l : List UInt8) (i : Nat) (hi : i < l.length) (hx : 128 ≤ (l[i]'hi).toNat) :
    128 ≤ (Utf8.decode ⟨l.toArray⟩ i).1 ∧ (Utf8.decode ⟨l.toArray⟩ i).1 ≤ 2147483647 ∧ 1 ≤ (Utf8.decode ⟨l.toArray⟩ i).2 ∧ i + (Utf8.decode ⟨l.toArray⟩ i).2 ≤ l.length ∧
      ∀ j b, i ≤ j → j < i + (Utf8.decode ⟨l.toArray⟩ i).2 → l[j]? = some b → 128 ≤ b.toNat := by
  have h1 := decode_high ⟨l.toArray⟩ i (by rw [bl_size]; exact hi) (by rw [bl_get]; exact hx)
  have h2 := decode_le ⟨l.toArray⟩ i
  have hc := Lib.decodeN_conts (l.length - i) (l.getD i 0).toNat (l.getD (i + 1) 0).toNat (l.getD (i + 2) 0).toNat (l.getD (i + 3) 0).toNat
  rw [show Lib.decodeN (l.length - i) (l.getD i 0).toNat (l.getD (i + 1) 0).toNat (l.getD (i + 2) 0).toNat (l.getD (i + 3) 0).toNat = Utf8.decode ⟨l.toArray⟩ i from (Lib.decode_N ⟨l.toArray⟩ i).symm] at hc
  obtain ⟨c2, c3, c4, c5⟩ := hc
  refine ⟨h1.1, h2, h1.2, by omega, fun j b h3 h4 h5 => ?_⟩
  have hb : ∀ k, j = i + k → (l.getD (i + k) 0).toNat = b.toNat := fun k hk => by
    subst hk
    simp [List.getD, h5]
  by_cases e0 : j = i
  · subst e0
    rw [List.getElem?_eq_getElem hi] at h5
    injection h5 with h5
    rw [← h5]; exact hx
  · by_cases e1 : j = i + 1
    · have := hb 1 e1; have := c2 (by omega); omega
    · by_cases e2 : j = i + 2
      · have := hb 2 e2; have := c3 (by omega); omega
      · have e3 : j = i + 3 := by omega
        have := hb 3 e3; have := c4 (by omega); omega

theorem noAny_span {l chars : List UInt8} {i k : Nat} (h : Lib.NoAny l chars i) (hk : ∀ j b, i ≤ j → j < i + k → l[j]? = some b → 128 ≤ b.toNat) (ha : chars.all (fun b => decide (b.toNat < 128)) = true) :
    Lib.NoAny l chars (i + k) := fun j b hj hb => by
  by_cases e : j < i
  · exact h j b e hb
  · have h128 := hk j b (by omega) hj hb
    cases hc : chars.contains b
    · rfl
    · have hm : b ∈ chars := by simpa using hc
      have := (List.all_eq_true.1 ha) b hm
      have : b.toNat < 128 := by simpa using this
      omega

set_option maxHeartbeats 1000000 in
set_option maxRecDepth 1000000 in
theorem indexAny_short (l cs : List UInt8) (w : World) (h2 : 2 ≤ cs.length) (h8 : l.length ≤ 8) (hcs : cs.length < 4294967281) (ha : cs.all (fun b => decide (b.toNat < 128)) = true) :
    Calls Tryz.prog 50 #[S l, S cs] w (Fresh (.int .i64 (Lib.indexAny l cs)) w) := by
  have hemp : cs.isEmpty = false := by cases cs with | nil => simp at h2 | cons _ _ => rfl
  have hn1 : ((cs.length : Int) == 1) = false := beq_eq_false_iff_ne.2 (by omega)
  have h8z : decide ((8 : Int) < (l.length : Int)) = false := decide_eq_false (by omega)
  have hu := (Tryz.strings_shouldUseASCIISet (l.length : Int) w).mono (R' := Ret (.bool false) w) fun _ _ h => ⟨by rw [h.1, h8z], h.2.symm⟩
  have HU := hide hu
  clear hu
  have HA := hide ha
  clear ha
  go_enter Tryz.func50, Tryz.ntmps50
  go_wp2_with (go_at_call 79; refine (Hid.out HU).mono ?_; rintro e w' ⟨rfl, rfl⟩)
  go_loopg [9, 10] l.length (fun g _ _ wx => ∃ i : Nat, i + g ≤ l.length ∧ l.length ≤ i + g ∧ Hid (wx.heap[w.heap.size]? = some (.stringIter ⟨l.toArray⟩ i)) ∧ Below w.heap.size w wx ∧ Hid (Lib.NoAny l cs i))
  case atStart => exact ⟨0, by omega, by omega, World.iter_heap _ _ _, (Below.refl _ _).alloc (Nat.le_refl _) _, Lib.NoAny.zero _ _⟩
  case round =>
    obtain ⟨i, hi1, hi2, hit, hb, hno⟩ := hrel
    by_cases hlt : i < l.length
    · obtain ⟨x, hx⟩ : ∃ x, l[i] = x := ⟨_, rfl⟩
      by_cases hx128 : x.toNat < 128
      · have hnx := fun ty => Lib.run_next_ascii_at (P := Tryz.prog) wr w.heap.size ⟨l.toArray⟩ i ty hit.out (by rw [bl_size]; exact hlt) (by rw [bl_get, hx]; exact hx128)
        rw [bl_get, hx] at hnx
        have hx' : l[i]? = some x := by rw [List.getElem?_eq_getElem hlt, hx]
        have hit1 : Hid ((wr.iterAt w.heap.size ⟨l.toArray⟩ (i + 1)).heap[w.heap.size]? = some (.stringIter ⟨l.toArray⟩ (i + 1))) := Lib.iterAt_heap _ _ _ i _ hit.out
        have hb1 : Below w.heap.size w (wr.iterAt w.heap.size ⟨l.toArray⟩ (i + 1)) := Lib.below_iterAt hb (Nat.le_refl _) _ _
        have hr := fun W => (Tryz.strings_IndexRune_ascii ⟨cs.toArray⟩ (x.toNat : Int) W (by omega) (by omega)).mono (R' := Ret (.int .i64 (Lib.indexByte cs x)) W) fun _ _ h => ⟨by rw [h.1]; simp, h.2.symm⟩
        have HR := hide hr
        have HX := hide hx'
        have hcon := Lib.contains_iff_indexByte cs x
        clear hx hr hx' hit
        cases hin : cs.contains x <;> rw [hin] at hcon
        · have hlt' : ¬ ((0 : Int) ≤ Lib.indexByte cs x) := of_decide_eq_false hcon.symm
          have HIN := hide hin
          clear hcon hin
          go_wp2_with (go_at_call 78; refine ((Hid.out HR) _).mono ?_; rintro e w' ⟨rfl, rfl⟩)
          go_roundg (gk - 1)
          case measure => omega
          case rel => exact ⟨i + 1, by omega, by omega, hit1, hb1, hno.out.succ HX.out HIN.out⟩
        · have hge : (0 : Int) ≤ Lib.indexByte cs x := of_decide_eq_true hcon.symm
          have HIN := hide hin
          clear hcon hin
          go_wp2_with (go_at_call 78; refine ((Hid.out HR) _).mono ?_; rintro e w' ⟨rfl, rfl⟩)
          go_ret
          exact ⟨by rw [Lib.indexAny_hit hno.out HX.out HIN.out]; rfl, hb1⟩
      · have hsp := decode_span l i hlt (by rw [hx]; omega)
        have hnx := fun ty => Lib.run_next_any_at (P := Tryz.prog) wr w.heap.size ⟨l.toArray⟩ i ty hit.out (by rw [bl_size]; exact hlt)
        obtain ⟨q, hq⟩ : ∃ q, Utf8.decode ⟨l.toArray⟩ i = q := ⟨_, rfl⟩
        rw [hq] at hsp hnx
        obtain ⟨s1, s2, s3, s4, s5⟩ := hsp
        obtain ⟨r, k⟩ := q
        simp only at s1 s2 s3 s4 s5 hnx
        have hno1 : Hid (Lib.NoAny l cs (i + k)) := noAny_span hno.out s5 HA.out
        have hit1 : Hid ((wr.iterAt w.heap.size ⟨l.toArray⟩ (i + k)).heap[w.heap.size]? = some (.stringIter ⟨l.toArray⟩ (i + k))) := Lib.iterAt_heap _ _ _ i _ hit.out
        have hb1 : Below w.heap.size w (wr.iterAt w.heap.size ⟨l.toArray⟩ (i + k)) := Lib.below_iterAt hb (Nat.le_refl _) _ _
        have hr := fun W => indexRune_high cs r W hcs HA.out s1 s2
        have HR := hide hr
        have hsz : w.heap.size < (wr.iterAt w.heap.size ⟨l.toArray⟩ (i + k)).heap.size := by
          have := (Array.getElem?_eq_some_iff.1 hit1.out).1
          exact this
        clear hx hq s5 hr hit hno hx128 s1 s2
        go_wp2_with (go_at_call 78; refine ((Hid.out HR) _).mono ?_; rintro e w1 ⟨rfl, hb2⟩)
        go_roundg (gk - k)
        case measure => omega
        case rel => exact ⟨i + k, by omega, by omega, (hb2.block _ hsz).trans hit1.out, hb1.trans (hb2.mono (by omega)), hno1⟩
    · obtain rfl : i = l.length := by omega
      have hnx := fun ty => Lib.run_next_end_at (P := Tryz.prog) wr w.heap.size ⟨l.toArray⟩ l.length ty hit.out (by rw [bl_size]; omega)
      go_wp2
      go_ret
      exact ⟨by rw [Lib.indexAny_none hno.out]; rfl, hb⟩

theorem indexAny (l cs : List UInt8) (w : World) (h2 : 2 ≤ cs.length) (hl : l.length < 4294967281) (hcs : cs.length < 4294967281) (ha : cs.all (fun b => decide (b.toNat < 128)) = true) :
    Calls Tryz.prog 50 #[S l, S cs] w (Fresh (.int .i64 (Lib.indexAny l cs)) w) := by
  by_cases h8 : l.length ≤ 8
  · exact indexAny_short l cs w h2 h8 hcs ha
  · have h116 : (Tryz.prog.info? 114).map (fun i => (i.zero, i.size)) = some (some (.agg (Array.replicate 256 (.bool false))), 256) := by kernel_rfl
    refine (Any.strings_IndexAny_long Tryz.lays153 (zero_of_info h116).1 (zero_of_info h116).2 ⟨l.toArray⟩ ⟨cs.toArray⟩ w (by rw [bl_size]; exact h2) (by rw [bl_size]; omega) (by rw [bl_size]; exact hl) (by rw [bl_size]; exact hcs) (ascii_all ha)).mono ?_
    rintro e w' ⟨rfl, rfl⟩
    exact ⟨rfl, ((Below.refl _ _).alloc (Nat.le_refl _) _).alloc (by simp) _⟩

/-! ### strings.ContainsAny at the forbidden bytes -/
theorem containsAny_any (cs : List UInt8) : ∀ l : List UInt8, decide ((0 : Int) ≤ Lib.indexAny l cs) = l.any (fun c => cs.contains c)
  | [] => rfl
  | c :: l => by
    have ih := containsAny_any cs l
    have hge := Lib.indexAny_ge cs l
    rw [Lib.indexAny, List.any_cons]
    cases hc : cs.contains c
    · rw [if_neg (by decide), Bool.false_or, ← ih]
      by_cases h : Lib.indexAny l cs = -1
      · rw [h]; rfl
      · rw [if_neg (by simpa using h)]
        exact decide_eq_decide.2 (by omega)
    · rw [if_pos rfl, Bool.true_or]; rfl
theorem cAny (l : List UInt8) (b : Bool) (w : World) (hl : l.length < 4294967281) (hb : Hid (l.any Hostp.bad = b)) :
    Calls Tryz.prog 22 #[S l, S Hostp.bads] w (Fresh (.bool b) w) := by
  have h := indexAny l Hostp.bads w (by decide) hl (by decide) (by decide)
  have he := containsAny_any Hostp.bads l
  have hb2 : l.any (fun c => Hostp.bads.contains c) = b := hb.out
  rw [hb2] at he
  obtain ⟨n, hn⟩ : ∃ n, Lib.indexAny l Hostp.bads = n := ⟨_, rfl⟩
  rw [hn] at he h
  have HE := hide he
  have HC := hide h
  clear h he hb2 hn
  go_enter Tryz.func22, Tryz.ntmps22
  go_wp2_with fail
  refine HC.out.mono ?_
  rintro e w2 ⟨rfl, hb2⟩
  go_wp2_with fail
  go_ret
  exact ⟨by rw [← HE.out]; rfl, hb2⟩
end Go.Proofs.YtahjndignkhmoaaGreatDoor
