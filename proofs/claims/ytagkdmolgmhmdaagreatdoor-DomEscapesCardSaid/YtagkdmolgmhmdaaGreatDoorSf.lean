/- The names that are void, and raw: by a set, and by a list. -/
import Derived.Test.YtagkdmolgmhmdaaGreatDoorSe
import Derived.Test.YtagkdmolgmhmdaaGreatDoorDa
namespace Go.Proofs.YtagkdmolgmhmdaaGreatDoor
open Go.RowKit Go.WideMaps

def voidS : List UInt8 := [97, 114, 101, 97, 32, 98, 97, 115, 101, 32, 98, 97, 115, 101, 102, 111, 110, 116, 32, 98, 103, 115, 111, 117, 110, 100, 32, 98, 114, 32, 99, 111, 108, 32, 101, 109, 98, 101, 100, 32, 102, 114, 97, 109, 101, 32, 104, 114, 32, 105, 109, 103, 32, 105, 110, 112, 117, 116, 32, 107, 101, 121, 103, 101, 110, 32, 108, 105, 110, 107, 32, 109, 101, 116, 97, 32, 112, 97, 114, 97, 109, 32, 115, 111, 117, 114, 99, 101, 32, 116, 114, 97, 99, 107, 32, 119, 98, 114]
def voids : List (List UInt8) := [[97, 114, 101, 97], [98, 97, 115, 101], [98, 97, 115, 101, 102, 111, 110, 116], [98, 103, 115, 111, 117, 110, 100], [98, 114], [99, 111, 108], [101, 109, 98, 101, 100], [102, 114, 97, 109, 101], [104, 114], [105, 109, 103], [105, 110, 112, 117, 116], [107, 101, 121, 103, 101, 110], [108, 105, 110, 107], [109, 101, 116, 97], [112, 97, 114, 97, 109], [115, 111, 117, 114, 99, 101], [116, 114, 97, 99, 107], [119, 98, 114]]
def rawS : List UInt8 := [115, 116, 121, 108, 101, 32, 115, 99, 114, 105, 112, 116, 32, 120, 109, 112, 32, 105, 102, 114, 97, 109, 101, 32, 110, 111, 101, 109, 98, 101, 100, 32, 110, 111, 102, 114, 97, 109, 101, 115, 32, 112, 108, 97, 105, 110, 116, 101, 120, 116]
def raws : List (List UInt8) := [[115, 116, 121, 108, 101], [115, 99, 114, 105, 112, 116], [120, 109, 112], [105, 102, 114, 97, 109, 101], [110, 111, 101, 109, 98, 101, 100], [110, 111, 102, 114, 97, 109, 101, 115], [112, 108, 97, 105, 110, 116, 101, 120, 116]]
def spaceS : List UInt8 := [104, 116, 109, 108, 32, 115, 118, 103, 32, 109, 97, 116, 104]
def aspaceS : List UInt8 := [120, 108, 105, 110, 107, 32, 120, 109, 108, 32, 120, 109, 108, 110, 115]
theorem fields_void : Lib.fields voidS = voids := by decide +kernel
theorem fields_raw : Lib.fields rawS = raws := by decide +kernel
theorem fields_space : Lib.fields spaceS = Dm.spaces := by decide +kernel
theorem fields_aspace : Lib.fields aspaceS = Dm.aspaces := by decide +kernel
theorem set_void (w : World) (ht : Tab w) : Calls Tryz.prog 39 #[S voidS] w (IsSet voids w) := set_ voidS voids w ht (by decide) (by decide) fields_void (by decide) (by decide)
theorem set_raw (w : World) (ht : Tab w) : Calls Tryz.prog 39 #[S rawS] w (IsSet raws w) := set_ rawS raws w ht (by decide) (by decide) fields_raw (by decide) (by decide)
theorem set_space (w : World) (ht : Tab w) : Calls Tryz.prog 39 #[S spaceS] w (IsSet Dm.spaces w) := set_ spaceS Dm.spaces w ht (by decide) (by decide) fields_space (by decide) (by decide)
theorem set_aspace (w : World) (ht : Tab w) : Calls Tryz.prog 39 #[S aspaceS] w (IsSet Dm.aspaces w) := set_ aspaceS Dm.aspaces w ht (by decide) (by decide) fields_aspace (by decide) (by decide)
theorem at_int {l : List (List UInt8)} {k : List UInt8} {c : Int} (h : (setD l).atKey (.string k) (.lit (.int .i64 0)) = .lit (.int .i64 c)) : c = if l.contains k then 1 else 0 := by
  rw [setD_at] at h
  injection h with h
  injection h with _ h
  exact h.symm

set_option maxRecDepth 100000 in
set_option maxHeartbeats 2000000 in
theorem void_ (s : List UInt8) (w : World) (ht : Tab w) (hs : s.length ≤ 9223372036854775807) :
    Calls Tryz.prog 16 #[S s] w (Fresh (.bool (voids.contains s)) w) := by
  have HS := hide (set_void w ht)
  obtain ⟨r, hr⟩ : ∃ r, voids.contains s = r := ⟨_, rfl⟩
  rw [hr]
  have HR := hide hr
  clear hr
  go_enter Tryz.func16, Tryz.ntmps16
  go_wp2_with fail
  refine Calls.mono HS.out ?_
  rintro e w2 ⟨rfl, hown, hb⟩
  have HB := hide hb
  have HO := hide hown
  clear HS hb hown
  go_wp2_with (at_lookup; refine wpList_lookup_own_int _ rfl _ _ 47 rfl 9 3 .i64 lawS Tryz.underlying47 Tryz.underlying3 (zeroI _) w.heap.size _ _ rfl HO.out _ _ rfl (keyOf_string_mk Tryz.underlying9 (by rw [bl_size]; unfold maxLen; omega)) ?_)
  intro c hat _
  have hc := at_int hat
  rw [HR.out] at hc
  clear hat
  cases r with
  | true =>
    obtain rfl : c = 1 := hc
    go_wp2_with fail
    go_ret
    exact ⟨rfl, HB.out⟩
  | false =>
    obtain rfl : c = 0 := hc
    go_wp2_with fail
    go_ret
    exact ⟨rfl, HB.out⟩
set_option maxRecDepth 100000 in
set_option maxHeartbeats 2000000 in
theorem raw_ (s : List UInt8) (w : World) (ht : Tab w) (hs : s.length ≤ 9223372036854775807) :
    Calls Tryz.prog 18 #[S s] w (Fresh (.bool (raws.contains s)) w) := by
  have HS := hide (set_raw w ht)
  obtain ⟨r, hr⟩ : ∃ r, raws.contains s = r := ⟨_, rfl⟩
  rw [hr]
  have HR := hide hr
  clear hr
  go_enter Tryz.func18, Tryz.ntmps18
  go_wp2_with fail
  refine Calls.mono HS.out ?_
  rintro e w2 ⟨rfl, hown, hb⟩
  have HB := hide hb
  have HO := hide hown
  clear HS hb hown
  go_wp2_with (at_lookup; refine wpList_lookup_own_int _ rfl _ _ 47 rfl 9 3 .i64 lawS Tryz.underlying47 Tryz.underlying3 (zeroI _) w.heap.size _ _ rfl HO.out _ _ rfl (keyOf_string_mk Tryz.underlying9 (by rw [bl_size]; unfold maxLen; omega)) ?_)
  intro c hat _
  have hc := at_int hat
  rw [HR.out] at hc
  clear hat
  cases r with
  | true =>
    obtain rfl : c = 1 := hc
    go_wp2_with fail
    go_ret
    exact ⟨rfl, HB.out⟩
  | false =>
    obtain rfl : c = 0 := hc
    go_wp2_with fail
    go_ret
    exact ⟨rfl, HB.out⟩

set_option maxRecDepth 100000 in
set_option maxHeartbeats 2000000 in
theorem among (s : List UInt8) (l : List (List UInt8)) (b n c : Nat) (w : World) (hn : l.length = n) (hl : n ≤ 1048576) (hc : ∀ (j : Nat) x, l[j]? = some x → w.cell? ⟨b, j, none⟩ = some (S x)) :
    Calls Tryz.prog 40 #[S s, .slice (some ⟨b, 0, none⟩) n c] w (Ret (.bool (l.contains s)) w) := by
  obtain ⟨r, hr⟩ : ∃ r, l.contains s = r := ⟨_, rfl⟩
  rw [hr]
  have HR := hide hr
  have HC := hide hc
  have HN := hide hn
  clear hr hc hn
  go_enter Tryz.func40, Tryz.ntmps40
  go_wp2_with fail
  go_loopg [5] n (fun g s5 wx => ∃ i : Nat, i + g = n ∧ s5 = .int .i64 i ∧ w = wx ∧ Hid ((l.take i).contains s = false))
  case atStart => exact ⟨0, by omega, rfl, rfl, rfl⟩
  case round =>
    obtain ⟨i, hi, rfl, rfl, hno⟩ := hrel
    by_cases hlt : i < n
    · obtain ⟨x, hx⟩ : ∃ x, l[i]? = some x := ⟨l[i]'(by rw [HN.out]; exact hlt), List.getElem?_eq_getElem _⟩
      have hcx := HC.out i x hx
      have HX := hide hx
      clear hx
      by_cases e : x = s
      · have HE : Hid (r = true) := by
          unfold Hid
          rw [← HR.out, List.contains_eq_mem, decide_eq_true_eq]
          exact e ▸ List.mem_of_getElem? HX.out
        subst e
        go_wp2_with fail
        go_ret
        exact ⟨by rw [HE.out]; rfl, rfl⟩
      · have hb : (x == s) = false := by rw [beq_eq_false_iff_ne]; exact e
        have HE := hide e
        go_wp2_with fail
        go_roundg (gk - 1)
        case measure => omega
        case rel =>
          refine ⟨i + 1, by omega, by go_num, rfl, ?_⟩
          unfold Hid
          have h1 := hno.out
          rw [List.take_add_one, HX.out, List.contains_eq_mem, decide_eq_false_iff_not] at *
          intro h
          rcases List.mem_append.1 h with h | h
          · exact h1 h
          · exact HE.out (by simpa using h : s = x).symm
    · have HE : Hid (r = false) := by
        unfold Hid
        have h1 := hno.out
        rw [List.take_of_length_le (by rw [HN.out]; omega)] at h1
        rw [← HR.out, h1]
      go_wp2_with fail
      go_ret
      exact ⟨by rw [HE.out]; rfl, rfl⟩
theorem words_new (w : World) (l : List (List UInt8)) (t : TypeId) : ∀ (j : Nat) x, l[j]? = some x → (w.alloc (.cells (l.map S).toArray t)).cell? ⟨w.heap.size, j, none⟩ = some (S x) := fun j x h => by
  rw [Lib.cell_of_heap (heap_alloc_last _ _)]
  simp [h]
set_option maxRecDepth 100000 in
set_option maxHeartbeats 2000000 in
theorem rVoid (s : List UInt8) (w : World) :
    Calls Tryz.prog 17 #[S s] w (Fresh (.bool (voids.contains s)) w) := by
  have HC := hide (among s voids w.heap.size 18 18 (w.alloc (.cells (voids.map S).toArray 9)) rfl (by decide) (words_new w voids 9))
  have HB := hide ((Below.refl _ w).alloc (Nat.le_refl _) (.cells (voids.map S).toArray 9))
  obtain ⟨r, hr⟩ : ∃ r, voids.contains s = r := ⟨_, rfl⟩
  rw [hr] at HC ⊢
  clear hr
  go_enter Tryz.func17, Tryz.ntmps17
  go_wp2_with fail
  refine Calls.mono HC.out ?_
  rintro e w2 ⟨rfl, rfl⟩
  go_wp2_with fail
  go_ret
  exact ⟨rfl, HB.out⟩
set_option maxRecDepth 100000 in
set_option maxHeartbeats 2000000 in
theorem rRaw (s : List UInt8) (w : World) :
    Calls Tryz.prog 19 #[S s] w (Fresh (.bool (raws.contains s)) w) := by
  have HC := hide (among s raws w.heap.size 7 7 (w.alloc (.cells (raws.map S).toArray 9)) rfl (by decide) (words_new w raws 9))
  have HB := hide ((Below.refl _ w).alloc (Nat.le_refl _) (.cells (raws.map S).toArray 9))
  obtain ⟨r, hr⟩ : ∃ r, raws.contains s = r := ⟨_, rfl⟩
  rw [hr] at HC ⊢
  clear hr
  go_enter Tryz.func19, Tryz.ntmps19
  go_wp2_with fail
  refine Calls.mono HC.out ?_
  rintro e w2 ⟨rfl, rfl⟩
  go_wp2_with fail
  go_ret
  exact ⟨rfl, HB.out⟩
end Go.Proofs.YtagkdmolgmhmdaaGreatDoor
