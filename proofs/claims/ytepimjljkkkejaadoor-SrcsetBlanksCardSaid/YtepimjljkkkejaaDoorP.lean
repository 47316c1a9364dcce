/- Lists of candidates written. -/
import Derived.Test.YtepimjljkkkejaaDoorO
namespace Go.Proofs.YtepimjljkkkejaaDoor
open Go.RowKit

theorem show_join : ∀ l : List Srcp.Cand, Srcp.show_ l = Lib.join (l.map Srcp.showC) [44, 32]
  | [] => rfl
  | [c] => by rw [List.map_cons, List.map_nil, Lib.join_one]; rfl
  | c :: d :: l => by
    rw [Srcp.show_, show_join (d :: l), List.map_cons, Lib.join_cons, List.map_cons, Lib.join_cons]
    simp [Lib.joinTail]

theorem showC_le : ∀ (l : List Srcp.Cand) (c : Srcp.Cand), c ∈ l → (Srcp.showC c).length ≤ (Srcp.show_ l).length
  | [], _, h => by simp at h
  | [d], c, h => by
    rw [List.mem_singleton] at h; subst h; exact Nat.le_refl _
  | d :: e :: l, c, h => by
    rw [Srcp.show_, List.length_append, List.length_append]
    rcases List.mem_cons.1 h with rfl | h
    · omega
    · have := showC_le (e :: l) c h; omega

theorem byte_string (W : World) (k : UInt8) (g : Nat) (hc : W.cell? ⟨g, 0, none⟩ = some (B8 k)) : Sem.run Tryd.prog (convert 35 9 (.slice (some ⟨g, 0, none⟩) 1 1)) W = .ok (S [k]) W :=
  run_convert_bytes_back W 35 9 5 ⟨g, 0, none⟩ 1 [k] Tryd.underlying35 Tryd.underlying5 Tryd.underlying9 (fun j hj => by
    have : j = 0 := by simp at hj; omega
    subst this
    simpa [Addr.add] using hc)

set_option maxHeartbeats 2000000 in
theorem pShow_lit (b o cap : Nat) (l : List Srcp.Cand) (w : World) (hl : l.length ≤ 1048576) (hb : b < w.heap.size) (hL : (Srcp.show_ l).length ≤ 140737488355328)
    (h1 : ∀ (i : Nat) (c : Srcp.Cand), l[i]? = some c → w.cell? ⟨b, o + i * 3, none⟩ = some (S c.url) ∧ w.cell? ⟨b, o + i * 3 + 1, none⟩ = some (B8 c.kind) ∧ w.cell? ⟨b, o + i * 3 + 2, none⟩ = some (S c.text)) :
    Calls Tryd.prog 11 #[.slice (some ⟨b, o, none⟩) l.length cap] w (Fresh (S (Srcp.show_ l)) w) := by
  obtain ⟨i0, hi, hz0, hz1, hz2⟩ := info_parts info_str
  have HL := hide hL
  clear hL
  go_enter Tryd.func11, Tryd.ntmps11
  go_wp2_with fail
  go_loopg [3, 9] l.length (fun g s3 s9 wx => ∃ (i : Nat), i + g = l.length ∧ s9 = .int .i64 i ∧ wx.ownsRow w.heap.size 9 1 s3 i ((l.map fun c => S (Srcp.showC c)).take i) ∧ Below w.heap.size w wx)
  case atStart => exact ⟨0, by omega, rfl, World.ownsRow_nil _ _ _ _, Below.refl _ _⟩
  case round =>
    obtain ⟨i, hi', rfl, hown, hbl⟩ := hrel
    by_cases hlt : i < l.length
    · obtain ⟨x, hx⟩ : ∃ x, l[i] = x := ⟨_, rfl⟩
      have hx' : l[i]? = some x := by rw [List.getElem?_eq_getElem hlt, hx]
      have hxl := showC_le l x (by rw [← hx]; exact List.getElem_mem _)
      have hLL := HL.out
      obtain ⟨c0, c1, c2⟩ := h1 i x hx'
      have d0 : wr.cell? ⟨b, o + i * 3, none⟩ = some (S x.url) := (hbl.cell hb).trans c0
      have d1 : wr.cell? ⟨b, o + i * 3 + 1, none⟩ = some (B8 x.kind) := (hbl.cell hb).trans c1
      have d2 : wr.cell? ⟨b, o + i * 3 + 2, none⟩ = some (S x.text) := (hbl.cell hb).trans c2
      have HX := hide hx'
      have hbs := hbl.size
      clear h1 hx hx' c0 c1 c2
      have hk0 : ((x.kind.toNat : Int) != 0) = (x.kind != 0) := by rw [bne, bne]; congr 1; exact u8_eq x.kind 0 (by decide)
      have htk : Hid ((l.map fun c => S (Srcp.showC c)).take (i + 1) = (l.map fun c => S (Srcp.showC c)).take i ++ [S (Srcp.showC x)]) := by
        unfold Hid; rw [List.take_add_one, List.getElem?_map, HX.out]; rfl
      cases hk : (x.kind != 0)
      · have hke : x.kind = 0 := by simpa using hk
        have hsc : Srcp.showC x = x.url := by unfold Srcp.showC; rw [if_pos hke]
        rw [hsc] at htk
        rw [hk] at hk0
        clear hk hke hsc hxl hLL
        go_wp2_with (at_builtin; refine wpList_append_own _ rfl (.tmp 28) (.tmp 30) 31 rfl w.heap.size 9 i0 (.string .empty) 1 16 Tryd.underlying31 hi hz0 hz1 hz2 rfl (by decide) _ _ _ rfl ((hown.alloc _).alloc _) ⟨wr.heap.size + 1, 0, none⟩ 1 1 [S x.url] rfl rfl ?c1 ?c2 ?c3 ?c4 ?c5 ?_)
        case c1 =>
          have := cell_one_new (wr.alloc (.cells #[S x.url, B8 x.kind, S x.text] 26)) (S x.url) 9
          simpa using this
        case c2 => intro u hu; simp at hu; subst hu; rfl
        case c3 => unfold maxLen; omega
        case c4 => omega
        case c5 => simp; omega
        intro v' w1 hown' hgrow _
        have hb1 : Below w.heap.size w w1 := ((hbl.alloc hbl.size _).alloc (by simp; omega) _).grown hgrow (by simp; omega) (fun k hk => (hown.lt k hk).1)
        clear hown hgrow
        go_wp2_with fail
        go_roundg (gk - 1)
        case measure => omega
        case rel => exact ⟨i + 1, by omega, by go_num, by rw [htk.out]; simpa using hown', hb1⟩
      · have hke : x.kind ≠ 0 := by simpa using hk
        have hsc : Srcp.showC x = x.url ++ [32] ++ x.text ++ [x.kind] := by unfold Srcp.showC; rw [if_neg hke]
        rw [hsc] at htk hxl
        simp only [List.length_append, List.length_cons, List.length_nil] at hxl
        rw [hk] at hk0
        have hsum : x.url.length + x.text.length + 2 ≤ 140737488355328 := by omega
        have hcv := fun o1 => byte_string ((wr.alloc o1).alloc (.cells #[B8 x.kind] 5)) x.kind (wr.heap.size + 1) (by rw [World.cell?_alloc_at _ _ _ _ (by simp)]; rfl)
        clear hk hke hsc hxl hLL
        go_wp2_with (at_builtin; refine wpList_append_own _ rfl (.tmp 28) (.tmp 30) 31 rfl w.heap.size 9 i0 (.string .empty) 1 16 Tryd.underlying31 hi hz0 hz1 hz2 rfl (by decide) _ _ _ rfl (((hown.alloc _).alloc _).alloc _) ⟨wr.heap.size + 1 + 1, 0, none⟩ 1 1 [S (x.url ++ [32] ++ x.text ++ [x.kind])] rfl rfl ?c1 ?c2 ?c3 ?c4 ?c5 ?_)
        case c1 =>
          have := cell_one_new ((wr.alloc (.cells #[S x.url, B8 x.kind, S x.text] 26)).alloc (.cells #[B8 x.kind] 5)) (S (x.url ++ [32] ++ x.text ++ [x.kind])) 9
          simpa using this
        case c2 => intro u hu; simp at hu; subst hu; rfl
        case c3 => unfold maxLen; omega
        case c4 => omega
        case c5 => simp; omega
        intro v' w1 hown' hgrow _
        have hb1 : Below w.heap.size w w1 := (((hbl.alloc hbl.size _).alloc (by simp; omega) _).alloc (by simp; omega) _).grown hgrow (by simp; omega) (fun k hk => (hown.lt k hk).1)
        clear hown hgrow hcv
        go_wp2_with fail
        go_roundg (gk - 1)
        case measure => omega
        case rel => exact ⟨i + 1, by omega, by go_num, by rw [htk.out]; simpa using hown', hb1⟩
    · have hil : i = l.length := by omega
      subst hil
      have ht : ((l.map fun c => S (Srcp.showC c)).take l.length) = l.map fun c => S (Srcp.showC c) := by
        rw [List.take_of_length_le]; simp
      rw [ht] at hown
      have hj := HL.out
      clear h1 HL ht
      rcases hown.2 with ⟨rfl, h0⟩ | ⟨g, cap', cur, rfl, hb', hh, hn, hcap, hsz, htake⟩
      · have hl0 : l = [] := List.eq_nil_of_length_eq_zero h0
        subst hl0
        clear hown
        go_wp2_with fail
        refine (Tryd.strings_Join_none none 0 ⟨#[44, 32]⟩ _).mono ?_
        rintro e w' ⟨rfl, rfl⟩
        go_wp2_with fail
        go_ret
        exact ⟨rfl, hbl⟩
      · have hc : ∀ (j : Nat) x, (l.map fun c => (⟨(Srcp.showC c).toArray⟩ : ByteArray))[j]? = some x → wr.cell? ⟨g, 0 + j, none⟩ = some (.string x) := by
          intro j x hx
          have hjl : j < l.length := by
            rcases Nat.lt_or_ge j l.length with h | h
            · exact h
            · rw [List.getElem?_eq_none (by simpa using h)] at hx; cases hx
          rw [Nat.zero_add, hown.cellAt j (by omega), List.getElem?_map]
          rw [List.getElem?_map] at hx
          cases hq : l[j]? with
          | none => rw [hq] at hx; cases hx
          | some y => rw [hq] at hx; simp at hx; subst hx; rfl
        have hlen : (l.map fun c => (⟨(Srcp.showC c).toArray⟩ : ByteArray)).length = l.length := by simp
        have hJ : Lib.join ((l.map fun c => (⟨(Srcp.showC c).toArray⟩ : ByteArray)).map (·.data.toList)) [44, 32] = Srcp.show_ l := by
          rw [show_join, List.map_map]; rfl
        have hcall := Tryd.strings_Join g 0 cap' (l.map fun c => (⟨(Srcp.showC c).toArray⟩ : ByteArray)) ⟨#[44, 32]⟩ wr hc (heap_lt hh) (by rw [hlen]; omega) (by rw [hlen]; omega) (by rw [show (⟨#[44, 32]⟩ : ByteArray).data.toList = [44, 32] from rfl, hJ]; exact hj)
        rw [hlen, show (⟨#[44, 32]⟩ : ByteArray).data.toList = [44, 32] from rfl, hJ] at hcall
        clear hc hJ hlen hj htake hh hown
        go_wp2_with fail
        refine hcall.mono ?_
        rintro e w' ⟨rfl, hb2⟩
        go_wp2_with fail
        go_ret
        exact ⟨rfl, hbl.trans (hb2.mono hbl.size)⟩

theorem pShow (v : Value) (l : List Srcp.Cand) (w : World) (h : RC w v l) (hl : l.length ≤ 1048576) (hL : (Srcp.show_ l).length ≤ 140737488355328) :
    Calls Tryd.prog 11 #[v] w (Fresh (S (Srcp.show_ l)) w) := by
  rcases h with ⟨rfl, a, c, rfl⟩ | ⟨b, o, cap, rfl, hlt, hc⟩
  · clear hl hL
    go_enter Tryd.func11, Tryd.ntmps11
    go_wp2_with fail
    go_loopg [3, 9] 0 (fun g s3 s9 wx => s3 = .slice none 0 0 ∧ s9 = .int .i64 0 ∧ wx = w)
    case atStart => exact ⟨rfl, rfl, rfl⟩
    case round =>
      obtain ⟨rfl, rfl, rfl⟩ := hrel
      go_wp2_with fail
      refine (Tryd.strings_Join_none none 0 ⟨#[44, 32]⟩ _).mono ?_
      rintro e w' ⟨rfl, rfl⟩
      go_wp2_with fail
      go_ret
      exact ⟨rfl, Below.refl _ _⟩
  · exact pShow_lit b o cap l w hl hlt hL hc
end Go.Proofs.YtepimjljkkkejaaDoor
