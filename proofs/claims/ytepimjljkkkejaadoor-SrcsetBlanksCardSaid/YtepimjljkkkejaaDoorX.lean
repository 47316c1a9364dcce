/- The law SrcsetUrls. -/
import Derived.Test.YtepimjljkkkejaaDoorV
namespace Go.Proofs.YtepimjljkkkejaaDoor
open Go.RowKit

/-- a slice that reads as a list of strings -/
def RS (w : World) (v : Value) (l : List (List UInt8)) : Prop :=
  (l = [] ∧ ∃ a c, v = .slice a 0 c) ∨
  ∃ b o cap, v = .slice (some ⟨b, o, none⟩) l.length cap ∧ b < w.heap.size ∧ ∀ (i : Nat) (x : List UInt8), l[i]? = some x → w.cell? ⟨b, o + i, none⟩ = some (S x)
theorem RS.length {w : World} {v : Value} {l : List (List UInt8)} (h : RS w v l) : ∃ a c, v = .slice a l.length c := by
  rcases h with ⟨rfl, a, c, rfl⟩ | ⟨b, o, cap, rfl, _⟩
  · exact ⟨a, c, rfl⟩
  · exact ⟨_, _, rfl⟩
theorem RS.below {w w' : World} {v : Value} {l : List (List UInt8)} (h : RS w v l) (hb : Below w.heap.size w w') : RS w' v l := by
  rcases h with h | ⟨b, o, cap, rfl, hlt, hc⟩
  · exact .inl h
  · exact .inr ⟨b, o, cap, rfl, Nat.lt_of_lt_of_le hlt hb.size, fun i c hi => (hb.cell hlt).trans (hc i c hi)⟩
/-- at a place that is there -/
theorem RS.at {w : World} {a : Option Addr} {n c : Nat} {l : List (List UInt8)} (h : RS w (.slice a n c) l) {i : Nat} {x : List UInt8} (hx : l[i]? = some x) :
    ∃ b o, a = some ⟨b, o, none⟩ ∧ w.cell? ⟨b, o + i, none⟩ = some (S x) := by
  rcases h with ⟨rfl, _⟩ | ⟨b, o, cap, h, _, hc⟩
  · simp at hx
  · injection h with h1 h2 h3
    exact ⟨b, o, h1, hc i x hx⟩
theorem RC.at {w : World} {a : Option Addr} {n c : Nat} {l : List Srcp.Cand} (h : RC w (.slice a n c) l) {i : Nat} {x : Srcp.Cand} (hx : l[i]? = some x) :
    ∃ b o, a = some ⟨b, o, none⟩ ∧ w.cell? ⟨b, o + i * 3, none⟩ = some (S x.url) ∧ w.cell? ⟨b, o + i * 3 + 1, none⟩ = some (B8 x.kind) ∧ w.cell? ⟨b, o + i * 3 + 2, none⟩ = some (S x.text) := by
  rcases h with ⟨rfl, _⟩ | ⟨b, o, cap, h, _, hc⟩
  · simp at hx
  · injection h with h1 h2 h3
    exact ⟨b, o, h1, hc i x hx⟩

theorem joined_snoc : ∀ (l : List (List UInt8)) (u : List UInt8), Srcp.joined (l ++ [u]) = Srcp.joined l ++ u ++ [44, 32]
  | [], u => by simp [Srcp.joined]
  | x :: l, u => by rw [List.cons_append, Srcp.joined, joined_snoc l u, Srcp.joined]; simp
theorem plain_snoc {l : List UInt8} {j : Nat} {c : UInt8} (h : (l.take j).all (fun c => !Srcp.sp c && c != 44) = true) (hc : l[j]? = some c) (h1 : Srcp.sp c = false) (h2 : c ≠ 44) :
    (l.take (j + 1)).all (fun c => !Srcp.sp c && c != 44) = true := by
  rw [List.take_add_one, hc, List.all_append, h]
  simp [h1, h2]

set_option maxRecDepth 100000 in
set_option maxHeartbeats 4000000 in
theorem law_urls (v : Value) (l : List (List UInt8)) (w : World) (hl : l.length ≤ 9223372036854775807) (hu : ∀ u ∈ l, u.length ≤ 9223372036854775807) (hr : RS w v l) :
    Calls Tryd.prog 5 #[v] w (Fresh (.bool true) w) := by
  obtain ⟨al, cl, rfl⟩ := hr.length
  go_enter Tryd.func5, Tryd.ntmps5
  go_wp2_with fail
  refine (works _).mono ?_
  rintro e w1 ⟨rfl, hb1⟩
  replace hr := hr.below hb1
  have HU := hide hu
  clear hu
  go_wp2_with fail
  go_loopg [4, 5] l.length (fun g s4 s5 wx => ∃ (i : Nat) (acc : List UInt8), i + g = l.length ∧ s4 = S acc ∧ s5 = .int .i64 i ∧ w1 = wx ∧ acc.length ≤ 9200 ∧ Hid (acc = Srcp.joined (l.take i)) ∧ Hid (∀ u ∈ l.take i, Srcp.plainUrl u = true))
  case atStart => exact ⟨0, [], by omega, rfl, rfl, rfl, by simp, rfl, fun u hu => by simp at hu⟩
  case round =>
    obtain ⟨i, acc, hi, rfl, rfl, rfl, hacc, hj, hp⟩ := hrel
    by_cases hlt : i < l.length
    · obtain ⟨u, hx⟩ : ∃ u, l[i]? = some u := ⟨l[i], List.getElem?_eq_getElem hlt⟩
      obtain ⟨b, o, rfl, hc⟩ := hr.at hx
      have hul := HU.out u (List.mem_of_getElem? hx)
      have HX := hide hx
      clear hx
      obtain ⟨gk0, hgk0⟩ : ∃ x, x = gk := ⟨_, rfl⟩
      have hGK := hide hgk0
      by_cases hu0 : u = []
      · subst hu0
        go_wp2_with fail
        go_ret
        exact ⟨rfl, hb1⟩
      by_cases hu1 : 1000 < u.length
      · have hbe : (u == []) = false := by simpa using hu0
        go_wp2_with fail
        go_ret
        exact ⟨rfl, hb1⟩
      by_cases hu2 : 8192 < acc.length
      · have hbe : (u == []) = false := by simpa using hu0
        go_wp2_with fail
        go_ret
        exact ⟨rfl, hb1⟩
      have hbe : (u == []) = false := by simpa using hu0
      have HU0 := hide hu0
      clear hu0 hgk0
      go_wp2_with fail
      go_loopg [7] u.length (fun g s7 wx => ∃ j : Nat, j + g = u.length ∧ s7 = .int .i64 j ∧ w1 = wx ∧ Hid ((u.take j).all (fun c => !Srcp.sp c && c != 44) = true))
      case atStart => exact ⟨0, by omega, rfl, rfl, rfl⟩
      case round =>
        obtain ⟨j, hj', rfl, rfl, hall⟩ := hrel
        by_cases hjlt : j < u.length
        · obtain ⟨x, hxj⟩ : ∃ x, u[j] = x := ⟨_, rfl⟩
          have hxj' : u[j]? = some x := by rw [List.getElem?_eq_getElem hjlt, hxj]
          have HXJ := hide hxj'
          have hx8 := u8_lt x
          have e44 : ((x.toNat : Int) == 44) = (x == 44) := u8_eq x 44 (by decide)
          have hsp := sp_int x
          obtain ⟨m, hm⟩ : ∃ m : Int, (x.toNat : Int) = m := ⟨_, rfl⟩
          rw [hm] at e44 hsp
          have HS := hide hsp
          have H44 := hide e44
          clear hsp e44 hxj'
          by_cases c1 : m = 44
          · subst c1
            clear hc hul hx8
            go_wp2_with fail
            go_ret
            exact ⟨rfl, hb1⟩
          have b1 : (m == 44) = false := by simpa using c1
          by_cases c2 : m = 32
          · subst c2
            clear hc hul hx8
            go_wp2_with fail
            go_ret
            exact ⟨rfl, hb1⟩
          have b2 : (m == 32) = false := by simpa using c2
          by_cases c3 : (9 : Int) ≤ m ∧ m ≤ 13 ∧ m ≠ 11
          · obtain ⟨c3, c4, c5⟩ := c3
            have b5 : (m != 11) = true := by simpa using c5
            clear hc hul
            go_wp2_with fail
            go_ret
            exact ⟨rfl, hb1⟩
          · have hno : Srcp.sp x = false ∧ x ≠ 44 := by
              constructor
              · rw [HS.out]
                simp only [Bool.or_eq_false_iff, beq_eq_false_iff_ne]
                refine ⟨⟨⟨⟨?_, ?_⟩, ?_⟩, ?_⟩, ?_⟩ <;> omega
              · intro e
                have := H44.out
                rw [b1, e] at this
                cases this
            have HN := hide hno
            have hnext : Hid ((u.take (j + 1)).all (fun c => !Srcp.sp c && c != 44) = true) := plain_snoc hall.out HXJ.out hno.1 hno.2
            clear hno hc hul HS H44
            by_cases c4 : (9 : Int) ≤ m
            · by_cases c5 : m ≤ 13
              · have c6 : m = 11 := by omega
                subst c6
                clear c3
                go_wp2_with fail
                go_roundg (gk - 1)
                case measure => omega
                case rel => exact ⟨j + 1, by omega, by go_num, rfl, hnext⟩
              · clear c3
                go_wp2_with fail
                go_roundg (gk - 1)
                case measure => omega
                case rel => exact ⟨j + 1, by omega, by go_num, rfl, hnext⟩
            · clear c3
              go_wp2_with fail
              go_roundg (gk - 1)
              case measure => omega
              case rel => exact ⟨j + 1, by omega, by go_num, rfl, hnext⟩
        · have hpl : Srcp.plainUrl u = true := by
            have := hall.out
            rw [List.take_of_length_le (by omega)] at this
            unfold Srcp.plainUrl
            rw [this]
            simpa using HU0.out
          have HPL := hide hpl
          have hjn : Hid (acc ++ u ++ [44, 32] = Srcp.joined (l.take (i + 1))) := by
            unfold Hid
            rw [List.take_add_one, HX.out, show Option.toList (some u) = [u] from rfl, joined_snoc, ← hj.out]
          have hpn : Hid (∀ u ∈ l.take (i + 1), Srcp.plainUrl u = true) := by
            intro z hz
            rw [List.take_add_one, HX.out] at hz
            rcases List.mem_append.1 hz with hz | hz
            · exact hp.out z hz
            · simp at hz; subst hz; exact hpl
          clear hpl hc
          go_wp2_with fail
          go_roundg (gk0 - 1)
          case measure => have := hGK.out; omega
          case rel => exact ⟨i + 1, acc ++ u ++ [44, 32], by have := hGK.out; omega, by first | rfl | simp, by go_num, rfl, by simp; omega, hjn, hpn⟩
    · have hil : i = l.length := by omega
      subst hil
      have hacc' : acc = Srcp.joined l := by have := hj.out; rwa [List.take_length] at this
      have hpar : Srcp.parse acc = l.map (fun u => ⟨u, 0, []⟩) := by
        rw [hacc']
        refine Srcp.parse_urls l fun u hu => hp.out u ?_
        rwa [List.take_length]
      obtain ⟨R, hR⟩ : ∃ R : List Srcp.Cand, l.map (fun u => ⟨u, 0, []⟩) = R := ⟨_, rfl⟩
      rw [hR] at hpar
      have hRl : R.length = l.length := by rw [← hR]; simp
      have HP : Hid (Srcp.parse acc = R) := hpar
      have HR : Hid (l.map (fun u => (⟨u, 0, []⟩ : Srcp.Cand)) = R) := hR
      clear hR hpar hacc' hj hp
      go_wp2_with fail
      refine (pParse acc R _ (by omega) HP).mono ?_
      rintro e w2 ⟨v2, rfl, own2, hb2⟩
      have r2 := RC.of_own own2
      clear own2
      obtain ⟨a2, c2, rfl⟩ := r2.length
      replace hr := hr.below hb2
      replace hb2 := hb1.trans (hb2.mono hb1.size)
      clear hb1 HP
      have hneq : ((R.length : Int) != (l.length : Int)) = false := by rw [hRl]; simp
      have HRl := hide hRl
      clear hRl
      go_wp2_with fail
      go_loopg [9] R.length (fun g s9 wx => ∃ (i n : Nat), i + g = R.length ∧ s9 = .int .i64 i ∧ w2.drewN n = wx)
      case atStart => exact ⟨0, 0, by omega, rfl, rfl⟩
      case round =>
        obtain ⟨i, n, hi', rfl, rfl⟩ := hrel
        by_cases hlt2 : i < R.length
        · have hlt3 : i < l.length := by have := HRl.out; omega
          obtain ⟨u, hx⟩ : ∃ u, l[i]? = some u := ⟨l[i], List.getElem?_eq_getElem hlt3⟩
          have hxR : R[i]? = some ⟨u, 0, []⟩ := by rw [← HR.out, List.getElem?_map, hx]; rfl
          obtain ⟨b, o, rfl, hc⟩ := hr.at hx
          obtain ⟨b2, o2, rfl, d0, d1, d2⟩ := r2.at hxR
          simp only at d0 d1 d2
          have d1' : w2.cell? ⟨b2, o2 + i * 3 + 1, none⟩ = some (.int .u8 0) := d1
          clear d1 hx hxR
          go_wp2_with fail
          go_quiet (fail)
          go_wp2_with fail
          go_roundg (gk - 1)
          case measure => omega
          case rel => exact ⟨i + 1, _, by omega, by go_num, by first | rfl | exact (World.drewN_drewN _ _ _).symm⟩
        · go_wp2_with fail
          go_ret
          exact ⟨rfl, Below.drewN hb2 n⟩
end Go.Proofs.YtepimjljkkkejaaDoor
