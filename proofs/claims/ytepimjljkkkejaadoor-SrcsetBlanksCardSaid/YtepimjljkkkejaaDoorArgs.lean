/- The arguments as they come in: candidates, texts, numbers. -/
import Derived.Test.YtepimjljkkkejaaDoorX
import Derived.Test.YtepimjljkkkejaaDoorWit
import Derived.ChangeMaps5
import Derived.ChangeSlices
import Derived.SliceStrings
import Derived.Deep.Slices
namespace Go.Proofs.YtepimjljkkkejaaDoor
open Go.ChangeShapes Go.WideShapes Go.ChangeAt Go.RowKit Go.ChangeMaps Go.Deep

theorem cells_cand : Tryd.prog.cellsOf 26 = 3 := by kernel_rfl
theorem cells_str : Tryd.prog.cellsOf 9 = 1 := by kernel_rfl
theorem cells_u8 : Tryd.prog.cellsOf 5 = 1 := by kernel_rfl
theorem cells_int : Tryd.prog.cellsOf 3 = 1 := by kernel_rfl
theorem cand_fields : ∃ f0 f1 f2 : Field, Tryd.prog.underlying 26 = some (.struct #[f0, f1, f2]) ∧ f0.offset = 0 ∧ f1.offset = 1 ∧ f2.offset = 2 ∧ f0.type = 9 ∧ f1.type = 5 ∧ f2.type = 9 :=
  ⟨_, _, _, Tryd.underlying26, rfl, rfl, rfl, rfl, rfl, rfl⟩

instance : Inhabited Srcp.Cand := ⟨⟨[], 0, []⟩⟩

def candD {H : Type} (c : Srcp.Cand) : DataW H := .agg [.lit (.string c.url), .lit (.int .u8 c.kind.toNat), .lit (.string c.text)]
theorem bulk_cands {H : Type} (l : List Srcp.Cand) : Rows.uptoBulkAll (l.map (candD (H := H))) = Srcp.wgt l := by
  induction l with
  | nil => rfl
  | cons c l ih =>
    simp only [List.map_cons, Rows.uptoBulkAll, ih, Srcp.wgt, candD, Rows.uptoBulk]
    omega

theorem open_cands {H : Type} {enc : TypeId × Value → H} {W : World} {a0 : Option Addr} {len cap fuel : Nat} {x : DataW H × List MemPlace}
    (hf : DataW.trod enc Tryd.prog W 0 (fun _ => true) true fuel 22 [.slice a0 len cap] = some x) :
    ∃ l : List Srcp.Cand, l.length = len ∧ RC W (.slice a0 len cap) l ∧ len ≤ maxLen ∧ Srcp.wgt l ≤ Rows.uptoBulk x.1 := by
  rcases open_slice Tryd.underlying22 hf with ⟨hcs, hx⟩ | ⟨a, len', cap', m, n, D, Pl, hcs, _, hl, hm, hmm, hx, hcell⟩
  · simp at hcs
    obtain ⟨rfl, rfl, rfl⟩ := hcs
    exact ⟨[], rfl, .inl ⟨rfl, _, _, rfl⟩, Nat.zero_le _, Nat.zero_le _⟩
  · simp at hcs
    obtain ⟨rfl, rfl, rfl⟩ := hcs
    simp only [if_true] at hmm
    subst hmm
    rw [cells_cand] at hcell
    obtain ⟨f0, f1, f2, he, o0, o1, o2, t0, t1, t2⟩ := cand_fields
    obtain ⟨b, off, spot⟩ := a
    rcases Nat.eq_zero_or_pos len with h0 | hp
    · subst h0
      exact ⟨[], rfl, .inl ⟨rfl, _, _, rfl⟩, Nat.zero_le _, Nat.zero_le _⟩
    have hspot : spot = none := by
      obtain ⟨cs', h1, h2⟩ := hcell 0 (by omega)
      obtain ⟨_, hlen, hc⟩ := World.cells?_some h1
      have c0 := hc 0 (by omega)
      rw [add_add] at c0
      obtain ⟨z, hz⟩ : ∃ z, cs'[0]? = some z := ⟨cs'[0], List.getElem?_eq_getElem (by omega)⟩
      rw [hz] at c0
      simpa [Addr.add] using World.cell?_spot c0
    subst hspot
    have each : ∀ i, i < len → ∃ c : Srcp.Cand, (b < W.heap.size ∧ W.cell? ⟨b, off + i * 3, none⟩ = some (S c.url) ∧ W.cell? ⟨b, off + i * 3 + 1, none⟩ = some (B8 c.kind) ∧ W.cell? ⟨b, off + i * 3 + 2, none⟩ = some (S c.text)) ∧ D i = candD c := by
      intro i hi
      obtain ⟨cs', h1, h2⟩ := hcell i (by omega)
      obtain ⟨_, hlen, hc⟩ := World.cells?_some h1
      obtain ⟨xs, k, hk, hxy, _, hxl, hfs⟩ := DataW.trod_struct he h2
      match xs, hxl, cs', hlen with
      | [y0, y1, y2], _, [v0, v1, v2], _ =>
        have g0 := hfs 0 f0 rfl
        have g1 := hfs 1 f1 rfl
        have g2 := hfs 2 f2 rfl
        simp [o0, o1, o2, t0, t1, t2, cells_str, cells_u8] at g0 g1 g2
        obtain ⟨s0, e0, z0, _⟩ := DataW.trod_string Tryd.underlying9 g0
        obtain ⟨n1, e1, z1, w1⟩ := DataW.trod_int Tryd.underlying5 g1
        obtain ⟨s2, e2, z2, _⟩ := DataW.trod_string Tryd.underlying9 g2
        simp only [List.cons.injEq, and_true] at e0 e1 e2
        subst e0; subst e1; subst e2
        have hn1 : 0 ≤ n1 ∧ n1 ≤ 255 := by simpa [Lit.wf, IntKind.min, IntKind.max, IntKind.signed, IntKind.bits] using w1
        have hk1 : ((UInt8.ofNat n1.toNat).toNat : Int) = n1 := by
          rw [UInt8.toNat_ofNat_of_lt' (by simp [UInt8.size]; omega)]; omega
        have c0 := hc 0 (by omega)
        have c1 := hc 1 (by omega)
        have c2 := hc 2 (by omega)
        rw [add_add] at c0 c1 c2
        simp only [add_plain] at c0 c1 c2
        simp only [Prod.mk.injEq] at hxy
        refine ⟨⟨s0.data.toList, UInt8.ofNat n1.toNat, s2.data.toList⟩, ⟨?_, c0, ?_, c2⟩, ?_⟩
        · exact World.block_lt_of_cell? W _ c0
        · rw [show off + i * 3 + 1 = off + (i * 3 + 1) from by omega, c1]; unfold B8; rw [hk1]; rfl
        · rw [hxy.1, z0, z1, z2]; unfold candD; rw [hk1]; rfl
    obtain ⟨q, hq⟩ := choose_lt each
    have hmap : (List.range len).map D = ((List.range len).map q).map candD := by
      rw [List.map_map]
      exact List.map_congr_left fun i hi => (hq i (List.mem_range.1 hi)).2
    refine ⟨(List.range len).map q, by simp, ?_, by omega, ?_⟩
    · refine .inr ⟨b, off, m, by simp, (hq 0 hp).1.1, fun i c hc => ?_⟩
      have hi : i < len := by
        have := (List.getElem?_eq_some_iff.1 hc).1
        simpa using this
      have : c = q i := by rw [List.getElem?_map, List.getElem?_range hi] at hc; simpa using hc.symm
      subst this
      exact ⟨(hq i hi).1.2.1, (hq i hi).1.2.2.1, (hq i hi).1.2.2.2⟩
    · rw [hx, hmap]
      simp only [Rows.uptoBulk, bulk_cands]
      omega

theorem open_texts {H : Type} {enc : TypeId × Value → H} {W : World} {a0 : Option Addr} {len cap fuel : Nat} {x : DataW H × List MemPlace}
    (hf : DataW.trod enc Tryd.prog W 0 (fun _ => true) true fuel 31 [.slice a0 len cap] = some x) :
    ∃ l : List (List UInt8), l.length = len ∧ RS W (.slice a0 len cap) l ∧ len ≤ maxLen ∧ ∀ u ∈ l, u.length ≤ maxLen := by
  rcases open_strings Tryd.underlying31 Tryd.underlying9 cells_str hf with ⟨hcs, hx⟩ | ⟨a, len', cap', ss, hcs, _, hl, hm, hz, hx, hcell, hsz⟩
  · simp at hcs
    obtain ⟨rfl, rfl, rfl⟩ := hcs
    exact ⟨[], rfl, .inl ⟨rfl, _, _, rfl⟩, Nat.zero_le _, fun u hu => by cases hu⟩
  · simp at hcs
    obtain ⟨rfl, rfl, rfl⟩ := hcs
    simp only [if_true] at hz
    obtain ⟨b, off, spot⟩ := a
    refine ⟨(ss.take len).map (·.data.toList), by simp; omega, ?_, by omega, fun u hu => ?_⟩
    · rcases Nat.eq_zero_or_pos len with h0 | hp
      · subst h0; exact .inl ⟨rfl, _, _, rfl⟩
      · have c0 := hcell 0 (by omega)
        have hspot : spot = none := by simpa [Addr.add] using World.cell?_spot c0
        subst hspot
        refine .inr ⟨b, off, cap, by simp; omega, World.block_lt_of_cell? W _ c0, fun i c hc => ?_⟩
        have hi : i < len := by
          have := (List.getElem?_eq_some_iff.1 hc).1
          simp at this; omega
        have hci := hcell i (by omega)
        rw [add_plain] at hci
        rw [hci]
        rw [List.getElem?_map, List.getElem?_take_of_lt hi] at hc
        cases hg : ss[i]? with
        | none => rw [hg] at hc; cases hc
        | some z =>
          rw [hg] at hc
          simp at hc
          subst hc
          simp [List.getD, hg]
    · obtain ⟨z, hz', rfl⟩ := List.mem_map.1 hu
      have := hsz z (List.mem_of_mem_take hz')
      exact this
end Go.Proofs.YtepimjljkkkejaaDoor
