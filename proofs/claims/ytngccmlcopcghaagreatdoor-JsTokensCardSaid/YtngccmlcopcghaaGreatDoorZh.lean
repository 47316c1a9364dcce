/- The reference's all: its world. -/
import Derived.Test.YtngccmlcopcghaaGreatDoorZa
import Derived.Test.YtngccmlcopcghaaGreatDoorWv
import Derived.Test.YtngccmlcopcghaaGreatDoorZb
import Derived.Test.YtngccmlcopcghaaGreatDoorZc
import Derived.Test.YtngccmlcopcghaaGreatDoorZd
import Derived.Test.YtngccmlcopcghaaGreatDoorZe
set_option maxRecDepth 100000
set_option maxHeartbeats 8000000
namespace Go.Proofs.YtngccmlcopcghaaGreatDoor
open Go.RowKit
structure Ta (w wx : World) (b r : Nat) (F : List UInt8) (a : Int) (k : List UInt8) (d : Bool) (la : List UInt8) (so : Bool) (e pl : Int) (fr : Fr) (v : Value) (l : List Jsp.Tk) : Prop where
 m : MB wx b F a k d la so e pl fr
 km : Km b w wx
 wh : WhB wx r 0 0 false false []
 ow : wx.ownsRow (r + 1) 29 3 v l.length (tokCells l)
 br : b < r
 wr : w.heap.size = r
section
variable {w wx w2 : World} {b r : Nat} {F k la : List UInt8} {a e pl : Int} {d so : Bool} {fr : Fr} {v : Value} {l : List Jsp.Tk}
theorem Ta.start (h : MB w b F a k d la so e pl fr) : Ta w (w.alloc (.cells (whV 0 0 false false []) 36)) b w.heap.size F a k d la so e pl fr (.slice none 0 0) [] :=
 have hb := (Below.refl w.heap.size w).alloc (Nat.le_refl _) (.cells (whV 0 0 false false []) 36)
 ⟨h.below hb, (Km.refl b w).below hb, WhB.new w 0 0 false false [], World.ownsRow_nil _ _ _ _, h.lt, rfl⟩
theorem Ta.below (h : Ta w wx b r F a k d la so e pl fr v l) (hb : Below wx.heap.size wx w2) : Ta w w2 b r F a k d la so e pl fr v l :=
 ⟨h.m.below hb, h.km.below hb, h.wh.same (hb.block r h.wh.lt), owns_of_block h.ow fun g e => hb.block g (h.ow.lt g e).2, h.br, h.wr⟩
theorem Ta.drewN (h : Ta w wx b r F a k d la so e pl fr v l) (n : Nat) : Ta w (wx.drewN n) b r F a k d la so e pl fr v l :=
 ⟨h.m.drewN n, h.km.drewN n, h.wh, owns_of_block h.ow fun _ _ => rfl, h.br, h.wr⟩
theorem Ta.call {a2 : Int} {k2 : List UInt8} {d2 : Bool} {l2 : List UInt8} {so2 : Bool} {e2 pl2 : Int} {fr2 : Fr} (h : Ta w wx b r F a k d la so e pl fr v l) (hm : MB w2 b F a2 k2 d2 l2 so2 e2 pl2 fr2) (hk : Km b wx w2) : Ta w w2 b r F a2 k2 d2 l2 so2 e2 pl2 fr2 v l :=
 ⟨hm, World.grownBy.trans h.km hk, h.wh.same (hk.block r h.wh.lt (by have := h.br; simp; omega)), owns_of_block h.ow fun g e => hk.block g (h.ow.lt g e).2 (by have := h.br; have := (h.ow.lt g e).1; simp; omega), h.br, h.wr⟩
theorem Ta.set13 (h : Ta w wx b r F a k d la so e pl fr v l) (x : Bool) : Ta w (wx.setCell ⟨b, 13, none⟩ (.bool x)) b r F a k d la so e pl { fr with wd := x } v l := h.call (h.m.set13 x) ((Km.refl b wx).set 13 _)
theorem Ta.set14 (h : Ta w wx b r F a k d la so e pl fr v l) (x : Int) : Ta w (wx.setCell ⟨b, 14, none⟩ (.int .i64 x)) b r F a k d la so e pl { fr with rs := x } v l := h.call (h.m.set14 x) ((Km.refl b wx).set 14 _)
theorem Ta.set15 (h : Ta w wx b r F a k d la so e pl fr v l) (x : Int) : Ta w (wx.setCell ⟨b, 15, none⟩ (.int .i64 x)) b r F a k d la so e pl { fr with tt := x } v l := h.call (h.m.set15 x) ((Km.refl b wx).set 15 _)
theorem Ta.grown {v' : Value} {x : Jsp.Tk} (h : Ta w wx b r F a k d la so e pl fr v l) (hg : wx.grownBy w2 v.ownBlock) (ho : w2.ownsRow (r + 1) 29 3 v' (l ++ [x]).length (tokCells (l ++ [x]))) : Ta w w2 b r F a k d la so e pl fr v' (l ++ [x]) :=
 have hne : ∀ g, v.ownBlock = some g -> r + 1 <= g := fun g e => (h.ow.lt g e).1
 ⟨(hg.block b h.m.lt (fun e => by have := hne b e.symm; have := h.br; omega)).trans h.m,
  World.grownBy.andThen h.km hg (fun j e => .inl (by have := hne j e; have := h.wr; omega)),
  (hg.block r h.wh.lt (fun e => by have := hne r e.symm; omega)).trans h.wh, ho, h.br, h.wr⟩
theorem Ta.fin (h : Ta w wx b r F a k d la so e pl fr v l) (es eq : Int) (ec eg : Bool) (ek : List UInt8) :
  WhB (pWh wx r es eq ec eg ek) r es eq ec eg ek /\ Km b w (pWh wx r es eq ec eg ek) /\ (pWh wx r es eq ec eg ek).ownsRow w.heap.size 29 3 v l.length (tokCells l) :=
 ⟨pWh_box h.wh es eq ec eg ek, pWh_Km h.km (Nat.le_of_eq h.wr) es eq ec eg ek, ownsRow_base (owns_of_block h.ow fun g e => pWh_other wx (fun eq => by have := (h.ow.lt g e).1; omega) es eq ec eg ek) (by have := h.wr; omega)⟩
theorem Ta.put (h : Ta w wx b r F a k d la so e pl fr v l) {B : Nat} {s0 q0 : Int} {c0 g0 : Bool} {k0 : List UInt8} (hB : WhB wx B s0 q0 c0 g0 k0) (hr : r < B) (es eq : Int) (ec eg : Bool) (ek : List UInt8) :
  Ta w (pWh wx B es eq ec eg ek) b r F a k d la so e pl fr v l :=
 ⟨(pWh_other wx (Nat.ne_of_lt (Nat.lt_trans h.br hr)) es eq ec eg ek).trans h.m, pWh_Km h.km (by have := h.wr; omega) es eq ec eg ek, h.wh.same (pWh_other wx (Nat.ne_of_lt hr) es eq ec eg ek),
  owns_of_block h.ow fun g e => pWh_other wx (fun eq => by
   subst eq
   obtain ⟨c, hc⟩ := ownsRow_kind h.ow g e
   have h2 : wx.heap[g]? = some _ := hB
   rw [h2] at hc
   injection hc with hc
   injection hc with _ hc _
   exact absurd hc (by decide)) es eq ec eg ek, h.br, h.wr⟩
end
def AlQ (F : List UInt8) (w0 w' : World) (v : Value) (er pl : Nat) : Jsp.Al -> Prop
 | .no e p => er = e /\ pl = p /\ v = .slice none 0 0
 | .ok l st _ _ => (st.stk = [] /\ er = 0 /\ pl = 0 /\ w'.ownsRow w0.heap.size 29 3 v l.length (tokCells l) /\ l.length <= F.length) \/ (st.stk ≠ [] /\ er = 177 /\ pl = F.length /\ v = .slice none 0 0)
def AlP (F : List UInt8) (b : Nat) (A : Jsp.Al) (w : World) (e : Ending) (w' : World) : Prop := ∃ (v : Value) (er pl : Nat) (es eq : Int) (ec eg : Bool) (ek : List UInt8),
 e = .returned (.tuple #[v, .int .i64 (er : Int), .int .i64 (pl : Int), .agg (whV es eq ec eg ek)]) /\ Km b w w' /\ AlQ F w w' v er pl A
theorem cell_three (w : World) (t : TypeId) (a b c : Value) : ∀ j u, [a, b, c][j]? = some u -> (w.alloc (.cells #[a, b, c] t)).cell? ((⟨w.heap.size, 0, none⟩ : Addr).add j) = some u := by
 intro j u hu
 have hadd : (⟨w.heap.size, 0, none⟩ : Addr).add j = ⟨w.heap.size, j, none⟩ := by unfold Addr.add; split <;> simp_all
 rw [hadd, World.cell?_alloc_at _ _ _ _ rfl]
 match j, hu with
 | 0, hu => simpa using hu
 | 1, hu => simpa using hu
 | 2, hu => simpa using hu
def txS : List UInt8 := [40, 32, 41, 32, 91, 32, 93, 32, 123, 32, 125, 32, 44, 32, 59]
theorem rAmongS (s : List UInt8) (w : World) : ∃ v, Calls Tryz.prog 53 #[S s, S txS] w (Ret (.bool v) w) := ⟨_, rAmong s txS w (by decide)⟩
theorem rOne (b : Nat) (F : List UInt8) (n : Nat) (st : Jsp.St) (p0 : Int) (fr : Fr) (w : World) (h : MB w b F (n : Int) st.stk (!st.goal) st.last st.some 0 p0 fr) (hn : n < F.length) (hk : st.stk.length <= 200) (hso : st.some = false -> st.last = []) (hl : F.length <= 1048570) :
  Calls Tryz.prog 52 #[.pointer (some ⟨b, 0, none⟩)] w (NxR b F n st w) := by
 have B := rOne_Zb b F n st p0 fr w h hn hk hso hl
 have C := rOne_Zc b F n st p0 fr w h hn hk hso hl
 have E := rOne_Ze b F n st p0 fr w h hn hk hso hl
 have D := rOne_Zd b F n st p0 fr w h hn hk hso hl
 by_cases hbg : Jsp.begins (Jsp.pt (F.drop n)) = true
 ·exact B (.inl hbg)
 have hbg := Bool.eq_false_iff.2 hbg
 by_cases h35 : Jsp.pt (F.drop n) = 35
 ·by_cases hb2 : Jsp.begins (Jsp.pt (F.drop (n + 1))) = true
  ·exact B (.inr (.inl ⟨h35, hb2⟩))
  by_cases hne : F.drop (n + 1) = []
  ·exact B (.inr (.inr ⟨h35, hne⟩))
  ·exact D (.inl ⟨h35, Bool.eq_false_iff.2 hb2, hne⟩)
 by_cases hd : Jsp.digit (Jsp.pt (F.drop n)) = true \/ (Jsp.pt (F.drop n) = 46 /\ Jsp.digit (Jsp.pt (F.drop (n + 1))) = true)
 ·exact C (.inl ⟨hbg, h35, hd⟩)
 by_cases hq : Jsp.pt (F.drop n) = 34 \/ Jsp.pt (F.drop n) = 39
 ·rcases hq with hq | hq
  ·exact C (.inr (.inl hq))
  ·exact C (.inr (.inr hq))
 by_cases ht : Jsp.pt (F.drop n) = 96 \/ (Jsp.pt (F.drop n) = 125 /\ Jsp.top st = 36)
 ·rcases ht with ht | ht
  ·exact E (.inl ht)
  ·exact E (.inr (.inl ht))
 by_cases hrg : Jsp.pt (F.drop n) = 47 /\ st.goal = true
 ·exact E (.inr (.inr hrg))
 by_cases h46 : Jsp.pt (F.drop n) = 46
 ·exact D (.inr ⟨hbg, h35, hd, hq, ht, hrg, .inl h46⟩)
 by_cases h125 : Jsp.pt (F.drop n) = 125
 ·exact D (.inr ⟨hbg, h35, hd, hq, ht, hrg, .inr (.inl h125)⟩)
 by_cases h47 : Jsp.pt (F.drop n) = 47
 ·exact D (.inr ⟨hbg, h35, hd, hq, ht, hrg, .inr (.inr (.inl h47))⟩)
 exact D (.inr ⟨hbg, h35, hd, hq, ht, hrg, .inr (.inr (.inr ⟨h46, h125, h47⟩))⟩)
end Go.Proofs.YtngccmlcopcghaaGreatDoor
