/- sync.Once calls a replacer's making. -/
import Derived.Test.YtagkdmolgmhmdaaGreatDoorRx
namespace Go.Proofs.YtagkdmolgmhmdaaGreatDoor
open Go.RowKit

/-- a replacer made ready -/
def Ready (w : World) (Q : Nat) (look : UInt8 → Option Rp.Nd) : Prop := ∃ R, RepAt w Q 1 0 0 (.iface 154 (.pointer (some ⟨R, 0, none⟩))) (.slice none 0 0) ∧ Gen w R look

set_option maxRecDepth 100000 in
theorem boolLoad (a : Addr) (d : Int) (b : Bool) (w : World) (hc : w.cell? a = some (.int .u32 d)) (hb : (d != 0) = b) : Calls Tryz.prog 105 #[.pointer (some a)] w (Ret (.bool b) w) := by
  have hl := run_call_load (P := Tryz.prog) Tryz.func114 (by kernel_rfl) (by kernel_rfl) (by kernel_rfl) .u32 (by kernel_rfl) hc
  go_enter Tryz.func105, Tryz.ntmps105
  go_wp2
  go_ret
  exact Ret.of (by rw [← hb]; rfl)

set_option maxRecDepth 100000 in
set_option maxHeartbeats 1600000 in
theorem slow (Q B : Nat) (look : UInt8 → Option Rp.Nd) (o : Value) (w : World) (hQ : RepAt w Q 0 0 0 .nilIface o) (hB : B ≤ Q)
    (hf : Hid (∀ W : World, RepAt W Q 0 1 0 .nilIface o → (∀ k : Nat, k ≠ Q → W.heap[k]? = w.heap[k]?) → Calls Tryz.prog 96 #[.pointer (some ⟨Q, 0, none⟩)] W fun e w' => e = .returned (.tuple #[]) ∧ (∃ R, RepAt w' Q 0 1 0 (.iface 154 (.pointer (some ⟨R, 0, none⟩))) (.slice none 0 0) ∧ Gen w' R look) ∧ Below B W w')) :
    Calls Tryz.prog 106 #[.pointer (some ⟨Q, 0, none⟩), .func (.func 96) #[.pointer (some ⟨Q, 0, none⟩)] #[]] w fun e w' => e = .returned (.tuple #[]) ∧ Ready w' Q look ∧ Below B w w' := by
  obtain ⟨⟨q0, q1, q2, q3, q4⟩, hz⟩ := hQ.cells
  have z1 := hz 1
  have hW : RepAt (w.setCell ⟨Q, 1, none⟩ (.int .i32 1)) Q 0 1 0 .nilIface o := row_set hQ 1 _
  have hWB : Below B w (w.setCell ⟨Q, 1, none⟩ (.int .i32 1)) := (Below.refl B w).setCell hB _
  have hl := run_call_load (P := Tryz.prog) Tryz.func114 (by kernel_rfl) (by kernel_rfl) (by kernel_rfl) .u32 (by kernel_rfl) (w := w.setCell ⟨Q, 1, none⟩ (.int .i32 1)) (a := ⟨Q, 0, none⟩) (x := 0) hW.cells.1.1
  have hnot : ∀ (x : Bool) (w : World), (Op.unary .not (.bool x)).run Tryz.prog w = .ok (.bool (!x)) w := fun _ _ => rfl
  go_enter_defers Tryz.func106, Tryz.ntmps106
  go_wp2_with (go_at_call 115; refine (lock_free ⟨Q, 1, none⟩ _ q1 z1).mono ?_; rintro e w' ⟨rfl, rfl⟩)
  refine (boolLoad ⟨Q, 0, none⟩ 0 false _ hW.cells.1.1 rfl).mono ?_
  rintro e w' ⟨rfl, rfl⟩
  go_wp2_with fail
  refine (hf.out _ hW (fun k hk => by simp [World.setCell, Array.getElem?_modify, Ne.symm hk])).mono ?_
  rintro e w2 ⟨rfl, ⟨R, hR2, hG2⟩, hB2⟩
  have hB3 := hWB.trans hB2
  have HG2 := hide hG2
  have HR2 := hide hR2
  clear hG2 hR2 hB2 hl hnot
  go_wp2_with fail
  have k2 := HR2.out.cells
  have hR3 : RepAt (w2.drew.setCell ⟨Q, 0, none⟩ (.int .u32 1)) Q 1 1 0 (.iface 154 (.pointer (some ⟨R, 0, none⟩))) (.slice none 0 0) := row_set (w := w2.drew) HR2.out 0 _
  have hR4 : RepAt ((w2.drew.setCell ⟨Q, 0, none⟩ (.int .u32 1)).setCell ⟨Q, 1, none⟩ (.int .i32 0)) Q 1 0 0 (.iface 154 (.pointer (some ⟨R, 0, none⟩))) (.slice none 0 0) := row_set hR3 1 _
  have hG4 := HG2.out.keep (w' := (w2.drew.setCell ⟨Q, 0, none⟩ (.int .u32 1)).setCell ⟨Q, 1, none⟩ (.int .i32 0)) HR2.out (by simp) (by simp) fun k hk => by
    show _ = (w2.drew).heap[k]?
    generalize w2.drew = z
    simp [World.setCell, Array.getElem?_modify, Ne.symm hk]
  have hB4 := ((hB3.trans ((belowN w2 1).mono (by have := heap_lt HR2.out; omega))).setCell (p := ⟨Q, 0, none⟩) hB (.int .u32 1)).setCell (p := ⟨Q, 1, none⟩) hB (.int .i32 0)
  refine leaves_cons (f := 117) (args := #[.pointer (some ⟨Q, 0, none⟩), .bool true]) (by simp) (by simp [go_sem]) ?_
  refine (store_deferred ⟨Q, 0, none⟩ (.int .u32 0) .returning _ k2.1.1 (k2.2 0)).mono ?_
  rintro e u' w'' ⟨rfl, rfl, rfl⟩
  refine leaves_cons (f := 116) (args := #[.pointer (some ⟨Q, 1, none⟩)]) (by simp [settle]) (by simp [go_sem]) ?_
  refine (unlock_deferred ⟨Q, 1, none⟩ _ _ hR3.cells.1.2.1 (hR3.cells.2 1)).mono ?_
  rintro e u' w'' ⟨rfl, rfl, rfl⟩
  simp [Leaves, settle, results, Tryz.results106]
  exact ⟨⟨R, hR4, hG4⟩, hB4⟩
end Go.Proofs.YtagkdmolgmhmdaaGreatDoor
