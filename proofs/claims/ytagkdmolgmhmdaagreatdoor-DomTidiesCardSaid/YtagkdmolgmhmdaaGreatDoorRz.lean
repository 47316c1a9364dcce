/- A replacer at work: made at its first use. -/
import Derived.Test.YtagkdmolgmhmdaaGreatDoorRy
namespace Go.Proofs.YtagkdmolgmhmdaaGreatDoor
open Go.RowKit

set_option maxRecDepth 100000 in
set_option maxHeartbeats 1600000 in
theorem doOnce (Q B : Nat) (look : UInt8 → Option Rp.Nd) (o : Value) (w : World) (hQ : RepAt w Q 0 0 0 .nilIface o) (hB : B ≤ Q)
    (hf : Hid (∀ W : World, RepAt W Q 0 1 0 .nilIface o → (∀ k : Nat, k ≠ Q → W.heap[k]? = w.heap[k]?) → Calls Tryz.prog 96 #[.pointer (some ⟨Q, 0, none⟩)] W fun e w' => e = .returned (.tuple #[]) ∧ (∃ R, RepAt w' Q 0 1 0 (.iface 154 (.pointer (some ⟨R, 0, none⟩))) (.slice none 0 0) ∧ Gen w' R look) ∧ Below B W w')) :
    Calls Tryz.prog 95 #[.pointer (some ⟨Q, 0, none⟩), .func (.func 96) #[.pointer (some ⟨Q, 0, none⟩)] #[]] w fun e w' => e = .returned (.tuple #[]) ∧ Ready w' Q look ∧ Below B w w' := by
  go_enter Tryz.func95, Tryz.ntmps95
  go_wp2_with fail
  refine (boolLoad ⟨Q, 0, none⟩ 0 false _ hQ.cells.1.1 rfl).mono ?_
  rintro e w' ⟨rfl, rfl⟩
  go_wp2_with fail
  refine (slow Q B look o w hQ hB hf).mono ?_
  rintro e w2 ⟨rfl, hR, hB2⟩
  have HR := hide hR
  clear hR
  go_wp2_with fail
  refine bodyPost_end (results_none (by kernel_rfl) _ _ _) rfl ?_
  exact ⟨rfl, HR.out, hB2⟩

set_option maxRecDepth 100000 in
set_option maxHeartbeats 1600000 in
theorem replaceOnce (Q B : Nat) (look : UInt8 → Option Rp.Nd) (s u : List UInt8) (o : Value) (w : World) (hQ : RepAt w Q 0 0 0 .nilIface o) (hB : B ≤ Q)
    (hf : Hid (∀ W : World, RepAt W Q 0 1 0 .nilIface o → (∀ k : Nat, k ≠ Q → W.heap[k]? = w.heap[k]?) → Calls Tryz.prog 96 #[.pointer (some ⟨Q, 0, none⟩)] W fun e w' => e = .returned (.tuple #[]) ∧ (∃ R, RepAt w' Q 0 1 0 (.iface 154 (.pointer (some ⟨R, 0, none⟩))) (.slice none 0 0) ∧ Gen w' R look) ∧ Below B W w'))
    (hp : Hid (∀ c nd, look c = some nd → 0 ≤ nd.p1 ∧ ∀ d p2 v2, nd.nx = some (d, p2, v2) → 0 < p2)) (hl : s.length ≤ 1048576) (hul : u.length ≤ 140737488355328) (hu : Hid (Rp.repl look 0 s = u)) :
    Calls Tryz.prog 82 #[.pointer (some ⟨Q, 0, none⟩), S s] w fun e w' => e = .returned (S u) ∧ Below B w w' := by
  have hmf : ∀ (fn : Fn) (first cap : Array Value) (w : World), (Instr.makeFunc fn first cap).run Tryz.prog w = .ok (.func fn first cap) w := fun _ _ _ _ => rfl
  have hQl := heap_lt hQ
  go_enter Tryz.func82, Tryz.ntmps82
  go_wp2_with fail
  refine (doOnce Q B look o w hQ hB hf).mono ?_
  rintro e w2 ⟨rfl, ⟨R, hR, hG⟩, hB2⟩
  obtain ⟨⟨q0, q1, q2, q3, q4⟩, hz⟩ := hR.cells
  have HG := hide hG
  clear hG q0 q1 q2 q4 hz hR
  have hme : ∀ W : World, Sem.run Tryz.prog (method 355 154 (.pointer (some ⟨R, 0, none⟩)) "Replace") W = .ok (197, .pointer (some ⟨R, 0, none⟩)) W := fun W => by kernel_rfl
  go_wp2_with fail
  refine (genReplace R look s u w2 HG.out hp hl hul hu).mono ?_
  rintro e w3 ⟨rfl, hB3⟩
  have hB4 : Below B w w3 := hB2.trans (hB3.mono (by have := hB2.size; omega))
  clear hme hmf HG
  go_wp2_with fail
  go_ret
  exact ⟨rfl, hB4⟩

end Go.Proofs.YtagkdmolgmhmdaaGreatDoor
