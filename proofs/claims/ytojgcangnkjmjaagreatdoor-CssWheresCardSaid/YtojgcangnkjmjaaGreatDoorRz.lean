/- The parts of sync.Once, each a contract of its own. -/
import Derived.Test.YtojgcangnkjmjaaGreatDoorRv
import Derived.Tactics
import Derived.Tactics2
import Derived.Defers
import Derived.Laws.Pointers
import Derived.Laws.LoneSync
import Derived.RegionTactic
import Derived.RegionCalls
namespace Go.Proofs.YtojgcangnkjmjaaGreatDoor
open Go.RowKit

theorem disable (w : World) : (callFunc 153 #[]).run Tryz.prog w = .ok (.value (.tuple #[])) w := run_call_mark0 Tryz.func153 (by kernel_rfl) (by kernel_rfl) (by kernel_rfl) .disable (by kernel_rfl) w
theorem enable (w : World) : (callFunc 155 #[]).run Tryz.prog w = .ok (.value (.tuple #[])) w := run_call_mark0 Tryz.func155 (by kernel_rfl) (by kernel_rfl) (by kernel_rfl) .enable (by kernel_rfl) w
theorem acquire (a : Addr) (w : World) : (callFunc 156 #[.pointer (some a)]).run Tryz.prog w = .ok (.value (.tuple #[])) w := run_call_marked Tryz.func156 (by kernel_rfl) (by kernel_rfl) (by kernel_rfl) .acquire (by kernel_rfl) a w
theorem releaseMerge (a : Addr) (w : World) : (callFunc 158 #[.pointer (some a)]).run Tryz.prog w = .ok (.value (.tuple #[])) w := run_call_marked Tryz.func158 (by kernel_rfl) (by kernel_rfl) (by kernel_rfl) .releaseMerge (by kernel_rfl) a w

set_option maxRecDepth 100000 in
set_option maxHeartbeats 1600000 in
theorem store_deferred (a : Addr) (x : Value) (u : FrameMode) (w : World) (hc : w.cell? a = some x) (hz : w.frozen? a = false) :
    CallsD Tryz.prog 118 #[.pointer (some a), .bool true] u w fun e u' w' => u' = u ∧ (e = .returned (.tuple #[]) ∧ w' = w.drew.setCell a (.int .u32 1)) := by
  have hc' : w.drew.cell? a = some x := by go_simp
  have hz' : w.drew.frozen? a = false := by go_simp
  have hst := run_call_store (P := Tryz.prog) Tryz.func140 (by kernel_rfl) (by kernel_rfl) (by kernel_rfl) (by kernel_rfl) (k := .u32) (y := 1) hc' hz'
  go_enter_d Tryz.func118, Tryz.ntmps118
  go_wp2
  go_region_calls
  all_goals (go_end0; exact ⟨rfl, rfl⟩)

set_option maxRecDepth 100000 in
set_option maxHeartbeats 1600000 in
theorem unlock_deferred (a : Addr) (u : FrameMode) (w : World) (hc : w.cell? a = some (.int .i32 1)) (hz : w.frozen? a = false) :
    CallsD Tryz.prog 117 #[.pointer (some a)] u w fun e u' w' => u' = u ∧ (e = .returned (.tuple #[]) ∧ w' = w.setCell a (.int .i32 0)) := by
  have hd := disable
  have he := enable
  have hr := releaseMerge
  have hadd := run_call_add (P := Tryz.prog) Tryz.func159 (by kernel_rfl) (by kernel_rfl) (by kernel_rfl) .i32 (by kernel_rfl) (y := -1) (s := 0) hc hz (by simp [go_sem]; rfl)
  have hcv := run_convert_to_unsafe (P := Tryz.prog) (src := 186) (dst := 153) Tryz.underlying186 Tryz.underlying153 (by kernel_rfl) hc
  go_enter_d Tryz.func117, Tryz.ntmps117
  go_wp2
  go_end0
  go_wp2
  go_end0
  exact ⟨rfl, rfl⟩

set_option maxRecDepth 100000 in
set_option maxHeartbeats 1600000 in
theorem lock_free (a : Addr) (w : World) (hc : w.cell? a = some (.int .i32 0)) (hz : w.frozen? a = false) :
    Calls Tryz.prog 116 #[.pointer (some a)] w fun e w' => e = .returned (.tuple #[]) ∧ w' = w.setCell a (.int .i32 1) := by
  have hd := disable
  have he := enable
  have ha := acquire
  have hcas := run_call_cas_hit (P := Tryz.prog) Tryz.func154 (by kernel_rfl) (by kernel_rfl) (by kernel_rfl) .i32 (by kernel_rfl) (y := 1) hc hz
  have hc' : (w.setCell a (.int .i32 1)).cell? a = some (.int .i32 1) := World.cell?_setCell_same w a _ hc
  have hcv := run_convert_to_unsafe (P := Tryz.prog) (src := 186) (dst := 153) Tryz.underlying186 Tryz.underlying153 (by kernel_rfl) hc'
  go_enter Tryz.func116, Tryz.ntmps116
  go_wp2
  first | go_end0 | (simp only [Exit.inBlock, Exit.then]; refine bodyPost_ret (results_none rfl _ _ _) rfl ?_) | refine bodyPost_ret (results_none rfl _ _ _) rfl ?_
  go_wp2
  go_end0
  exact ⟨rfl, rfl⟩
end Go.Proofs.YtojgcangnkjmjaaGreatDoor
namespace Go.Proofs.YtojgcangnkjmjaaGreatDoor
open Go.RowKit

/-- a replacer made ready -/
def Ready (w : World) (Q : Nat) (look : UInt8 → Option Rp.Nd) : Prop := ∃ R, RepAt w Q 1 0 0 (.iface 141 (.pointer (some ⟨R, 0, none⟩))) (.slice none 0 0) ∧ Gen w R look

set_option maxRecDepth 100000 in
theorem boolLoad (a : Addr) (d : Int) (b : Bool) (w : World) (hc : w.cell? a = some (.int .u32 d)) (hb : (d != 0) = b) : Calls Tryz.prog 89 #[.pointer (some a)] w (Ret (.bool b) w) := by
  have hl := run_call_load (P := Tryz.prog) Tryz.func115 (by kernel_rfl) (by kernel_rfl) (by kernel_rfl) .u32 (by kernel_rfl) hc
  go_enter Tryz.func89, Tryz.ntmps89
  go_wp2
  go_ret
  exact Ret.of (by rw [← hb]; rfl)

set_option maxRecDepth 100000 in
set_option maxHeartbeats 1600000 in
theorem slow (Q B : Nat) (look : UInt8 → Option Rp.Nd) (o : Value) (w : World) (hQ : RepAt w Q 0 0 0 .nilIface o) (hB : B ≤ Q)
    (hf : Hid (∀ W : World, RepAt W Q 0 1 0 .nilIface o → (∀ k : Nat, k ≠ Q → W.heap[k]? = w.heap[k]?) → Calls Tryz.prog 59 #[.pointer (some ⟨Q, 0, none⟩)] W fun e w' => e = .returned (.tuple #[]) ∧ (∃ R, RepAt w' Q 0 1 0 (.iface 141 (.pointer (some ⟨R, 0, none⟩))) (.slice none 0 0) ∧ Gen w' R look) ∧ Below B W w')) :
    Calls Tryz.prog 90 #[.pointer (some ⟨Q, 0, none⟩), .func (.func 59) #[.pointer (some ⟨Q, 0, none⟩)] #[]] w fun e w' => e = .returned (.tuple #[]) ∧ Ready w' Q look ∧ Below B w w' := by
  obtain ⟨⟨q0, q1, q2, q3, q4⟩, hz⟩ := hQ.cells
  have z1 := hz 1
  have hW : RepAt (w.setCell ⟨Q, 1, none⟩ (.int .i32 1)) Q 0 1 0 .nilIface o := row_set hQ 1 _
  have hWB : Below B w (w.setCell ⟨Q, 1, none⟩ (.int .i32 1)) := (Below.refl B w).setCell hB _
  have hl := run_call_load (P := Tryz.prog) Tryz.func115 (by kernel_rfl) (by kernel_rfl) (by kernel_rfl) .u32 (by kernel_rfl) (w := w.setCell ⟨Q, 1, none⟩ (.int .i32 1)) (a := ⟨Q, 0, none⟩) (x := 0) hW.cells.1.1
  have hnot : ∀ (x : Bool) (w : World), (Op.unary .not (.bool x)).run Tryz.prog w = .ok (.bool (!x)) w := fun _ _ => rfl
  go_enter_defers Tryz.func90, Tryz.ntmps90
  go_wp2_with (go_at_call 116; refine (lock_free ⟨Q, 1, none⟩ _ q1 z1).mono ?_; rintro e w' ⟨rfl, rfl⟩)
  refine (boolLoad ⟨Q, 0, none⟩ 0 false _ hW.cells.1.1 rfl).mono ?_
  rintro e w' ⟨rfl, rfl⟩
  go_wp2_with fail
  refine (hf.out _ hW (fun k hk => by simp [World.setCell, Array.getElem?_modify, Ne.symm hk])).mono ?_
  rintro e w2 ⟨rfl, ⟨R, hR2, hG2⟩, hB2⟩
  have hB3 := hWB.trans hB2
  have HG2 := hide hG2
  have HR2 := hide hR2
  clear hG2 hR2 hB2 hl hnot
  go_wp2_with fail
  have k2 := HR2.out.cells
  have hR3 : RepAt (w2.drew.setCell ⟨Q, 0, none⟩ (.int .u32 1)) Q 1 1 0 (.iface 141 (.pointer (some ⟨R, 0, none⟩))) (.slice none 0 0) := row_set (w := w2.drew) HR2.out 0 _
  have hR4 : RepAt ((w2.drew.setCell ⟨Q, 0, none⟩ (.int .u32 1)).setCell ⟨Q, 1, none⟩ (.int .i32 0)) Q 1 0 0 (.iface 141 (.pointer (some ⟨R, 0, none⟩))) (.slice none 0 0) := row_set hR3 1 _
  have hG4 := HG2.out.keep (w' := (w2.drew.setCell ⟨Q, 0, none⟩ (.int .u32 1)).setCell ⟨Q, 1, none⟩ (.int .i32 0)) HR2.out (by simp) (by simp) fun k hk => by
    show _ = (w2.drew).heap[k]?
    generalize w2.drew = z
    simp [World.setCell, Array.getElem?_modify, Ne.symm hk]
  have hB4 := ((hB3.trans ((belowN w2 1).mono (by have := heap_lt HR2.out; omega))).setCell (p := ⟨Q, 0, none⟩) hB (.int .u32 1)).setCell (p := ⟨Q, 1, none⟩) hB (.int .i32 0)
  refine leaves_cons (f := 118) (args := #[.pointer (some ⟨Q, 0, none⟩), .bool true]) (by simp) (by simp [go_sem]) ?_
  refine (store_deferred ⟨Q, 0, none⟩ (.int .u32 0) .returning _ k2.1.1 (k2.2 0)).mono ?_
  rintro e u' w'' ⟨rfl, rfl, rfl⟩
  refine leaves_cons (f := 117) (args := #[.pointer (some ⟨Q, 1, none⟩)]) (by simp [settle]) (by simp [go_sem]) ?_
  refine (unlock_deferred ⟨Q, 1, none⟩ _ _ hR3.cells.1.2.1 (hR3.cells.2 1)).mono ?_
  rintro e u' w'' ⟨rfl, rfl, rfl⟩
  simp [Leaves, settle, results, Tryz.results90]
  exact ⟨⟨R, hR4, hG4⟩, hB4⟩
end Go.Proofs.YtojgcangnkjmjaaGreatDoor
namespace Go.Proofs.YtojgcangnkjmjaaGreatDoor
open Go.RowKit

set_option maxRecDepth 100000 in
set_option maxHeartbeats 1600000 in
theorem doOnce (Q B : Nat) (look : UInt8 → Option Rp.Nd) (o : Value) (w : World) (hQ : RepAt w Q 0 0 0 .nilIface o) (hB : B ≤ Q)
    (hf : Hid (∀ W : World, RepAt W Q 0 1 0 .nilIface o → (∀ k : Nat, k ≠ Q → W.heap[k]? = w.heap[k]?) → Calls Tryz.prog 59 #[.pointer (some ⟨Q, 0, none⟩)] W fun e w' => e = .returned (.tuple #[]) ∧ (∃ R, RepAt w' Q 0 1 0 (.iface 141 (.pointer (some ⟨R, 0, none⟩))) (.slice none 0 0) ∧ Gen w' R look) ∧ Below B W w')) :
    Calls Tryz.prog 58 #[.pointer (some ⟨Q, 0, none⟩), .func (.func 59) #[.pointer (some ⟨Q, 0, none⟩)] #[]] w fun e w' => e = .returned (.tuple #[]) ∧ Ready w' Q look ∧ Below B w w' := by
  go_enter Tryz.func58, Tryz.ntmps58
  go_wp2_with fail
  refine (boolLoad ⟨Q, 0, none⟩ 0 false _ hQ.cells.1.1 rfl).mono ?_
  rintro e w' ⟨rfl, rfl⟩
  go_wp2_with fail
  refine (slow Q B look o w hQ hB hf).mono ?_
  rintro e w2 ⟨rfl, hR, hB2⟩
  have HR := hide hR
  clear hR
  go_wp2_with fail
  refine bodyPost_end (results_none (by kernel_rfl) _ _ _) rfl ?_
  exact ⟨rfl, HR.out, hB2⟩

set_option maxRecDepth 100000 in
set_option maxHeartbeats 1600000 in
theorem replaceOnce (Q B : Nat) (look : UInt8 → Option Rp.Nd) (s u : List UInt8) (o : Value) (w : World) (hQ : RepAt w Q 0 0 0 .nilIface o) (hB : B ≤ Q)
    (hf : Hid (∀ W : World, RepAt W Q 0 1 0 .nilIface o → (∀ k : Nat, k ≠ Q → W.heap[k]? = w.heap[k]?) → Calls Tryz.prog 59 #[.pointer (some ⟨Q, 0, none⟩)] W fun e w' => e = .returned (.tuple #[]) ∧ (∃ R, RepAt w' Q 0 1 0 (.iface 141 (.pointer (some ⟨R, 0, none⟩))) (.slice none 0 0) ∧ Gen w' R look) ∧ Below B W w'))
    (hp : Hid (∀ c nd, look c = some nd → 0 ≤ nd.p1 ∧ ∀ d p2 v2, nd.nx = some (d, p2, v2) → 0 < p2)) (hl : s.length ≤ 1048576) (hul : u.length ≤ 140737488355328) (hu : Hid (Rp.repl look 0 s = u)) :
    Calls Tryz.prog 36 #[.pointer (some ⟨Q, 0, none⟩), S s] w fun e w' => e = .returned (S u) ∧ Below B w w' := by
  have hmf : ∀ (fn : Fn) (first cap : Array Value) (w : World), (Instr.makeFunc fn first cap).run Tryz.prog w = .ok (.func fn first cap) w := fun _ _ _ _ => rfl
  have hQl := heap_lt hQ
  go_enter Tryz.func36, Tryz.ntmps36
  go_wp2_with fail
  refine (doOnce Q B look o w hQ hB hf).mono ?_
  rintro e w2 ⟨rfl, ⟨R, hR, hG⟩, hB2⟩
  obtain ⟨⟨q0, q1, q2, q3, q4⟩, hz⟩ := hR.cells
  have HG := hide hG
  clear hG q0 q1 q2 q4 hz hR
  have hme : ∀ W : World, Sem.run Tryz.prog (method 347 141 (.pointer (some ⟨R, 0, none⟩)) "Replace") W = .ok (209, .pointer (some ⟨R, 0, none⟩)) W := fun W => by kernel_rfl
  go_wp2_with fail
  refine (genReplace R look s u w2 HG.out hp hl hul hu).mono ?_
  rintro e w3 ⟨rfl, hB3⟩
  have hB4 : Below B w w3 := hB2.trans (hB3.mono (by have := hB2.size; omega))
  clear hme hmf HG
  go_wp2_with fail
  go_ret
  exact ⟨rfl, hB4⟩

end Go.Proofs.YtojgcangnkjmjaaGreatDoor
