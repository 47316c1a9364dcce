/- Two hosts that are the same are equal. -/
import Derived.Test.YtahjndignkhmoaaGreatDoorX
import Derived.ChangeKeysEq
import Derived.Laws.StructEq
namespace Go.Proofs.YtahjndignkhmoaaGreatDoor
open Go.RowKit

theorem eq8_run (n0 n1 n2 n3 n4 n5 n6 n7 : Int) (d : Nat) (w : World) : (Op.equalIn (d + 2) 25 (.agg (U8 n0 n1 n2 n3 n4 n5 n6 n7)) (.agg (U8 n0 n1 n2 n3 n4 n5 n6 n7))).run Tryz.prog w = .ok true w := by
  obtain ⟨i0, hi0, hz0, hz1, hz2⟩ := info_parts info_u16
  have hc : Tryz.prog.cellsOf 24 = 1 := by kernel_rfl
  rw [run_equalIn_array w (d + 1) _ _ Tryz.underlying25 hi0, hc]
  simp [Op.eqItems, List.range_succ, go_sem, part, isAgg, Tryz.underlying24]
theorem eqHost_run (k : Int) (s : List UInt8) (n n0 n1 n2 n3 n4 n5 n6 n7 : Int) (w : World) : (Op.equalIn 10000 27 (H11 k s n n0 n1 n2 n3 n4 n5 n6 n7) (H11 k s n n0 n1 n2 n3 n4 n5 n6 n7)).run Tryz.prog w = .ok true w := by
  rw [run_equalIn_agg w 9999 27 _ _ (by simp [Program.fieldsOf, Tryz.underlying27]) (by kernel_rfl)]
  simp only [Program.fieldsOf, Tryz.underlying27]
  simp [Op.eqFields, go_sem, part]
  rw [show 9999 = 9997 + 2 from rfl, eq8_run]
  rfl
theorem eqHost (k : Int) (s : List UInt8) (n n0 n1 n2 n3 n4 n5 n6 n7 : Int) (w : World) : (binOp .eql 27 (H11 k s n n0 n1 n2 n3 n4 n5 n6 n7) (H11 k s n n0 n1 n2 n3 n4 n5 n6 n7)).run Tryz.prog w = .ok (.bool true) w := by
  rw [run_eql_struct]
  rw [eqHost_run]; rfl
theorem neqHost (k : Int) (s : List UInt8) (n n0 n1 n2 n3 n4 n5 n6 n7 : Int) (w : World) : (binOp .neq 27 (H11 k s n n0 n1 n2 n3 n4 n5 n6 n7) (H11 k s n n0 n1 n2 n3 n4 n5 n6 n7)).run Tryz.prog w = .ok (.bool false) w := by
  rw [run_neq_struct]
  rw [eqHost_run]; rfl
theorem eqV6 (n0 n1 n2 n3 n4 n5 n6 n7 : Int) (w : World) : (binOp .eql 25 (.agg (U8 n0 n1 n2 n3 n4 n5 n6 n7)) (.agg (U8 n0 n1 n2 n3 n4 n5 n6 n7))).run Tryz.prog w = .ok (.bool true) w := by
  rw [run_eql_struct, show 10000 = 9998 + 2 from rfl, eq8_run]
  rfl
theorem gHost : Tryz.prog.eqGuardType Tryz.prog.depth 27 = false := by kernel_rfl
theorem gV6 : Tryz.prog.eqGuardType Tryz.prog.depth 25 = false := by kernel_rfl

/-! ### the chapter's examples -/
theorem ex1 : Hostp.parse [69, 88, 97, 109, 112, 108, 101, 46, 67, 79, 77] true = some (.domain [101, 120, 97, 109, 112, 108, 101, 46, 99, 111, 109]) := by kernel_rfl
theorem ex2 : Hostp.parse [48, 120, 55, 102, 46, 49] true = some (.four 2130706433) := by kernel_rfl
theorem ex3 : Hostp.parse [91, 49, 58, 58, 50, 58, 48, 58, 48, 58, 51, 93] false = some (.eight [1, 0, 0, 0, 2, 0, 0, 3]) := by kernel_rfl
theorem ex4 : Hostp.parse [49, 46, 50, 46, 51, 46, 52, 46, 53] true = none := by kernel_rfl
theorem ex5 : Hostp.parse [195, 169, 37] false = some (.opaque_ [37, 67, 51, 37, 65, 57, 37]) := by kernel_rfl
theorem ex6 : showH 3 [] 2130706433 [0, 0, 0, 0, 0, 0, 0, 0] = [49, 50, 55, 46, 48, 46, 48, 46, 49] := by kernel_rfl
theorem ex7 : showH 4 [] 0 [1, 0, 0, 0, 2, 0, 0, 3] = [91, 49, 58, 58, 50, 58, 48, 58, 48, 58, 51, 93] := by
  have hm : Hostp.mostOf [1, 0, 0, 0, 2, 0, 0, 3] = 3 := by kernel_rfl
  have ha : Hostp.atOf [1, 0, 0, 0, 2, 0, 0, 3] = 1 := by kernel_rfl
  have h0 : Hostp.repr 16 0 = [48] := Hostp.repr_lo 16 0 (by decide)
  have h1 : Hostp.repr 16 1 = [49] := Hostp.repr_lo 16 1 (by decide)
  have h2 : Hostp.repr 16 2 = [50] := Hostp.repr_lo 16 2 (by decide)
  have h3 : Hostp.repr 16 3 = [51] := Hostp.repr_lo 16 3 (by decide)
  rw [showH, if_neg (by decide), if_neg (by decide), if_pos rfl, Hostp.show6, hm, ha, if_neg (by decide)]
  simp [Hostp.words, Hostp.joinW, h0, h1, h2, h3]
end Go.Proofs.YtahjndignkhmoaaGreatDoor
