/- How long what is shown of a tree is, at the most. -/
import Derived.Test.YtagkdmolgmhmdaaGreatDoorPs
namespace Go.Proofs.YtagkdmolgmhmdaaGreatDoor
open Go.RowKit

theorem totA_mem {l : List Dm.A} {a : Dm.A} (h : a ∈ l) : a.tot ≤ Dm.totA l := by
  induction l with
  | nil => cases h
  | cons x r ih =>
    rw [Dm.totA]
    rcases List.mem_cons.1 h with e | e
    · rw [e]; omega
    · have := ih e; omega
theorem totA_len (l : List Dm.A) : l.length ≤ Dm.totA l := by
  induction l with
  | nil => simp [Dm.totA]
  | cons x r ih => rw [Dm.totA, List.length_cons]; unfold Dm.A.tot; omega
theorem tot_pos (t : Dm.T) : 1 ≤ t.tot := by
  cases t with
  | mk d ks => rw [Dm.T.tot]; unfold Dm.D.tot; omega
theorem totK_mem {l : List Dm.T} {t : Dm.T} (h : t ∈ l) : t.tot ≤ Dm.totK l := by
  induction l with
  | nil => cases h
  | cons x r ih =>
    rw [Dm.totK]
    rcases List.mem_cons.1 h with e | e
    · rw [e]; omega
    · have := ih e; omega
theorem totK_len (l : List Dm.T) : l.length ≤ Dm.totK l := by
  induction l with
  | nil => simp [Dm.totK]
  | cons x r ih => rw [Dm.totK, List.length_cons]; have := tot_pos x; omega
theorem lim_of (N : Nat) (t : Dm.T) : t.tot ≤ N → t.Lim N := by
  refine Dm.T.induct (C := fun t => t.tot ≤ N → t.Lim N) (fun d ks ih h => ?_) t
  rw [Dm.T.tot] at h
  unfold Dm.D.tot at h
  have h1 := totA_len d.ats
  have h2 := totK_len ks
  refine ⟨⟨by omega, by omega, by omega, by omega, by omega, by omega, fun a ha => ?_⟩, by omega, Dm.LimK.of fun t ht => ih t ht ?_⟩
  · have := totA_mem ha
    unfold Dm.A.tot at this
    exact ⟨by omega, by omega, by omega⟩
  · have := totK_mem ht
    omega
theorem mul_in {a b c : Nat} (h : a ≤ b) : a * c ≤ b * c := Nat.mul_le_mul_right c h
theorem linesA_len (ind : List UInt8) (l : List Dm.A) : (linesA ind l).length ≤ Dm.totA l * (ind.length + 20) := by
  induction l with
  | nil => simp [linesA, Dm.totA]
  | cons a r ih =>
    have e : linesA ind (a :: r) = lineP ind (partsA a) ++ linesA ind r := by simp [linesA]
    rw [e, List.length_append, Dm.totA, Nat.add_mul]
    have h1 := bareP_len a.sp
    have h2 := bareP_len a.nm
    have h3 := bareP_len a.vl
    have h4 : (lineP ind (partsA a)).length = ind.length + (bareP a.sp).length + (bareP a.nm).length + (bareP a.vl).length + 8 := by
      simp [lineP, partsA, quotedP]
      omega
    have h5 : a.tot * (ind.length + 20) = (a.sp.length + a.nm.length + a.vl.length) * (ind.length + 20) + (ind.length + 20) := by
      unfold Dm.A.tot
      rw [Nat.add_mul, Nat.one_mul]
    have h6 : (a.sp.length + a.nm.length + a.vl.length) * 4 ≤ (a.sp.length + a.nm.length + a.vl.length) * (ind.length + 20) := Nat.mul_le_mul_left _ (by omega)
    omega
theorem headP_len (ind : List UInt8) (d : Dm.D) : (headP ind d).length ≤ d.tot * (ind.length + 20) := by
  unfold headP
  have h0 : (if d.kd = 3 then linesA ind d.ats else []).length ≤ Dm.totA d.ats * (ind.length + 20) := by
    split
    · exact linesA_len ind d.ats
    · simp
  have h1 := bareP_len d.sp
  have h2 := bareP_len d.nm
  have h3 := bareP_len d.tx
  have h4 := bareP_len d.pb
  have h5 := bareP_len d.sy
  have h6 : (lineP ind (partsD d)).length ≤ ind.length + 12 + 4 * (d.sp.length + d.nm.length + d.tx.length + d.pb.length + d.sy.length) := by
    unfold lineP partsD
    repeat' split
    all_goals
      simp [quotedP, wDoc]
      omega
  rw [List.length_append]
  have h7 : d.tot * (ind.length + 20) = (d.sp.length + d.nm.length + d.tx.length + d.pb.length + d.sy.length) * (ind.length + 20) + Dm.totA d.ats * (ind.length + 20) + (ind.length + 20) := by
    unfold Dm.D.tot
    rw [← Nat.add_mul, ← Nat.succ_mul]
    congr 1
    omega
  have h8 : (d.sp.length + d.nm.length + d.tx.length + d.pb.length + d.sy.length) * 4 ≤ (d.sp.length + d.nm.length + d.tx.length + d.pb.length + d.sy.length) * (ind.length + 20) := Nat.mul_le_mul_left _ (by omega)
  omega
theorem showT_len (t : Dm.T) : ∀ ind : List UInt8, (showT ind t).length ≤ t.tot * (ind.length + 2 * t.tot + 20) := by
  refine Dm.T.induct (C := fun t => ∀ ind : List UInt8, (showT ind t).length ≤ t.tot * (ind.length + 2 * t.tot + 20)) (fun d ks ih ind => ?_) t
  have key : ∀ (l : List Dm.T), (∀ t ∈ l, t ∈ ks) → ∀ i : List UInt8, (showK i l).length ≤ Dm.totK l * (i.length + 2 * Dm.totK l + 20) := by
    intro l
    induction l with
    | nil => intro _ i; simp [showK]
    | cons a r ihr =>
      intro hl i
      rw [showK, List.length_append, Dm.totK]
      have h1 := ih a (hl a (by simp)) i
      have h2 := ihr (fun t ht => hl t (by simp [ht])) i
      have h3 : a.tot * (i.length + 2 * a.tot + 20) ≤ a.tot * (i.length + 2 * (a.tot + Dm.totK r) + 20) := Nat.mul_le_mul_left _ (by omega)
      have h4 : Dm.totK r * (i.length + 2 * Dm.totK r + 20) ≤ Dm.totK r * (i.length + 2 * (a.tot + Dm.totK r) + 20) := Nat.mul_le_mul_left _ (by omega)
      rw [Nat.add_mul]
      omega
  rw [showT, List.length_append, Dm.T.tot]
  have h1 := headP_len ind d
  have h2 := key ks (fun _ h => h) (ind ++ [32, 32])
  simp only [List.length_append, List.length_cons, List.length_nil] at h2
  have hd : 1 ≤ d.tot := by unfold Dm.D.tot; omega
  have h3 : d.tot * (ind.length + 20) ≤ d.tot * (ind.length + 2 * (d.tot + Dm.totK ks) + 20) := Nat.mul_le_mul_left _ (by omega)
  have h4 : Dm.totK ks * (ind.length + (0 + 1 + 1) + 2 * Dm.totK ks + 20) ≤ Dm.totK ks * (ind.length + 2 * (d.tot + Dm.totK ks) + 20) := Nat.mul_le_mul_left _ (by omega)
  rw [Nat.add_mul]
  omega
theorem show_fits {t : Dm.T} (h : t.tot ≤ 1048576) : (showT [] t).length ≤ 140737488355328 := by
  have h1 := showT_len t []
  have h2 : t.tot * (([] : List UInt8).length + 2 * t.tot + 20) ≤ 1048576 * (2 * 1048576 + 20) := Nat.mul_le_mul h (by simp; omega)
  omega
end Go.Proofs.YtagkdmolgmhmdaaGreatDoor
