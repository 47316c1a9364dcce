/- The escape, byte by byte; how long what is written is. -/
import Derived.Test.YtagkdmolgmhmdaaGreatDoorPh
import Derived.Test.YtagkdmolgmhmdaaGreatDoorPb
namespace Go.Proofs.YtagkdmolgmhmdaaGreatDoor
open Go.RowKit

theorem lkEsT (c : UInt8) (r : List UInt8) : Rp.lk (lookTo pT 4) (c :: r) = if c = 62 then some ([38, 103, 116, 59], 1) else if c = 60 then some ([38, 108, 116, 59], 1) else if c = 194 then (if r.head? = some 160 then some ([38, 110, 98, 115, 112, 59], 2) else none) else if c = 38 then some ([38, 97, 109, 112, 59], 1) else none := by
  rw [Rp.lk]
  simp only [lookTo, pT, List.getElem?_cons_zero, List.getElem?_cons_succ, ndOf]
  by_cases h1 : c = 62
  · simp [h1, Rp.hit]
  · by_cases h2 : c = 60
    · simp [h2, Rp.hit]
    · by_cases h3 : c = 194
      · subst h3
        by_cases h4 : r.head? = some 160 <;> simp [h4, Rp.hit]
      · by_cases h5 : c = 38
        · simp [h5, Rp.hit]
        · simp [h1, h2, h3, h5]
theorem lkEsV (c : UInt8) (r : List UInt8) : Rp.lk (lookTo pV 3) (c :: r) = if c = 34 then some ([38, 113, 117, 111, 116, 59], 1) else if c = 194 then (if r.head? = some 160 then some ([38, 110, 98, 115, 112, 59], 2) else none) else if c = 38 then some ([38, 97, 109, 112, 59], 1) else none := by
  rw [Rp.lk]
  simp only [lookTo, pV, List.getElem?_cons_zero, List.getElem?_cons_succ, ndOf]
  by_cases h1 : c = 34
  · simp [h1, Rp.hit]
  · by_cases h3 : c = 194
    · subst h3
      by_cases h4 : r.head? = some 160 <;> simp [h4, Rp.hit]
    · by_cases h5 : c = 38
      · simp [h5, Rp.hit]
      · simp [h1, h3, h5]
theorem escV_nil (v : Bool) : escV v [] = [] := by cases v <;> rfl
theorem escV_eq (v : Bool) (s : List UInt8) : escV v s = if v = true then Rp.repl (lookTo pV 3) 0 s else Rp.repl (lookTo pT 4) 0 s := by cases v <;> rfl
theorem escV_amp (v : Bool) (r : List UInt8) : escV v (38 :: r) = [38, 97, 109, 112, 59] ++ escV v r := by
  cases v
  · rw [escV_eq, escV_eq, if_neg (by simp), if_neg (by simp), Rp.repl_hit (v := [38, 97, 109, 112, 59]) (n := 1) (by rw [lkEsT]; rfl)]; rfl
  · rw [escV_eq, escV_eq, if_pos rfl, if_pos rfl, Rp.repl_hit (v := [38, 97, 109, 112, 59]) (n := 1) (by rw [lkEsV]; rfl)]; rfl
theorem escV_nbsp (v : Bool) (r : List UInt8) : escV v (194 :: 160 :: r) = [38, 110, 98, 115, 112, 59] ++ escV v r := by
  cases v
  · rw [escV_eq, escV_eq, if_neg (by simp), if_neg (by simp), Rp.repl_hit (v := [38, 110, 98, 115, 112, 59]) (n := 2) (by rw [lkEsT]; rfl)]; rfl
  · rw [escV_eq, escV_eq, if_pos rfl, if_pos rfl, Rp.repl_hit (v := [38, 110, 98, 115, 112, 59]) (n := 2) (by rw [lkEsV]; rfl)]; rfl
theorem escV_lt (r : List UInt8) : escV false (60 :: r) = [38, 108, 116, 59] ++ escV false r := by
  rw [escV_eq, escV_eq, if_neg (by simp), if_neg (by simp), Rp.repl_hit (v := [38, 108, 116, 59]) (n := 1) (by rw [lkEsT]; rfl)]; rfl
theorem escV_gt (r : List UInt8) : escV false (62 :: r) = [38, 103, 116, 59] ++ escV false r := by
  rw [escV_eq, escV_eq, if_neg (by simp), if_neg (by simp), Rp.repl_hit (v := [38, 103, 116, 59]) (n := 1) (by rw [lkEsT]; rfl)]; rfl
theorem escV_quot (r : List UInt8) : escV true (34 :: r) = [38, 113, 117, 111, 116, 59] ++ escV true r := by
  rw [escV_eq, escV_eq, if_pos rfl, if_pos rfl, Rp.repl_hit (v := [38, 113, 117, 111, 116, 59]) (n := 1) (by rw [lkEsV]; rfl)]; rfl
theorem escV_cons (v : Bool) (c : UInt8) (r : List UInt8) (h1 : c ≠ 38) (h2 : c = 194 → r.head? ≠ some 160) (h3 : v = true → c ≠ 34) (h4 : v = false → c ≠ 60 ∧ c ≠ 62) : escV v (c :: r) = c :: escV v r := by
  cases v
  · obtain ⟨h5, h6⟩ := h4 rfl
    rw [escV_eq, escV_eq, if_neg (by simp), if_neg (by simp), Rp.repl_miss]
    rw [lkEsT, if_neg h6, if_neg h5, if_neg h1]
    split
    · rename_i e; rw [if_neg (h2 e)]
    · rfl
  · have h5 := h3 rfl
    rw [escV_eq, escV_eq, if_pos rfl, if_pos rfl, Rp.repl_miss]
    rw [lkEsV, if_neg h5, if_neg h1]
    split
    · rename_i e; rw [if_neg (h2 e)]
    · rfl
theorem escV_len (v : Bool) : ∀ (n : Nat) (s : List UInt8), s.length ≤ n → (escV v s).length ≤ 6 * s.length
  | 0, s, h => by
    obtain rfl := List.eq_nil_of_length_eq_zero (Nat.le_zero.1 h)
    rw [escV_nil]; simp
  | n + 1, [], _ => by rw [escV_nil]; simp
  | n + 1, c :: r, h => by
    have hr : r.length ≤ n := by simpa using h
    have ih := escV_len v n r hr
    by_cases h1 : c = 38
    · subst h1; rw [escV_amp]; simp only [List.length_append, List.length_cons, List.length_nil]; omega
    · by_cases h2 : c = 194 ∧ r.head? = some 160
      · obtain ⟨rfl, h2⟩ := h2
        cases r with
        | nil => cases h2
        | cons d r =>
          obtain rfl : d = 160 := by simpa using h2
          have ih := escV_len v n r (by simp at hr; omega)
          rw [escV_nbsp]; simp only [List.length_append, List.length_cons, List.length_nil]; omega
      · by_cases h3 : v = true ∧ c = 34
        · obtain ⟨rfl, rfl⟩ := h3
          rw [escV_quot]; simp only [List.length_append, List.length_cons, List.length_nil]; omega
        · by_cases h4 : v = false ∧ c = 60
          · obtain ⟨rfl, rfl⟩ := h4
            rw [escV_lt]; simp only [List.length_append, List.length_cons, List.length_nil]; omega
          · by_cases h5 : v = false ∧ c = 62
            · obtain ⟨rfl, rfl⟩ := h5
              rw [escV_gt]; simp only [List.length_append, List.length_cons, List.length_nil]; omega
            · rw [escV_cons v c r h1 (fun e e2 => h2 ⟨e, e2⟩) (fun e e2 => h3 ⟨e, e2⟩) (fun e => ⟨fun e2 => h4 ⟨e, e2⟩, fun e2 => h5 ⟨e, e2⟩⟩)]
              simp only [List.length_cons]; omega
theorem atsH_len : ∀ l : List Dm.A, (atsH l).length ≤ 6 * Dm.totA l
  | [] => by simp [atsH]
  | a :: l => by
    have ih := atsH_len l
    have h := escV_len true _ a.vl (Nat.le_refl _)
    unfold atsH at ih ⊢
    rw [List.flatMap_cons, List.length_append, Dm.totA, Dm.A.tot, atH]
    simp only [List.length_append, List.length_cons, List.length_nil]
    split <;> simp only [List.length_append, List.length_cons, List.length_nil] <;> omega
theorem oneH_len (t : Dm.T) : ∀ raw, (oneH raw t).length ≤ 16 * t.tot := by
  refine Dm.T.induct (C := fun t => ∀ raw, (oneH raw t).length ≤ 16 * t.tot) (fun d ks ih raw => ?_) t
  have key : ∀ raw (l : List Dm.T), (∀ t ∈ l, t ∈ ks) → (htmlK raw l).length ≤ 16 * Dm.totK l := by
    intro raw l
    induction l with
    | nil => intro _; simp [htmlK]
    | cons a r ihr =>
      intro hl
      have h1 := ih a (hl a (by simp)) raw
      have h2 := ihr fun t ht => hl t (by simp [ht])
      simp only [htmlK, Dm.totK, List.length_append]
      omega
  have h1 := key (rawOf d) ks fun _ h => h
  have h2 := atsH_len d.ats
  have h3 := escV_len false _ d.tx (Nat.le_refl _)
  rw [oneH, Dm.T.tot, Dm.D.tot]
  split
  · split <;> omega
  · split
    · simp only [List.length_append, List.length_cons, List.length_nil]; omega
    · split
      · simp only [List.length_append, List.length_cons, List.length_nil, wType]; omega
      · split
        · omega
        · split
          · simp only [List.length_append, List.length_cons, List.length_nil]
            split <;> simp only [List.length_append, List.length_cons, List.length_nil] <;> omega
          · simp
theorem htmlK_len (raw : Bool) : ∀ l : List Dm.T, (htmlK raw l).length ≤ 16 * Dm.totK l
  | [] => by simp [htmlK]
  | t :: r => by
    have h1 := oneH_len t raw
    have h2 := htmlK_len raw r
    simp only [htmlK, Dm.totK, List.length_append]
    omega
theorem htmlT_len (t : Dm.T) : (htmlT t).length ≤ 16 * t.tot := by
  cases t with
  | mk d ks =>
    have h := htmlK_len (rawOf d) ks
    show (htmlK (rawOf d) ks).length ≤ _
    rw [Dm.T.tot]
    omega
end Go.Proofs.YtagkdmolgmhmdaaGreatDoor
