/- Texts joined, plainly: what is joined stays. -/
import Derived.Test.YtagkdmolgmhmdaaGreatDoorTa
namespace Go.Proofs.YtagkdmolgmhmdaaGreatDoor
namespace Dm
/-- no text is empty, none behind another -/
def apart : Bool → List T → Prop
  | _, [] => True
  | b, t :: r => (t.d.kd = 4 → b = false ∧ t.d.tx ≠ []) ∧ apart (t.d.kd == 4) r
/-- does a row end with a text? -/
def endsText (l : List T) : Bool := match l.getLast? with | some t => t.d.kd == 4 | none => false
theorem endsText_snoc (l : List T) (t : T) : endsText (l ++ [t]) = (t.d.kd == 4) := by simp [endsText]
theorem push_apart {acc : List T} {k : T} (h : k.d.kd = 4 → endsText acc = false ∧ k.d.tx ≠ []) : pushK acc k = acc ++ [k] := by
  by_cases h4 : k.d.kd = 4
  · obtain ⟨h1, h2⟩ := h h4
    rcases List.eq_nil_or_concat acc with rfl | ⟨A, l, rfl⟩
    · rw [pushK_nil h4, if_neg h2]; rfl
    · rw [List.concat_eq_append] at h1 ⊢
      rw [endsText_snoc] at h1
      rw [pushK_text h4 (by simpa using h1), if_neg h2]
  · exact pushK_snoc h4 acc
theorem fold_apart : ∀ (ks acc : List T), apart (endsText acc) ks → ks.foldl pushK acc = acc ++ ks
  | [], acc, _ => by simp
  | t :: r, acc, h => by
    rw [apart] at h
    rw [List.foldl_cons, push_apart h.1, fold_apart r (acc ++ [t]) (by rw [endsText_snoc]; exact h.2)]
    simp
theorem apart_may (doc : Bool) : ∀ (ks : List T) (last : Int) (b : Bool), kidsOk doc last ks = true → (∀ t ∈ ks, t.may = true) → (b = true → last = 4) → apart b ks
  | [], _, _, _, _, _ => trivial
  | t :: r, last, b, h, hm, hb => by
    rw [kidsOk] at h
    simp only [Bool.and_eq_true, Bool.not_eq_true', Bool.and_eq_false_iff, Bool.or_eq_false_iff, beq_eq_false_iff_ne] at h
    refine ⟨fun h4 => ⟨?_, ?_⟩, apart_may doc r t.d.kd _ h.2 (fun x hx => hm x (by simp [hx])) (fun e => by simpa using e)⟩
    · cases b with
      | false => rfl
      | true =>
        rcases h.1.2 with e | e
        · exact absurd h4 e
        · exact absurd (hb rfl) e.2
    · have ht := hm t (by simp)
      cases t with
      | mk d ls =>
        rw [T.may, headOk] at ht
        simp only [Bool.and_eq_true, Bool.not_eq_true', Bool.and_eq_false_iff, beq_eq_false_iff_ne] at ht
        rcases ht.1.1.1.2 with e | e
        · exact absurd h4 e
        · exact e
theorem tidy_may (t : T) : t.may = true → t.tidy = t := by
  refine T.induct (C := fun t => t.may = true → t.tidy = t) (fun d ks ih h => ?_) t
  rw [T.may] at h
  simp only [Bool.and_eq_true] at h
  have hm : ∀ t ∈ ks, t.may = true := by
    have key : ∀ l : List T, mayK l = true → ∀ t ∈ l, t.may = true := by
      intro l
      induction l with
      | nil => intro _ t ht; cases ht
      | cons a r ih =>
        intro hl t ht
        rw [mayK] at hl
        simp only [Bool.and_eq_true] at hl
        rcases List.mem_cons.1 ht with e | e
        · rw [e]; exact hl.1
        · exact ih hl.2 t e
    exact key ks h.2
  have e : ks.map T.tidy = ks := by
    conv => rhs; rw [← List.map_id ks]
    exact List.map_congr_left fun t ht => ih t ht (hm t ht)
  rw [T.tidy, tidyL_map, e, fold_apart ks [] (apart_may _ ks 0 _ h.1.2 hm (fun e => by cases e))]
  rfl
/-! ### texts kept -/
mutual
def T.sole : T → Bool
  | .mk d ks => !(d.kd == 4 && !ks.isEmpty) && soleK ks
def soleK : List T → Bool
  | [] => true
  | t :: r => t.sole && soleK r
end
theorem texts_eta (t : T) : t.texts = (if t.d.kd = 4 then t.d.tx else []) ++ textsK t.ks := by cases t; rfl
theorem textsK_one (t : T) : textsK [t] = t.texts := by simp [textsK]
theorem addTx_ks (t : T) (x : List UInt8) : (t.addTx x).ks = t.ks := by cases t; rfl
theorem push_texts {acc : List T} {k : T} (ha : ∀ x ∈ acc, x.d.kd = 4 → x.ks = []) (hk : k.d.kd = 4 → k.ks = []) :
    textsK (pushK acc k) = textsK acc ++ k.texts ∧ ∀ x ∈ pushK acc k, x.d.kd = 4 → x.ks = [] := by
  have base : textsK (acc ++ [k]) = textsK acc ++ k.texts ∧ ∀ x ∈ acc ++ [k], x.d.kd = 4 → x.ks = [] := by
    refine ⟨by rw [textsK_append, textsK_one], fun x hx => ?_⟩
    rcases List.mem_append.1 hx with hx | hx
    · exact ha x hx
    · rw [List.mem_singleton.1 hx]; exact hk
  by_cases h4 : k.d.kd = 4
  · have hkt : k.texts = k.d.tx := by rw [texts_eta, if_pos h4, hk h4]; simp [textsK]
    rcases List.eq_nil_or_concat acc with rfl | ⟨A, l, rfl⟩
    · rw [pushK_nil h4]
      split
      · rename_i h0
        refine ⟨by rw [hkt, h0]; rfl, fun x hx => by cases hx⟩
      · exact base
    · rw [List.concat_eq_append] at ha base ⊢
      by_cases hl : l.d.kd = 4
      · have hlk := ha l (by simp) hl
        rw [pushK_join h4 hl]
        refine ⟨?_, fun x hx h => ?_⟩
        · rw [textsK_append, textsK_append, textsK_one, textsK_one, texts_eta (l.addTx _), texts_eta l, addTx_ks, hlk, hkt, addTx_d, if_pos hl, if_pos hl]
          simp [textsK]
        · rcases List.mem_append.1 hx with hx | hx
          · exact ha x (by simp [hx]) h
          · rw [List.mem_singleton.1 hx, addTx_ks]; exact hlk
      · rw [pushK_text h4 hl]
        split
        · rename_i h0
          refine ⟨by rw [hkt, h0, List.append_nil], ha⟩
        · exact base
  · rw [pushK_snoc h4]; exact base
theorem fold_texts : ∀ (ks acc : List T), (∀ x ∈ acc, x.d.kd = 4 → x.ks = []) → (∀ x ∈ ks, x.d.kd = 4 → x.ks = []) → textsK (ks.foldl pushK acc) = textsK acc ++ textsK ks
  | [], acc, _, _ => by simp [textsK]
  | t :: r, acc, ha, hk => by
    obtain ⟨h1, h2⟩ := push_texts ha (hk t (by simp))
    rw [List.foldl_cons, fold_texts r _ h2 (fun x hx => hk x (by simp [hx])), h1, textsK, List.append_assoc]
theorem tidy_texts (t : T) : t.sole = true → t.tidy.texts = t.texts ∧ (t.d.kd = 4 → t.tidy.ks = []) := by
  refine T.induct (C := fun t => t.sole = true → t.tidy.texts = t.texts ∧ (t.d.kd = 4 → t.tidy.ks = [])) (fun d ks ih h => ?_) t
  rw [T.sole] at h
  simp only [Bool.and_eq_true, Bool.not_eq_true', Bool.and_eq_false_iff, beq_eq_false_iff_ne] at h
  have hm : ∀ l : List T, soleK l = true → ∀ t ∈ l, t.sole = true := by
    intro l
    induction l with
    | nil => intro _ t ht; cases ht
    | cons a r ih =>
      intro hl t ht
      rw [soleK] at hl
      simp only [Bool.and_eq_true] at hl
      rcases List.mem_cons.1 ht with e | e
      · rw [e]; exact hl.1
      · exact ih hl.2 t e
  have hks := hm ks h.2
  have hmap : ∀ l : List T, (∀ t ∈ l, t ∈ ks) → textsK (l.map T.tidy) = textsK l := by
    intro l
    induction l with
    | nil => intro _; rfl
    | cons a r ihr =>
      intro hl
      rw [List.map_cons, textsK, textsK, (ih a (hl a (by simp)) (hks a (hl a (by simp)))).1, ihr fun t ht => hl t (by simp [ht])]
  rw [T.tidy, tidyL_map]
  refine ⟨?_, fun h4 => ?_⟩
  · rw [T.texts, T.texts, fold_texts _ [] (fun x hx => by cases hx) (fun x hx h4 => ?_), hmap ks fun _ h => h]
    · rfl
    · obtain ⟨t, ht, rfl⟩ := List.mem_map.1 hx
      rw [tidy_d] at h4
      exact (ih t ht (hks t ht)).2 h4
  · rcases h.1 with e | e
    · exact absurd h4 e
    · cases ks with
      | nil => rfl
      | cons a r => simp at e
/-! ### what is joined is apart -/
theorem apart_snoc : ∀ (l : List T) (b : Bool) (t : T), apart b l → (t.d.kd = 4 → (if l = [] then b else endsText l) = false ∧ t.d.tx ≠ []) → apart b (l ++ [t])
  | [], b, t, _, ht => ⟨by simpa using ht, trivial⟩
  | x :: r, b, t, h, ht => by
    rw [List.cons_append, apart]
    refine ⟨h.1, apart_snoc r _ t h.2 fun h4 => ?_⟩
    obtain ⟨h1, h2⟩ := ht h4
    refine ⟨?_, h2⟩
    rw [if_neg (by simp)] at h1
    by_cases hr : r = []
    · subst hr; simpa [endsText] using h1
    · rw [if_neg hr]
      obtain ⟨A, y, rfl⟩ : ∃ A y, r = A ++ [y] := by
        rcases List.eq_nil_or_concat r with e | ⟨A, y, e⟩
        · exact absurd e hr
        · exact ⟨A, y, by rw [e, List.concat_eq_append]⟩
      rw [endsText_snoc]
      rw [← List.cons_append, endsText_snoc] at h1
      exact h1
theorem apart_text : ∀ (A : List T) (b : Bool) (l : T) (x : List UInt8), apart b (A ++ [l]) → apart b (A ++ [l.addTx x])
  | [], b, l, x, h => by
    rw [List.nil_append, apart] at h ⊢
    refine ⟨fun h4 => ?_, trivial⟩
    rw [addTx_d] at h4 ⊢
    exact ⟨(h.1 h4).1, fun e => (h.1 h4).2 (List.append_eq_nil_iff.1 e).1⟩
  | y :: r, b, l, x, h => by
    rw [List.cons_append, apart] at h ⊢
    exact ⟨h.1, apart_text r _ l x h.2⟩
theorem apart_push {acc : List T} {k : T} (h : apart false acc) : apart false (pushK acc k) := by
  by_cases h4 : k.d.kd = 4
  · rcases List.eq_nil_or_concat acc with rfl | ⟨A, l, rfl⟩
    · rw [pushK_nil h4]
      split
      · trivial
      · rename_i h0; exact ⟨fun _ => ⟨rfl, h0⟩, trivial⟩
    · rw [List.concat_eq_append] at h ⊢
      by_cases hl : l.d.kd = 4
      · rw [pushK_join h4 hl]; exact apart_text A _ l _ h
      · rw [pushK_text h4 hl]
        split
        · exact h
        · rename_i h0
          exact apart_snoc _ _ _ h fun _ => ⟨by rw [if_neg (by simp), endsText_snoc]; simpa using hl, h0⟩
  · rw [pushK_snoc h4]; exact apart_snoc _ _ _ h fun e => absurd e h4
theorem apart_fold : ∀ (l acc : List T), apart false acc → apart false (l.foldl pushK acc)
  | [], _, h => h
  | t :: r, acc, h => apart_fold r (pushK acc t) (apart_push h)
theorem fold_mem {p : T → Prop} (hadd : ∀ t x, p t → p (t.addTx x)) : ∀ (l acc : List T), (∀ t ∈ acc, p t) → (∀ t ∈ l, p t) → ∀ t ∈ l.foldl pushK acc, p t
  | [], _, ha, _ => ha
  | t :: r, acc, ha, hl => by
    refine fold_mem hadd r (pushK acc t) (fun x hx => ?_) (fun x hx => hl x (by simp [hx]))
    have ht := hl t (by simp)
    have base : ∀ x ∈ acc ++ [t], p x := fun x hx => by
      rcases List.mem_append.1 hx with hx | hx
      · exact ha x hx
      · rw [List.mem_singleton.1 hx]; exact ht
    by_cases h4 : t.d.kd = 4
    · rcases List.eq_nil_or_concat acc with rfl | ⟨A, l, rfl⟩
      · rw [pushK_nil h4] at hx
        split at hx
        · cases hx
        · exact base x hx
      · rw [List.concat_eq_append] at hx ha base
        by_cases hlk : l.d.kd = 4
        · rw [pushK_join h4 hlk] at hx
          rcases List.mem_append.1 hx with hx | hx
          · exact ha x (by simp [hx])
          · rw [List.mem_singleton.1 hx]; exact hadd _ _ (ha l (by simp))
        · rw [pushK_text h4 hlk] at hx
          split at hx
          · exact ha x hx
          · exact base x hx
    · rw [pushK_snoc h4] at hx; exact base x hx
theorem tidy_tidy (t : T) : t.tidy.tidy = t.tidy := by
  refine T.induct (C := fun t => t.tidy.tidy = t.tidy) (fun d ks ih => ?_) t
  have h1 : ∀ t ∈ (ks.map T.tidy).foldl pushK [], t.tidy = t := fold_mem (p := fun t => t.tidy = t) (fun t x h => by
    cases t with
    | mk e ls =>
      rw [T.tidy] at h
      simp only [T.mk.injEq, true_and] at h
      simp only [T.addTx, T.tidy, h]) _ [] (fun t h => by cases h) (fun t ht => by
        obtain ⟨u, hu, rfl⟩ := List.mem_map.1 ht
        exact ih u hu)
  have e : ((ks.map T.tidy).foldl pushK []).map T.tidy = (ks.map T.tidy).foldl pushK [] := by
    conv => rhs; rw [← List.map_id ((ks.map T.tidy).foldl pushK [])]
    exact List.map_congr_left fun t ht => h1 t ht
  rw [T.tidy, tidyL_map, T.tidy, tidyL_map, e, fold_apart _ [] (apart_fold _ [] trivial)]
  rfl
theorem addTx_wt (t : T) (x : List UInt8) : (t.addTx x).wt = t.wt + x.length := by
  cases t with
  | mk d ks => simp only [T.addTx, T.wt, D.own, List.length_append]; omega
theorem tx_le_wt (t : T) : t.d.tx.length ≤ t.wt := by
  cases t with
  | mk d ks => simp only [T.wt, D.own]; show d.tx.length ≤ _; omega
theorem wtK_snoc (l : List T) (t : T) : wtK (l ++ [t]) = wtK l + t.wt := by
  induction l with
  | nil => simp [wtK]
  | cons a l ih => simp only [List.cons_append, wtK, ih]; omega
theorem push_wt (acc : List T) (k : T) : wtK (pushK acc k) ≤ wtK acc + k.wt := by
  have e0 := wtK_snoc acc k
  have hx := tx_le_wt k
  by_cases h : k.d.kd = 4
  · rcases List.eq_nil_or_concat acc with rfl | ⟨A, l, rfl⟩
    · rw [pushK_nil h]
      split <;> simp [wtK]
    · rw [List.concat_eq_append] at e0 ⊢
      by_cases hl : l.d.kd = 4
      · rw [pushK_join h hl, wtK_snoc, wtK_snoc, addTx_wt]
        omega
      · rw [pushK_text h hl]
        split
        · omega
        · exact Nat.le_of_eq e0
  · rw [pushK_snoc h]; exact Nat.le_of_eq e0
theorem fold_wt : ∀ (l acc : List T), wtK (l.foldl pushK acc) ≤ wtK acc + wtK l
  | [], acc => by simp [wtK]
  | t :: r, acc => by
    have h1 := fold_wt r (pushK acc t)
    have h2 := push_wt acc t
    rw [List.foldl_cons, wtK]
    omega
theorem tidy_wt (t : T) : t.tidy.wt ≤ t.wt := by
  refine T.induct (C := fun t => t.tidy.wt ≤ t.wt) (fun d ks ih => ?_) t
  have key : ∀ l : List T, (∀ t ∈ l, t ∈ ks) → wtK (l.map T.tidy) ≤ wtK l := by
    intro l
    induction l with
    | nil => intro _; simp [wtK]
    | cons a r ihr =>
      intro hl
      have h1 := ih a (hl a (by simp))
      have h2 := ihr fun t ht => hl t (by simp [ht])
      simp only [List.map_cons, wtK]
      omega
  have h1 := fold_wt (ks.map T.tidy) []
  have h2 := key ks fun _ h => h
  rw [T.tidy, tidyL_map]
  simp only [T.wt, wtK] at h1 ⊢
  omega
end Dm
end Go.Proofs.YtagkdmolgmhmdaaGreatDoor
