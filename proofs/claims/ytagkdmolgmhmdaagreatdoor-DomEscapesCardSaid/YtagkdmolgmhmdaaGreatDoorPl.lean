/- Trees, plain: what a tree weighs; its texts; all its nodes; whether it may be; how it is written. No program in sight. -/
namespace Go.Proofs.YtagkdmolgmhmdaaGreatDoor
namespace Dm

structure A where
  sp : List UInt8
  nm : List UInt8
  vl : List UInt8
  deriving DecidableEq
structure D where
  kd : Int
  sp : List UInt8
  nm : List UInt8
  ats : List A
  tx : List UInt8
  pb : List UInt8
  sy : List UInt8
  deriving DecidableEq
inductive T where
  | mk (d : D) (ks : List T)
def T.d : T → D
  | .mk d _ => d
def T.ks : T → List T
  | .mk _ ks => ks
theorem T.eta : ∀ t : T, T.mk t.d t.ks = t
  | .mk _ _ => rfl

theorem T.induct {C : T → Prop} (h : ∀ d ks, (∀ t ∈ ks, C t) → C (.mk d ks)) (t : T) : C t :=
  T.rec (motive_1 := C) (motive_2 := fun l => ∀ t ∈ l, C t) (fun d ks ih => h d ks ih) (fun _ ht => absurd ht (List.not_mem_nil))
    (fun a l ha hl t ht => by
      rcases List.mem_cons.1 ht with e | e
      · rw [e]; exact ha
      · exact hl t e) t

/-! ### weight -/
def A.wt (a : A) : Nat := a.vl.length + a.nm.length
def D.own (d : D) : Nat := 1 + d.ats.length + d.tx.length + d.nm.length
def wtA : List A → Nat
  | [] => 0
  | a :: l => a.wt + wtA l
mutual
def T.wt : T → Nat
  | .mk d ks => d.own + wtA d.ats + wtK ks
def wtK : List T → Nat
  | [] => 0
  | t :: r => t.wt + wtK r
end
theorem wtA_append (l m : List A) : wtA (l ++ m) = wtA l + wtA m := by
  induction l with
  | nil => simp [wtA]
  | cons a l ih => simp only [List.cons_append, wtA, ih]; omega
theorem wtK_append (l m : List T) : wtK (l ++ m) = wtK l + wtK m := by
  induction l with
  | nil => simp [wtK]
  | cons a l ih => simp only [List.cons_append, wtK, ih]; omega
theorem wtA_take (l : List A) (i : Nat) (a : A) (h : l[i]? = some a) : wtA (l.take (i + 1)) = wtA (l.take i) + a.wt := by
  rw [List.take_add_one, h, wtA_append]; simp [wtA]
theorem wtK_take (l : List T) (i : Nat) (t : T) (h : l[i]? = some t) : wtK (l.take (i + 1)) = wtK (l.take i) + t.wt := by
  rw [List.take_add_one, h, wtK_append]; simp [wtK]
theorem wtA_take_le (l : List A) (i : Nat) : wtA (l.take i) ≤ wtA l := by
  have := wtA_append (l.take i) (l.drop i)
  rw [List.take_append_drop] at this
  omega
theorem wtK_take_le (l : List T) (i : Nat) : wtK (l.take i) ≤ wtK l := by
  have := wtK_append (l.take i) (l.drop i)
  rw [List.take_append_drop] at this
  omega
theorem wtK_mem {l : List T} {t : T} (h : t ∈ l) : t.wt ≤ wtK l := by
  induction l with
  | nil => cases h
  | cons a l ih =>
    simp only [wtK]
    rcases List.mem_cons.1 h with e | e
    · subst e; omega
    · have := ih e; omega
theorem wtA_mem {l : List A} {a : A} (h : a ∈ l) : a.wt ≤ wtA l := by
  induction l with
  | nil => cases h
  | cons x l ih =>
    simp only [wtA]
    rcases List.mem_cons.1 h with e | e
    · subst e; omega
    · have := ih e; omega
theorem T.wt_pos (t : T) : 1 ≤ t.wt := by
  cases t with
  | mk d ks => simp only [T.wt, D.own]; omega
theorem wtK_len (l : List T) : l.length ≤ wtK l := by
  induction l with
  | nil => simp [wtK]
  | cons a l ih => have := a.wt_pos; simp only [wtK, List.length_cons]; omega

/-! ### how long each part is at the most -/
def A.Lim (N : Nat) (a : A) : Prop := a.sp.length ≤ N ∧ a.nm.length ≤ N ∧ a.vl.length ≤ N
def D.Lim (N : Nat) (d : D) : Prop := d.sp.length ≤ N ∧ d.nm.length ≤ N ∧ d.ats.length ≤ N ∧ d.tx.length ≤ N ∧ d.pb.length ≤ N ∧ d.sy.length ≤ N ∧ ∀ a ∈ d.ats, a.Lim N
mutual
def T.Lim (N : Nat) : T → Prop
  | .mk d ks => d.Lim N ∧ ks.length ≤ N ∧ LimK N ks
def LimK (N : Nat) : List T → Prop
  | [] => True
  | t :: r => t.Lim N ∧ LimK N r
end
theorem LimK.mem {N : Nat} {l : List T} (h : LimK N l) {t : T} (ht : t ∈ l) : t.Lim N := by
  induction l with
  | nil => cases ht
  | cons a l ih =>
    simp only [LimK] at h
    rcases List.mem_cons.1 ht with e | e
    · rw [e]; exact h.1
    · exact ih h.2 e
theorem LimK.of {N : Nat} {l : List T} (h : ∀ t ∈ l, t.Lim N) : LimK N l := by
  induction l with
  | nil => simp [LimK]
  | cons a l ih => exact ⟨h a (by simp), ih fun t ht => h t (by simp [ht])⟩

/-! ### texts, nodes -/
mutual
def T.texts : T → List UInt8
  | .mk d ks => (if d.kd = 4 then d.tx else []) ++ textsK ks
def textsK : List T → List UInt8
  | [] => []
  | t :: r => t.texts ++ textsK r
end
mutual
def T.all : T → List T
  | .mk d ks => .mk d ks :: allK ks
def allK : List T → List T
  | [] => []
  | t :: r => t.all ++ allK r
end
theorem textsK_append (l m : List T) : textsK (l ++ m) = textsK l ++ textsK m := by
  induction l with
  | nil => simp [textsK]
  | cons a l ih => simp only [List.cons_append, textsK, ih, List.append_assoc]
theorem allK_append (l m : List T) : allK (l ++ m) = allK l ++ allK m := by
  induction l with
  | nil => simp [allK]
  | cons a l ih => simp only [List.cons_append, allK, ih, List.append_assoc]

/-! ### words -/
def wHtml : List UInt8 := [104, 116, 109, 108]
def wSvg : List UInt8 := [115, 118, 103]
def wMath : List UInt8 := [109, 97, 116, 104]
def wXlink : List UInt8 := [120, 108, 105, 110, 107]
def wXml : List UInt8 := [120, 109, 108]
def wXmlns : List UInt8 := [120, 109, 108, 110, 115]
def spaces : List (List UInt8) := [wHtml, wSvg, wMath]
def aspaces : List (List UInt8) := [wXlink, wXml, wXmlns]

/-! ### whether a tree may be -/
def fieldsOk (d : D) (n : Nat) : Bool :=
  (d.kd == 1 || d.kd == 2 || d.kd == 3 || d.kd == 4 || d.kd == 5) && (d.kd == 3 || (d.sp == [] && d.ats == [])) && (d.kd == 3 || d.kd == 2 || d.nm == []) && (d.kd == 4 || d.kd == 5 || d.tx == []) && (d.kd == 2 || (d.pb == [] && d.sy == [])) && (d.kd == 1 || d.kd == 3 || n == 0)
/-- attributes, the ones ahead of them seen -/
def attrsOk : List (List UInt8 × List UInt8) → List A → Bool
  | _, [] => true
  | seen, a :: l => a.nm != [] && (a.sp == [] || aspaces.contains a.sp) && !seen.contains (a.sp, a.nm) && attrsOk (seen ++ [(a.sp, a.nm)]) l
/-- the kids' kinds, the one ahead of them known -/
def kidsOk (doc : Bool) : Int → List T → Bool
  | _, [] => true
  | last, t :: r => t.d.kd != 1 && !(t.d.kd == 2 && !doc) && !(t.d.kd == 4 && (doc || last == 4)) && kidsOk doc t.d.kd r
def headOk (d : D) (n : Nat) : Bool :=
  fieldsOk d n && attrsOk [] d.ats && !(d.kd == 4 && d.tx == []) && !(d.kd == 3 && (d.nm == [] || !spaces.contains d.sp))
mutual
def T.may : T → Bool
  | .mk d ks => headOk d ks.length && kidsOk (d.kd == 1) 0 ks && mayK ks
def mayK : List T → Bool
  | [] => true
  | t :: r => t.may && mayK r
end
theorem mayK_append (l m : List T) : mayK (l ++ m) = (mayK l && mayK m) := by
  induction l with
  | nil => simp [mayK]
  | cons a l ih => simp only [List.cons_append, mayK, ih, Bool.and_assoc]
/-! ### two trees the same -/
mutual
def T.same : T → T → Bool
  | .mk d ks, .mk e ls => decide (d = e) && sameK ks ls
def sameK : List T → List T → Bool
  | [], [] => true
  | t :: r, u :: s => t.same u && sameK r s
  | _, _ => false
end
theorem sameK_of {ks : List T} (h : ∀ t ∈ ks, ∀ u, t.same u = decide (t.same u = true) ∧ (t.same u = true ↔ t = u)) : ∀ ls, sameK ks ls = true ↔ ks = ls := by
  induction ks with
  | nil => intro ls; cases ls <;> simp [sameK]
  | cons t r ih =>
    intro ls
    cases ls with
    | nil => simp [sameK]
    | cons u s =>
      simp only [sameK, Bool.and_eq_true, List.cons.injEq]
      rw [(h t (by simp) u).2, ih (fun x hx => h x (by simp [hx])) s]
theorem T.same_iff (t : T) : ∀ u, t.same u = true ↔ t = u := by
  refine T.induct (C := fun t => ∀ u, t.same u = true ↔ t = u) (fun d ks ih u => ?_) t
  cases u with
  | mk e ls =>
    simp only [T.same, Bool.and_eq_true, decide_eq_true_eq, T.mk.injEq]
    rw [sameK_of (fun t ht u => ⟨by simp, ih t ht u⟩)]
theorem sameK_iff (ks ls : List T) : sameK ks ls = true ↔ ks = ls := sameK_of (fun t _ u => ⟨by simp, t.same_iff u⟩) ls
theorem T.same_false {t u : T} (h : t ≠ u) : t.same u = false := by
  rw [Bool.eq_false_iff]; exact fun e => h ((t.same_iff u).1 e)
theorem T.same_self (t : T) : t.same t = true := (t.same_iff t).2 rfl
/-! ### how much there is of a tree, all told -/
def A.tot (a : A) : Nat := a.sp.length + a.nm.length + a.vl.length + 1
def totA : List A → Nat
  | [] => 0
  | a :: l => a.tot + totA l
def D.tot (d : D) : Nat := d.sp.length + d.nm.length + totA d.ats + d.tx.length + d.pb.length + d.sy.length + 1
mutual
def T.tot : T → Nat
  | .mk d ks => d.tot + totK ks
def totK : List T → Nat
  | [] => 0
  | t :: r => t.tot + totK r
end
end Dm
end Go.Proofs.YtagkdmolgmhmdaaGreatDoor
