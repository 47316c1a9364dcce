/- What is written of a text, or of a value, is decoded to what it was, and has no mark that ends it. No program in sight. -/
import Derived.Test.YtagkdmolgmhmdaaGreatDoorEnEnt2
import Derived.Test.YtagkdmolgmhmdaaGreatDoorVa
namespace Go.Proofs.YtagkdmolgmhmdaaGreatDoor
open Go.RowKit

theorem dec_cons (c : UInt8) (hc : c ≠ 38) (r : List UInt8) (attr : Bool) : En.Entp.decode (c :: r) attr = c :: En.Entp.decode r attr := by
  rcases En.Entp.part r with h | ⟨a, b, rfl, ha⟩
  · rw [En.Entp.decode_no _ r h, En.Entp.decode_no _ (c :: r) (fun x hx => by
      rcases List.mem_cons.1 hx with rfl | hx
      · exact hc
      · exact h x hx)]
  · rw [En.Entp.decode_at attr a b ha, ← List.cons_append, En.Entp.decode_at attr (c :: a) b (fun x hx => by
      rcases List.mem_cons.1 hx with rfl | hx
      · exact hc
      · exact ha x hx)]
    simp
theorem dec_nil (attr : Bool) : En.Entp.decode [] attr = [] := En.Entp.decode_no _ [] (fun _ h => by cases h)
set_option maxRecDepth 1000000 in
theorem in_amp : En.Entp.toks.contains [97, 109, 112, 59, 61, 51, 56] = true := by decide +kernel
set_option maxRecDepth 1000000 in
theorem in_lt : En.Entp.toks.contains [108, 116, 59, 61, 54, 48] = true := by decide +kernel
set_option maxRecDepth 1000000 in
theorem in_gt : En.Entp.toks.contains [103, 116, 59, 61, 54, 50] = true := by decide +kernel
set_option maxRecDepth 1000000 in
theorem in_nbsp : En.Entp.toks.contains [110, 98, 115, 112, 59, 61, 49, 54, 48] = true := by decide +kernel
set_option maxRecDepth 1000000 in
theorem in_quot : En.Entp.toks.contains [113, 117, 111, 116, 59, 61, 51, 52] = true := by decide +kernel
theorem dec_tok (t n u b : List UInt8) (attr : Bool) (ht : En.Entp.toks.contains t = true) (hn : En.Entp.nm t = n) (h59 : n[n.length - 1]? = some 59) (hu : En.Entp.text (t.drop (n.length + 1)) = u) :
    En.Entp.decode (38 :: (n ++ b)) attr = u ++ En.Entp.decode b attr := by
  subst hn
  have h := En.Entp.decode_name [] t b attr (fun _ h => by cases h) (List.contains_iff_mem.1 ht) h59
  rw [hu] at h
  simpa using h
theorem dec_amp (b : List UInt8) (attr : Bool) : En.Entp.decode ([38, 97, 109, 112, 59] ++ b) attr = 38 :: En.Entp.decode b attr := dec_tok _ [97, 109, 112, 59] [38] b attr in_amp (by decide +kernel) rfl (by decide +kernel)
theorem dec_lt (b : List UInt8) (attr : Bool) : En.Entp.decode ([38, 108, 116, 59] ++ b) attr = 60 :: En.Entp.decode b attr := dec_tok _ [108, 116, 59] [60] b attr in_lt (by decide +kernel) rfl (by decide +kernel)
theorem dec_gt (b : List UInt8) (attr : Bool) : En.Entp.decode ([38, 103, 116, 59] ++ b) attr = 62 :: En.Entp.decode b attr := dec_tok _ [103, 116, 59] [62] b attr in_gt (by decide +kernel) rfl (by decide +kernel)
theorem dec_nbsp (b : List UInt8) (attr : Bool) : En.Entp.decode ([38, 110, 98, 115, 112, 59] ++ b) attr = 194 :: 160 :: En.Entp.decode b attr := dec_tok _ [110, 98, 115, 112, 59] [194, 160] b attr in_nbsp (by decide +kernel) rfl (by decide +kernel)
theorem dec_quot (b : List UInt8) (attr : Bool) : En.Entp.decode ([38, 113, 117, 111, 116, 59] ++ b) attr = 34 :: En.Entp.decode b attr := dec_tok _ [113, 117, 111, 116, 59] [34] b attr in_quot (by decide +kernel) rfl (by decide +kernel)

/-- the ways of the escape -/
theorem esc_ind {C : Bool → List UInt8 → List UInt8 → Prop} (h0 : ∀ v, C v [] []) (hamp : ∀ v r u, C v r u → C v (38 :: r) ([38, 97, 109, 112, 59] ++ u)) (hnb : ∀ v r u, C v r u → C v (194 :: 160 :: r) ([38, 110, 98, 115, 112, 59] ++ u))
    (hlt : ∀ r u, C false r u → C false (60 :: r) ([38, 108, 116, 59] ++ u)) (hgt : ∀ r u, C false r u → C false (62 :: r) ([38, 103, 116, 59] ++ u)) (hq : ∀ r u, C true r u → C true (34 :: r) ([38, 113, 117, 111, 116, 59] ++ u))
    (hc : ∀ v c r u, c ≠ 38 → (v = true → c ≠ 34) → (v = false → c ≠ 60 ∧ c ≠ 62) → C v r u → C v (c :: r) (c :: u)) (v : Bool) : ∀ (n : Nat) (s : List UInt8), s.length ≤ n → C v s (escV v s)
  | 0, s, h => by
    obtain rfl := List.eq_nil_of_length_eq_zero (Nat.le_zero.1 h)
    rw [escV_nil]; exact h0 v
  | n + 1, [], _ => by rw [escV_nil]; exact h0 v
  | n + 1, c :: r, h => by
    have hr := esc_ind h0 hamp hnb hlt hgt hq hc v n r (by simpa using h)
    by_cases h1 : c = 38
    · subst h1; rw [escV_amp]; exact hamp v r _ hr
    · by_cases h2 : c = 194 ∧ r.head? = some 160
      · obtain ⟨rfl, h2⟩ := h2
        obtain ⟨q, rfl⟩ : ∃ q, r = 160 :: q := by
          cases r with
          | nil => simp at h2
          | cons x q => simp at h2; subst h2; exact ⟨q, rfl⟩
        rw [escV_nbsp]
        exact hnb v q _ (esc_ind h0 hamp hnb hlt hgt hq hc v n q (by simp at h; omega))
      · cases v with
        | false =>
          by_cases h3 : c = 60
          · subst h3; rw [escV_lt]; exact hlt r _ hr
          · by_cases h4 : c = 62
            · subst h4; rw [escV_gt]; exact hgt r _ hr
            · rw [escV_cons false c r h1 (fun e h' => h2 ⟨e, h'⟩) (fun e => by cases e) (fun _ => ⟨h3, h4⟩)]
              exact hc false c r _ h1 (fun e => by cases e) (fun _ => ⟨h3, h4⟩) hr
        | true =>
          by_cases h3 : c = 34
          · subst h3; rw [escV_quot]; exact hq r _ hr
          · rw [escV_cons true c r h1 (fun e h' => h2 ⟨e, h'⟩) (fun _ => h3) (fun e => by cases e)]
            exact hc true c r _ h1 (fun _ => h3) (fun e => by cases e) hr
/-- DECODED TO WHAT IT WAS. -/
theorem dec_esc (v attr : Bool) (s : List UInt8) : En.Entp.decode (escV v s) attr = s :=
  esc_ind (C := fun _ s u => En.Entp.decode u attr = s) (fun _ => dec_nil attr) (fun _ r u h => by rw [dec_amp, h]) (fun _ r u h => by rw [dec_nbsp, h]) (fun r u h => by rw [dec_lt, h]) (fun r u h => by rw [dec_gt, h]) (fun r u h => by rw [dec_quot, h])
    (fun _ c r u h1 _ _ h => by rw [dec_cons c h1, h]) v s.length s (Nat.le_refl _)
/-- NO MARK THAT ENDS IT. -/
theorem esc_marks (v : Bool) (s : List UInt8) : ∀ c ∈ escV v s, (v = false → c ≠ 60 ∧ c ≠ 62) ∧ (v = true → c ≠ 34) := by
  have lit : ∀ (v : Bool) (l u : List UInt8), (l.all fun c => decide (c ≠ 60) && decide (c ≠ 62) && decide (c ≠ 34)) = true → (∀ c ∈ u, (v = false → c ≠ 60 ∧ c ≠ 62) ∧ (v = true → c ≠ 34)) → ∀ c ∈ l ++ u, (v = false → c ≠ 60 ∧ c ≠ 62) ∧ (v = true → c ≠ 34) := fun v l u hl hu c hc => by
    rcases List.mem_append.1 hc with hc | hc
    · have := List.all_eq_true.1 hl c hc
      simp only [Bool.and_eq_true, decide_eq_true_eq] at this
      exact ⟨fun _ => this.1, fun _ => this.2⟩
    · exact hu c hc
  exact esc_ind (C := fun v _ u => ∀ c ∈ u, (v = false → c ≠ 60 ∧ c ≠ 62) ∧ (v = true → c ≠ 34)) (fun _ _ h => by cases h) (fun v r u h => lit v _ u (by decide) h) (fun v r u h => lit v _ u (by decide) h) (fun r u h => lit false _ u (by decide) h) (fun r u h => lit false _ u (by decide) h) (fun r u h => lit true _ u (by decide) h)
    (fun v c r u _ h1 h2 h x hx => by
      rcases List.mem_cons.1 hx with rfl | hx
      · exact ⟨h2, h1⟩
      · exact h x hx) v s.length s (Nat.le_refl _)

/-! ### the two trees -/
def tEt (s : List UInt8) : Dm.T := .mk ⟨3, Dm.wHtml, [112], [], [], [], []⟩ [.mk ⟨4, [], [], [], s, [], []⟩ []]
def wTitle : List UInt8 := [116, 105, 116, 108, 101]
def tEv (s : List UInt8) : Dm.T := .mk ⟨1, [], [], [], [], [], []⟩ [.mk ⟨3, Dm.wHtml, [98, 114], [⟨[], wTitle, s⟩], [], [], []⟩ []]
def wAhead : List UInt8 := [60, 98, 114, 32, 116, 105, 116, 108, 101, 61, 34]
theorem html_et (s : List UInt8) : htmlT (tEt s) = escV false s := by
  have h : rawOf ⟨3, Dm.wHtml, [112], [], [], [], []⟩ = false := by decide
  simp only [tEt, htmlT, Dm.T.d, Dm.T.ks, h, htmlK]
  rw [oneH_text (raw := false) (t := .mk ⟨4, [], [], [], s, [], []⟩ []) rfl]
  simp [Dm.T.d]
theorem html_ev (s : List UInt8) : htmlT (tEv s) = wAhead ++ (escV true s ++ [34, 62]) := by
  have h : rawOf ⟨1, [], [], [], [], [], []⟩ = false := by decide
  have he : endless ⟨3, Dm.wHtml, [98, 114], [⟨[], wTitle, s⟩], [], [], []⟩ = true := by simp only [endless]; decide
  simp only [tEv, htmlT, Dm.T.d, Dm.T.ks, h, htmlK]
  rw [oneH_elem (raw := false) (t := .mk ⟨3, Dm.wHtml, [98, 114], [⟨[], wTitle, s⟩], [], [], []⟩ []) rfl]
  rw [elemH, if_pos (by exact he)]
  simp [atsH, atH, wAhead, wTitle, Dm.T.d]
theorem lim_et (s : List UInt8) (N : Nat) (h : s.length ≤ N) (hN : 100 ≤ N) : (tEt s).Lim N := by
  simp [tEt, Dm.T.Lim, Dm.LimK, Dm.D.Lim, Dm.wHtml]
  omega
theorem lim_ev (s : List UInt8) (N : Nat) (h : s.length ≤ N) (hN : 100 ≤ N) : (tEv s).Lim N := by
  simp [tEv, Dm.T.Lim, Dm.LimK, Dm.D.Lim, Dm.A.Lim, Dm.wHtml, wTitle]
  omega
theorem wt_et (s : List UInt8) (h : s.length ≤ 8192) : (tEt s).wt ≤ 1048576 := by
  simp [tEt, Dm.T.wt, Dm.wtK, Dm.wtA, Dm.D.own, Dm.wHtml]
  omega
theorem wt_ev (s : List UInt8) (h : s.length ≤ 8192) : (tEv s).wt ≤ 1048576 := by
  simp [tEv, Dm.T.wt, Dm.wtK, Dm.wtA, Dm.A.wt, Dm.D.own, Dm.wHtml, wTitle]
  omega
end Go.Proofs.YtagkdmolgmhmdaaGreatDoor
