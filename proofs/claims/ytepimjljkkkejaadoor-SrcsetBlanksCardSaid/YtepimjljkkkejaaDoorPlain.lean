/- The plain layer for package srcset: candidates of a text, over lists of bytes; what was read is written and read again as the same. No program in sight. -/
namespace Go.Proofs.YtepimjljkkkejaaDoor
namespace Srcp

def sp (c : UInt8) : Bool := c == 9 || c == 10 || c == 12 || c == 13 || c == 32
def skip (c : UInt8) : Bool := c == 44 || sp c
def dig (c : UInt8) : Bool := 48 ≤ c && c ≤ 57

structure Cand where
  url : List UInt8
  kind : UInt8
  text : List UInt8
  deriving DecidableEq

def pushW (l : List (List UInt8)) (word : List UInt8) : List (List UInt8) := if word = [] then l else l ++ [word]

/-- words, from a place on: within brackets?, the word so far, the words so far, what stands there. The words; the rest. -/
def words : Bool → List UInt8 → List (List UInt8) → List UInt8 → List (List UInt8) × List UInt8
  | _, word, l, [] => (pushW l word, [])
  | inn, word, l, c :: s =>
    if !inn && c == 44 then (pushW l word, s)
    else if !inn && sp c then words inn [] (pushW l word) s
    else words (if c == 40 then true else if c == 41 then false else inn) (word ++ [c]) l s

/-- digits alone that are not nought -/
def whole (s : List UInt8) : Bool := s.all dig && s.any (fun c => c != 48)

def digits (s : List UInt8) : Nat := (s.takeWhile dig).length

/-- a word that ends with a letter, without it -/
def cut (s : List UInt8) (c : UInt8) : Option (List UInt8) := if s.getLast? = some c then some s.dropLast else none

/-- the exponent, or nothing -/
def power (s : List UInt8) : Bool :=
  match s with
  | [] => true
  | c :: r => (c == 101 || c == 69) &&
      (let r1 := match r with | d :: t => if d == 43 || d == 45 then t else r | [] => r
       r1 != [] && r1.all dig)

def number (s : List UInt8) : Bool :=
  let r := s.dropWhile dig
  match r with
  | 46 :: t => (digits t != 0) && power (t.dropWhile dig)
  | _ => (digits s != 0) && power r

def wh (w : List UInt8) (c : UInt8) : Option (List UInt8) := match cut w c with
  | some d => if whole d then some d else none
  | none => none

def described (u : List UInt8) : List (List UInt8) → Option Cand
  | [] => some ⟨u, 0, []⟩
  | [a] => match wh a 119 with
    | some d => some ⟨u, 119, d⟩
    | none => match cut a 120 with
      | some d => if number d then some ⟨u, 120, d⟩ else none
      | none => none
  | [a, b] => match wh a 119, wh b 104 with
    | some d, some _ => some ⟨u, 119, d⟩
    | _, _ => match wh b 119, wh a 104 with
      | some d, some _ => some ⟨u, 119, d⟩
      | _, _ => none
  | _ => none

theorem wh_if (x : List UInt8) (c : UInt8) : wh x c = if (cut x c).isSome && whole ((cut x c).getD []) then some ((cut x c).getD []) else none := by
  unfold wh
  cases cut x c with
  | none => rfl
  | some d => simp
theorem described1 (u x : List UInt8) : described u [x] =
    if (cut x 119).isSome && whole ((cut x 119).getD []) then some ⟨u, 119, (cut x 119).getD []⟩
    else if (cut x 120).isSome && number ((cut x 120).getD []) then some ⟨u, 120, (cut x 120).getD []⟩ else none := by
  show (match wh x 119 with
    | some d => some (⟨u, 119, d⟩ : Cand)
    | none => match cut x 120 with
      | some d => if number d then some ⟨u, 120, d⟩ else none
      | none => none) = _
  rw [wh_if]
  cases (cut x 119).isSome && whole ((cut x 119).getD []) with
  | true => rfl
  | false =>
    cases cut x 120 with
    | none => rfl
    | some d => simp
theorem described2 (u a b : List UInt8) : described u [a, b] =
    if ((cut a 119).isSome && whole ((cut a 119).getD [])) && ((cut b 104).isSome && whole ((cut b 104).getD [])) then some ⟨u, 119, (cut a 119).getD []⟩
    else if ((cut b 119).isSome && whole ((cut b 119).getD [])) && ((cut a 104).isSome && whole ((cut a 104).getD [])) then some ⟨u, 119, (cut b 119).getD []⟩ else none := by
  show (match wh a 119, wh b 104 with
    | some d, some _ => some (⟨u, 119, d⟩ : Cand)
    | _, _ => match wh b 119, wh a 104 with
      | some d, some _ => some ⟨u, 119, d⟩
      | _, _ => none) = _
  rw [wh_if a 119, wh_if b 104, wh_if b 119, wh_if a 104]
  cases (cut a 119).isSome && whole ((cut a 119).getD []) <;> cases (cut b 104).isSome && whole ((cut b 104).getD []) <;>
    cases (cut b 119).isSome && whole ((cut b 119).getD []) <;> cases (cut a 104).isSome && whole ((cut a 104).getD []) <;> rfl

/-- without the commas at its end -/
def trimC (u : List UInt8) : List UInt8 := (u.reverse.dropWhile (· == 44)).reverse

/-- one candidate, or none, off a text that begins with neither blank nor comma; the rest -/
def one (s : List UInt8) : Option Cand × List UInt8 :=
  let u := s.takeWhile (fun c => !sp c)
  let r := s.dropWhile (fun c => !sp c)
  if trimC u = u then (described u (words false [] [] r).1, (words false [] [] r).2) else (described (trimC u) [], r)

def parseF : Nat → List UInt8 → List Cand
  | 0, _ => []
  | n + 1, s =>
    if s.dropWhile skip = [] then [] else (one (s.dropWhile skip)).1.toList ++ parseF n (one (s.dropWhile skip)).2

def parse (s : List UInt8) : List Cand := parseF (s.length + 1) s

def showC (c : Cand) : List UInt8 := if c.kind = 0 then c.url else c.url ++ [32] ++ c.text ++ [c.kind]

def show_ : List Cand → List UInt8
  | [] => []
  | [c] => showC c
  | c :: d :: l => showC c ++ [44, 32] ++ show_ (d :: l)

/-! ### lengths, fuel -/

theorem words_len : ∀ (s : List UInt8) (inn : Bool) (word : List UInt8) (l : List (List UInt8)), (words inn word l s).2.length ≤ s.length
  | [], _, _, _ => by simp [words]
  | c :: s, inn, word, l => by
    have ih := words_len s
    unfold words
    split
    · simp
    · split
      · exact Nat.le_trans (ih _ _ _) (by simp)
      · exact Nat.le_trans (ih _ _ _) (by simp)

theorem dropWhile_len (p : UInt8 → Bool) : ∀ l : List UInt8, (l.dropWhile p).length ≤ l.length
  | [] => by simp
  | c :: l => by
    have := dropWhile_len p l
    simp only [List.dropWhile]
    split
    · simp only [List.length_cons]; omega
    · simp

theorem one_len (c : UInt8) (s : List UInt8) (h : sp c = false) : (one (c :: s)).2.length ≤ s.length := by
  have hd : (c :: s).dropWhile (fun c => !sp c) = s.dropWhile (fun c => !sp c) := by simp [List.dropWhile, h]
  have hl := dropWhile_len (fun c => !sp c) s
  unfold one
  simp only [hd]
  split
  · exact Nat.le_trans (words_len _ _ _ _) hl
  · exact hl

theorem head_drop : ∀ (s : List UInt8) (c : UInt8) (r : List UInt8), s.dropWhile skip = c :: r → skip c = false
  | [], _, _, h => by simp at h
  | a :: s, c, r, h => by
    cases ha : skip a
    · simp only [List.dropWhile, ha] at h
      injection h with h1 h2
      subst h1
      exact ha
    · simp only [List.dropWhile, ha] at h
      exact head_drop s c r h

theorem sp_of_skip {c : UInt8} (h : skip c = false) : sp c = false := by
  unfold skip at h
  cases hs : sp c
  · rfl
  · simp [hs] at h

theorem rest_len (s : List UInt8) (h : s.dropWhile skip ≠ []) : (one (s.dropWhile skip)).2.length < s.length := by
  cases hd : s.dropWhile skip with
  | nil => exact absurd hd h
  | cons c r =>
    have h1 := one_len c r (sp_of_skip (head_drop s c r hd))
    have h2 := dropWhile_len skip s
    rw [hd] at h2
    simp only [List.length_cons] at h2
    omega

theorem fuel : ∀ (n m : Nat) (s : List UInt8), s.length < n → s.length < m → parseF n s = parseF m s
  | 0, _, _, h, _ => by omega
  | _, 0, _, _, h => by omega
  | n + 1, m + 1, s, h1, h2 => by
    unfold parseF
    by_cases hd : s.dropWhile skip = []
    · rw [if_pos hd, if_pos hd]
    · have := rest_len s hd
      rw [if_neg hd, if_neg hd, fuel n m _ (by omega) (by omega)]

theorem parse_nil (s : List UInt8) (h : s.dropWhile skip = []) : parse s = [] := by
  unfold parse parseF
  rw [if_pos h]

theorem parse_cons (s : List UInt8) (h : s.dropWhile skip ≠ []) : parse s = (one (s.dropWhile skip)).1.toList ++ parse (one (s.dropWhile skip)).2 := by
  have := rest_len s h
  conv => lhs; unfold parse parseF
  rw [if_neg h]
  congr 1
  exact fuel _ _ _ (by omega) (by omega)

theorem parse_skip (s : List UInt8) : ∀ pre : List UInt8, (∀ c ∈ pre, skip c = true) → parse (pre ++ s) = parse s := by
  intro pre hpre
  have hd : (pre ++ s).dropWhile skip = s.dropWhile skip := by
    induction pre with
    | nil => rfl
    | cons c pre ih =>
      have hc := hpre c (by simp)
      simp only [List.cons_append, List.dropWhile, hc]
      exact ih (fun x hx => hpre x (by simp [hx]))
  by_cases h : s.dropWhile skip = []
  · rw [parse_nil _ (hd.trans h), parse_nil _ h]
  · rw [parse_cons _ (by rw [hd]; exact h), parse_cons _ h, hd]

/-! ### what is good -/

/-- a URL that may stand -/
def goodUrl (u : List UInt8) : Bool := u != [] && u.all (fun c => !sp c) && u.head? != some 44 && u.getLast? != some 44
def goodText (k : UInt8) (t : List UInt8) : Bool := (k == 0 && t == []) || (k == 119 && whole t) || (k == 120 && number t)
def Good (c : Cand) : Prop := goodUrl c.url = true ∧ goodText c.kind c.text = true

theorem described_good (u : List UInt8) (l : List (List UInt8)) (c : Cand) (h : described u l = some c) : c.url = u ∧ goodText c.kind c.text = true := by
  have whg : ∀ (w : List UInt8) (k : UInt8) (d : List UInt8), wh w k = some d → whole d = true := by
    intro w k d hw
    unfold wh at hw
    split at hw
    · split at hw
      · injection hw with hw; subst hw; assumption
      · cases hw
    · cases hw
  unfold described at h
  split at h
  · injection h with h; subst h; exact ⟨rfl, rfl⟩
  · split at h
    · rename_i d hd
      injection h with h; subst h
      exact ⟨rfl, by simp [goodText, whg _ _ _ hd]⟩
    · split at h
      · split at h
        · injection h with h; subst h
          rename_i hn
          exact ⟨rfl, by simp [goodText, hn]⟩
        · cases h
      · cases h
  · split at h
    · rename_i d _ hd _
      injection h with h; subst h
      exact ⟨rfl, by simp [goodText, whg _ _ _ hd]⟩
    · split at h
      · rename_i d _ hd _
        injection h with h; subst h
        exact ⟨rfl, by simp [goodText, whg _ _ _ hd]⟩
      · cases h
  · cases h

theorem trimC_eq_of_last {u : List UInt8} (h : u.getLast? ≠ some 44) : trimC u = u := by
  unfold trimC
  rw [List.getLast?_eq_head?_reverse] at h
  cases hr : u.reverse with
  | nil => simp [List.reverse_eq_nil_iff.1 hr]
  | cons a r =>
    rw [hr] at h
    have ha : (a == 44) = false := by
      rw [beq_eq_false_iff_ne]; rintro rfl; exact h rfl
    simp only [List.dropWhile, ha]
    rw [← hr, List.reverse_reverse]

theorem trimC_last (u : List UInt8) : (trimC u).getLast? ≠ some 44 := by
  unfold trimC
  rw [List.getLast?_reverse]
  generalize u.reverse = r
  induction r with
  | nil => simp
  | cons a r ih =>
    cases ha : (a == 44)
    · simp only [List.dropWhile, ha, List.head?_cons]
      intro e
      injection e with e
      subst e
      exact absurd ha (by decide)
    · simp only [List.dropWhile, ha]
      exact ih

theorem trimC_append (u cs : List UInt8) (hu : u.getLast? ≠ some 44) (hc : ∀ c ∈ cs, c = 44) : trimC (u ++ cs) = u := by
  have h1 : trimC (u ++ cs) = trimC u := by
    unfold trimC
    congr 1
    rw [List.reverse_append]
    have : ∀ l : List UInt8, (∀ c ∈ l, c = 44) → (l ++ u.reverse).dropWhile (· == 44) = u.reverse.dropWhile (· == 44) := by
      intro l hl
      induction l with
      | nil => rfl
      | cons a l ih =>
        have ha : a = 44 := hl a (by simp)
        subst ha
        simp only [List.cons_append, List.dropWhile]
        exact ih (fun c hc => hl c (by simp [hc]))
    exact this _ (fun c hc' => hc c (by simpa using hc'))
  rw [h1, trimC_eq_of_last hu]

theorem trimC_prefix (u : List UInt8) : ∃ cs, u = trimC u ++ cs ∧ ∀ c ∈ cs, c = 44 := by
  unfold trimC
  have : ∀ r : List UInt8, ∃ cs, r = cs ++ r.dropWhile (· == 44) ∧ ∀ c ∈ cs, c = 44 := by
    intro r
    induction r with
    | nil => exact ⟨[], rfl, by simp⟩
    | cons a r ih =>
      cases ha : (a == 44)
      · exact ⟨[], by simp [List.dropWhile, ha], by simp⟩
      · obtain ⟨cs, h1, h2⟩ := ih
        refine ⟨a :: cs, ?_, ?_⟩
        · simp only [List.dropWhile, ha, List.cons_append]
          rw [← h1]
        · intro c hc
          rcases List.mem_cons.1 hc with h | h
          · rw [h]; exact eq_of_beq ha
          · exact h2 c h
  obtain ⟨cs, h1, h2⟩ := this u.reverse
  refine ⟨cs.reverse, ?_, fun c hc => h2 c (by simpa using hc)⟩
  have := congrArg List.reverse h1
  rw [List.reverse_reverse, List.reverse_append] at this
  exact this

theorem takeWhile_all {p : UInt8 → Bool} : ∀ (l : List UInt8), (l.takeWhile p).all p = true
  | [] => rfl
  | a :: l => by
    cases ha : p a
    · simp [List.takeWhile, ha]
    · simp only [List.takeWhile, ha, List.all_cons, Bool.true_and]
      exact takeWhile_all l

theorem url_good (c : UInt8) (s : List UInt8) (h : skip c = false) : goodUrl (trimC ((c :: s).takeWhile (fun c => !sp c))) = true := by
  have hs := sp_of_skip h
  have hu : (c :: s).takeWhile (fun c => !sp c) = c :: s.takeWhile (fun c => !sp c) := by simp [List.takeWhile, hs]
  rw [hu]
  have hall : (c :: s.takeWhile (fun c => !sp c)).all (fun c => !sp c) = true := by
    rw [← hu]; exact takeWhile_all _
  generalize hx : c :: s.takeWhile (fun c => !sp c) = x at hall
  obtain ⟨cs, h1, h2⟩ := trimC_prefix x
  have hl := trimC_last x
  have hc44 : c ≠ 44 := by
    rintro rfl
    simp [skip] at h
  have hne : trimC x ≠ [] := by
    intro h0
    rw [h0] at h1
    have : c ∈ cs := by rw [← List.nil_append cs, ← h1, ← hx]; simp
    exact hc44 (h2 c this)
  have hhead : (trimC x).head? = some c := by
    cases ht : trimC x with
    | nil => exact absurd ht hne
    | cons a r =>
      rw [ht] at h1
      rw [← hx] at h1
      simp only [List.cons_append] at h1
      injection h1 with h1 _
      rw [h1]; rfl
  unfold goodUrl
  have hall' : (trimC x).all (fun c => !sp c) = true := by
    rw [List.all_eq_true]
    intro y hy
    exact (List.all_eq_true.1 hall) y (by rw [h1]; simp [hy])
  have e1 : (trimC x != []) = true := by simpa using hne
  have e2 : ((trimC x).head? != some 44) = true := by rw [hhead]; simpa using hc44
  have e3 : ((trimC x).getLast? != some 44) = true := by simpa using hl
  rw [e1, hall', e2, e3]
  rfl

theorem one_good (c : UInt8) (s : List UInt8) (h : skip c = false) (x : Cand) (hx : (one (c :: s)).1 = some x) : Good x := by
  have hg := url_good c s h
  unfold one at hx
  dsimp only at hx
  split at hx
  · rename_i he
    rw [he] at hg
    obtain ⟨h1, h2⟩ := described_good _ _ _ hx
    exact ⟨by rw [h1]; exact hg, h2⟩
  · dsimp only at hx
    obtain ⟨h1, h2⟩ := described_good _ _ _ hx
    exact ⟨by rw [h1]; exact hg, h2⟩

theorem parseF_good : ∀ (n : Nat) (s : List UInt8), ∀ x ∈ parseF n s, Good x
  | 0, _, _, h => by simp [parseF] at h
  | n + 1, s, x, h => by
    unfold parseF at h
    split at h
    · simp at h
    · rename_i hd
      rw [List.mem_append] at h
      rcases h with h | h
      · cases he : s.dropWhile skip with
        | nil => exact absurd he hd
        | cons c r =>
          rw [he] at h
          exact one_good c r (head_drop s c r he) x (by simpa using h)
      · exact parseF_good n _ x h

theorem parse_good (s : List UInt8) : ∀ x ∈ parse s, Good x := parseF_good _ s

/-! ### what a number's and a whole's bytes are -/

/-- a byte of a word that is neither blank, comma nor bracket -/
def flat (c : UInt8) : Bool := !sp c && c != 44 && c != 40 && c != 41

theorem dig_flat {c : UInt8} (h : dig c = true) : flat c = true := by
  have all : ∀ n : Fin 256, dig (UInt8.ofNat n.val) = true → flat (UInt8.ofNat n.val) = true := by decide +kernel
  have e : UInt8.ofNat c.toNat = c := by simp
  have := all ⟨c.toNat, c.toNat_lt⟩
  simp only [e] at this
  exact this h

theorem whole_flat {t : List UInt8} (h : whole t = true) : t ≠ [] ∧ t.all flat = true := by
  unfold whole at h
  rw [Bool.and_eq_true] at h
  refine ⟨?_, ?_⟩
  · rintro rfl; simp at h
  · rw [List.all_eq_true] at h ⊢
    exact fun x hx => dig_flat (h.1 x hx)

theorem power_flat {t : List UInt8} (h : power t = true) : t.all flat = true := by
  cases t with
  | nil => rfl
  | cons c r =>
    simp only [power, Bool.and_eq_true, Bool.or_eq_true, beq_iff_eq] at h
    obtain ⟨hc, _, hr⟩ := h
    have hcf : flat c = true := by rcases hc with rfl | rfl <;> decide
    simp only [List.all_cons, hcf, Bool.true_and]
    cases r with
    | nil => rfl
    | cons d t =>
      dsimp only at hr
      split at hr
      · rename_i hd
        have hdf : flat d = true := by
          rcases hd with rfl | rfl <;> decide
        simp only [List.all_cons, hdf, Bool.true_and]
        rw [List.all_eq_true] at hr ⊢
        exact fun x hx => dig_flat (hr x hx)
      · rw [List.all_eq_true] at hr ⊢
        exact fun x hx => dig_flat (hr x hx)

theorem all_of_split (p q : UInt8 → Bool) (hpq : ∀ c, p c = true → q c = true) (s : List UInt8) (h : (s.dropWhile p).all q = true) : s.all q = true := by
  induction s with
  | nil => rfl
  | cons c s ih =>
    by_cases hc : p c = true
    · rw [List.dropWhile_cons_of_pos hc] at h
      simp [hpq c hc, ih h]
    · rwa [List.dropWhile_cons_of_neg hc] at h

theorem number_flat {t : List UInt8} (h : number t = true) : t ≠ [] ∧ t.all flat = true := by
  refine ⟨by rintro rfl; exact absurd h (by decide), ?_⟩
  refine all_of_split dig flat (fun c => dig_flat) t ?_
  unfold number at h
  dsimp only at h
  split at h
  · rename_i r he
    rw [he]
    rw [Bool.and_eq_true] at h
    simp only [List.all_cons]
    rw [Bool.and_eq_true]
    exact ⟨by decide, all_of_split dig flat (fun c => dig_flat) r (power_flat h.2)⟩
  · rw [Bool.and_eq_true] at h
    exact power_flat h.2

theorem cut_snoc (t : List UInt8) (k : UInt8) : cut (t ++ [k]) k = some t := by simp [cut]
theorem cut_snoc_ne (t : List UInt8) {k c : UInt8} (h : k ≠ c) : cut (t ++ [k]) c = none := by simp [cut, h]

theorem described_back (u : List UInt8) {k : UInt8} {t : List UInt8} (hk : k ≠ 0) (h : goodText k t = true) : described u [t ++ [k]] = some ⟨u, k, t⟩ := by
  unfold goodText at h
  simp only [Bool.or_eq_true, Bool.and_eq_true, beq_iff_eq] at h
  rcases h with (⟨h, _⟩ | ⟨rfl, h⟩) | ⟨rfl, h⟩
  · exact absurd h hk
  · simp [described, wh, cut_snoc, h]
  · simp [described, wh, cut_snoc, cut_snoc_ne t (show (120 : UInt8) ≠ 119 by decide), h]

theorem text_flat {k : UInt8} {t : List UInt8} (hk : k ≠ 0) (h : goodText k t = true) : (t ++ [k]) ≠ [] ∧ (t ++ [k]).all flat = true := by
  unfold goodText at h
  simp only [Bool.or_eq_true, Bool.and_eq_true, beq_iff_eq] at h
  rcases h with (⟨h, _⟩ | ⟨rfl, h⟩) | ⟨rfl, h⟩
  · exact absurd h hk
  · exact ⟨by simp, by simp only [List.all_append, (whole_flat h).2]; decide⟩
  · exact ⟨by simp, by simp only [List.all_append, (number_flat h).2]; decide⟩

/-! ### the machine of the words over flat bytes -/

theorem words_flat (l : List (List UInt8)) (s : List UInt8) : ∀ (w word : List UInt8), w.all flat = true → words false word l (w ++ s) = words false (word ++ w) l s
  | [], word, _ => by simp
  | c :: w, word, h => by
    simp only [List.all_cons, Bool.and_eq_true] at h
    have hc := h.1
    unfold flat at hc
    simp only [Bool.and_eq_true, Bool.not_eq_true', bne_iff_ne, ne_eq] at hc
    obtain ⟨⟨⟨h1, h2⟩, h3⟩, h4⟩ := hc
    have e2 : (c == 44) = false := beq_eq_false_iff_ne.2 h2
    have e3 : (c == 40) = false := beq_eq_false_iff_ne.2 h3
    have e4 : (c == 41) = false := beq_eq_false_iff_ne.2 h4
    rw [List.cons_append, words]
    simp only [Bool.not_false, Bool.true_and, e2, h1, e3, e4, Bool.false_eq_true, if_false]
    rw [words_flat l s w (word ++ [c]) h.2]
    simp

theorem words_blank (l : List (List UInt8)) (s : List UInt8) : ∀ (b : List UInt8), b.all sp = true → words false [] l (b ++ s) = words false [] l s
  | [], _ => rfl
  | c :: b, h => by
    simp only [List.all_cons, Bool.and_eq_true] at h
    have e2 : (c == 44) = false := by
      rw [beq_eq_false_iff_ne]; rintro rfl; exact absurd h.1 (by decide)
    rw [List.cons_append, words]
    simp only [Bool.not_false, Bool.true_and, e2, h.1, Bool.false_eq_true, if_false, if_true, pushW]
    exact words_blank l s b h.2

theorem words_blank' (word : List UInt8) (hw : word ≠ []) (l : List (List UInt8)) (s : List UInt8) (b : List UInt8) (hb : b ≠ []) (h : b.all sp = true) : words false word l (b ++ s) = words false [] (l ++ [word]) s := by
  cases b with
  | nil => exact absurd rfl hb
  | cons c b =>
    simp only [List.all_cons, Bool.and_eq_true] at h
    have e2 : (c == 44) = false := by
      rw [beq_eq_false_iff_ne]; rintro rfl; exact absurd h.1 (by decide)
    rw [List.cons_append, words]
    simp only [Bool.not_false, Bool.true_and, e2, h.1, Bool.false_eq_true, if_false, if_true, pushW, hw]
    exact words_blank _ s b h.2

/-! ### the steps of a parse -/

theorem span_url (u r : List UInt8) (hu : u.all (fun c => !sp c) = true) (hr : ∀ c, r.head? = some c → sp c = true) :
    (u ++ r).takeWhile (fun c => !sp c) = u ∧ (u ++ r).dropWhile (fun c => !sp c) = r := by
  induction u with
  | nil =>
    cases r with
    | nil => exact ⟨rfl, rfl⟩
    | cons c r => exact ⟨by simp [hr c rfl], by simp [hr c rfl]⟩
  | cons a u ih =>
    simp only [List.all_cons, Bool.and_eq_true] at hu
    obtain ⟨i1, i2⟩ := ih hu.2
    simp only [List.cons_append, List.takeWhile, List.dropWhile, hu.1]
    exact ⟨by rw [i1], i2⟩

theorem goodUrl_parts {u : List UInt8} (h : goodUrl u = true) : u ≠ [] ∧ u.all (fun c => !sp c) = true ∧ (∃ c t, u = c :: t ∧ skip c = false) ∧ u.getLast? ≠ some 44 := by
  unfold goodUrl at h
  simp only [Bool.and_eq_true, bne_iff_ne, ne_eq] at h
  obtain ⟨⟨⟨h1, h2⟩, h3⟩, h4⟩ := h
  refine ⟨h1, h2, ?_, h4⟩
  cases u with
  | nil => exact absurd rfl h1
  | cons c t =>
    refine ⟨c, t, rfl, ?_⟩
    have hc : sp c = false := by simpa using (List.all_eq_true.1 h2) c (by simp)
    have : c ≠ 44 := by rintro rfl; exact h3 rfl
    simp [skip, hc, this]

theorem drop_url {u : List UInt8} (h : goodUrl u = true) (s : List UInt8) : (u ++ s).dropWhile skip = u ++ s := by
  obtain ⟨_, _, ⟨c, t, rfl, hc⟩, _⟩ := goodUrl_parts h
  simp [hc]

/-- a URL, commas, and what begins with a blank, or nothing -/
theorem parse_plain {u cs r : List UInt8} (h : goodUrl u = true) (hcs : ∀ c ∈ cs, c = 44) (hr : ∀ c, r.head? = some c → sp c = true) (h0 : cs = [] → r = []) :
    parse (u ++ (cs ++ r)) = ⟨u, 0, []⟩ :: parse r := by
  obtain ⟨hne, hall, ⟨c0, t0, hu0, hc0⟩, hlast⟩ := goodUrl_parts h
  have hd := drop_url h (cs ++ r)
  have hne' : u ++ (cs ++ r) ≠ [] := by simp [hne]
  rw [parse_cons _ (by rw [hd]; exact hne'), hd]
  have hcs' : (u ++ cs).all (fun c => !sp c) = true := by
    rw [List.all_append, hall, Bool.true_and, List.all_eq_true]
    intro x hx; rw [hcs x hx]; decide
  obtain ⟨s1, s2⟩ := span_url (u ++ cs) r hcs' hr
  rw [List.append_assoc] at s1 s2
  unfold one
  dsimp only
  rw [s1, s2, trimC_append u cs hlast hcs]
  split
  · rename_i he
    have : cs = [] := by
      have := congrArg List.length he
      rw [List.length_append] at this
      exact List.eq_nil_of_length_eq_zero (by omega)
    subst this
    rw [h0 rfl]
    simp [words, pushW, described]
  · simp [described]

/-- a URL, blanks, a text and its kind; blanks, a comma -/
theorem parse_kind {u b1 t b2 r : List UInt8} {k : UInt8} (h : goodUrl u = true) (hk : k ≠ 0) (ht : goodText k t = true) (hb1 : b1 ≠ []) (hb1' : b1.all sp = true) (hb2 : b2.all sp = true) :
    parse (u ++ (b1 ++ (t ++ [k]) ++ b2 ++ 44 :: r)) = ⟨u, k, t⟩ :: parse r := by
  obtain ⟨hne, hall, ⟨c0, t0, hu0, hc0⟩, hlast⟩ := goodUrl_parts h
  have hd := drop_url h (b1 ++ (t ++ [k]) ++ b2 ++ 44 :: r)
  rw [parse_cons _ (by rw [hd]; simp [hne]), hd]
  obtain ⟨s1, s2⟩ := span_url u (b1 ++ (t ++ [k]) ++ b2 ++ 44 :: r) hall (by
    cases b1 with
    | nil => exact absurd rfl hb1
    | cons a b =>
      intro c hc
      simp at hc
      subst hc
      simp only [List.all_cons, Bool.and_eq_true] at hb1'
      exact hb1'.1)
  obtain ⟨tf1, tf2⟩ := text_flat hk ht
  have hw : words false [] [] (b1 ++ (t ++ [k]) ++ b2 ++ 44 :: r) = ([t ++ [k]], r) := by
    rw [List.append_assoc, List.append_assoc, words_blank _ _ b1 hb1', words_flat _ _ _ _ tf2, List.nil_append]
    by_cases hb : b2 = []
    · subst hb
      simp [words, pushW]
    · rw [words_blank' _ tf1 _ _ b2 hb hb2]
      simp [words, pushW]
  unfold one
  dsimp only
  rw [s1, s2, if_pos (trimC_eq_of_last hlast), hw]
  dsimp only
  rw [described_back u hk ht]
  rfl

/-- at the end: a URL, blanks, a text and its kind -/
theorem parse_last {u b1 t : List UInt8} {k : UInt8} (h : goodUrl u = true) (hk : k ≠ 0) (ht : goodText k t = true) (hb1 : b1 ≠ []) (hb1' : b1.all sp = true) :
    parse (u ++ (b1 ++ (t ++ [k]))) = [⟨u, k, t⟩] := by
  obtain ⟨hne, hall, ⟨c0, t0, hu0, hc0⟩, hlast⟩ := goodUrl_parts h
  have hd := drop_url h (b1 ++ (t ++ [k]))
  rw [parse_cons _ (by rw [hd]; simp [hne]), hd]
  obtain ⟨s1, s2⟩ := span_url u (b1 ++ (t ++ [k])) hall (by
    cases b1 with
    | nil => exact absurd rfl hb1
    | cons a b =>
      intro c hc
      simp at hc
      subst hc
      simp only [List.all_cons, Bool.and_eq_true] at hb1'
      exact hb1'.1)
  obtain ⟨tf1, tf2⟩ := text_flat hk ht
  have hw : words false [] [] (b1 ++ (t ++ [k])) = ([t ++ [k]], []) := by
    rw [words_blank _ _ b1 hb1']
    have := words_flat [] [] (t ++ [k]) [] tf2
    rw [List.append_nil] at this
    rw [this]
    simp [words, pushW]
  unfold one
  dsimp only
  rw [s1, s2, if_pos (trimC_eq_of_last hlast), hw]
  dsimp only
  rw [described_back u hk ht]
  rfl

theorem text_nil {k : UInt8} {t : List UInt8} (hk : k = 0) (h : goodText k t = true) : t = [] := by
  subst hk
  simpa [goodText] using h

/-- WHAT WAS READ IS WRITTEN AND READ AGAIN AS THE SAME -/
theorem parse_show : ∀ l : List Cand, (∀ x ∈ l, Good x) → parse (show_ l) = l
  | [], _ => rfl
  | [c], h => by
    obtain ⟨h1, h2⟩ := h c (by simp)
    unfold show_ showC
    by_cases hk : c.kind = 0
    · rw [if_pos hk]
      have := parse_plain (cs := []) (r := []) h1 (by simp) (by simp) (fun _ => rfl)
      simp only [List.append_nil] at this
      rw [this]
      have ht := text_nil hk h2
      cases c
      simp only at hk ht
      subst hk; subst ht
      rfl
    · rw [if_neg hk]
      have := parse_last (b1 := [32]) h1 hk h2 (by simp) (by decide)
      simpa using this
  | c :: d :: l, h => by
    have ih := parse_show (d :: l) (fun x hx => h x (by simp [hx]))
    obtain ⟨h1, h2⟩ := h c (by simp)
    unfold show_ showC
    by_cases hk : c.kind = 0
    · rw [if_pos hk]
      have := parse_plain (cs := [44]) (r := 32 :: show_ (d :: l)) h1 (by simp) (by intro c hc; simp at hc; subst hc; decide) (fun h => by cases h)
      have hs := parse_skip (show_ (d :: l)) [32] (by decide)
      simp only [List.cons_append, List.nil_append] at this hs
      rw [hs, ih] at this
      simp only [List.append_assoc, List.cons_append, List.nil_append]
      rw [this]
      have ht := text_nil hk h2
      cases c
      simp only at hk ht
      subst hk; subst ht
      rfl
    · rw [if_neg hk]
      have := parse_kind (b1 := [32]) (b2 := []) (r := 32 :: show_ (d :: l)) h1 hk h2 (by simp) (by decide) (by decide)
      have hs := parse_skip (show_ (d :: l)) [32] (by decide)
      simp only [List.cons_append, List.nil_append] at hs
      rw [hs, ih] at this
      simpa using this

theorem back (s : List UInt8) : parse (show_ (parse s)) = parse s := parse_show _ (parse_good s)

/-! ### the law of the URLs -/

def plainUrl (u : List UInt8) : Bool := u != [] && u.all (fun c => !sp c && c != 44)

theorem plain_good {u : List UInt8} (h : plainUrl u = true) : goodUrl u = true := by
  unfold plainUrl at h
  simp only [Bool.and_eq_true, bne_iff_ne, ne_eq] at h
  obtain ⟨h1, h2⟩ := h
  have hm : ∀ x ∈ u, sp x = false ∧ x ≠ 44 := fun x hx => by simpa using (List.all_eq_true.1 h2) x hx
  unfold goodUrl
  simp only [Bool.and_eq_true, bne_iff_ne, ne_eq]
  refine ⟨⟨⟨h1, ?_⟩, ?_⟩, ?_⟩
  · rw [List.all_eq_true]; intro x hx; simp [(hm x hx).1]
  · intro e
    exact (hm 44 (List.mem_of_head? e)).2 rfl
  · intro e
    exact (hm 44 (List.mem_of_getLast? e)).2 rfl

def joined : List (List UInt8) → List UInt8
  | [] => []
  | u :: l => u ++ [44, 32] ++ joined l

theorem parse_urls : ∀ l : List (List UInt8), (∀ u ∈ l, plainUrl u = true) → parse (joined l) = l.map (fun u => ⟨u, 0, []⟩)
  | [], _ => rfl
  | u :: l, h => by
    have ih := parse_urls l (fun x hx => h x (by simp [hx]))
    have := parse_plain (cs := [44]) (r := 32 :: joined l) (plain_good (h u (by simp))) (by simp) (by intro c hc; simp at hc; subst hc; decide) (fun h => by cases h)
    have hs := parse_skip (joined l) [32] (by decide)
    simp only [List.cons_append, List.nil_append] at this hs
    rw [hs, ih] at this
    simpa [joined] using this

/-! ### the law of the blanks -/

/-- what the law lays for a candidate at a gap (0 to 3) -/
def gapA : Nat → List UInt8 | 0 => [] | 1 => [32] | 2 => [44, 44, 32] | _ => [10, 44, 32]
def gapB : Nat → List UInt8 | 0 => [32] | 1 => [32, 32] | 2 => [9] | _ => [32, 10]
def gapC : Nat → List UInt8 | 0 => [] | 1 => [32] | 2 => [12] | _ => []
def gapD : Nat → List UInt8 | 0 => [44, 32] | 1 => [44, 32] | 2 => [44, 44] | _ => [44, 32]

def gapped (g : Nat) (c : Cand) : List UInt8 :=
  gapA g ++ c.url ++ (if c.kind = 0 then [] else gapB g ++ c.text ++ [c.kind] ++ gapC g) ++ gapD g ++ (if c.kind = 0 then [32] else [])

theorem gapA_skip (g : Nat) : ∀ c ∈ gapA g, skip c = true := by
  match g with
  | 0 => decide
  | 1 => decide
  | 2 => decide
  | _ + 3 => exact (by decide : ∀ c ∈ ([10, 44, 32] : List UInt8), skip c = true)
theorem gapB_sp (g : Nat) : gapB g ≠ [] ∧ (gapB g).all sp = true := by
  match g with
  | 0 => decide
  | 1 => decide
  | 2 => decide
  | _ + 3 => exact (by decide : ([32, 10] : List UInt8) ≠ [] ∧ ([32, 10] : List UInt8).all sp = true)
theorem gapC_sp (g : Nat) : (gapC g).all sp = true := by
  match g with
  | 0 => decide
  | 1 => decide
  | 2 => decide
  | _ + 3 => rfl
theorem gapD_eq (g : Nat) : ∃ d, gapD g = 44 :: [d] ∧ skip d = true ∧ (d = 44 ∨ sp d = true) := by
  match g with
  | 0 => exact ⟨32, rfl, by decide, by decide⟩
  | 1 => exact ⟨32, rfl, by decide, by decide⟩
  | 2 => exact ⟨44, rfl, by decide, by decide⟩
  | _ + 3 => exact ⟨32, rfl, by decide, by decide⟩

theorem parse_gapped (g : Nat) (c : Cand) (h : Good c) (r : List UInt8) : parse (gapped g c ++ r) = c :: parse r := by
  obtain ⟨h1, h2⟩ := h
  obtain ⟨d, hD, hd, hd'⟩ := gapD_eq g
  unfold gapped
  rw [hD]
  by_cases hk : c.kind = 0
  · simp only [hk, if_true, List.append_nil, List.append_assoc]
    rw [parse_skip _ _ (gapA_skip g)]
    have ht := text_nil hk h2
    have hc : c = ⟨c.url, 0, []⟩ := by cases c; simp only at hk ht; subst hk; subst ht; rfl
    rcases hd' with rfl | hsp
    · have := parse_plain (cs := [44, 44]) (r := 32 :: r) h1 (by simp) (by intro c hc; simp at hc; subst hc; decide) (fun h => by cases h)
      have hs := parse_skip r [32] (by decide)
      simp only [List.cons_append, List.nil_append] at this hs ⊢
      rw [this, hs, ← hc]
    · have := parse_plain (cs := [44]) (r := d :: 32 :: r) h1 (by simp) (by intro c hc; simp at hc; subst hc; exact hsp) (fun h => by cases h)
      have hs := parse_skip r [d, 32] (by intro c hc; simp at hc; rcases hc with rfl | rfl; exact hd; decide)
      simp only [List.cons_append, List.nil_append] at this hs ⊢
      rw [this, hs, ← hc]
  · simp only [hk, if_false, List.append_nil, List.append_assoc]
    rw [parse_skip _ _ (gapA_skip g)]
    have := parse_kind (b1 := gapB g) (b2 := gapC g) (r := d :: r) h1 hk h2 (gapB_sp g).1 (gapB_sp g).2 (gapC_sp g)
    have hs := parse_skip r [d] (by intro c hc; simp at hc; subst hc; exact hd)
    simp only [List.cons_append, List.nil_append, List.append_assoc] at this hs ⊢
    rw [this, hs]

/-- the law's text: for each candidate with its gap -/
def blanked : List (Nat × Cand) → List UInt8
  | [] => []
  | (g, c) :: l => gapped g c ++ blanked l

theorem parse_blanked : ∀ l : List (Nat × Cand), (∀ x ∈ l, Good x.2) → parse (blanked l) = l.map (·.2)
  | [], _ => rfl
  | (g, c) :: l, h => by
    rw [blanked, parse_gapped g c (h (g, c) (by simp)), parse_blanked l (fun x hx => h x (by simp [hx]))]
    rfl

end Srcp
end Go.Proofs.YtepimjljkkkejaaDoor
