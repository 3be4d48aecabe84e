/-
  Patterns: % stands for any bytes, _ for one. The relation, its laws, and what the greedy search keeps. No program in sight.
-/
import Derived.Test.YtlkkpgdgnnknpaaDoorWords
namespace Go.Proofs.YtlkkpgdgnnknpaaDoor

abbrev Bs := List UInt8
def pct : UInt8 := 37
def und : UInt8 := 95
/-- does a text fit a pattern -/
def Fit : Bs → Bs → Prop
  | s, [] => s = []
  | s, x :: p => if x = pct then ∃ j, j ≤ s.length ∧ Fit (s.drop j) p else ∃ c t, s = c :: t ∧ (x = und ∨ x = c) ∧ Fit t p
theorem fit_nil {s : Bs} : Fit s [] ↔ s = [] := by simp [Fit]
theorem fit_pct {s p : Bs} : Fit s (pct :: p) ↔ ∃ j, j ≤ s.length ∧ Fit (s.drop j) p := by simp [Fit]
theorem fit_cons {s p : Bs} {x : UInt8} (h : x ≠ pct) : Fit s (x :: p) ↔ ∃ c t, s = c :: t ∧ (x = und ∨ x = c) ∧ Fit t p := by simp [Fit, h]
theorem fit_append {b q : Bs} : ∀ {p : Bs} {a : Bs}, Fit a p → Fit b q → Fit (a ++ b) (p ++ q)
  | [], a, h, h' => by rw [fit_nil] at h; subst h; simpa using h'
  | x :: p, a, h, h' => by
    by_cases hx : x = pct
    · subst hx
      rw [fit_pct] at h
      obtain ⟨j, hj, h⟩ := h
      rw [List.cons_append, fit_pct]
      refine ⟨j, by simp; omega, ?_⟩
      rw [List.drop_append_of_le_length hj]
      exact fit_append h h'
    · rw [fit_cons hx] at h
      obtain ⟨c, t, rfl, hc, h⟩ := h
      rw [List.cons_append, List.cons_append, fit_cons hx]
      exact ⟨c, t ++ b, rfl, hc, fit_append h h'⟩
theorem fit_any (s : Bs) : Fit s [pct] := by
  rw [fit_pct]; exact ⟨s.length, Nat.le_refl _, by rw [fit_nil]; simp⟩
theorem fit_one : ¬ Fit [] [und] := by
  rw [fit_cons (by decide)]; rintro ⟨c, t, h, _⟩; cases h
theorem fit_some (s : Bs) : Fit s [und, pct] ↔ s ≠ [] := by
  rw [fit_cons (by decide)]
  constructor
  · rintro ⟨c, t, rfl, _⟩; simp
  · intro h
    cases s with
    | nil => exact absurd rfl h
    | cons c t => exact ⟨c, t, rfl, .inl rfl, fit_any t⟩
def isMark (c : UInt8) : Bool := c == pct || c == und
theorem fit_plain {q : Bs} : ∀ {p s : Bs}, (p.any isMark = false) → (Fit s (p ++ q) ↔ p = s.take p.length ∧ p.length ≤ s.length ∧ Fit (s.drop p.length) q)
  | [], s, _ => by simp
  | x :: p, s, h => by
    simp only [List.any_cons, Bool.or_eq_false_iff, isMark] at h
    obtain ⟨⟨h1, h2⟩, h3⟩ := h
    have hx : x ≠ pct := by simpa using h1
    have hu : x ≠ und := by simpa using h2
    rw [List.cons_append, fit_cons hx]
    cases s with
    | nil => simp
    | cons c t =>
      have ih := fit_plain (q := q) (p := p) (s := t) h3
      simp only [List.length_cons, List.take_succ_cons, List.drop_succ_cons, List.cons.injEq]
      constructor
      · rintro ⟨c', t', ⟨rfl, rfl⟩, hc, hf⟩
        obtain ⟨g1, g2, g3⟩ := ih.1 hf
        exact ⟨⟨hc.resolve_left hu, g1⟩, by omega, g3⟩
      · rintro ⟨⟨rfl, g1⟩, g2, g3⟩
        exact ⟨x, t, ⟨rfl, rfl⟩, .inr rfl, ih.2 ⟨g1, by omega, g3⟩⟩
theorem fit_self {p : Bs} (h : p.any isMark = false) : Fit p p := by
  have := (fit_plain (q := []) (s := p) h).2 (by simp [fit_nil])
  simpa using this
theorem fit_eq {p s : Bs} (h : p.any isMark = false) : Fit s p ↔ s = p := by
  have := fit_plain (q := []) (s := s) h
  rw [List.append_nil, fit_nil] at this
  rw [this]
  constructor
  · rintro ⟨h1, h2, h3⟩
    have : s.length ≤ p.length := by simpa using h3
    rw [h1, List.take_of_length_le this]
  · rintro rfl; simp
theorem fit_starts {p s : Bs} (h : p.any isMark = false) : Fit s (p ++ [pct]) ↔ p.length ≤ s.length ∧ s.take p.length = p := by
  rw [fit_plain h]
  constructor
  · rintro ⟨h1, h2, _⟩; exact ⟨h2, h1.symm⟩
  · rintro ⟨h1, h2⟩; exact ⟨h2.symm, h1, fit_any _⟩

/-- a piece of a pattern without % -/
def Seg : Bs → Bs → Prop
  | [], s => s = []
  | x :: p, s => x ≠ pct ∧ ∃ c t, s = c :: t ∧ (x = und ∨ x = c) ∧ Seg p t
theorem seg_nil : Seg [] [] := rfl
theorem seg_len : ∀ {g s : Bs}, Seg g s → g.length = s.length
  | [], s, h => by rw [show s = [] from h]
  | x :: g, s, h => by obtain ⟨_, c, t, rfl, _, h⟩ := h; simp [seg_len h]
theorem seg_snoc {x c : UInt8} (hx : x ≠ pct) (hc : x = und ∨ x = c) : ∀ {g s : Bs}, Seg g s → Seg (g ++ [x]) (s ++ [c])
  | [], s, h => by rw [show s = [] from h]; exact ⟨hx, c, [], rfl, hc, rfl⟩
  | y :: g, s, h => by
    obtain ⟨h1, c', t, rfl, h2, h3⟩ := h
    exact ⟨h1, c', t ++ [c], rfl, h2, seg_snoc hx hc h3⟩
theorem seg_free : ∀ {g s : Bs}, Seg g s → ∀ x ∈ g, x ≠ pct
  | [], _, _, _, h => by cases h
  | y :: g, s, h, x, hx => by
    obtain ⟨h1, c', t, rfl, h2, h3⟩ := h
    rcases List.mem_cons.1 hx with rfl | hx
    · exact h1
    · exact seg_free h3 x hx
/-- behind a piece without % -/
theorem fit_seg {q : Bs} : ∀ {g s t : Bs}, Seg g s → (Fit (s ++ t) (g ++ q) ↔ Fit t q)
  | [], s, t, h => by rw [show s = [] from h]; simp
  | x :: g, s, t, h => by
    obtain ⟨h1, c, s', rfl, h2, h3⟩ := h
    rw [List.cons_append, List.cons_append, fit_cons h1]
    constructor
    · rintro ⟨c', t', e, _, hf⟩
      injection e with e1 e2
      subst e2
      exact (fit_seg h3).1 hf
    · intro hf
      exact ⟨c, s' ++ t, rfl, h2, (fit_seg h3).2 hf⟩
theorem fit_free_len {q : Bs} : ∀ {g s : Bs}, (∀ x ∈ g, x ≠ pct) → Fit s (g ++ q) → g.length ≤ s.length ∧ Fit (s.drop g.length) q
  | [], s, _, h => by simpa using h
  | x :: g, s, hg, h => by
    rw [List.cons_append, fit_cons (hg x (List.mem_cons_self ..))] at h
    obtain ⟨c, t, rfl, _, h⟩ := h
    have := fit_free_len (fun y hy => hg y (List.mem_cons_of_mem _ hy)) h
    simpa using this

theorem fit_nil_pcts {p : Bs} : Fit [] p ↔ ∀ x ∈ p, x = pct := by
  induction p with
  | nil => simp [fit_nil]
  | cons x p ih =>
    by_cases hx : x = pct
    · subst hx
      rw [fit_pct]
      simp only [List.length_nil, Nat.le_zero, List.drop_nil, List.mem_cons, forall_eq_or_imp, true_and]
      rw [← ih]
      exact ⟨fun ⟨_, _, h⟩ => h, fun h => ⟨0, rfl, h⟩⟩
    · rw [fit_cons hx]
      constructor
      · rintro ⟨c, t, h, _⟩; cases h
      · intro h; exact absurd (h x (List.mem_cons_self ..)) hx

/-- what the search keeps: i of the text, k of the pattern; the place behind the last % (none: no % yet) and from where of the text it was tried -/
def Like (s p : Bs) (i k : Nat) : Option (Nat × Nat) → Prop
  | none => i ≤ s.length ∧ k ≤ p.length ∧ (Fit s p ↔ Fit (s.drop i) (p.drop k))
  | some (st, f) => i ≤ s.length ∧ k ≤ p.length ∧ f ≤ i ∧ st ≤ k ∧ Seg ((p.drop st).take (k - st)) ((s.drop f).take (i - f)) ∧ (Fit s p ↔ ∃ j, f ≤ j ∧ j ≤ s.length ∧ Fit (s.drop j) (p.drop st))
theorem like_start (s p : Bs) : Like s p 0 0 none := ⟨Nat.zero_le _, Nat.zero_le _, by simp⟩
theorem seg_split {s p : Bs} {i k st f : Nat} (h1 : f ≤ i) (h2 : st ≤ k) : p.drop st = (p.drop st).take (k - st) ++ p.drop k ∧ s.drop f = (s.drop f).take (i - f) ++ s.drop i := by
  constructor
  · conv => lhs; rw [← List.take_append_drop (k - st) (p.drop st)]
    rw [List.drop_drop, show st + (k - st) = k by omega]
  · conv => lhs; rw [← List.take_append_drop (i - f) (s.drop f)]
    rw [List.drop_drop, show f + (i - f) = i by omega]
theorem drop_cons {p : Bs} {k : Nat} {x : UInt8} (hk : k < p.length) (hx : p[k]? = some x) : p.drop k = x :: p.drop (k + 1) := by
  rw [List.drop_eq_getElem_cons hk]
  congr 1
  rw [List.getElem?_eq_getElem hk] at hx
  injection hx
/-- a % comes -/
theorem like_pct {s p : Bs} {i k : Nat} {o : Option (Nat × Nat)} (h : Like s p i k o) (hk : k < p.length) (hx : p[k]? = some pct) : Like s p i (k + 1) (some (k + 1, i)) := by
  have hd := drop_cons hk hx
  have key : ∀ u : Bs, Fit u (p.drop k) ↔ ∃ j, j ≤ u.length ∧ Fit (u.drop j) (p.drop (k + 1)) := fun u => by rw [hd, fit_pct]
  have here : i ≤ s.length → ((∃ j, j ≤ (s.drop i).length ∧ Fit ((s.drop i).drop j) (p.drop (k + 1))) ↔ ∃ j, i ≤ j ∧ j ≤ s.length ∧ Fit (s.drop j) (p.drop (k + 1))) := fun hi => by
    constructor
    · rintro ⟨j, hj, hf⟩
      rw [List.length_drop] at hj
      rw [List.drop_drop] at hf
      exact ⟨i + j, by omega, by omega, hf⟩
    · rintro ⟨j, h1, h2, hf⟩
      refine ⟨j - i, by rw [List.length_drop]; omega, ?_⟩
      rw [List.drop_drop, show i + (j - i) = j by omega]
      exact hf
  match o, h with
  | none, ⟨h1, h2, h3⟩ =>
    refine ⟨h1, hk, Nat.le_refl _, Nat.le_refl _, by simp; exact seg_nil, ?_⟩
    rw [h3, key, here h1]
  | some (st, f), ⟨h1, h2, h3, h4, h5, h6⟩ =>
    refine ⟨h1, hk, Nat.le_refl _, Nat.le_refl _, by simp; exact seg_nil, ?_⟩
    obtain ⟨e1, e2⟩ := seg_split (s := s) (p := p) h3 h4
    rw [h6, ← here h1, ← key]
    constructor
    · rintro ⟨j, j1, j2, hf⟩
      rw [e1] at hf
      obtain ⟨g1, g2⟩ := fit_free_len (seg_free h5) hf
      have hl := seg_len h5
      rw [List.length_take, List.length_drop] at hl
      have hl2 : ((s.drop f).take (i - f)).length = i - f := by rw [List.length_take, List.length_drop]; omega
      rw [hl2] at hl
      have hg : ((p.drop st).take (k - st)).length = i - f := by rw [List.length_take, List.length_drop]; omega
      rw [hg] at g1 g2
      rw [List.length_drop] at g1
      rw [List.drop_drop, key] at g2
      obtain ⟨j', q1, q2⟩ := g2
      rw [List.length_drop] at q1
      rw [List.drop_drop] at q2
      rw [key, here h1]
      exact ⟨j + (i - f) + j', by omega, by omega, q2⟩
    · intro hf
      refine ⟨f, Nat.le_refl _, by omega, ?_⟩
      rw [e1, e2, fit_seg h5]
      exact hf
/-- one byte fits -/
theorem like_step {s p : Bs} {i k : Nat} {o : Option (Nat × Nat)} {x c : UInt8} (h : Like s p i k o) (hk : k < p.length) (hi : i < s.length) (hx : p[k]? = some x) (hc : s[i]? = some c) (hn : x ≠ pct) (he : x = und ∨ x = c) : Like s p (i + 1) (k + 1) o := by
  have hd := drop_cons hk hx
  have hs := drop_cons hi hc
  match o, h with
  | none, ⟨h1, h2, h3⟩ =>
    refine ⟨hi, hk, ?_⟩
    rw [h3, hd, hs, fit_cons hn]
    constructor
    · rintro ⟨c', t, e, _, hf⟩; injection e with e1 e2; subst e2; exact hf
    · intro hf; exact ⟨c, _, rfl, he, hf⟩
  | some (st, f), ⟨h1, h2, h3, h4, h5, h6⟩ =>
    refine ⟨hi, hk, by omega, by omega, ?_, h6⟩
    have e1 : (p.drop st).take (k + 1 - st) = (p.drop st).take (k - st) ++ [x] := by
      rw [show k + 1 - st = (k - st) + 1 by omega, List.take_succ_eq_append_getElem (by rw [List.length_drop]; omega)]
      congr 2
      rw [List.getElem_drop]
      have : p[k] = x := by rw [List.getElem?_eq_getElem hk] at hx; injection hx
      simp only [show st + (k - st) = k by omega]; exact this
    have e2 : (s.drop f).take (i + 1 - f) = (s.drop f).take (i - f) ++ [c] := by
      rw [show i + 1 - f = (i - f) + 1 by omega, List.take_succ_eq_append_getElem (by rw [List.length_drop]; omega)]
      congr 2
      rw [List.getElem_drop]
      have : s[i] = c := by rw [List.getElem?_eq_getElem hi] at hc; injection hc
      simp only [show f + (i - f) = i by omega]; exact this
    rw [e1, e2]
    exact seg_snoc hn he h5
/-- it does not fit here -/
def Off (s p : Bs) (i k : Nat) : Prop := p.length ≤ k ∨ ∃ x c, p[k]? = some x ∧ s[i]? = some c ∧ x ≠ pct ∧ x ≠ und ∧ x ≠ c
theorem off_fit {s p : Bs} {i k : Nat} (hi : i < s.length) (h : Off s p i k) : ¬ Fit (s.drop i) (p.drop k) := by
  rcases h with h | ⟨x, c, hx, hc, h1, h2, h3⟩
  · rw [List.drop_of_length_le h, fit_nil]
    intro e
    have := congrArg List.length e
    rw [List.length_drop] at this
    simp at this; omega
  · have hk : k < p.length := (List.getElem?_eq_some_iff.1 hx).1
    rw [drop_cons hk hx, drop_cons hi hc, fit_cons h1]
    rintro ⟨c', t, e, he, _⟩
    injection e with e1 e2
    subst e1
    exact he.elim h2 h3
theorem like_more {s p : Bs} {i k st f : Nat} (h : Like s p i k (some (st, f))) (hi : i < s.length) (ho : Off s p i k) : Like s p (f + 1) st (some (st, f + 1)) := by
  obtain ⟨h1, h2, h3, h4, h5, h6⟩ := h
  refine ⟨by omega, by omega, Nat.le_refl _, Nat.le_refl _, by simp; exact seg_nil, ?_⟩
  rw [h6]
  constructor
  · rintro ⟨j, j1, j2, hf⟩
    rcases Nat.eq_or_lt_of_le j1 with rfl | j3
    · exfalso
      obtain ⟨e1, e2⟩ := seg_split (s := s) (p := p) h3 h4
      rw [e1, e2, fit_seg h5] at hf
      exact off_fit hi ho hf
    · exact ⟨j, j3, j2, hf⟩
  · rintro ⟨j, j1, j2, hf⟩
    exact ⟨j, by omega, j2, hf⟩
theorem like_no {s p : Bs} {i k : Nat} (h : Like s p i k none) (hi : i < s.length) (ho : Off s p i k) : ¬ Fit s p := by
  rw [h.2.2]; exact off_fit hi ho
/-- the text is at its end -/
theorem like_end {s p : Bs} {k : Nat} {o : Option (Nat × Nat)} (h : Like s p s.length k o) : Fit s p ↔ ∀ x ∈ p.drop k, x = pct := by
  rw [← fit_nil_pcts]
  match o, h with
  | none, ⟨h1, h2, h3⟩ => rw [h3, List.drop_length]
  | some (st, f), ⟨h1, h2, h3, h4, h5, h6⟩ =>
    rw [h6]
    obtain ⟨e1, e2⟩ := seg_split (s := s) (p := p) h3 h4
    rw [List.drop_length] at e2
    have hl := seg_len h5
    have hl2 : ((s.drop f).take (s.length - f)).length = s.length - f := by rw [List.length_take, List.length_drop]; omega
    rw [hl2] at hl
    constructor
    · rintro ⟨j, j1, j2, hf⟩
      rw [e1] at hf
      obtain ⟨g1, g2⟩ := fit_free_len (seg_free h5) hf
      rw [hl] at g1 g2
      rw [List.length_drop] at g1
      obtain rfl : j = f := by omega
      rw [List.drop_drop, show j + (s.length - j) = s.length by omega, List.drop_length] at g2
      exact g2
    · intro hf
      refine ⟨f, Nat.le_refl _, h3, ?_⟩
      rw [e1, e2, fit_seg h5]
      exact hf
theorem pcts_snoc {p : Bs} {k : Nat} (hk : k < p.length) (hx : p[k]? = some pct) : (∀ x ∈ p.drop k, x = pct) ↔ ∀ x ∈ p.drop (k + 1), x = pct := by
  rw [drop_cons hk hx]; simp
theorem pcts_no {p : Bs} {k : Nat} {y : UInt8} (hk : k < p.length) (hx : p[k]? = some y) (hy : y ≠ pct) : ¬ ∀ x ∈ p.drop k, x = pct := by
  rw [drop_cons hk hx]; intro h; exact hy (h y (List.mem_cons_self ..))

end Go.Proofs.YtlkkpgdgnnknpaaDoor
