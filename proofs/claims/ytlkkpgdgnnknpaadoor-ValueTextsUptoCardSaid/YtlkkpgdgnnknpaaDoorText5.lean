/-
  A text and a pattern, place by place: plain Lean.
-/
import Derived.Test.YtlkkpgdgnnknpaaDoorLike0
namespace Go.Proofs.YtlkkpgdgnnknpaaDoor
set_option linter.unusedVariables false
set_option linter.unusedSimpArgs false

theorem fit_snoc_pct : ∀ {p s : Bs}, Fit s (p ++ [pct]) ↔ ∃ j, j ≤ s.length ∧ Fit (s.take j) p
  | [], s => by
    rw [List.nil_append]
    exact ⟨fun _ => ⟨0, Nat.zero_le _, by rw [fit_nil, List.take_zero]⟩, fun _ => fit_any s⟩
  | x :: p, s => by
    by_cases hx : x = pct
    · subst hx
      rw [List.cons_append, fit_pct]
      constructor
      · rintro ⟨i, hi, h⟩
        obtain ⟨j, hj, hf⟩ := fit_snoc_pct.1 h
        rw [List.length_drop] at hj
        refine ⟨i + j, by omega, ?_⟩
        rw [fit_pct]
        refine ⟨i, by rw [List.length_take]; omega, ?_⟩
        rw [List.drop_take, show i + j - i = j by omega]
        exact hf
      · rintro ⟨j, hj, h⟩
        rw [fit_pct] at h
        obtain ⟨i, hi, hf⟩ := h
        rw [List.length_take] at hi
        refine ⟨i, by omega, fit_snoc_pct.2 ⟨j - i, by rw [List.length_drop]; omega, ?_⟩⟩
        rw [List.drop_take] at hf
        exact hf
    · rw [List.cons_append, fit_cons hx]
      constructor
      · rintro ⟨c, t, rfl, hc, h⟩
        obtain ⟨j, hj, hf⟩ := fit_snoc_pct.1 h
        refine ⟨j + 1, by simp; omega, ?_⟩
        rw [fit_cons hx]
        exact ⟨c, t.take j, by simp, hc, hf⟩
      · rintro ⟨j, hj, h⟩
        rw [fit_cons hx] at h
        obtain ⟨c, t, e, hc, hf⟩ := h
        cases s with
        | nil => simp at e
        | cons d s =>
          cases j with
          | zero => simp at e
          | succ j =>
            rw [List.take_succ_cons] at e
            injection e with e1 e2
            subst e1; subst e2
            exact ⟨d, s, rfl, hc, fit_snoc_pct.2 ⟨j, by simpa using hj, hf⟩⟩
theorem fit_snoc_one {x : UInt8} (hx : x ≠ pct) : ∀ {p s : Bs}, Fit s (p ++ [x]) ↔ ∃ t c, s = t ++ [c] ∧ (x = und ∨ x = c) ∧ Fit t p
  | [], s => by
    rw [List.nil_append, fit_cons hx]
    constructor
    · rintro ⟨c, t, rfl, hc, h⟩
      rw [fit_nil] at h; subst h
      exact ⟨[], c, rfl, hc, by rw [fit_nil]⟩
    · rintro ⟨t, c, rfl, hc, h⟩
      rw [fit_nil] at h; subst h
      exact ⟨c, [], rfl, hc, by rw [fit_nil]⟩
  | y :: p, s => by
    by_cases hy : y = pct
    · subst hy
      rw [List.cons_append, fit_pct]
      constructor
      · rintro ⟨j, hj, h⟩
        obtain ⟨t, c, e, hc, hf⟩ := (fit_snoc_one hx).1 h
        refine ⟨s.take j ++ t, c, ?_, hc, ?_⟩
        · rw [List.append_assoc, ← e, List.take_append_drop]
        · rw [fit_pct]
          have hl : (s.take j).length = j := by rw [List.length_take]; omega
          refine ⟨j, by rw [List.length_append]; omega, ?_⟩
          rw [List.drop_append, hl, Nat.sub_self, List.drop_zero, List.drop_of_length_le (by omega), List.nil_append]
          exact hf
      · rintro ⟨t, c, rfl, hc, h⟩
        rw [fit_pct] at h
        obtain ⟨j, hj, hf⟩ := h
        refine ⟨j, by rw [List.length_append]; omega, (fit_snoc_one hx).2 ⟨t.drop j, c, ?_, hc, hf⟩⟩
        rw [List.drop_append_of_le_length hj]
    · rw [List.cons_append, fit_cons hy]
      constructor
      · rintro ⟨d, u, rfl, hd, h⟩
        obtain ⟨t, c, rfl, hc, hf⟩ := (fit_snoc_one hx).1 h
        exact ⟨d :: t, c, rfl, hc, by rw [fit_cons hy]; exact ⟨d, t, rfl, hd, hf⟩⟩
      · rintro ⟨t, c, rfl, hc, h⟩
        rw [fit_cons hy] at h
        obtain ⟨d, u, rfl, hd, hf⟩ := h
        exact ⟨d, u ++ [c], rfl, hd, (fit_snoc_one hx).2 ⟨u, c, rfl, hc, hf⟩⟩

open Classical in
/-- is so much of the text as so much of the pattern? -/
noncomputable def cellF (s p : Bs) (k i : Nat) : Bool := decide (Fit (s.take i) (p.take k))
theorem cellF_spec {s p : Bs} {k i : Nat} : cellF s p k i = true ↔ Fit (s.take i) (p.take k) := by unfold cellF; simp
theorem cellF_zero (s p : Bs) {i : Nat} (hi : i ≤ s.length) : cellF s p 0 i = decide (i = 0) := by
  rw [Bool.eq_iff_iff, cellF_spec, List.take_zero, fit_nil, decide_eq_true_iff]
  constructor
  · intro h
    have := congrArg List.length h
    rw [List.length_take, List.length_nil] at this
    omega
  · rintro rfl; rfl
theorem take_snocB {p : Bs} {k : Nat} {x : UInt8} (hk : k < p.length) (hx : p[k]? = some x) : p.take (k + 1) = p.take k ++ [x] := by
  rw [List.take_succ_eq_append_getElem hk]
  rw [List.getElem?_eq_getElem hk] at hx
  injection hx with e
  rw [e]
/-- is there one that is true among the first i? -/
noncomputable def anyF (f : Nat → Bool) : Nat → Bool
  | 0 => false
  | i + 1 => anyF f i || f i
theorem anyF_spec {f : Nat → Bool} : ∀ {i : Nat}, anyF f i = true ↔ ∃ j, j < i ∧ f j = true
  | 0 => by simp [anyF]
  | i + 1 => by
    rw [anyF, Bool.or_eq_true, anyF_spec]
    constructor
    · rintro (⟨j, h1, h2⟩ | h)
      · exact ⟨j, by omega, h2⟩
      · exact ⟨i, by omega, h⟩
    · rintro ⟨j, h1, h2⟩
      rcases Nat.lt_succ_iff_lt_or_eq.1 h1 with h | rfl
      · exact .inl ⟨j, h, h2⟩
      · exact .inr h2
theorem cellF_pct {s p : Bs} {k i : Nat} (hk : k < p.length) (hx : p[k]? = some pct) (hi : i ≤ s.length) : cellF s p (k + 1) i = anyF (cellF s p k) (i + 1) := by
  rw [Bool.eq_iff_iff, cellF_spec, anyF_spec, take_snocB hk hx, fit_snoc_pct]
  constructor
  · rintro ⟨j, hj, h⟩
    rw [List.length_take] at hj
    refine ⟨j, by omega, cellF_spec.2 ?_⟩
    rw [List.take_take, Nat.min_eq_left (by omega)] at h
    exact h
  · rintro ⟨j, hj, h⟩
    refine ⟨j, by rw [List.length_take]; omega, ?_⟩
    rw [List.take_take, Nat.min_eq_left (by omega)]
    exact cellF_spec.1 h
theorem cellF_one0 {s p : Bs} {k : Nat} {x : UInt8} (hk : k < p.length) (hx : p[k]? = some x) (hn : x ≠ pct) : cellF s p (k + 1) 0 = false := by
  rw [Bool.eq_false_iff]
  intro h
  rw [cellF_spec, take_snocB hk hx, fit_snoc_one hn] at h
  obtain ⟨t, c, e, _⟩ := h
  simp at e
theorem cellF_one {s p : Bs} {k i : Nat} {x c : UInt8} (hk : k < p.length) (hx : p[k]? = some x) (hn : x ≠ pct) (hi : i < s.length) (hc : s[i]? = some c) : cellF s p (k + 1) (i + 1) = (cellF s p k i && (x == und || x == c)) := by
  rw [Bool.eq_iff_iff, cellF_spec, take_snocB hk hx, fit_snoc_one hn, take_snocB hi hc]
  simp only [Bool.and_eq_true, Bool.or_eq_true, beq_iff_eq]
  constructor
  · rintro ⟨t, d, e, hd, h⟩
    obtain ⟨rfl, e2⟩ := List.append_inj' e rfl
    injection e2 with e2
    subst e2
    exact ⟨cellF_spec.2 h, hd⟩
  · rintro ⟨h, hd⟩
    exact ⟨s.take i, c, rfl, hd, cellF_spec.1 h⟩
/-- the table's row -/
noncomputable def rowF (s p : Bs) (k : Nat) : List Bool := (List.range (s.length + 1)).map (cellF s p k)
theorem rowF_len (s p : Bs) (k : Nat) : (rowF s p k).length = s.length + 1 := by simp [rowF]
theorem rowF_at {s p : Bs} {k i : Nat} (hi : i ≤ s.length) : (rowF s p k)[i]? = some (cellF s p k i) := by
  unfold rowF
  rw [List.getElem?_map, List.getElem?_range (by omega)]; rfl
theorem rowF_start (s p : Bs) : rowF s p 0 = (List.replicate (s.length + 1) false).set 0 true := by
  apply List.ext_getElem?
  intro i
  rcases Nat.lt_or_ge i (s.length + 1) with h | h
  · rw [rowF_at (by omega), cellF_zero s p (by omega), List.getElem?_set, List.getElem?_replicate]
    by_cases h0 : i = 0
    · subst h0; simp
    · have : ¬ 0 = i := fun e => h0 e.symm
      simp [h0, this, h]
  · rw [List.getElem?_eq_none (by rw [rowF_len]; exact h), List.getElem?_eq_none (by simp; exact h)]
theorem cellF_end (s p : Bs) : cellF s p p.length s.length = true ↔ Fit s p := by rw [cellF_spec, List.take_length, List.take_length]
/-- the row that is being made: the first i places stand -/
noncomputable def partF (s p : Bs) (k i : Nat) : List Bool := (List.range (s.length + 1)).map fun j => decide (j < i) && cellF s p k j
theorem partF_len (s p : Bs) (k i : Nat) : (partF s p k i).length = s.length + 1 := by simp [partF]
theorem partF_at {s p : Bs} {k i j : Nat} (hj : j ≤ s.length) : (partF s p k i)[j]? = some (decide (j < i) && cellF s p k j) := by
  unfold partF
  rw [List.getElem?_map, List.getElem?_range (by omega)]; rfl
theorem partF_zero (s p : Bs) (k : Nat) : partF s p k 0 = List.replicate (s.length + 1) false := by
  refine List.eq_replicate_iff.2 ⟨partF_len .., fun b hb => ?_⟩
  unfold partF at hb
  obtain ⟨j, _, rfl⟩ := List.mem_map.1 hb
  simp
theorem partF_full (s p : Bs) (k : Nat) : partF s p k (s.length + 1) = rowF s p k := by
  unfold partF rowF
  refine List.map_congr_left fun j hj => ?_
  have : j < s.length + 1 := List.mem_range.1 hj
  simp [this]
theorem partF_set {s p : Bs} {k i : Nat} (hi : i ≤ s.length) : (partF s p k i).set i (cellF s p k i) = partF s p k (i + 1) := by
  apply List.ext_getElem?
  intro j
  rcases Nat.lt_or_ge j (s.length + 1) with h | h
  · rw [partF_at (by omega), List.getElem?_set, partF_len]
    by_cases hj : i = j
    · subst hj; rw [if_pos rfl, if_pos h]; simp
    · rw [if_neg hj, partF_at (by omega)]
      have : (j < i + 1) ↔ j < i := by omega
      simp [this]
  · rw [List.getElem?_eq_none (by rw [List.length_set, partF_len]; exact h), List.getElem?_eq_none (by rw [partF_len]; exact h)]
theorem partF_next {s p : Bs} {k i : Nat} (h : cellF s p k i = false) : partF s p k (i + 1) = partF s p k i := by
  unfold partF
  refine List.map_congr_left fun j _ => ?_
  by_cases hj : j = i
  · subst hj; simp [h]
  · have : (j < i + 1) ↔ j < i := by omega
    simp [this]
theorem partF_past {s p : Bs} {k i : Nat} (h : s.length < i) : partF s p k i = rowF s p k := by
  rw [← partF_full]
  unfold partF
  refine List.map_congr_left fun j hj => ?_
  have : j < s.length + 1 := List.mem_range.1 hj
  have h2 : j < i := by omega
  simp [this, h2]
/-- no % : the first place is never come to -/
theorem partF_one0 {s p : Bs} {k : Nat} {x : UInt8} (hk : k < p.length) (hx : p[k]? = some x) (hn : x ≠ pct) : partF s p (k + 1) 1 = List.replicate (s.length + 1) false := by
  rw [partF_next (cellF_one0 hk hx hn), partF_zero]

end Go.Proofs.YtlkkpgdgnnknpaaDoor
