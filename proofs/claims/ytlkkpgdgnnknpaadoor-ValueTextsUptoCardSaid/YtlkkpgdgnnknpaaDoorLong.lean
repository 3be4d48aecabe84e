/-
  Whole numbers as digits to the base 10000, the lowest first: the plain law of the reference's long numbers. No program in sight.
-/
import Derived.Test.YtlkkpgdgnnknpaaDoorWords
namespace Go.Proofs.YtlkkpgdgnnknpaaDoor

def valD : List Int → Int
  | [] => 0
  | d :: l => d + 10000 * valD l
def Digs (l : List Int) : Prop := ∀ d ∈ l, 0 ≤ d ∧ d < 10000
/-- 10000 to a power -/
def bp : Nat → Int
  | 0 => 1
  | i + 1 => 10000 * bp i
theorem bp_pos : ∀ i, 0 < bp i
  | 0 => by decide
  | i + 1 => by have := bp_pos i; unfold bp; omega
theorem bp_mono {i j : Nat} (h : i ≤ j) : bp i ≤ bp j := by
  induction h with
  | refl => exact Int.le_refl _
  | @step m _ ih => have := bp_pos m; show bp i ≤ 10000 * bp m; omega
theorem valD_append : ∀ (a b : List Int), valD (a ++ b) = valD a + bp a.length * valD b
  | [], b => by simp [valD, bp]
  | d :: a, b => by
    rw [List.cons_append, valD, valD, valD_append a b, List.length_cons, bp, Int.mul_add, Int.mul_assoc]; omega
theorem valD_snoc (a : List Int) (d : Int) : valD (a ++ [d]) = valD a + bp a.length * d := by
  rw [valD_append]; simp [valD]
theorem Digs.nil : Digs [] := fun _ h => by cases h
theorem Digs.snoc {l : List Int} {d : Int} (h : Digs l) (h0 : 0 ≤ d) (h1 : d < 10000) : Digs (l ++ [d]) := fun x hx => by
  rcases List.mem_append.1 hx with hx | hx
  · exact h x hx
  · simp at hx; subst hx; exact ⟨h0, h1⟩
theorem Digs.append {l m : List Int} (h : Digs l) (h' : Digs m) : Digs (l ++ m) := fun x hx => by
  rcases List.mem_append.1 hx with hx | hx
  · exact h x hx
  · exact h' x hx
theorem Digs.zeros (i : Nat) : Digs (List.replicate i 0) := fun x hx => by
  have := (List.mem_replicate.1 hx).2; subst this; omega
theorem Digs.tail {d : Int} {l : List Int} (h : Digs (d :: l)) : Digs l := fun x hx => h x (List.mem_cons_of_mem _ hx)
theorem Digs.take {l : List Int} (h : Digs l) (k : Nat) : Digs (l.take k) := fun x hx => h x (List.mem_of_mem_take hx)
theorem Digs.drop {l : List Int} (h : Digs l) (k : Nat) : Digs (l.drop k) := fun x hx => h x (List.mem_of_mem_drop hx)
theorem Digs.getD {l : List Int} (h : Digs l) (i : Nat) : 0 ≤ l.getD i 0 ∧ l.getD i 0 < 10000 := by
  rw [List.getD_eq_getElem?_getD]
  by_cases hi : i < l.length
  · rw [List.getElem?_eq_getElem hi]; exact h _ (List.getElem_mem hi)
  · rw [List.getElem?_eq_none (by omega)]; simp
theorem valD_nonneg : ∀ {l : List Int}, Digs l → 0 ≤ valD l
  | [], _ => by simp [valD]
  | d :: l, h => by
    have := valD_nonneg h.tail
    have := h d (List.mem_cons_self ..)
    rw [valD]; omega
theorem valD_lt : ∀ {l : List Int}, Digs l → valD l < bp l.length
  | [], _ => by simp [valD, bp]
  | d :: l, h => by
    have := valD_lt h.tail
    have := h d (List.mem_cons_self ..)
    rw [valD, List.length_cons, bp]; omega
theorem valD_zeros : ∀ i, valD (List.replicate i 0) = 0
  | 0 => rfl
  | i + 1 => by rw [List.replicate_succ, valD, valD_zeros i]; omega
theorem valD_take_getD : ∀ (l : List Int) (i : Nat), valD (l.take (i + 1)) = valD (l.take i) + bp i * l.getD i 0
  | [], i => by simp [valD]
  | d :: l, 0 => by simp [valD, bp]
  | d :: l, i + 1 => by
    have := valD_take_getD l i
    rw [List.take_succ_cons, List.take_succ_cons, valD, valD, this, bp, List.getD_cons_succ, Int.mul_add, Int.mul_assoc]; omega

/-- the digits of 'a and so many times b', and what is carried on -/
def jointGo (a b : List Int) (t : Int) : Nat → List Int × Int
  | 0 => ([], 0)
  | i + 1 => ((jointGo a b t i).1 ++ [(a.getD i 0 + t * b.getD i 0 + (jointGo a b t i).2) % 10000], (a.getD i 0 + t * b.getD i 0 + (jointGo a b t i).2) / 10000)
theorem jointGo_len (a b : List Int) (t : Int) : ∀ i, (jointGo a b t i).1.length = i
  | 0 => rfl
  | i + 1 => by simp [jointGo, jointGo_len a b t i]
theorem jointGo_digs (a b : List Int) (t : Int) : ∀ i, Digs (jointGo a b t i).1
  | 0 => Digs.nil
  | i + 1 => by rw [jointGo]; exact (jointGo_digs a b t i).snoc (by omega) (by omega)
theorem jointGo_val (a b : List Int) (t : Int) : ∀ i, valD (jointGo a b t i).1 + bp i * (jointGo a b t i).2 = valD (a.take i) + t * valD (b.take i)
  | 0 => by simp [jointGo, valD]
  | i + 1 => by
    have ih := jointGo_val a b t i
    rw [jointGo, valD_snoc, jointGo_len, valD_take_getD a i, valD_take_getD b i, bp]
    simp only
    generalize (jointGo a b t i).2 = c at *
    generalize a.getD i 0 = x at *
    generalize b.getD i 0 = y at *
    have e := Int.emod_add_mul_ediv (x + t * y + c) 10000
    generalize (x + t * y + c) % 10000 = r at *
    generalize (x + t * y + c) / 10000 = q at *
    have e2 : bp i * (r + 10000 * q) = bp i * (x + t * y + c) := by rw [e]
    rw [Int.mul_add, Int.mul_add, Int.mul_add] at e2
    have e3 : bp i * (10000 * q) = 10000 * bp i * q := by rw [← Int.mul_assoc, Int.mul_comm (bp i)]
    have e4 : bp i * (t * y) = t * (bp i * y) := by rw [← Int.mul_assoc, Int.mul_comm (bp i), Int.mul_assoc]
    rw [Int.mul_add]
    generalize bp i * r = u1 at *
    generalize bp i * (10000 * q) = u2 at *
    generalize 10000 * bp i * q = u3 at *
    generalize bp i * x = u4 at *
    generalize bp i * (t * y) = u5 at *
    generalize t * (bp i * y) = u6 at *
    generalize bp i * c = u7 at *
    generalize t * valD (b.take i) = u8 at *
    omega
/-- what is carried stays small -/
theorem jointGo_carry {a b : List Int} {t : Int} (ha : Digs a) (hb : Digs b) (h0 : -1 ≤ t) (h1 : t < 10000) : ∀ i, -1 ≤ (jointGo a b t i).2 ∧ (jointGo a b t i).2 < 10000
  | 0 => by simp [jointGo]
  | i + 1 => by
    have ih := jointGo_carry ha hb h0 h1 i
    have hx := ha.getD i
    have hy := hb.getD i
    simp only [jointGo]
    generalize (jointGo a b t i).2 = c at *
    generalize a.getD i 0 = x at *
    generalize b.getD i 0 = y at *
    have l1 : -9999 ≤ t * y := by
      have : (t + 1) * y ≥ 0 := Int.mul_nonneg (by omega) hy.1
      rw [Int.add_mul] at this; omega
    have l2 : t * y ≤ 9999 * 9999 := by
      rcases (show t < 0 ∨ 0 ≤ t by omega) with h | h
      · have : (-t) * y ≥ 0 := Int.mul_nonneg (by omega) hy.1
        rw [Int.neg_mul] at this; omega
      · exact Int.mul_le_mul (by omega) (by omega) hy.1 (by omega)
    generalize t * y = p at *
    omega
theorem prod_bd {t y : Int} (h0 : -1 ≤ t) (h1 : t < 10000) (hy : 0 ≤ y ∧ y < 10000) : -9999 ≤ t * y ∧ t * y ≤ 99980001 := by
  constructor
  · have : (t + 1) * y ≥ 0 := Int.mul_nonneg (by omega) hy.1
    rw [Int.add_mul] at this; omega
  · rcases (show t < 0 ∨ 0 ≤ t by omega) with h | h
    · have : (-t) * y ≥ 0 := Int.mul_nonneg (by omega) hy.1
      rw [Int.neg_mul] at this; omega
    · have : t * y ≤ 9999 * 9999 := Int.mul_le_mul (by omega) (by omega) hy.1 (by omega)
      omega

/-- zeros at the end are cut -/
def cutD (l : List Int) : List Int := (l.reverse.dropWhile (· == 0)).reverse
def Canon (l : List Int) : Prop := ∀ m, l ≠ m ++ [0]
theorem cutD_snoc_zero (l : List Int) : cutD (l ++ [0]) = cutD l := by simp [cutD]
theorem cutD_snoc {l : List Int} {d : Int} (h : d ≠ 0) : cutD (l ++ [d]) = l ++ [d] := by simp [cutD, h]
theorem list_snoc (l : List Int) : l = [] ∨ ∃ m d, l = m ++ [d] := by
  rcases List.eq_nil_or_concat l with h | ⟨m, d, h⟩
  · exact .inl h
  · exact .inr ⟨m, d, by simpa using h⟩
theorem snoc_ind {P : List Int → Prop} (h0 : P []) (h1 : ∀ l d, P l → P (l ++ [d])) : ∀ n (l : List Int), l.length = n → P l
  | 0, l, h => by rw [List.eq_nil_of_length_eq_zero h]; exact h0
  | n + 1, l, h => by
    rcases list_snoc l with rfl | ⟨m, d, rfl⟩
    · exact h0
    · exact h1 m d (snoc_ind h0 h1 n m (by simpa using h))
theorem cutD_canon (l : List Int) : Canon (cutD l) := snoc_ind (P := fun l => Canon (cutD l)) (fun m h => by simp [cutD] at h) (fun l d ih => by
  by_cases h : d = 0
  · subst h; rw [cutD_snoc_zero]; exact ih
  · rw [cutD_snoc h]
    intro m e
    have := List.append_inj' e rfl
    simp at this; exact h this.2) l.length l rfl
theorem cutD_val (l : List Int) : valD (cutD l) = valD l := snoc_ind (P := fun l => valD (cutD l) = valD l) rfl (fun l d ih => by
  by_cases h : d = 0
  · subst h; rw [cutD_snoc_zero, ih, valD_snoc]; omega
  · rw [cutD_snoc h]) l.length l rfl
theorem cutD_digs {l : List Int} (h : Digs l) : Digs (cutD l) := fun x hx => h x (by
  unfold cutD at hx
  rw [List.mem_reverse] at hx
  exact List.mem_reverse.1 ((List.dropWhile_sublist _).subset hx))
theorem cutD_of_canon {l : List Int} (h : Canon l) : cutD l = l := by
  rcases list_snoc l with rfl | ⟨m, d, rfl⟩
  · rfl
  · exact cutD_snoc (fun e => h m (by rw [e]))
theorem cutD_take (l : List Int) : ∃ k, k ≤ l.length ∧ cutD l = l.take k := snoc_ind (P := fun l => ∃ k, k ≤ l.length ∧ cutD l = l.take k) ⟨0, by simp, rfl⟩ (fun l d ⟨k, hk, ih⟩ => by
  by_cases h : d = 0
  · subst h; exact ⟨k, by simp; omega, by rw [cutD_snoc_zero, ih, List.take_append_of_le_length hk]⟩
  · exact ⟨l.length + 1, by simp, by rw [cutD_snoc h, List.take_of_length_le (by simp)]⟩) l.length l rfl
theorem Canon.nil : Canon [] := fun m h => by simp at h
theorem canon_last {l : List Int} (hd : Digs l) (h : Canon l) (hl : l ≠ []) : bp (l.length - 1) ≤ valD l := by
  rcases list_snoc l with rfl | ⟨m, d, rfl⟩
  · exact absurd rfl hl
  · have hz : d ≠ 0 := fun e => h m (by rw [e])
    have h1 := hd d (by simp)
    have h2 := valD_nonneg (hd.take m.length)
    rw [List.take_append_of_le_length (Nat.le_refl _), List.take_length] at h2
    rw [valD_snoc]
    simp only [List.length_append, List.length_cons, List.length_nil, Nat.add_sub_cancel, Nat.zero_add]
    have : bp m.length * 1 ≤ bp m.length * d := Int.mul_le_mul_of_nonneg_left (by omega) (Int.le_of_lt (bp_pos _))
    omega

/-- is a above b, digit by digit from the end -/
def aboveGo (a b : List Int) : Nat → Bool
  | 0 => false
  | i + 1 => if a.getD i 0 ≠ b.getD i 0 then decide (b.getD i 0 < a.getD i 0) else aboveGo a b i
def aboveD (a b : List Int) : Bool := if a.length ≠ b.length then decide (b.length < a.length) else aboveGo a b a.length
theorem aboveGo_val {a b : List Int} (ha : Digs a) (hb : Digs b) : ∀ i, aboveGo a b i = decide (valD (b.take i) < valD (a.take i))
  | 0 => by simp [aboveGo, valD]
  | i + 1 => by
    have ih := aboveGo_val ha hb i
    rw [aboveGo, ih, valD_take_getD a i, valD_take_getD b i]
    have x1 := valD_nonneg (ha.take i)
    have y1 := valD_nonneg (hb.take i)
    have x2 : valD (a.take i) < bp i := Int.lt_of_lt_of_le (valD_lt (ha.take i)) (bp_mono (by rw [List.length_take]; omega))
    have y2 : valD (b.take i) < bp i := Int.lt_of_lt_of_le (valD_lt (hb.take i)) (bp_mono (by rw [List.length_take]; omega))
    generalize a.getD i 0 = x
    generalize b.getD i 0 = y
    generalize valD (a.take i) = u at *
    generalize valD (b.take i) = v at *
    have hp := bp_pos i
    by_cases h : x = y
    · subst h; rw [if_neg (by simp), decide_eq_decide]; omega
    · rw [if_pos h, decide_eq_decide]
      rcases Int.lt_or_gt_of_ne h with h | h
      · have : bp i * (x + 1) ≤ bp i * y := Int.mul_le_mul_of_nonneg_left (by omega) (by omega)
        rw [Int.mul_add] at this
        omega
      · have : bp i * (y + 1) ≤ bp i * x := Int.mul_le_mul_of_nonneg_left (by omega) (by omega)
        rw [Int.mul_add] at this
        omega
theorem aboveD_val {a b : List Int} (ha : Digs a) (hb : Digs b) (ca : Canon a) (cb : Canon b) : aboveD a b = decide (valD b < valD a) := by
  unfold aboveD
  by_cases h : a.length = b.length
  · rw [if_neg (by simpa using h), aboveGo_val ha hb, List.take_length, h, List.take_length]
  · rw [if_pos h, decide_eq_decide]
    have x1 := valD_nonneg ha
    have y1 := valD_nonneg hb
    have x2 := valD_lt ha
    have y2 := valD_lt hb
    rcases Nat.lt_or_gt_of_ne h with h1 | h1
    · have hb0 : b ≠ [] := fun e => by rw [e] at h1; simp at h1
      have := canon_last hb cb hb0
      have := bp_mono (show a.length ≤ b.length - 1 by omega)
      omega
    · have ha0 : a ≠ [] := fun e => by rw [e] at h1; simp at h1
      have := canon_last ha ca ha0
      have := bp_mono (show b.length ≤ a.length - 1 by omega)
      omega

def jointN (a b : List Int) : Nat := max a.length b.length + 1
def jointD (a b : List Int) (t : Int) : List Int := cutD (jointGo a b t (jointN a b)).1
theorem jointD_val {a b : List Int} {t : Int} (ha : Digs a) (hb : Digs b) (h0 : -1 ≤ t) (h1 : t < 10000) (hp : 0 ≤ valD a + t * valD b) : valD (jointD a b t) = valD a + t * valD b := by
  rw [jointD, cutD_val]
  have e := jointGo_val a b t (jointN a b)
  rw [List.take_of_length_le (by unfold jointN; omega), List.take_of_length_le (by unfold jointN; omega)] at e
  have d0 := valD_nonneg (jointGo_digs a b t (jointN a b))
  have d1 := valD_lt (jointGo_digs a b t (jointN a b))
  rw [jointGo_len] at d1
  have x1 := valD_nonneg ha
  have y1 := valD_nonneg hb
  have x2 : valD a < bp (max a.length b.length) := Int.lt_of_lt_of_le (valD_lt ha) (bp_mono (Nat.le_max_left ..))
  have y2 : valD b < bp (max a.length b.length) := Int.lt_of_lt_of_le (valD_lt hb) (bp_mono (Nat.le_max_right ..))
  have hb' : bp (jointN a b) = 10000 * bp (max a.length b.length) := rfl
  have hlt : valD a + t * valD b < bp (jointN a b) := by
    rcases (show t < 0 ∨ 0 ≤ t by omega) with h | h
    · have : (-t) * valD b ≥ 0 := Int.mul_nonneg (by omega) y1
      rw [Int.neg_mul] at this
      have := bp_pos (max a.length b.length)
      omega
    · have : t * valD b ≤ 9999 * (bp (max a.length b.length) - 1) := Int.mul_le_mul (by omega) (by omega) y1 (by omega)
      have := bp_pos (max a.length b.length)
      omega
  generalize (jointGo a b t (jointN a b)).2 = c at *
  generalize valD (jointGo a b t (jointN a b)).1 = o at *
  generalize valD a + t * valD b = s at *
  have hbp := bp_pos (jointN a b)
  generalize bp (jointN a b) = B at *
  rcases Int.lt_trichotomy c 0 with hc | hc | hc
  · have : B * (c + 1) ≤ B * 0 := Int.mul_le_mul_of_nonneg_left (by omega) (by omega)
    rw [Int.mul_add] at this; omega
  · subst hc; omega
  · have : B * 1 ≤ B * c := Int.mul_le_mul_of_nonneg_left (by omega) (by omega)
    omega
theorem jointD_digs (a b : List Int) (t : Int) : Digs (jointD a b t) := cutD_digs (jointGo_digs _ _ _ _)
theorem jointD_canon (a b : List Int) (t : Int) : Canon (jointD a b t) := cutD_canon _

/-- the digits of a number, the lowest first -/
def digsOf (n : Nat) : List Int := if h : n = 0 then [] else ((n % 10000 : Nat) : Int) :: digsOf (n / 10000)
termination_by n
decreasing_by omega
theorem digsOf_zero : digsOf 0 = [] := by rw [digsOf]; simp
theorem digsOf_pos {n : Nat} (h : n ≠ 0) : digsOf n = ((n % 10000 : Nat) : Int) :: digsOf (n / 10000) := by rw [digsOf]; simp [h]
theorem digsOf_digs (n : Nat) : Digs (digsOf n) := by
  induction n using Nat.strongRecOn with
  | _ n ih =>
    by_cases h : n = 0
    · subst h; rw [digsOf_zero]; exact Digs.nil
    · rw [digsOf_pos h]
      intro x hx
      rcases List.mem_cons.1 hx with rfl | hx
      · omega
      · exact ih (n / 10000) (by omega) x hx
theorem digsOf_val (n : Nat) : valD (digsOf n) = n := by
  induction n using Nat.strongRecOn with
  | _ n ih =>
    by_cases h : n = 0
    · subst h; rw [digsOf_zero]; rfl
    · rw [digsOf_pos h, valD, ih (n / 10000) (by omega)]; omega
theorem canon_cons {d : Int} {l : List Int} (h : Canon l) (h0 : l = [] → d ≠ 0) : Canon (d :: l) := fun m e => by
  cases m with
  | nil =>
    rw [List.nil_append] at e
    injection e with e1 e2
    exact h0 e2 e1
  | cons x m =>
    rw [List.cons_append] at e
    injection e with e1 e2
    exact h m e2
theorem digsOf_nil {n : Nat} (h : digsOf n = []) : n = 0 := by
  by_cases h0 : n = 0
  · exact h0
  · rw [digsOf_pos h0] at h; cases h
theorem digsOf_canon (n : Nat) : Canon (digsOf n) := by
  induction n using Nat.strongRecOn with
  | _ n ih =>
    by_cases h : n = 0
    · subst h; rw [digsOf_zero]; exact Canon.nil
    · rw [digsOf_pos h]
      exact canon_cons (ih _ (by omega)) (fun e => by have := digsOf_nil e; omega)
theorem digsOf_len {n k : Nat} (h : (n : Int) < bp k) : (digsOf n).length ≤ k := by
  rcases Nat.lt_or_ge k (digsOf n).length with hk | hk
  · have hn : digsOf n ≠ [] := fun e => by rw [e] at hk; simp at hk
    have := canon_last (digsOf_digs n) (digsOf_canon n) hn
    rw [digsOf_val] at this
    have := bp_mono (show k ≤ (digsOf n).length - 1 by omega)
    omega
  · exact hk

/-- a number with its sign -/
def sval (m : Bool) (l : List Int) : Int := if m then - valD l else valD l

/-- the digits and the sign of a sum -/
def plusM (m : Bool) (a : List Int) (m' : Bool) (b : List Int) : Bool := if m == m' then m else if aboveD b a then m' else m
def plusD (m : Bool) (a : List Int) (m' : Bool) (b : List Int) : List Int := if m == m' then jointD a b 1 else if aboveD b a then jointD b a (-1) else jointD a b (-1)
theorem plus_val {m m' : Bool} {a b : List Int} (ha : Digs a) (hb : Digs b) (ca : Canon a) (cb : Canon b) : sval (plusM m a m' b) (plusD m a m' b) = sval m a + sval m' b := by
  have x1 := valD_nonneg ha
  have y1 := valD_nonneg hb
  unfold plusM plusD
  by_cases hm : m = m'
  · subst hm
    rw [if_pos (by simp), if_pos (by simp)]
    have := jointD_val (t := 1) ha hb (by omega) (by omega) (by omega)
    unfold sval; rw [this]; cases m <;> simp <;> omega
  · have hb' : (m == m') = false := by cases m <;> cases m' <;> simp_all
    rw [hb', aboveD_val hb ha cb ca]
    simp only [Bool.false_eq_true, if_false]
    by_cases hv : valD a < valD b
    · rw [decide_eq_true hv, if_pos rfl, if_pos rfl]
      have := jointD_val (t := -1) hb ha (by omega) (by omega) (by omega)
      unfold sval; rw [this]; cases m <;> cases m' <;> simp_all <;> omega
    · rw [decide_eq_false hv, if_neg (by simp), if_neg (by simp)]
      have := jointD_val (t := -1) ha hb (by omega) (by omega) (by omega)
      unfold sval; rw [this]; cases m <;> cases m' <;> simp_all <;> omega
theorem plusD_digs (m : Bool) (a : List Int) (m' : Bool) (b : List Int) : Digs (plusD m a m' b) := by
  unfold plusD; split
  · exact jointD_digs _ _ _
  · split <;> exact jointD_digs _ _ _
theorem plusD_canon (m : Bool) (a : List Int) (m' : Bool) (b : List Int) : Canon (plusD m a m' b) := by
  unfold plusD; split
  · exact jointD_canon _ _ _
  · split <;> exact jointD_canon _ _ _

/-- the digits of a product, of the first i digits of b -/
def timesGo (a b : List Int) : Nat → List Int
  | 0 => []
  | i + 1 => jointD (timesGo a b i) (List.replicate i 0 ++ a) (b.getD i 0)
theorem timesGo_digs (a b : List Int) : ∀ i, Digs (timesGo a b i)
  | 0 => Digs.nil
  | _ + 1 => jointD_digs _ _ _
theorem timesGo_canon (a b : List Int) : ∀ i, Canon (timesGo a b i)
  | 0 => Canon.nil
  | _ + 1 => jointD_canon _ _ _
theorem timesGo_val {a b : List Int} (ha : Digs a) (hb : Digs b) : ∀ i, valD (timesGo a b i) = valD a * valD (b.take i)
  | 0 => by simp [timesGo, valD]
  | i + 1 => by
    have ih := timesGo_val ha hb i
    have hd := hb.getD i
    have x1 := valD_nonneg ha
    have y1 := valD_nonneg (timesGo_digs a b i)
    have e : valD (List.replicate i 0 ++ a) = bp i * valD a := by rw [valD_append, valD_zeros, List.length_replicate]; omega
    have hp : 0 ≤ b.getD i 0 * (bp i * valD a) := Int.mul_nonneg hd.1 (Int.mul_nonneg (Int.le_of_lt (bp_pos i)) x1)
    rw [timesGo, jointD_val (timesGo_digs a b i) ((Digs.zeros i).append ha) (by omega) (by omega) (by rw [e]; omega), e, ih, valD_take_getD b i, Int.mul_add]
    congr 1
    rw [Int.mul_comm (b.getD i 0), Int.mul_comm (bp i) (valD a), Int.mul_assoc]

/-- the number that digits are, as 64 bits: the way down -/
theorem valD_drop {l : List Int} {i : Nat} (h : i < l.length) : valD (l.drop i) = l.getD i 0 + 10000 * valD (l.drop (i + 1)) := by
  rw [List.drop_eq_getElem_cons h, valD, List.getD_eq_getElem?_getD, List.getElem?_eq_getElem h]; rfl
theorem valD_drop_le {l : List Int} (hl : Digs l) (i : Nat) : valD (l.drop i) ≤ valD l := by
  have h1 := valD_append (l.take i) (l.drop i)
  rw [List.take_append_drop] at h1
  have h2 := valD_nonneg (hl.take i)
  have h3 := valD_nonneg (hl.drop i)
  have h4 : 1 * valD (l.drop i) ≤ bp (l.take i).length * valD (l.drop i) := Int.mul_le_mul_of_nonneg_right (by have := bp_pos (l.take i).length; omega) h3
  omega

end Go.Proofs.YtlkkpgdgnnknpaaDoor
