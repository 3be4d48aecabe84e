/-
  Reckon and Neg of package value.
-/
import Derived.Test.YtlkkpgdgnnknpaaReck0
namespace Go.Proofs.Ytlkkpgdgnnknpaa
open Go.RowKit

def fitO (n : Int) : Option Int := if inI n then some n else none
def divO (op n n' : Int) : Option Int := if n' = 0 ∨ (n = -9223372036854775808 ∧ n' = -1) then none else some (if op = 9 then n.tmod n' else n.tdiv n')
def reckO (op n n' : Int) : Option Int :=
  if op = 5 then fitO (n + n') else if op = 6 then fitO (n - n') else if op = 7 then fitO (n * n') else if op = 8 ∨ op = 9 then divO op n n' else none
def recK (o : Option Int) : Int := if o.isSome then 2 else 0
def recN (o : Option Int) : Int := o.getD 0
def reckV (op k n k' n' : Int) : Option Int := if k = 2 ∧ k' = 2 then reckO op n n' else none
theorem fit_yes {n : Int} (h : inI n) : fitO n = some n := if_pos h
theorem fit_no {n : Int} (h : ¬ inI n) : fitO n = none := if_neg h

theorem tdiv_in {n n' : Int} (hn : inI n) (h : ¬ (n = -9223372036854775808 ∧ n' = -1)) : inI (n.tdiv n') := by
  have e : (n.tdiv n').natAbs = n.natAbs / n'.natAbs := Int.natAbs_tdiv n n'
  have h1 : n.natAbs / n'.natAbs ≤ n.natAbs := Nat.div_le_self _ _
  unfold inI at *
  by_cases hm : n = -9223372036854775808
  · have h2 : n' ≠ -1 := fun e => h ⟨hm, e⟩
    by_cases h3 : n' = 1
    · subst h3; rw [Int.tdiv_one]; omega
    · by_cases h6 : n' = 0
      · subst h6; simp
      · have h4 : 2 ≤ n'.natAbs := by omega
        have h5 : n.natAbs / n'.natAbs ≤ n.natAbs / 2 := Nat.div_le_div_left h4 (by omega)
        generalize n.natAbs / n'.natAbs = q at *
        generalize n.tdiv n' = t at *
        omega
  · generalize n.natAbs / n'.natAbs = q at *
    generalize n.tdiv n' = t at *
    omega
theorem tmod_in {n n' : Int} (hn : inI n) : inI (n.tmod n') := by
  have e := Int.natAbs_tmod n n'
  have h1 : n.natAbs % n'.natAbs ≤ n.natAbs := Nat.mod_le _ _
  unfold inI at *
  by_cases hs : 0 ≤ n
  · have := Int.tmod_nonneg n' hs
    generalize n.natAbs % n'.natAbs = q at *
    omega
  · have h2 : n.tmod n' ≤ 0 := by
      have := Int.tmod_nonneg n' (show 0 ≤ -n by omega)
      rw [Int.neg_tmod] at this
      omega
    generalize n.natAbs % n'.natAbs = q at *
    omega

set_option maxRecDepth 100000 in
set_option maxHeartbeats 1600000 in
theorem value_Reckon (op k n : Int) (s : ByteArray) (k' n' : Int) (s' : ByteArray) (hn : inI n) (hn' : inI n') (w : World) :
    Calls Try.prog 37 #[.int .i64 op, .agg #[.int .i64 k, .int .i64 n, .string s], .agg #[.int .i64 k', .int .i64 n', .string s']] w fun e w' => e = .returned (.agg #[.int .i64 (recK (reckV op k n k' n')), .int .i64 (recN (reckV op k n k' n')), .string ⟨#[]⟩]) ∧ Below w.heap.size w w' := by
  by_cases h2 : k = 2
  · subst h2
    by_cases h2' : k' = 2
    · subst h2'
      have he : reckV op 2 n 2 n' = reckO op n n' := rfl
      rw [he]
      clear he
      by_cases o5 : op = 5
      · subst o5
        by_cases hr : inI (n + n')
        · have HE := Lib.hid (show reckO 5 n n' = some (n + n') by rw [← fit_yes hr]; rfl)
          have HS : Hid (∀ w, Calls Try.prog 76 #[.int .i64 n, .int .i64 n'] w fun e w' => e = .returned (.tuple #[.int .i64 (n + n'), .bool true]) ∧ w = w') := fun w => by have := value_sum n n' w; rwa [okSum_eq hn hn', decide_eq_true hr, wrap_in hr] at this
          clear hn hn' hr
          go_enter Try.func37, Try.ntmps37
          go_wp2_with (first | (go_at_call 76; refine (HS.out _).mono ?_; rintro e w1 ⟨rfl, rfl⟩) | (go_at_call 62; refine (value_Of _ _).mono ?_; rintro e w1 ⟨rfl, hb⟩; obtain ⟨hc, hf⟩ := bcell hb; have hz := hb.size; (try simp at hz); have hz0 : w.heap.size < w1.heap.size := (by omega); have hz1 : w.heap.size + 1 < w1.heap.size := (by omega); have hz2 : w.heap.size + 2 < w1.heap.size := (by omega)))
          refine bodyPost_ret (v := .agg #[.int .i64 2, .int .i64 (n + n'), .string ⟨#[]⟩]) (by simp [results, Try.results37, go_sem, *]) rfl ⟨?_, ?_⟩
          · rw [HE.out]; rfl
          · (repeat (first | exact Below.refl _ _ | (refine Below.setCell ?_ (by first | omega | (simp <;> omega)) _) | refine Below.drew ?_ | (refine Below.alloc ?_ (by first | omega | (simp <;> omega)) _) | (refine bel_step ?_ (by assumption) (by first | omega | (simp <;> omega)))))
        · have HE := Lib.hid (show reckO 5 n n' = none by rw [← fit_no hr]; rfl)
          have HS : Hid (∀ w, Calls Try.prog 76 #[.int .i64 n, .int .i64 n'] w fun e w' => e = .returned (.tuple #[.int .i64 (wrap64 (n + n')), .bool false]) ∧ w = w') := fun w => by have := value_sum n n' w; rwa [okSum_eq hn hn', decide_eq_false hr] at this
          clear hn hn' hr
          go_enter Try.func37, Try.ntmps37
          go_wp2_with (first | (go_at_call 76; refine (HS.out _).mono ?_; rintro e w1 ⟨rfl, rfl⟩) | (go_at_call 64; refine (value_None _).mono ?_; rintro e w1 ⟨rfl, hb⟩; obtain ⟨hc, hf⟩ := bcell hb; have hz := hb.size; (try simp at hz); have hz0 : w.heap.size < w1.heap.size := (by omega); have hz1 : w.heap.size + 1 < w1.heap.size := (by omega); have hz2 : w.heap.size + 2 < w1.heap.size := (by omega)))
          refine bodyPost_ret (v := .agg #[.int .i64 0, .int .i64 0, .string ⟨#[]⟩]) (by simp [results, Try.results37, go_sem, *]) rfl ⟨?_, ?_⟩
          · rw [HE.out]; rfl
          · (repeat (first | exact Below.refl _ _ | (refine Below.setCell ?_ (by first | omega | (simp <;> omega)) _) | refine Below.drew ?_ | (refine Below.alloc ?_ (by first | omega | (simp <;> omega)) _) | (refine bel_step ?_ (by assumption) (by first | omega | (simp <;> omega)))))
      have p5 : (op == 5) = false := beq_eq_false_iff_ne.2 o5
      by_cases o6 : op = 6
      · subst o6
        by_cases hr : inI (n - n')
        · have HE := Lib.hid (show reckO 6 n n' = some (n - n') by rw [← fit_yes hr]; rfl)
          have HK : (decide (n - n' < n) == decide (0 < n')) = true := by have := okDiff_eq hn hn'; unfold okDiff at this; rwa [decide_eq_true hr, wrap_in hr] at this
          have hr1 : -9223372036854775808 ≤ n - n' := hr.1
          have hr2 : n - n' ≤ 9223372036854775807 := hr.2
          clear hn hn' hr
          go_enter Try.func37, Try.ntmps37
          go_wp2_with (first | (go_at_call 62; refine (value_Of _ _).mono ?_; rintro e w1 ⟨rfl, hb⟩; obtain ⟨hc, hf⟩ := bcell hb; have hz := hb.size; (try simp at hz); have hz0 : w.heap.size < w1.heap.size := (by omega); have hz1 : w.heap.size + 1 < w1.heap.size := (by omega); have hz2 : w.heap.size + 2 < w1.heap.size := (by omega)))
          refine bodyPost_ret (v := .agg #[.int .i64 2, .int .i64 (n - n'), .string ⟨#[]⟩]) (by simp [results, Try.results37, go_sem, *]) rfl ⟨?_, ?_⟩
          · rw [HE.out]; rfl
          · (repeat (first | exact Below.refl _ _ | (refine Below.setCell ?_ (by first | omega | (simp <;> omega)) _) | refine Below.drew ?_ | (refine Below.alloc ?_ (by first | omega | (simp <;> omega)) _) | (refine bel_step ?_ (by assumption) (by first | omega | (simp <;> omega)))))
        · have HE := Lib.hid (show reckO 6 n n' = none by rw [← fit_no hr]; rfl)
          have HK : (decide (wrap64 (n - n') < n) == decide (0 < n')) = false := by have := okDiff_eq hn hn'; unfold okDiff at this; rwa [decide_eq_false hr] at this
          clear hn hn' hr
          go_enter Try.func37, Try.ntmps37
          go_wp2_with (first | (go_at_call 64; refine (value_None _).mono ?_; rintro e w1 ⟨rfl, hb⟩; obtain ⟨hc, hf⟩ := bcell hb; have hz := hb.size; (try simp at hz); have hz0 : w.heap.size < w1.heap.size := (by omega); have hz1 : w.heap.size + 1 < w1.heap.size := (by omega); have hz2 : w.heap.size + 2 < w1.heap.size := (by omega)))
          refine bodyPost_ret (v := .agg #[.int .i64 0, .int .i64 0, .string ⟨#[]⟩]) (by simp [results, Try.results37, go_sem, *]) rfl ⟨?_, ?_⟩
          · rw [HE.out]; rfl
          · (repeat (first | exact Below.refl _ _ | (refine Below.setCell ?_ (by first | omega | (simp <;> omega)) _) | refine Below.drew ?_ | (refine Below.alloc ?_ (by first | omega | (simp <;> omega)) _) | (refine bel_step ?_ (by assumption) (by first | omega | (simp <;> omega)))))
      have p6 : (op == 6) = false := beq_eq_false_iff_ne.2 o6
      by_cases o7 : op = 7
      · subst o7
        by_cases hr : inI (n * n')
        · have HE := Lib.hid (show reckO 7 n n' = some (n * n') by rw [← fit_yes hr]; rfl)
          have HS : Hid (∀ w, Calls Try.prog 77 #[.int .i64 n, .int .i64 n'] w fun e w' => e = .returned (.tuple #[.int .i64 (n * n'), .bool true]) ∧ w = w') := fun w => by have := value_product n n' hn hn' w; unfold prodN at this; rwa [decide_eq_true hr, if_pos hr] at this
          clear hn hn' hr
          go_enter Try.func37, Try.ntmps37
          go_wp2_with (first | (go_at_call 77; refine (HS.out _).mono ?_; rintro e w1 ⟨rfl, rfl⟩) | (go_at_call 62; refine (value_Of _ _).mono ?_; rintro e w1 ⟨rfl, hb⟩; obtain ⟨hc, hf⟩ := bcell hb; have hz := hb.size; (try simp at hz); have hz0 : w.heap.size < w1.heap.size := (by omega); have hz1 : w.heap.size + 1 < w1.heap.size := (by omega); have hz2 : w.heap.size + 2 < w1.heap.size := (by omega)))
          refine bodyPost_ret (v := .agg #[.int .i64 2, .int .i64 (n * n'), .string ⟨#[]⟩]) (by simp [results, Try.results37, go_sem, *]) rfl ⟨?_, ?_⟩
          · rw [HE.out]; rfl
          · (repeat (first | exact Below.refl _ _ | (refine Below.setCell ?_ (by first | omega | (simp <;> omega)) _) | refine Below.drew ?_ | (refine Below.alloc ?_ (by first | omega | (simp <;> omega)) _) | (refine bel_step ?_ (by assumption) (by first | omega | (simp <;> omega)))))
        · have HE := Lib.hid (show reckO 7 n n' = none by rw [← fit_no hr]; rfl)
          have HS : Hid (∀ w, Calls Try.prog 77 #[.int .i64 n, .int .i64 n'] w fun e w' => e = .returned (.tuple #[.int .i64 0, .bool false]) ∧ w = w') := fun w => by have := value_product n n' hn hn' w; unfold prodN at this; rwa [decide_eq_false hr, if_neg hr] at this
          clear hn hn' hr
          go_enter Try.func37, Try.ntmps37
          go_wp2_with (first | (go_at_call 77; refine (HS.out _).mono ?_; rintro e w1 ⟨rfl, rfl⟩) | (go_at_call 64; refine (value_None _).mono ?_; rintro e w1 ⟨rfl, hb⟩; obtain ⟨hc, hf⟩ := bcell hb; have hz := hb.size; (try simp at hz); have hz0 : w.heap.size < w1.heap.size := (by omega); have hz1 : w.heap.size + 1 < w1.heap.size := (by omega); have hz2 : w.heap.size + 2 < w1.heap.size := (by omega)))
          refine bodyPost_ret (v := .agg #[.int .i64 0, .int .i64 0, .string ⟨#[]⟩]) (by simp [results, Try.results37, go_sem, *]) rfl ⟨?_, ?_⟩
          · rw [HE.out]; rfl
          · (repeat (first | exact Below.refl _ _ | (refine Below.setCell ?_ (by first | omega | (simp <;> omega)) _) | refine Below.drew ?_ | (refine Below.alloc ?_ (by first | omega | (simp <;> omega)) _) | (refine bel_step ?_ (by assumption) (by first | omega | (simp <;> omega)))))
      have p7 : (op == 7) = false := beq_eq_false_iff_ne.2 o7
      by_cases o8 : op = 8
      · subst o8
        by_cases hz : n' = 0
        · subst hz
          have HE := Lib.hid (show reckO 8 n 0 = none from rfl)
          clear hn hn'
          go_enter Try.func37, Try.ntmps37
          go_wp2_with (first | (go_at_call 64; refine (value_None _).mono ?_; rintro e w1 ⟨rfl, hb⟩; obtain ⟨hc, hf⟩ := bcell hb; have hz := hb.size; (try simp at hz); have hz0 : w.heap.size < w1.heap.size := (by omega); have hz1 : w.heap.size + 1 < w1.heap.size := (by omega); have hz2 : w.heap.size + 2 < w1.heap.size := (by omega)))
          refine bodyPost_ret (v := .agg #[.int .i64 0, .int .i64 0, .string ⟨#[]⟩]) (by simp [results, Try.results37, go_sem, *]) rfl ⟨?_, ?_⟩
          · rw [HE.out]; rfl
          · (repeat (first | exact Below.refl _ _ | (refine Below.setCell ?_ (by first | omega | (simp <;> omega)) _) | refine Below.drew ?_ | (refine Below.alloc ?_ (by first | omega | (simp <;> omega)) _) | (refine bel_step ?_ (by assumption) (by first | omega | (simp <;> omega)))))
        · by_cases hm : n = -9223372036854775808 ∧ n' = -1
          · obtain ⟨rfl, rfl⟩ := hm
            have HE := Lib.hid (show reckO 8 (-9223372036854775808) (-1) = none from rfl)
            clear hn hn' hz
            go_enter Try.func37, Try.ntmps37
            go_wp2_with (first | (go_at_call 64; refine (value_None _).mono ?_; rintro e w1 ⟨rfl, hb⟩; obtain ⟨hc, hf⟩ := bcell hb; have hz := hb.size; (try simp at hz); have hz0 : w.heap.size < w1.heap.size := (by omega); have hz1 : w.heap.size + 1 < w1.heap.size := (by omega); have hz2 : w.heap.size + 2 < w1.heap.size := (by omega)))
            refine bodyPost_ret (v := .agg #[.int .i64 0, .int .i64 0, .string ⟨#[]⟩]) (by simp [results, Try.results37, go_sem, *]) rfl ⟨?_, ?_⟩
            · rw [HE.out]; rfl
            · (repeat (first | exact Below.refl _ _ | (refine Below.setCell ?_ (by first | omega | (simp <;> omega)) _) | refine Below.drew ?_ | (refine Below.alloc ?_ (by first | omega | (simp <;> omega)) _) | (refine bel_step ?_ (by assumption) (by first | omega | (simp <;> omega)))))
          · have hd : reckO 8 n n' = some (n.tdiv n') := by show divO 8 n n' = _; unfold divO; rw [if_neg (fun h => h.elim hz hm)]; rfl
            have HE := Lib.hid hd
            have W1 := Lib.hid (wrap_in (tdiv_in hn hm))
            have W2 := Lib.hid (wrap_in (tmod_in (n' := n') hn))
            have gz : (n' != 0) = true := bne_iff_ne.2 hz
            have gz' : (n' == 0) = false := beq_eq_false_iff_ne.2 hz
            by_cases h1 : n' = -1
            · subst h1
              have hl : -9223372036854775807 ≤ n := by have := hn.1; omega
              clear hd hm hn hn' hz gz gz'
              go_enter Try.func37, Try.ntmps37
              go_wp2_with (first | (go_at_call 62; refine (value_Of _ _).mono ?_; rintro e w1 ⟨rfl, hb⟩; obtain ⟨hc, hf⟩ := bcell hb; have hz := hb.size; (try simp at hz); have hz0 : w.heap.size < w1.heap.size := (by omega); have hz1 : w.heap.size + 1 < w1.heap.size := (by omega); have hz2 : w.heap.size + 2 < w1.heap.size := (by omega)))
              refine bodyPost_ret (v := .agg #[.int .i64 2, .int .i64 (wrap64 (n.tdiv (-1))), .string ⟨#[]⟩]) (by simp [results, Try.results37, go_sem, *]) rfl ⟨?_, ?_⟩
              · rw [HE.out, W1.out]; rfl
              · (repeat (first | exact Below.refl _ _ | (refine Below.setCell ?_ (by first | omega | (simp <;> omega)) _) | refine Below.drew ?_ | (refine Below.alloc ?_ (by first | omega | (simp <;> omega)) _) | (refine bel_step ?_ (by assumption) (by first | omega | (simp <;> omega)))))
            · have h1' : (n' == -1) = false := beq_eq_false_iff_ne.2 h1
              clear hd hm hn hn' h1
              go_enter Try.func37, Try.ntmps37
              go_wp2_with (first | (go_at_call 62; refine (value_Of _ _).mono ?_; rintro e w1 ⟨rfl, hb⟩; obtain ⟨hc, hf⟩ := bcell hb; have hz := hb.size; (try simp at hz); have hz0 : w.heap.size < w1.heap.size := (by omega); have hz1 : w.heap.size + 1 < w1.heap.size := (by omega); have hz2 : w.heap.size + 2 < w1.heap.size := (by omega)))
              refine bodyPost_ret (v := .agg #[.int .i64 2, .int .i64 (wrap64 (n.tdiv n')), .string ⟨#[]⟩]) (by simp [results, Try.results37, go_sem, *]) rfl ⟨?_, ?_⟩
              · rw [HE.out, W1.out]; rfl
              · (repeat (first | exact Below.refl _ _ | (refine Below.setCell ?_ (by first | omega | (simp <;> omega)) _) | refine Below.drew ?_ | (refine Below.alloc ?_ (by first | omega | (simp <;> omega)) _) | (refine bel_step ?_ (by assumption) (by first | omega | (simp <;> omega)))))
      have p8 : (op == 8) = false := beq_eq_false_iff_ne.2 o8
      by_cases o9 : op = 9
      · subst o9
        by_cases hz : n' = 0
        · subst hz
          have HE := Lib.hid (show reckO 9 n 0 = none from rfl)
          clear hn hn'
          go_enter Try.func37, Try.ntmps37
          go_wp2_with (first | (go_at_call 64; refine (value_None _).mono ?_; rintro e w1 ⟨rfl, hb⟩; obtain ⟨hc, hf⟩ := bcell hb; have hz := hb.size; (try simp at hz); have hz0 : w.heap.size < w1.heap.size := (by omega); have hz1 : w.heap.size + 1 < w1.heap.size := (by omega); have hz2 : w.heap.size + 2 < w1.heap.size := (by omega)))
          refine bodyPost_ret (v := .agg #[.int .i64 0, .int .i64 0, .string ⟨#[]⟩]) (by simp [results, Try.results37, go_sem, *]) rfl ⟨?_, ?_⟩
          · rw [HE.out]; rfl
          · (repeat (first | exact Below.refl _ _ | (refine Below.setCell ?_ (by first | omega | (simp <;> omega)) _) | refine Below.drew ?_ | (refine Below.alloc ?_ (by first | omega | (simp <;> omega)) _) | (refine bel_step ?_ (by assumption) (by first | omega | (simp <;> omega)))))
        · by_cases hm : n = -9223372036854775808 ∧ n' = -1
          · obtain ⟨rfl, rfl⟩ := hm
            have HE := Lib.hid (show reckO 9 (-9223372036854775808) (-1) = none from rfl)
            clear hn hn' hz
            go_enter Try.func37, Try.ntmps37
            go_wp2_with (first | (go_at_call 64; refine (value_None _).mono ?_; rintro e w1 ⟨rfl, hb⟩; obtain ⟨hc, hf⟩ := bcell hb; have hz := hb.size; (try simp at hz); have hz0 : w.heap.size < w1.heap.size := (by omega); have hz1 : w.heap.size + 1 < w1.heap.size := (by omega); have hz2 : w.heap.size + 2 < w1.heap.size := (by omega)))
            refine bodyPost_ret (v := .agg #[.int .i64 0, .int .i64 0, .string ⟨#[]⟩]) (by simp [results, Try.results37, go_sem, *]) rfl ⟨?_, ?_⟩
            · rw [HE.out]; rfl
            · (repeat (first | exact Below.refl _ _ | (refine Below.setCell ?_ (by first | omega | (simp <;> omega)) _) | refine Below.drew ?_ | (refine Below.alloc ?_ (by first | omega | (simp <;> omega)) _) | (refine bel_step ?_ (by assumption) (by first | omega | (simp <;> omega)))))
          · have hd : reckO 9 n n' = some (n.tmod n') := by show divO 9 n n' = _; unfold divO; rw [if_neg (fun h => h.elim hz hm)]; rfl
            have HE := Lib.hid hd
            have W1 := Lib.hid (wrap_in (tdiv_in hn hm))
            have W2 := Lib.hid (wrap_in (tmod_in (n' := n') hn))
            have gz : (n' != 0) = true := bne_iff_ne.2 hz
            have gz' : (n' == 0) = false := beq_eq_false_iff_ne.2 hz
            by_cases h1 : n' = -1
            · subst h1
              have hl : -9223372036854775807 ≤ n := by have := hn.1; omega
              clear hd hm hn hn' hz gz gz'
              go_enter Try.func37, Try.ntmps37
              go_wp2_with (first | (go_at_call 62; refine (value_Of _ _).mono ?_; rintro e w1 ⟨rfl, hb⟩; obtain ⟨hc, hf⟩ := bcell hb; have hz := hb.size; (try simp at hz); have hz0 : w.heap.size < w1.heap.size := (by omega); have hz1 : w.heap.size + 1 < w1.heap.size := (by omega); have hz2 : w.heap.size + 2 < w1.heap.size := (by omega)))
              refine bodyPost_ret (v := .agg #[.int .i64 2, .int .i64 (n.tmod (-1)), .string ⟨#[]⟩]) (by simp [results, Try.results37, go_sem, *]) rfl ⟨?_, ?_⟩
              · rw [HE.out]; rfl
              · (repeat (first | exact Below.refl _ _ | (refine Below.setCell ?_ (by first | omega | (simp <;> omega)) _) | refine Below.drew ?_ | (refine Below.alloc ?_ (by first | omega | (simp <;> omega)) _) | (refine bel_step ?_ (by assumption) (by first | omega | (simp <;> omega)))))
            · have h1' : (n' == -1) = false := beq_eq_false_iff_ne.2 h1
              clear hd hm hn hn' h1
              go_enter Try.func37, Try.ntmps37
              go_wp2_with (first | (go_at_call 62; refine (value_Of _ _).mono ?_; rintro e w1 ⟨rfl, hb⟩; obtain ⟨hc, hf⟩ := bcell hb; have hz := hb.size; (try simp at hz); have hz0 : w.heap.size < w1.heap.size := (by omega); have hz1 : w.heap.size + 1 < w1.heap.size := (by omega); have hz2 : w.heap.size + 2 < w1.heap.size := (by omega)))
              refine bodyPost_ret (v := .agg #[.int .i64 2, .int .i64 (n.tmod n'), .string ⟨#[]⟩]) (by simp [results, Try.results37, go_sem, *]) rfl ⟨?_, ?_⟩
              · rw [HE.out]; rfl
              · (repeat (first | exact Below.refl _ _ | (refine Below.setCell ?_ (by first | omega | (simp <;> omega)) _) | refine Below.drew ?_ | (refine Below.alloc ?_ (by first | omega | (simp <;> omega)) _) | (refine bel_step ?_ (by assumption) (by first | omega | (simp <;> omega)))))
      have p9 : (op == 9) = false := beq_eq_false_iff_ne.2 o9
      have HE := Lib.hid (show reckO op n n' = none by simp [reckO, o5, o6, o7, o8, o9])
      clear hn hn' o5 o6 o7 o8 o9
      go_enter Try.func37, Try.ntmps37
      go_wp2_with (go_at_call 64; refine (value_None _).mono ?_; rintro e w1 ⟨rfl, hb⟩; obtain ⟨hc, hf⟩ := bcell hb; have hz := hb.size; (try simp at hz); have hz0 : w.heap.size < w1.heap.size := (by omega); have hz1 : w.heap.size + 1 < w1.heap.size := (by omega); have hz2 : w.heap.size + 2 < w1.heap.size := (by omega))
      refine bodyPost_ret (v := .agg #[.int .i64 0, .int .i64 0, .string ⟨#[]⟩]) (by simp [results, Try.results37, go_sem, *]) rfl ⟨?_, ?_⟩
      · rw [HE.out]; rfl
      · (repeat (first | exact Below.refl _ _ | (refine Below.setCell ?_ (by first | omega | (simp <;> omega)) _) | refine Below.drew ?_ | (refine Below.alloc ?_ (by first | omega | (simp <;> omega)) _) | (refine bel_step ?_ (by assumption) (by first | omega | (simp <;> omega)))))
    · have HE := Lib.hid (show reckV op 2 n k' n' = none by unfold reckV; rw [if_neg (fun h => h2' h.2)])
      have g' : (k' != 2) = true := bne_iff_ne.2 h2'
      clear hn hn' h2'
      go_enter Try.func37, Try.ntmps37
      go_wp2_with (go_at_call 64; refine (value_None _).mono ?_; rintro e w1 ⟨rfl, hb⟩; obtain ⟨hc, hf⟩ := bcell hb; have hz := hb.size; (try simp at hz); have hz0 : w.heap.size < w1.heap.size := (by omega); have hz1 : w.heap.size + 1 < w1.heap.size := (by omega); have hz2 : w.heap.size + 2 < w1.heap.size := (by omega))
      refine bodyPost_ret (v := .agg #[.int .i64 0, .int .i64 0, .string ⟨#[]⟩]) (by simp [results, Try.results37, go_sem, *]) rfl ⟨?_, ?_⟩
      · rw [HE.out]; rfl
      · (repeat (first | exact Below.refl _ _ | (refine Below.setCell ?_ (by first | omega | (simp <;> omega)) _) | refine Below.drew ?_ | (refine Below.alloc ?_ (by first | omega | (simp <;> omega)) _) | (refine bel_step ?_ (by assumption) (by first | omega | (simp <;> omega)))))
  · have HE := Lib.hid (show reckV op k n k' n' = none by unfold reckV; rw [if_neg (fun h => h2 h.1)])
    have g : (k != 2) = true := bne_iff_ne.2 h2
    clear hn hn' h2
    go_enter Try.func37, Try.ntmps37
    go_wp2_with (go_at_call 64; refine (value_None _).mono ?_; rintro e w1 ⟨rfl, hb⟩; obtain ⟨hc, hf⟩ := bcell hb; have hz := hb.size; (try simp at hz); have hz0 : w.heap.size < w1.heap.size := (by omega); have hz1 : w.heap.size + 1 < w1.heap.size := (by omega); have hz2 : w.heap.size + 2 < w1.heap.size := (by omega))
    refine bodyPost_ret (v := .agg #[.int .i64 0, .int .i64 0, .string ⟨#[]⟩]) (by simp [results, Try.results37, go_sem, *]) rfl ⟨?_, ?_⟩
    · rw [HE.out]; rfl
    · (repeat (first | exact Below.refl _ _ | (refine Below.setCell ?_ (by first | omega | (simp <;> omega)) _) | refine Below.drew ?_ | (refine Below.alloc ?_ (by first | omega | (simp <;> omega)) _) | (refine bel_step ?_ (by assumption) (by first | omega | (simp <;> omega)))))

end Go.Proofs.Ytlkkpgdgnnknpaa
