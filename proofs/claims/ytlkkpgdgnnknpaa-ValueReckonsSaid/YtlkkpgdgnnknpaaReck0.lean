/-
  sum, size, product of package value.
-/
import Derived.Test.YtlkkpgdgnnknpaaOrd1
import Derived.Test.YtlkkpgdgnnknpaaInv
namespace Go.Proofs.Ytlkkpgdgnnknpaa
open Go.RowKit

/-- a number of 64 bits -/
def inI (n : Int) : Prop := -9223372036854775808 ≤ n ∧ n ≤ 9223372036854775807
instance (n : Int) : Decidable (inI n) := by unfold inI; infer_instance
theorem inI_wf {n : Int} (h : (Lit.int .i64 n).wf = true) : inI n := by
  simpa [Lit.wf, IntKind.min, IntKind.max, IntKind.signed, IntKind.bits, inI] using h
def okSum (a b : Int) : Bool := decide (a < wrap64 (a + b)) == decide (0 < b)
def okDiff (a b : Int) : Bool := decide (wrap64 (a - b) < a) == decide (0 < b)

theorem okSum_eq {a b : Int} (ha : inI a) (hb : inI b) : okSum a b = decide (inI (a + b)) := by
  by_cases h : inI (a + b)
  · rw [decide_eq_true h]
    unfold okSum
    rw [beq_iff_eq, decide_eq_decide]
    unfold inI wrap64 at *
    omega
  · rw [decide_eq_false h]
    unfold okSum
    rw [beq_eq_false_iff_ne, Ne, decide_eq_decide]
    unfold inI wrap64 at *
    omega
theorem okDiff_eq {a b : Int} (ha : inI a) (hb : inI b) : okDiff a b = decide (inI (a - b)) := by
  by_cases h : inI (a - b)
  · rw [decide_eq_true h]
    unfold okDiff
    rw [beq_iff_eq, decide_eq_decide]
    unfold inI wrap64 at *
    omega
  · rw [decide_eq_false h]
    unfold okDiff
    rw [beq_eq_false_iff_ne, Ne, decide_eq_decide]
    unfold inI wrap64 at *
    omega
theorem wrap_in {n : Int} (h : inI n) : wrap64 n = n := by unfold inI at h; unfold wrap64; omega

set_option maxHeartbeats 400000 in
theorem value_sum (a b : Int) (w : World) :
    Calls Try.prog 76 #[.int .i64 a, .int .i64 b] w fun e w' => e = .returned (.tuple #[.int .i64 (wrap64 (a + b)), .bool (okSum a b)]) ∧ w = w' := by
  go_enter Try.func76, Try.ntmps76
  go_wp2
  go_ret2
  exact ⟨rfl, rfl⟩

theorem abs_neg {a : Int} (h : inI a) (hn : a < 0) : IntKind.u64.wrap (-IntKind.u64.wrap a) = (a.natAbs : Int) := by
  unfold inI at h
  have e : ∀ n : Int, IntKind.u64.wrap n = n % 18446744073709551616 := fun n => rfl
  rw [e, e]
  omega
theorem abs_pos {a : Int} (h : inI a) (hn : 0 ≤ a) : IntKind.u64.wrap a = (a.natAbs : Int) := by
  unfold inI at h
  have e : ∀ n : Int, IntKind.u64.wrap n = n % 18446744073709551616 := fun n => rfl
  rw [e]
  omega

set_option maxHeartbeats 400000 in
theorem value_size (a : Int) (ha : inI a) (w : World) :
    Calls Try.prog 94 #[.int .i64 a] w fun e w' => e = .returned (.int .u64 (a.natAbs : Int)) ∧ w = w' := by
  by_cases h : a < 0
  · have H := Lib.hid (abs_neg ha h)
    clear ha
    go_enter Try.func94, Try.ntmps94
    go_wp2
    go_ret
    exact ⟨ret_int H.out, rfl⟩
  · have H := Lib.hid (abs_pos ha (by omega))
    clear ha
    go_enter Try.func94, Try.ntmps94
    go_wp2
    go_ret
    exact ⟨ret_int H.out, rfl⟩

/-- the upper and the lower word of a product -/
theorem mul64 (x y hi lo : Nat) (hx : x < 18446744073709551616) (hy : y < 18446744073709551616) (h1 : hi = x * y / 18446744073709551616) (h2 : lo = x * y % 18446744073709551616) (w : World) :
    Calls Try.prog 93 #[.int .u64 x, .int .u64 y] w fun e w' => e = .returned (.tuple #[.int .u64 hi, .int .u64 lo]) ∧ w = w' := by
  subst h1 h2
  exact (Try.bits_Mul64 x y hx hy w).mono fun _ _ ⟨he, hw⟩ => ⟨he, hw.symm⟩

def prodN (a b : Int) : Int := if inI (a * b) then a * b else 0
def mixed (a b : Int) : Prop := (a < 0 ∧ 0 ≤ b) ∨ (0 ≤ a ∧ b < 0)
/-- the ways of a product -/
theorem prod_ways (a b : Int) : ∃ hi lo : Nat, hi = a.natAbs * b.natAbs / 18446744073709551616 ∧ lo = a.natAbs * b.natAbs % 18446744073709551616 ∧
    ((0 < hi ∧ ¬ inI (a * b)) ∨ (hi = 0 ∧ 9223372036854775808 < lo ∧ ¬ inI (a * b)) ∨ (hi = 0 ∧ lo = 9223372036854775808 ∧ ¬ mixed a b ∧ ¬ inI (a * b)) ∨
     (hi = 0 ∧ lo ≤ 9223372036854775808 ∧ mixed a b ∧ inI (a * b) ∧ a * b = - (lo : Int)) ∨
     (hi = 0 ∧ lo < 9223372036854775808 ∧ ¬ mixed a b ∧ inI (a * b) ∧ a * b = (lo : Int))) := by
  refine ⟨_, _, rfl, rfl, ?_⟩
  have hm : mixed a b → a * b = - ((a.natAbs * b.natAbs : Nat) : Int) := by
    rintro (⟨h1, h2⟩ | ⟨h1, h2⟩)
    · rw [← Int.natAbs_mul]
      have := Int.mul_nonpos_of_nonpos_of_nonneg (show a ≤ 0 by omega) h2; omega
    · rw [← Int.natAbs_mul]
      have := Int.mul_nonpos_of_nonneg_of_nonpos h1 (show b ≤ 0 by omega); omega
  have hp : ¬ mixed a b → a * b = ((a.natAbs * b.natAbs : Nat) : Int) := by
    intro h
    rw [← Int.natAbs_mul]
    by_cases h1 : a < 0
    · have h2 : b < 0 := by unfold mixed at h; omega
      have := Int.mul_nonneg_of_nonpos_of_nonpos (show a ≤ 0 by omega) (show b ≤ 0 by omega); omega
    · have h2 : 0 ≤ b := by unfold mixed at h; omega
      have := Int.mul_nonneg (show 0 ≤ a by omega) h2; omega
  generalize a.natAbs * b.natAbs = p at *
  generalize a * b = q at *
  by_cases hx : mixed a b
  · have := hm hx
    simp only [hx, not_true_eq_false, false_and, and_false, true_and, or_false, false_or]
    unfold inI
    omega
  · have := hp hx
    simp only [hx, not_false_eq_true, false_and, and_false, true_and, false_or]
    unfold inI
    omega

theorem prod_ret {a b v : Int} (h : inI (a * b)) (e : v = a * b) : Ending.returned (.tuple #[.int .i64 v, .bool true]) = .returned (.tuple #[.int .i64 (prodN a b), .bool (decide (inI (a * b)))]) := by
  unfold prodN
  rw [if_pos h, decide_eq_true h, e]
theorem toI_neg {lo : Nat} (h : lo ≤ 9223372036854775808) : wrap64 (-wrap64 (lo : Int)) = - (lo : Int) := by unfold wrap64; omega
theorem toI_pos {lo : Nat} (h : lo < 9223372036854775808) : wrap64 (lo : Int) = (lo : Int) := by unfold wrap64; omega

set_option maxHeartbeats 400000 in
theorem value_product (a b : Int) (ha : inI a) (hb : inI b) (w : World) :
    Calls Try.prog 77 #[.int .i64 a, .int .i64 b] w fun e w' => e = .returned (.tuple #[.int .i64 (prodN a b), .bool (decide (inI (a * b)))]) ∧ w = w' := by
  obtain ⟨hi, lo, e1, e2, hw⟩ := prod_ways a b
  have hx : a.natAbs < 18446744073709551616 := by unfold inI at ha; omega
  have hy : b.natAbs < 18446744073709551616 := by unfold inI at hb; omega
  have hm := fun w => mul64 a.natAbs b.natAbs hi lo hx hy e1 e2 w
  have hs := fun w => value_size a ha w
  have hs' := fun w => value_size b hb w
  have HM := Lib.hid hm; have HS := Lib.hid hs; have HS' := Lib.hid hs'
  clear e1 e2 hx hy hm hs hs' ha hb
  generalize a.natAbs = x at *
  generalize b.natAbs = y at *
  have sg : (a < 0 ∧ b < 0 ∧ decide (a < 0) = true ∧ decide (b < 0) = true) ∨ (a < 0 ∧ 0 ≤ b ∧ decide (a < 0) = true ∧ decide (b < 0) = false) ∨ (0 ≤ a ∧ b < 0 ∧ decide (a < 0) = false ∧ decide (b < 0) = true) ∨ (0 ≤ a ∧ 0 ≤ b ∧ decide (a < 0) = false ∧ decide (b < 0) = false) := by
    simp only [decide_eq_true_eq, decide_eq_false_iff_not]
    omega
  rcases hw with ⟨h1, h2⟩ | ⟨rfl, h1, h2⟩ | ⟨rfl, h0, h1, h2⟩ | ⟨rfl, h1, h2, h3, h4⟩ | ⟨rfl, h1, h2, h3, h4⟩
  · have H := Lib.hid h2; clear h2
    rcases sg with ⟨sa, sb, ga, gb⟩ | ⟨sa, sb, ga, gb⟩ | ⟨sa, sb, ga, gb⟩ | ⟨sa, sb, ga, gb⟩
    all_goals
      clear sa sb
      go_enter Try.func77, Try.ntmps77
      go_wp2_with (first | (go_at_call 94; (with_reducible refine (HS.out _).mono ?_); rintro e w1 ⟨rfl, rfl⟩) | (go_at_call 94; (with_reducible refine (HS'.out _).mono ?_); rintro e w1 ⟨rfl, rfl⟩) | (go_at_call 93; (with_reducible refine (HM.out _).mono ?_); rintro e w1 ⟨rfl, rfl⟩))
      go_ret2
      exact ⟨by simp [prodN, H.out], rfl⟩
  · have H := Lib.hid h2; clear h2
    rcases sg with ⟨sa, sb, ga, gb⟩ | ⟨sa, sb, ga, gb⟩ | ⟨sa, sb, ga, gb⟩ | ⟨sa, sb, ga, gb⟩
    all_goals
      clear sa sb
      go_enter Try.func77, Try.ntmps77
      go_wp2_with (first | (go_at_call 94; (with_reducible refine (HS.out _).mono ?_); rintro e w1 ⟨rfl, rfl⟩) | (go_at_call 94; (with_reducible refine (HS'.out _).mono ?_); rintro e w1 ⟨rfl, rfl⟩) | (go_at_call 93; (with_reducible refine (HM.out _).mono ?_); rintro e w1 ⟨rfl, rfl⟩))
      go_ret2
      exact ⟨by simp [prodN, H.out], rfl⟩
  · have H := Lib.hid h2; clear h2
    have l1 : (lo : Int) ≤ 9223372036854775808 := by omega
    have l2 : 9223372036854775808 ≤ (lo : Int) := by omega
    clear h0
    rcases sg with ⟨sa, sb, ga, gb⟩ | ⟨sa, sb, ga, gb⟩ | ⟨sa, sb, ga, gb⟩ | ⟨sa, sb, ga, gb⟩
    any_goals (exfalso; refine h1 ?_; unfold mixed; omega)
    all_goals
      clear h1 sa sb
      go_enter Try.func77, Try.ntmps77
      go_wp2_with (first | (go_at_call 94; (with_reducible refine (HS.out _).mono ?_); rintro e w1 ⟨rfl, rfl⟩) | (go_at_call 94; (with_reducible refine (HS'.out _).mono ?_); rintro e w1 ⟨rfl, rfl⟩) | (go_at_call 93; (with_reducible refine (HM.out _).mono ?_); rintro e w1 ⟨rfl, rfl⟩))
      go_ret2
      exact ⟨by simp [prodN, H.out], rfl⟩
  · have H := Lib.hid h3; have H4 := Lib.hid h4; have T := Lib.hid (toI_neg h1); clear h3 h4
    rcases sg with ⟨sa, sb, ga, gb⟩ | ⟨sa, sb, ga, gb⟩ | ⟨sa, sb, ga, gb⟩ | ⟨sa, sb, ga, gb⟩
    any_goals (exfalso; unfold mixed at h2; omega)
    all_goals
      clear h2 sa sb
      go_enter Try.func77, Try.ntmps77
      go_wp2_with (first | (go_at_call 94; (with_reducible refine (HS.out _).mono ?_); rintro e w1 ⟨rfl, rfl⟩) | (go_at_call 94; (with_reducible refine (HS'.out _).mono ?_); rintro e w1 ⟨rfl, rfl⟩) | (go_at_call 93; (with_reducible refine (HM.out _).mono ?_); rintro e w1 ⟨rfl, rfl⟩))
      all_goals
        go_ret2
        exact ⟨prod_ret H.out (by have h4 := H4.out; first | exact h4.symm | (rw [h4]; first | exact T.out | (unfold wrap64; omega))), rfl⟩
  · have H := Lib.hid h3; have H4 := Lib.hid h4; have T := Lib.hid (toI_pos h1); clear h3 h4
    rcases sg with ⟨sa, sb, ga, gb⟩ | ⟨sa, sb, ga, gb⟩ | ⟨sa, sb, ga, gb⟩ | ⟨sa, sb, ga, gb⟩
    any_goals (exfalso; refine h2 ?_; unfold mixed; omega)
    all_goals
      clear h2 sa sb
      go_enter Try.func77, Try.ntmps77
      go_wp2_with (first | (go_at_call 94; (with_reducible refine (HS.out _).mono ?_); rintro e w1 ⟨rfl, rfl⟩) | (go_at_call 94; (with_reducible refine (HS'.out _).mono ?_); rintro e w1 ⟨rfl, rfl⟩) | (go_at_call 93; (with_reducible refine (HM.out _).mono ?_); rintro e w1 ⟨rfl, rfl⟩))
      all_goals
        go_ret2
        exact ⟨prod_ret H.out (by have h4 := H4.out; first | exact h4.symm | (rw [h4]; first | exact T.out | (unfold wrap64; omega))), rfl⟩

end Go.Proofs.Ytlkkpgdgnnknpaa
