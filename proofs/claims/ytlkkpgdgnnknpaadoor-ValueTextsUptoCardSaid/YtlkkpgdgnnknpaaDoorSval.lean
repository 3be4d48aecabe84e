/-
  What a long number is: products and signs.
-/
import Derived.Test.YtlkkpgdgnnknpaaDoorLong
namespace Go.Proofs.YtlkkpgdgnnknpaaDoor
open Go.RowKit

theorem sval_of (n : Int) : sval (decide (n < 0)) (digsOf n.natAbs) = n := by
  unfold sval; rw [digsOf_val]
  by_cases h : n < 0
  · rw [decide_eq_true h, if_pos rfl]; omega
  · rw [decide_eq_false h, if_neg (by simp)]; omega
theorem sval_not (m : Bool) (l : List Int) : sval (!m) l = - sval m l := by cases m <;> simp [sval]
theorem sval_times {m m' : Bool} {a b : List Int} (ha : Digs a) (hb : Digs b) : sval (!(m == m')) (timesGo a b b.length) = sval m a * sval m' b := by
  have := timesGo_val ha hb b.length
  rw [List.take_length] at this
  cases m <;> cases m' <;> simp [sval, this, Int.neg_mul, Int.mul_neg]


end Go.Proofs.YtlkkpgdgnnknpaaDoor
