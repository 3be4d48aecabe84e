/-
  Numbers of 64 bits.
-/
import Derived.Test.YtlkkpgdgnnknpaaDoorWords
import Derived.Test.YtlkkpgdgnnknpaaDoorRows
namespace Go.Proofs.YtlkkpgdgnnknpaaDoor
open Go.RowKit

/-- a number of 64 bits -/
def inI (n : Int) : Prop := -9223372036854775808 ≤ n ∧ n ≤ 9223372036854775807
instance (n : Int) : Decidable (inI n) := by unfold inI; infer_instance
theorem inI_wf {n : Int} (h : (Lit.int .i64 n).wf = true) : inI n := by
  simpa [Lit.wf, IntKind.min, IntKind.max, IntKind.signed, IntKind.bits, inI] using h
theorem wrap_in {n : Int} (h : inI n) : wrap64 n = n := by unfold inI at h; unfold wrap64; omega
def fitO (n : Int) : Option Int := if inI n then some n else none
def recK (o : Option Int) : Int := if o.isSome then 2 else 0
def recN (o : Option Int) : Int := o.getD 0
theorem fit_yes {n : Int} (h : inI n) : fitO n = some n := if_pos h
theorem fit_no {n : Int} (h : ¬ inI n) : fitO n = none := if_neg h

end Go.Proofs.YtlkkpgdgnnknpaaDoor
