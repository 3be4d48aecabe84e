/-
  A long number by value.
-/
import Derived.Test.YtlkkpgdgnnknpaaDoorLong6
namespace Go.Proofs.YtlkkpgdgnnknpaaDoor
open Go.RowKit
open Go.BigFrame
set_option linter.unusedVariables false

/-- a long number by value in memory from block B on -/
def LV (B : Nat) (w : World) (m : Bool) (l : List Int) (u : Value) : Prop := ∃ A n c, u = .agg #[.bool m, .slice A n c] ∧ n ≤ c ∧ c ≤ 9223372036854775807 ∧ IS w A n l ∧ Fresh B A
theorem LV.keep {B : Nat} {w w' : World} {m : Bool} {l : List Int} {u : Value} (h : LV B w m l u) (hb : Below w.heap.size w w') : LV B w' m l u := by
  obtain ⟨A, n, c, e, h1, h2, h3, h4⟩ := h
  exact ⟨A, n, c, e, h1, h2, h3.keep hb, h4⟩
theorem long_LV {w w' : World} {m : Bool} {l : List Int} {e : Ending} (h : LongPost w m l e w') : ∃ u, e = .returned u ∧ Below w.heap.size w w' ∧ LV w.heap.size w' m l u := by
  obtain ⟨A, n, c, rfl, h1, h2, h3, h4, h5⟩ := h
  exact ⟨_, rfl, h5, A, n, c, rfl, h1, h2, h3, h4⟩
theorem LV.low {B B' : Nat} {w : World} {m : Bool} {l : List Int} {u : Value} (h : LV B w m l u) (hB : B' ≤ B) : LV B' w m l u := by
  obtain ⟨A, n, c, e, h1, h2, h3, h4⟩ := h
  exact ⟨A, n, c, e, h1, h2, h3, fun a ha => Nat.le_trans hB (h4 a ha)⟩

end Go.Proofs.YtlkkpgdgnnknpaaDoor
