/-
  Blocks that turn: small laws.
-/
import Derived.Test.YtjihboddejaelaaLog5
namespace Go.Proofs.Ytjihboddejaelaa
open Go.RowKit
open Go.BigFrame
open Go.Maps
set_option linter.unusedVariables false
set_option linter.unusedSimpArgs false

theorem Turn.belowN {w w' : World} {b : List (Option Nat)} (h : Turn [] b w w') : Below w.heap.size w w' := ⟨h.os, h.tape, h.output, h.size, fun k hk => h.block k hk (fun h2 => by cases h2)⟩
theorem Turn.newN {w w' : World} {b : List (Option Nat)} (h : Turn [] b w w') : ∀ k, some k ∈ b → w.heap.size ≤ k := fun k hk => by
  rcases h.new k hk with h2 | h2
  · cases h2
  · exact h2

theorem disj_turn {w w' : World} {x x' y : List (Option Nat)} (hd : Disj x y) (ht : Turn x x' w w') (hy : ∀ k, some k ∈ y → k < w.heap.size) : Disj x' y := fun k hk h2 => by
  rcases ht.new k hk with h3 | h3
  · exact hd k h3 h2
  · have := hy k h2; omega
theorem Turn.widen {w w' : World} {x x' : List (Option Nat)} (y : List (Option Nat)) (h : Turn x x' w w') : Turn (x ++ y) x' w w' := h.wide (fun k hk => List.mem_append_left _ hk) (fun k hk => .inl hk)

end Go.Proofs.Ytjihboddejaelaa
