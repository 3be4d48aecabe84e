/-
  A store into a map from int to int; Append of package wal.
-/
import Derived.Test.YtjihboddejaelaaLog8
namespace Go.Proofs.Ytjihboddejaelaa
open Go.RowKit
open Go.BigFrame
open Go.Maps
set_option linter.unusedVariables false
set_option linter.unusedSimpArgs false

theorem wfI {x : Int} (h1 : -9223372036854775808 ≤ x) (h2 : x ≤ 9223372036854775807) : (Lit.int .i64 x).wf = true := WalkArith.wf_i64 ⟨by omega, by omega⟩
theorem MP.put {w : World} {b n : Nat} {f : Int → Nat} (h : MP w b n f) (hn : n ≤ 1000000) (k : Int) (c : Nat) (hk : (Lit.int .i64 k).wf = true) (hc : c ≤ 4611686018427387904) :
    ∃ w', (Instr.mapUpdate 102 (.map (some b)) (.int .i64 k) (.int .i64 c)).run Try.prog w = .ok () w' ∧ MP w' b (n + 1) (fun y => if y = k then c else f y) ∧ w.grownBy w' (some b) := by
  obtain ⟨D, h1, h2⟩ := h
  obtain ⟨w', hr, h3, h4⟩ := h1.update lawInt Try.underlying102 (by unfold maxLen; omega) (keyOf_int_mk Try.underlying3 hk) (plainElem_int Try.underlying3 (wfI (x := (c : Int)) (by omega) (by omega)))
  refine ⟨w', hr, ⟨_, h3, fun x => ?_⟩, h4⟩
  by_cases hx : x = k
  · subst hx
    show _ = DataW.lit (Lit.int .i64 ((if x = x then c else f x : Nat) : Int))
    rw [if_pos rfl]
    exact atKey_put_same (k := .int .i64 x) h1.isMap trivial _ _
  · show _ = DataW.lit (Lit.int .i64 ((if x = k then c else f x : Nat) : Int))
    rw [if_neg hx, atKey_put_other (by intro e; cases e; exact hx rfl)]
    exact h2 x
theorem step_mapPut {ops : Array Oper} {o : Oper} {a : Act} {w : World} {K : Act → World → Prop} {Q : Exit → Act → World → Prop} {E : Prop} (hgd : o.guard = none) (m x v : Operand) (hop : o.op = .mapUpdate 102 m x v)
    (b n : Nat) (f : Int → Nat) (hm : a.eval m = .map (some b)) (hown : MP w b n f) (hn : n ≤ 1000000) (k : Int) (c : Nat) (hk : (Lit.int .i64 k).wf = true) (hc : c ≤ 4611686018427387904) (hx : a.eval x = .int .i64 k) (hv : a.eval v = .int .i64 c)
    (h : ∀ w', MP w' b (n + 1) (fun y => if y = k then c else f y) → w.grownBy w' (some b) → K (a.put o.dst undef) w') :
    if Region.wanted o (yielded ops a.tmps) = true then Oper.wp Try.prog o a w K Q else E := by
  have hw : Region.wanted o (yielded ops a.tmps) = true := by simp [Region.wanted, hgd]
  rw [if_pos hw]
  obtain ⟨w', hr, h1, h2⟩ := hown.put hn k c hk hc
  unfold Oper.wp
  simp [execOp, hop, hm, hx, hv, hr, Result.andThen]
  exact h w' h1 h2

end Go.Proofs.Ytjihboddejaelaa
