/-
  The bulk of values, and how long their keys are; the variable of bytealg; what a row's own reach says.
-/
import Derived.Test.YtlkkpgdgnnknpaaDoorOpen
import Derived.Test.YtlkkpgdgnnknpaaDoorKey1
import Derived.Test.YtlkkpgdgnnknpaaDoorSort0
namespace Go.Proofs.YtlkkpgdgnnknpaaDoor
open Go.ChangeShapes Go.WideShapes Go.ChangeAt Go.RowKit

theorem bulk_val {H : Type} (v : Val) : (keyV v).length ≤ 9 * Rows.uptoBulk (.agg [.lit (.int .i64 v.k), .lit (.int .i64 v.n), .lit (.string v.s.data.toList)] : DataW H) := by
  have h1 := (keyC_len (cleanV v)).2
  have h2 : (cleanV v).s.size ≤ v.s.size := by show (cleanS v.k v.s).size ≤ _; unfold cleanS; split <;> first | exact Nat.le_refl _ | exact Nat.zero_le _
  have h3 : Rows.uptoBulk (.agg [.lit (.int .i64 v.k), .lit (.int .i64 v.n), .lit (.string v.s.data.toList)] : DataW H) = v.s.size + 4 := by
    simp only [Rows.uptoBulk, Rows.uptoBulkAll]
    rw [Array.length_toList]
    show 1 + (1 + (v.s.data.size + 1 + 0)) + 1 = v.s.data.size + 4
    omega
  show (keyC (cleanV v)).length ≤ _
  rw [h3]
  omega
theorem bulk_vals {H : Type} : ∀ vs : List Val, (keyL vs).length ≤ 9 * Rows.uptoBulkAll (vs.map fun v => (.agg [.lit (.int .i64 v.k), .lit (.int .i64 v.n), .lit (.string v.s.data.toList)] : DataW H)) ∧ vs.length ≤ Rows.uptoBulkAll (vs.map fun v => (.agg [.lit (.int .i64 v.k), .lit (.int .i64 v.n), .lit (.string v.s.data.toList)] : DataW H))
  | [] => ⟨by simp [keyL], by simp⟩
  | v :: r => by
    have h1 := bulk_val (H := H) v
    have h2 := bulk_vals (H := H) r
    have h3 : 1 ≤ Rows.uptoBulk (.agg [.lit (.int .i64 v.k), .lit (.int .i64 v.n), .lit (.string v.s.data.toList)] : DataW H) := by simp only [Rows.uptoBulk]; omega
    have h4 : (keyL (v :: r)).length = (keyV v).length + (keyL r).length := by simp [keyL]
    rw [List.map_cons, Rows.uptoBulkAll, h4, List.length_cons]
    generalize Rows.uptoBulk (.agg [.lit (.int .i64 v.k), .lit (.int .i64 v.n), .lit (.string v.s.data.toList)] : DataW H) = x at *
    generalize Rows.uptoBulkAll (r.map fun v => (.agg [.lit (.int .i64 v.k), .lit (.int .i64 v.n), .lit (.string v.s.data.toList)] : DataW H)) = y at *
    omega

theorem max_of {W : World} (h : W.ShapedOpen Tryd.prog) : HasMax W := by
  obtain ⟨m, hm0⟩ := Tryd.laysM155.s1_3 W h
  have hm : W.cell? ⟨0, 0, none⟩ = some (.int .i64 m) := hm0
  refine ⟨m, hm, ?_⟩
  rcases Nat.lt_or_ge 0 W.heap.size with h1 | h1
  · exact h1
  · unfold World.cell? at hm
    rw [Array.getElem?_eq_none h1] at hm
    cases hm

theorem Val.Ok.num {v : Val} (h : v.Ok) : OkN v := by
  have := h.n
  simp only [Lit.wf, Bool.and_eq_true, decide_eq_true_eq] at this
  exact this
theorem keys_small {H : Type} {W : World} {A : Option Addr} {n c : Nat} {d : DataW H} {vs : List Val} (s : VS W A n vs) (l : n ≤ c)
    (e : (c = 0 ∧ d = .nil) ∨ ∃ elems rest, d = .slice elems rest ∧ elems.length + rest.length = c ∧ elems = vs.map fun v => .agg [.lit (.int .i64 v.k), .lit (.int .i64 v.n), .lit (.string v.s.data.toList)])
    (hB : Rows.uptoBulk d ≤ 1048576) : n ≤ 20000000 ∧ (keyL vs).length ≤ 50000000 := by
  rcases e with ⟨rfl, rfl⟩ | ⟨el, rest, rfl, _, hel⟩
  · have hl := s.1; have hz : n = 0 := by omega
    rw [hz] at hl ⊢; have : vs = [] := List.eq_nil_of_length_eq_zero (by omega)
    subst this; exact ⟨by omega, by simp [keyL]⟩
  · have hl := s.1; have hb := bulk_vals (H := H) vs
    rw [hel] at hB; simp only [Rows.uptoBulk] at hB
    constructor <;> omega

end Go.Proofs.YtlkkpgdgnnknpaaDoor
