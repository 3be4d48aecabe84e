/-
  A law's arguments opened: what is common to all laws of a seat.
-/
import Derived.Test.YtjihboddejaelaaDisk5
import Derived.ProofKit
import Derived.OpenShut
import Derived.ShutString
import Derived.ChangeOld
import Derived.SizedLaws
import Derived.Deep.Slices
import Derived.Lib.SmallJoins
namespace Go.Proofs.Ytjihboddejaelaa
open Go.ChangeShapes Go.WideShapes Go.ChangeAt Go.RowKit
set_option linter.unusedVariables false
set_option linter.unusedSimpArgs false

theorem own2 : ownKnob Try.prog.godebug = none := by kernel_rfl
theorem laidOut2 : laidOutB Try.prog = true := by kernel_rfl
theorem cellsInt2 : Try.prog.cellsOf 3 = 1 := by kernel_rfl
theorem cellsString2 : Try.prog.cellsOf 9 = 1 := by kernel_rfl
theorem cellsInts2 : Try.prog.cellsOf 28 = 1 := by kernel_rfl
theorem cellsTexts2 : Try.prog.cellsOf 29 = 1 := by kernel_rfl
theorem bytesInt2 : Try.prog.bytesOf 3 = 8 := by kernel_rfl

theorem spot_none {W : World} {a : Addr} {u : Value} (c0 : W.cell? (a.add 0) = some u) : a.spot = none ∧ a.block < W.heap.size := by
  have hs : a.spot = none := by
    unfold World.cell? at c0
    cases hsp : a.spot with
    | none => rfl
    | some q =>
      exfalso
      have : (a.add 0).spot = some q := by simp [Addr.add, hsp]
      rw [this] at c0
      split at c0 <;> simp at c0
  refine ⟨hs, ?_⟩
  obtain ⟨b, off, spot⟩ := a
  simp only at hs
  subst hs
  unfold World.cell? at c0
  rcases Nat.lt_or_ge b W.heap.size with h1 | h1
  · exact h1
  · rw [show ((⟨b, off, none⟩ : Addr).add 0).block = b from rfl, Array.getElem?_eq_none h1] at c0
    cases c0

section
variable {H : Type} {enc : TypeId × Value → H} {W : World}
/-- a list of numbers, wherever it stands -/
theorem trod_ints {fuel : Nat} {cs : List Value} {x : DataW H × List MemPlace} (h : DataW.trod enc Try.prog W 0 (fun _ => true) true fuel 28 cs = some x) :
    ∃ (A : Option Addr) (n c : Nat) (l : List Int), cs = [.slice A n c] ∧ IS W A n l ∧ (0 < n → ∀ k, blkOf A = some k → k < W.heap.size) ∧ n ≤ c ∧ ((c = 0 ∧ x.1 = .nil) ∨ ∃ e r, x.1 = .slice e r ∧ e.length + r.length = c) := by
  rcases Go.Deep.open_slice1 Try.underlying28 cellsInt2 h with ⟨hcs, hx⟩ | ⟨a, len, cap, m, k, V, D, Pl, hcs, _, hl, hm, hmm, hx, hi⟩
  · subst hx
    exact ⟨none, 0, 0, [], hcs, ⟨rfl, fun h => absurd h (by omega)⟩, (fun _ k hk => by cases hk), Nat.le_refl _, .inl ⟨rfl, rfl⟩⟩
  · simp only [if_true] at hmm
    subst hmm
    subst hx
    have hv : ∀ i, i < m → ∃ z : Int, V i = .int .i64 z := fun i him => by
      obtain ⟨z, e0, _, _⟩ := DataW.trod_int Try.underlying3 (hi i him).2
      simp at e0; exact ⟨z, e0⟩
    by_cases hm0 : m = 0
    · subst hm0
      have : len = 0 := by omega
      subst this
      exact ⟨some a, 0, 0, [], hcs, ⟨rfl, fun h => absurd h (by omega)⟩, fun h => absurd h (by omega), Nat.le_refl _, .inr ⟨[], [], rfl, rfl⟩⟩
    · have c0 := (hi 0 (by omega)).1
      obtain ⟨hs, hb⟩ := spot_none c0
      obtain ⟨b, off, spot⟩ := a
      simp only at hs hb
      subst hs
      obtain ⟨Z, hZ⟩ : ∃ Z : Nat → Int, ∀ i, i < m → V i = .int .i64 (Z i) := ⟨fun i => if h : i < m then (hv i h).choose else 0, fun i hi => by have := (hv i hi).choose_spec; simp only [dif_pos hi]; exact this⟩
      refine ⟨some ⟨b, off, none⟩, len, m, (List.range len).map Z, hcs, ⟨by simp, fun _ => ⟨b, off, rfl, hb, fun i z hz => ?_⟩⟩, (fun _ k hk => by cases hk; exact hb), hl, .inr ⟨_, _, rfl, by simp; omega⟩⟩
      have hin : i < len := by
        have := (List.getElem?_eq_some_iff.1 hz).1
        simpa using this
      rw [List.getElem?_map, List.getElem?_range hin] at hz
      have h2 := (hi i (by omega)).1
      rw [addr_add, hZ i (by omega)] at h2
      rw [h2]
      simp at hz
      rw [hz]
end
theorem weightsAll_memD {H : Type} {P : Program} {e : TypeId} {d : DataW H} : ∀ {l : List (DataW H)}, d ∈ l → ∀ n ∈ d.weights P e, n ∈ DataW.weightsAll P e l
  | x :: l, hd, n, hn => by
    simp only [DataW.weightsAll, List.mem_append]
    rcases List.mem_cons.1 hd with rfl | h
    · exact Or.inl hn
    · exact Or.inr (weightsAll_memD h n hn)
theorem wf_high {n : Int} (h : (Lit.int .i64 n).wf = true) : n ≤ 9223372036854775807 := by
  have : -9223372036854775808 ≤ n ∧ n ≤ 9223372036854775807 := by
    simpa [Lit.wf, IntKind.min, IntKind.max, IntKind.bits, IntKind.signed] using h
  exact this.2

end Go.Proofs.Ytjihboddejaelaa
