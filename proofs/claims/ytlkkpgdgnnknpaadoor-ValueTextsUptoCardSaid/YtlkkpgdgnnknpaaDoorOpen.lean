/-
  A law's arguments opened: a Value by value, a slice of Values; what the row's own reach says of them.
-/
import Derived.Test.YtlkkpgdgnnknpaaDoorSame0
import Derived.ProofKit
import Derived.OpenShut
import Derived.ShutString
import Derived.ChangeOld
import Derived.SizedLaws
import Derived.Deep.Slices
import Derived.Lib.SmallJoins
namespace Go.Proofs.YtlkkpgdgnnknpaaDoor
open Go.ChangeShapes Go.WideShapes Go.ChangeAt Go.RowKit

theorem own : ownKnob Tryd.prog.godebug = none := by kernel_rfl
theorem laidOut : laidOutB Tryd.prog = true := by kernel_rfl
theorem cellsValue : Tryd.prog.cellsOf 38 = 3 := by kernel_rfl
theorem cellsInt : Tryd.prog.cellsOf 3 = 1 := by kernel_rfl
theorem cellsInt64 : Tryd.prog.cellsOf 2 = 1 := by kernel_rfl
theorem cellsString : Tryd.prog.cellsOf 9 = 1 := by kernel_rfl
theorem bytesValue : Tryd.prog.bytesOf 38 = 32 := by kernel_rfl

/-- what reading a Value tells of it -/
structure Val.Ok (v : Val) : Prop where
  k : (Lit.int .i64 v.k).wf = true
  n : (Lit.int .i64 v.n).wf = true
  s : v.s.size ≤ maxLen

section
variable {H : Type} {enc : TypeId × Value → H} {W : World} {base : Nat} {spare : Nat → Bool} {held : Bool}
set_option maxRecDepth 100000 in
theorem trod_val {fuel : Nat} {cs : List Value} {x : DataW H × List MemPlace} (h : DataW.trod enc Tryd.prog W base spare held fuel 38 cs = some x) :
    ∃ v : Val, cs = v.cells ∧ v.Ok ∧ x.1 = .agg [.lit (.int .i64 v.k), .lit (.int .i64 v.n), .lit (.string v.s.data.toList)] := by
  obtain ⟨xs, n, _, hx, hl, hlen, hf⟩ := DataW.trod_struct Tryd.underlying38 h
  rw [cellsValue] at hl
  match cs, hl, xs, hlen with
  | [c0, c1, c2], _, [y0, y1, y2], _ =>
    have g0 : DataW.trod enc Tryd.prog W base spare held n 3 (([c0, c1, c2].drop 0).take (Tryd.prog.cellsOf 3)) = some y0 := hf 0 _ rfl
    have g1 : DataW.trod enc Tryd.prog W base spare held n 2 (([c0, c1, c2].drop 1).take (Tryd.prog.cellsOf 2)) = some y1 := hf 1 _ rfl
    have g2 : DataW.trod enc Tryd.prog W base spare held n 9 (([c0, c1, c2].drop 2).take (Tryd.prog.cellsOf 9)) = some y2 := hf 2 _ rfl
    simp only [cellsInt, cellsInt64, cellsString, List.drop_zero, List.drop_succ_cons, List.take_succ_cons, List.take_zero] at g0 g1 g2
    obtain ⟨a, e0, h0, w0⟩ := DataW.trod_int Tryd.underlying3 g0
    obtain ⟨b, e1, h1, w1⟩ := DataW.trod_int Tryd.underlying2 g1
    obtain ⟨s, e2, h2, w2⟩ := DataW.trod_string Tryd.underlying9 g2
    simp at e0 e1 e2
    subst e0 e1 e2 h0 h1 h2 hx
    exact ⟨⟨a, b, s⟩, rfl, ⟨w0, w1, w2⟩, rfl⟩
set_option maxRecDepth 100000 in
theorem open_value {r : Reach} {b0 : Nat} {v : Value} {d : DataW H} {p : List MemPlace} (hv : Value.okWide Tryd.prog W r b0 38 v) (h : DataW.Trod enc Tryd.prog W base spare held 38 v d p) :
    ∃ a : Val, v = .agg #[.int .i64 a.k, .int .i64 a.n, .string a.s] ∧ a.Ok ∧ d = .agg [.lit (.int .i64 a.k), .lit (.int .i64 a.n), .lit (.string a.s.data.toList)] := by
  obtain ⟨cs, rfl, hsz⟩ := okWide_struct Tryd.underlying38 hv
  obtain ⟨fuel, hf⟩ := h
  obtain ⟨a, hc, hok, hd⟩ := trod_val hf
  have e : cs.toList = a.cells := by simpa [Value.cells] using hc
  refine ⟨a, ?_, hok, hd⟩
  have : cs = a.cells.toArray := by rw [← e]
  rw [this]; rfl
end

section
variable {H : Type} {enc : TypeId × Value → H} {W : World}
theorem open_vals {A : Option Addr} {n c : Nat} {d : DataW H} {p : List MemPlace} (h : DataW.Trod enc Tryd.prog W 0 (fun _ => true) true 22 (.slice A n c) d p) :
    ∃ vs : List Val, VS W A n vs ∧ (∀ v ∈ vs, v.Ok) ∧ n ≤ c ∧ ((c = 0 ∧ d = .nil) ∨ ∃ elems rest, d = .slice elems rest ∧ elems.length + rest.length = c ∧ elems = vs.map fun v => .agg [.lit (.int .i64 v.k), .lit (.int .i64 v.n), .lit (.string v.s.data.toList)]) := by
  have lt : ∀ x ∈ p, x.block < W.heap.size := by obtain ⟨m, hm⟩ := h; exact DataW.trod_lt m _ _ _ hm
  obtain ⟨fuel, hf⟩ := h
  rcases Go.Deep.open_slice Tryd.underlying22 hf with ⟨hcs, hx⟩ | ⟨a, len, cap, m, k, D, Pl, hcs, _, hl, hm, hmm, hx, hi⟩
  · simp [Value.cells] at hcs
    obtain ⟨rfl, rfl, rfl⟩ := hcs
    simp only [Prod.mk.injEq] at hx
    exact ⟨[], ⟨rfl, fun h => absurd h (by omega)⟩, by simp, Nat.le_refl _, .inl ⟨rfl, hx.1⟩⟩
  · simp [Value.cells] at hcs
    obtain ⟨rfl, rfl, rfl⟩ := hcs
    simp only [if_true] at hmm
    subst hmm
    rw [cellsValue] at hi hx
    simp only [Prod.mk.injEq] at hx
    have hv : ∀ i, i < m → ∃ v : Val, v.Ok ∧ D i = .agg [.lit (.int .i64 v.k), .lit (.int .i64 v.n), .lit (.string v.s.data.toList)] ∧ ∀ j u, v.cells[j]? = some u → W.cell? (a.add (i * 3 + j)) = some u := fun i him => by
      obtain ⟨cs', h1, h2⟩ := hi i him
      obtain ⟨v, rfl, hok, hd⟩ := trod_val h2
      obtain ⟨_, hlen, hcell⟩ := World.cells?_some h1
      refine ⟨v, hok, hd, fun j u hu => ?_⟩
      have hj : j < 3 := by
        have := (List.getElem?_eq_some_iff.1 hu).1
        simpa [Val.cells] using this
      rw [← Go.Deep.add_add, hcell j hj, hu]
    obtain ⟨V, hV⟩ : ∃ V : Nat → Val, ∀ i, i < m → (V i).Ok ∧ D i = .agg [.lit (.int .i64 (V i).k), .lit (.int .i64 (V i).n), .lit (.string (V i).s.data.toList)] ∧ ∀ j u, (V i).cells[j]? = some u → W.cell? (a.add (i * 3 + j)) = some u :=
      ⟨fun i => if h : i < m then (hv i h).choose else ⟨0, 0, ⟨#[]⟩⟩, fun i hi => by have := (hv i hi).choose_spec; simp only [dif_pos hi]; exact this⟩
    refine ⟨(List.range n).map V, ⟨by simp, fun hn => ?_⟩, ?_, hl, .inr ⟨_, _, hx.1, by simp; omega, ?_⟩⟩
    · have c0 := (hV 0 (by omega)).2.2 0 _ rfl
      have hs : a.spot = none := by
        unfold World.cell? at c0
        cases hsp : a.spot with
        | none => rfl
        | some q =>
          exfalso
          have : (a.add (0 * 3 + 0)).spot = some q := by simp [Addr.add, hsp]
          rw [this] at c0
          split at c0 <;> simp at c0
      obtain ⟨b, off, spot⟩ := a
      simp only at hs
      subst hs
      have hblk : b < W.heap.size := by
        unfold World.cell? at c0
        rcases Nat.lt_or_ge b W.heap.size with h1 | h1
        · exact h1
        · rw [show ((⟨b, off, none⟩ : Addr).add (0 * 3 + 0)).block = b from rfl, Array.getElem?_eq_none h1] at c0
          cases c0
      refine ⟨b, off, rfl, hblk, fun i v hi => ?_⟩
      have hin : i < n := by
        have := (List.getElem?_eq_some_iff.1 hi).1
        simpa using this
      have hvi : V i = v := by
        rw [List.getElem?_map, List.getElem?_range hin] at hi
        simpa using hi
      have g := (hV i (by omega)).2.2
      rw [hvi] at g
      have hadd : ∀ j, (⟨b, off, none⟩ : Addr).add j = ⟨b, off + j, none⟩ := fun j => by unfold Addr.add; split <;> simp_all
      refine ⟨?_, ?_, ?_⟩
      · have := g 0 _ rfl; rw [hadd] at this; simpa [Nat.add_assoc] using this
      · have := g 1 _ rfl; rw [hadd] at this; simpa [Nat.add_assoc] using this
      · have := g 2 _ rfl; rw [hadd] at this; simpa [Nat.add_assoc] using this
    · intro v hv
      obtain ⟨i, hi, rfl⟩ := List.mem_map.1 hv
      exact (hV i (by have := List.mem_range.1 hi; omega)).1
    · rw [List.map_map]
      exact List.map_congr_left fun i hi => (hV i (by have := List.mem_range.1 hi; omega)).2.1
end

/-- room for two values more, out of the row's own reach -/
theorem room2 {H : Type} {n c : Nat} {d : DataW H} (h0 : n ≤ c) (hd : (c = 0 ∧ d = .nil) ∨ ∃ elems rest, d = .slice elems rest ∧ elems.length + rest.length = c ∧ True)
    (hz : ∀ elems rest, d = .slice elems rest → (elems.length + rest.length) * 32 ≤ reachBytes) : (n + 2) * 32 ≤ 140737488355328 := by
  have hr : reachBytes = 140737488351232 := rfl
  rcases hd with ⟨hc, _⟩ | ⟨elems, rest, hd, hl, _⟩
  · subst hc
    have : n = 0 := by omega
    subst this
    decide
  · have := hz elems rest hd
    rw [hl, hr] at this
    have h2 : n * 32 ≤ c * 32 := Nat.mul_le_mul_right _ h0
    rw [Nat.add_mul]
    generalize n * 32 = x at *
    generalize c * 32 = y at *
    omega

end Go.Proofs.YtlkkpgdgnnknpaaDoor
