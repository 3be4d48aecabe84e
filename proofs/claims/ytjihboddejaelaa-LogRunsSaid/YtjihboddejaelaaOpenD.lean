/-
  A law's arguments opened: a list of steps; what the row's own reach says of them.
-/
import Derived.Test.YtjihboddejaelaaDiskL3
import Derived.ProofKit
import Derived.OpenShut
import Derived.ShutString
import Derived.ChangeOld
import Derived.SizedLaws
import Derived.Deep.Slices
import Derived.Lib.SmallJoins
namespace Go.Proofs.Ytjihboddejaelaa
open Go.ChangeShapes Go.WideShapes Go.ChangeAt Go.RowKit
set_option linter.unusedVariables false
set_option linter.unusedSimpArgs false

theorem own2 : ownKnob Try.prog.godebug = none := by kernel_rfl
theorem laidOut2 : laidOutB Try.prog = true := by kernel_rfl
theorem cellsAct : Try.prog.cellsOf 31 = 8 := by kernel_rfl
theorem cellsInt2 : Try.prog.cellsOf 3 = 1 := by kernel_rfl
theorem cellsString2 : Try.prog.cellsOf 9 = 1 := by kernel_rfl
theorem cellsInts2 : Try.prog.cellsOf 28 = 1 := by kernel_rfl
theorem cellsTexts2 : Try.prog.cellsOf 29 = 1 := by kernel_rfl
theorem bytesInt2 : Try.prog.bytesOf 3 = 8 := by kernel_rfl

theorem spot_none {W : World} {a : Addr} {u : Value} (c0 : W.cell? (a.add 0) = some u) : a.spot = none ∧ a.block < W.heap.size := by
  have hs : a.spot = none := by
    unfold World.cell? at c0
    cases hsp : a.spot with
    | none => rfl
    | some q =>
      exfalso
      have : (a.add 0).spot = some q := by simp [Addr.add, hsp]
      rw [this] at c0
      split at c0 <;> simp at c0
  refine ⟨hs, ?_⟩
  obtain ⟨b, off, spot⟩ := a
  simp only at hs
  subst hs
  unfold World.cell? at c0
  rcases Nat.lt_or_ge b W.heap.size with h1 | h1
  · exact h1
  · rw [show ((⟨b, off, none⟩ : Addr).add 0).block = b from rfl, Array.getElem?_eq_none h1] at c0
    cases c0

section
variable {H : Type} {enc : TypeId × Value → H} {W : World}
/-- a list of numbers, wherever it stands -/
theorem trod_ints {fuel : Nat} {cs : List Value} {x : DataW H × List MemPlace} (h : DataW.trod enc Try.prog W 0 (fun _ => true) true fuel 28 cs = some x) :
    ∃ (A : Option Addr) (n c : Nat) (l : List Int), cs = [.slice A n c] ∧ IS W A n l ∧ (0 < n → ∀ k, blkOf A = some k → k < W.heap.size) ∧ n ≤ c ∧ ((c = 0 ∧ x.1 = .nil) ∨ ∃ e r, x.1 = .slice e r ∧ e.length + r.length = c) := by
  rcases Go.Deep.open_slice1 Try.underlying28 cellsInt2 h with ⟨hcs, hx⟩ | ⟨a, len, cap, m, k, V, D, Pl, hcs, _, hl, hm, hmm, hx, hi⟩
  · subst hx
    exact ⟨none, 0, 0, [], hcs, ⟨rfl, fun h => absurd h (by omega)⟩, (fun _ k hk => by cases hk), Nat.le_refl _, .inl ⟨rfl, rfl⟩⟩
  · simp only [if_true] at hmm
    subst hmm
    subst hx
    have hv : ∀ i, i < m → ∃ z : Int, V i = .int .i64 z := fun i him => by
      obtain ⟨z, e0, _, _⟩ := DataW.trod_int Try.underlying3 (hi i him).2
      simp at e0; exact ⟨z, e0⟩
    by_cases hm0 : m = 0
    · subst hm0
      have : len = 0 := by omega
      subst this
      exact ⟨some a, 0, 0, [], hcs, ⟨rfl, fun h => absurd h (by omega)⟩, fun h => absurd h (by omega), Nat.le_refl _, .inr ⟨[], [], rfl, rfl⟩⟩
    · have c0 := (hi 0 (by omega)).1
      obtain ⟨hs, hb⟩ := spot_none c0
      obtain ⟨b, off, spot⟩ := a
      simp only at hs hb
      subst hs
      obtain ⟨Z, hZ⟩ : ∃ Z : Nat → Int, ∀ i, i < m → V i = .int .i64 (Z i) := ⟨fun i => if h : i < m then (hv i h).choose else 0, fun i hi => by have := (hv i hi).choose_spec; simp only [dif_pos hi]; exact this⟩
      refine ⟨some ⟨b, off, none⟩, len, m, (List.range len).map Z, hcs, ⟨by simp, fun _ => ⟨b, off, rfl, hb, fun i z hz => ?_⟩⟩, (fun _ k hk => by cases hk; exact hb), hl, .inr ⟨_, _, rfl, by simp; omega⟩⟩
      have hin : i < len := by
        have := (List.getElem?_eq_some_iff.1 hz).1
        simpa using this
      rw [List.getElem?_map, List.getElem?_range hin] at hz
      have h2 := (hi i (by omega)).1
      rw [addr_add, hZ i (by omega)] at h2
      rw [h2]
      simp at hz
      rw [hz]
/-- a step, and what it reads as -/
structure ActR (W : World) (a : ActV) (y : DataW H) : Prop where
  keep : IS W a.kA a.kn a.ks
  lt : 0 < a.kn → ∀ k, blkOf a.kA = some k → k < W.heap.size
  cap : a.kn ≤ a.kc
  s : a.s.size ≤ maxLen
  n : (Lit.int .i64 a.n).wf = true
  data : ∃ x0 x1 x2 x3 x4 x5 kd cd, y = .agg [x0, x1, x2, x3, x4, x5, kd, cd] ∧ ((a.kc = 0 ∧ kd = .nil) ∨ ∃ e r, kd = .slice e r ∧ e.length + r.length = a.kc)
set_option maxRecDepth 100000 in
theorem trod_act {fuel : Nat} {cs : List Value} {x : DataW H × List MemPlace} (h : DataW.trod enc Try.prog W 0 (fun _ => true) true fuel 31 cs = some x) : ∃ a : ActV, cs = a.arr.toList ∧ ActR W a x.1 := by
  obtain ⟨xs, n, _, hx, hl, hlen, hf⟩ := DataW.trod_struct Try.underlying31 h
  rw [cellsAct] at hl
  match cs, hl, xs, hlen with
  | [c0, c1, c2, c3, c4, c5, c6, c7], _, [y0, y1, y2, y3, y4, y5, y6, y7], _ =>
    have g0 : DataW.trod enc Try.prog W 0 (fun _ => true) true n 3 (([c0, c1, c2, c3, c4, c5, c6, c7].drop 0).take (Try.prog.cellsOf 3)) = some y0 := hf 0 _ rfl
    have g1 : DataW.trod enc Try.prog W 0 (fun _ => true) true n 3 (([c0, c1, c2, c3, c4, c5, c6, c7].drop 1).take (Try.prog.cellsOf 3)) = some y1 := hf 1 _ rfl
    have g2 : DataW.trod enc Try.prog W 0 (fun _ => true) true n 3 (([c0, c1, c2, c3, c4, c5, c6, c7].drop 2).take (Try.prog.cellsOf 3)) = some y2 := hf 2 _ rfl
    have g3 : DataW.trod enc Try.prog W 0 (fun _ => true) true n 3 (([c0, c1, c2, c3, c4, c5, c6, c7].drop 3).take (Try.prog.cellsOf 3)) = some y3 := hf 3 _ rfl
    have g4 : DataW.trod enc Try.prog W 0 (fun _ => true) true n 9 (([c0, c1, c2, c3, c4, c5, c6, c7].drop 4).take (Try.prog.cellsOf 9)) = some y4 := hf 4 _ rfl
    have g5 : DataW.trod enc Try.prog W 0 (fun _ => true) true n 9 (([c0, c1, c2, c3, c4, c5, c6, c7].drop 5).take (Try.prog.cellsOf 9)) = some y5 := hf 5 _ rfl
    have g6 : DataW.trod enc Try.prog W 0 (fun _ => true) true n 28 (([c0, c1, c2, c3, c4, c5, c6, c7].drop 6).take (Try.prog.cellsOf 28)) = some y6 := hf 6 _ rfl
    have g7 : DataW.trod enc Try.prog W 0 (fun _ => true) true n 29 (([c0, c1, c2, c3, c4, c5, c6, c7].drop 7).take (Try.prog.cellsOf 29)) = some y7 := hf 7 _ rfl
    simp only [cellsInt2, cellsString2, cellsInts2, cellsTexts2, List.drop_zero, List.drop_succ_cons, List.take_succ_cons, List.take_zero] at g0 g1 g2 g3 g4 g5 g6 g7
    obtain ⟨a0, e0, h0, w0⟩ := DataW.trod_int Try.underlying3 g0
    obtain ⟨a1, e1, h1, w1⟩ := DataW.trod_int Try.underlying3 g1
    obtain ⟨a2, e2, h2, w2⟩ := DataW.trod_int Try.underlying3 g2
    obtain ⟨a3, e3, h3, w3⟩ := DataW.trod_int Try.underlying3 g3
    obtain ⟨s4, e4, h4, w4⟩ := DataW.trod_string Try.underlying9 g4
    obtain ⟨s5, e5, h5, w5⟩ := DataW.trod_string Try.underlying9 g5
    obtain ⟨A6, n6, k6, l6, e6, i6, b6, c6', d6⟩ := trod_ints g6
    obtain ⟨A7, n7, k7, e7⟩ : ∃ A n k, c7 = .slice A n k := by
      rcases Go.Deep.open_slice1 Try.underlying29 cellsString2 g7 with ⟨hcs, _⟩ | ⟨a, len, cap, _, _, _, _, _, hcs, _⟩
      · simp at hcs; exact ⟨_, _, _, hcs⟩
      · simp at hcs; exact ⟨_, _, _, hcs⟩
    simp at e0 e1 e2 e3 e4 e5 e6
    subst e0 e1 e2 e3 e4 e5 e6 e7 hx
    exact ⟨⟨a0, a1, a2, a3, s4, s5, A6, n6, k6, l6, A7, n7, k7⟩, rfl, i6, b6, c6', w4, w3, ⟨_, _, _, _, _, _, _, _, rfl, d6⟩⟩
theorem open_acts {A : Option Addr} {n c : Nat} {d : DataW H} {p : List MemPlace} (h : DataW.Trod enc Try.prog W 0 (fun _ => true) true 22 (.slice A n c) d p) :
    ∃ acts : List ActV, acts.length = n ∧ (0 < n → ∃ b off, A = some ⟨b, off, none⟩ ∧ b < W.heap.size ∧ ∀ i a, acts[i]? = some a → ∀ j u, a.arr[j]? = some u → W.cell? ⟨b, off + i * 8 + j, none⟩ = some u) ∧ n ≤ c ∧
      ∀ a ∈ acts, ∃ y elems rest, d = .slice elems rest ∧ y ∈ elems ∧ ActR W a y := by
  obtain ⟨fuel, hf⟩ := h
  rcases Go.Deep.open_slice Try.underlying22 hf with ⟨hcs, hx⟩ | ⟨a, len, cap, m, k, D, Pl, hcs, _, hl, hm, hmm, hx, hi⟩
  · simp [Value.cells] at hcs
    obtain ⟨rfl, rfl, rfl⟩ := hcs
    exact ⟨[], rfl, (fun h => absurd h (by omega)), Nat.le_refl _, fun a ha => by cases ha⟩
  · simp [Value.cells] at hcs
    obtain ⟨rfl, rfl, rfl⟩ := hcs
    simp only [if_true] at hmm
    subst hmm
    rw [cellsAct] at hi hx
    simp only [Prod.mk.injEq] at hx
    have hv : ∀ i, i < m → ∃ v : ActV, ActR W v (D i) ∧ ∀ j u, v.arr[j]? = some u → W.cell? (a.add (i * 8 + j)) = some u := fun i him => by
      obtain ⟨cs', h1, h2⟩ := hi i him
      obtain ⟨v, rfl, hr⟩ := trod_act h2
      obtain ⟨_, hlen, hcell⟩ := World.cells?_some h1
      refine ⟨v, hr, fun j u hu => ?_⟩
      have hj : j < 8 := by
        have := (Array.getElem?_eq_some_iff.1 hu).1
        simpa [ActV.arr] using this
      rw [← Go.Deep.add_add, hcell j hj]
      simpa using hu
    obtain ⟨V, hV⟩ : ∃ V : Nat → ActV, ∀ i, i < m → ActR W (V i) (D i) ∧ ∀ j u, (V i).arr[j]? = some u → W.cell? (a.add (i * 8 + j)) = some u :=
      ⟨fun i => if h : i < m then (hv i h).choose else ⟨0, 0, 0, 0, ⟨#[]⟩, ⟨#[]⟩, none, 0, 0, [], none, 0, 0⟩, fun i hi => by have := (hv i hi).choose_spec; simp only [dif_pos hi]; exact this⟩
    refine ⟨(List.range n).map V, by simp, fun hn => ?_, hl, ?_⟩
    · have c0 := (hV 0 (by omega)).2 0 _ rfl
      rw [show 0 * 8 + 0 = 0 from rfl] at c0
      obtain ⟨hs, hb⟩ := spot_none c0
      obtain ⟨b, off, spot⟩ := a
      simp only at hs hb
      subst hs
      refine ⟨b, off, rfl, hb, fun i v hi j u hu => ?_⟩
      have hin : i < n := by
        have := (List.getElem?_eq_some_iff.1 hi).1
        simpa using this
      have hvi : V i = v := by
        rw [List.getElem?_map, List.getElem?_range hin] at hi
        simpa using hi
      have g := (hV i (by omega)).2
      rw [hvi] at g
      have := g j u hu
      rw [addr_add] at this; simpa [Nat.add_assoc] using this
    · intro v hv
      obtain ⟨i, hi, rfl⟩ := List.mem_map.1 hv
      have hin := List.mem_range.1 hi
      exact ⟨D i, _, _, hx.1, List.mem_map.2 ⟨i, hi, rfl⟩, (hV i (by omega)).1⟩
end
theorem weightsAll_memD {H : Type} {P : Program} {e : TypeId} {d : DataW H} : ∀ {l : List (DataW H)}, d ∈ l → ∀ n ∈ d.weights P e, n ∈ DataW.weightsAll P e l
  | x :: l, hd, n, hn => by
    simp only [DataW.weightsAll, List.mem_append]
    rcases List.mem_cons.1 hd with rfl | h
    · exact Or.inl hn
    · exact Or.inr (weightsAll_memD h n hn)
/-- the reach, of a step's list of numbers -/
theorem act_len {H : Type} {W : World} {ts : List TypeId} {ds : List (DataW H)} (h : (DataW.weightsEach Try.prog ts ds).all (· ≤ reachBytes) = true) {j : Nat} {elems rest : List (DataW H)} (ht : ts[j]? = some 22) (hd : ds[j]? = some (.slice elems rest))
    {y : DataW H} (hy : y ∈ elems) {a : ActV} (ha : ActR W a y) : a.kn * 8 ≤ 140737488355328 := by
  obtain ⟨x0, x1, x2, x3, x4, x5, kd, cd, rfl, hk⟩ := ha.data
  have hcap := ha.cap
  have hr : reachBytes = 140737488351232 := rfl
  rcases hk with ⟨h0, _⟩ | ⟨e, r, rfl, hlen⟩
  · have : a.kn = 0 := by omega
    rw [this]; omega
  · have hw : (e.length + r.length) * Try.prog.bytesOf 3 ≤ reachBytes := by
      refine of_decide_eq_true (List.all_eq_true.1 h _ (DataW.weights_mem_each ht hd _ ?_))
      simp only [DataW.weights, Try.underlying22, List.mem_cons, List.mem_append]
      refine Or.inr (Or.inl (weightsAll_memD hy _ ?_))
      rw [DataW.weights, Try.underlying31]
      refine DataW.weights_mem_each (j := 6) (t := 28) rfl rfl _ ?_
      rw [DataW.weights, Try.underlying28]
      exact List.mem_cons_self ..
    rw [bytesInt2, hlen, hr] at hw
    omega

theorem wf_high {n : Int} (h : (Lit.int .i64 n).wf = true) : n ≤ 9223372036854775807 := by
  have : -9223372036854775808 ≤ n ∧ n ≤ 9223372036854775807 := by
    simpa [Lit.wf, IntKind.min, IntKind.max, IntKind.bits, IntKind.signed] using h
  exact this.2
theorem act_ok {H : Type} {W : World} {a : ActV} {y : DataW H} (h : ActR W a y) (hl : a.kn * 8 ≤ 140737488355328) : a.Ok W := ⟨h.keep, h.lt, hl, h.s, wf_high h.n⟩

end Go.Proofs.Ytjihboddejaelaa
