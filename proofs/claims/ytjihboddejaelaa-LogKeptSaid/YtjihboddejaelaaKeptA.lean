/-
  The laws' arguments opened (package relstorekeep): a list of steps of six fields; a list of numbers.
-/
import Derived.Test.YtjihboddejaelaaOpenC
namespace Go.Proofs.Ytjihboddejaelaa
open Go.ChangeShapes Go.WideShapes Go.ChangeAt Go.RowKit
set_option linter.unusedVariables false
set_option linter.unusedSimpArgs false

theorem cellsActK : Try.prog.cellsOf 45 = 6 := by kernel_rfl
structure ActK where
  kind : Int
  f : Int
  at_ : Int
  n : Int
  s : ByteArray
  t : ByteArray
def ActK.arr (a : ActK) : Array Value := #[.int .i64 a.kind, .int .i64 a.f, .int .i64 a.at_, .int .i64 a.n, .string a.s, .string a.t]
def in64 (x : Int) : Prop := -9223372036854775808 ≤ x ∧ x ≤ 9223372036854775807
structure ActK.Ok (a : ActK) : Prop where
  kind : in64 a.kind
  f : in64 a.f
  at_ : in64 a.at_
  n : in64 a.n
  s : a.s.size ≤ maxLen
  t : a.t.size ≤ maxLen
/-- a list of steps -/
structure KS (w : World) (A : Option Addr) (n : Nat) (acts : List ActK) : Prop where
  len : acts.length = n
  cells : 0 < n → ∃ b off, A = some ⟨b, off, none⟩ ∧ b < w.heap.size ∧ ∀ i a, acts[i]? = some a → ∀ j u, a.arr[j]? = some u → w.cell? ⟨b, off + i * 6 + j, none⟩ = some u
  ok : ∀ a ∈ acts, a.Ok
theorem KS.take {w : World} {A : Option Addr} {n : Nat} {acts : List ActK} (h : KS w A n acts) {k : Nat} (hk : k ≤ n) : KS w A k (acts.take k) :=
  ⟨by rw [List.length_take, h.len]; omega, fun hn => by
    obtain ⟨b, off, hA, hl, hc⟩ := h.cells (by omega)
    exact ⟨b, off, hA, hl, fun i v hv => hc i v (by
      rw [List.getElem?_take] at hv
      split at hv
      · exact hv
      · cases hv)⟩, fun a ha => h.ok a (List.mem_of_mem_take ha)⟩
theorem KS.below {w w' : World} {A : Option Addr} {n : Nat} {acts : List ActK} (h : KS w A n acts) (hb : Below w.heap.size w w') : KS w' A n acts :=
  ⟨h.len, fun hn => by
    obtain ⟨b, off, hA, hl, hc⟩ := h.cells hn
    exact ⟨b, off, hA, Nat.lt_of_lt_of_le hl hb.size, fun i v hv j u hu => (hb.cell (p := ⟨b, off + i * 6 + j, none⟩) hl).trans (hc i v hv j u hu)⟩, h.ok⟩
theorem wf_in {n : Int} (h : (Lit.int .i64 n).wf = true) : in64 n := by
  have : -9223372036854775808 ≤ n ∧ n ≤ 9223372036854775807 := by
    simpa [Lit.wf, IntKind.min, IntKind.max, IntKind.bits, IntKind.signed] using h
  exact this
section
variable {H : Type} {enc : TypeId × Value → H} {W : World}
set_option maxRecDepth 100000 in
theorem trod_actK {fuel : Nat} {cs : List Value} {x : DataW H × List MemPlace} (h : DataW.trod enc Try.prog W 0 (fun _ => true) true fuel 45 cs = some x) : ∃ a : ActK, cs = a.arr.toList ∧ a.Ok := by
  obtain ⟨xs, n, _, hx, hl, hlen, hf⟩ := DataW.trod_struct Try.underlying45 h
  rw [cellsActK] at hl
  match cs, hl, xs, hlen with
  | [c0, c1, c2, c3, c4, c5], _, [y0, y1, y2, y3, y4, y5], _ =>
    have g0 : DataW.trod enc Try.prog W 0 (fun _ => true) true n 3 (([c0, c1, c2, c3, c4, c5].drop 0).take (Try.prog.cellsOf 3)) = some y0 := hf 0 _ rfl
    have g1 : DataW.trod enc Try.prog W 0 (fun _ => true) true n 3 (([c0, c1, c2, c3, c4, c5].drop 1).take (Try.prog.cellsOf 3)) = some y1 := hf 1 _ rfl
    have g2 : DataW.trod enc Try.prog W 0 (fun _ => true) true n 3 (([c0, c1, c2, c3, c4, c5].drop 2).take (Try.prog.cellsOf 3)) = some y2 := hf 2 _ rfl
    have g3 : DataW.trod enc Try.prog W 0 (fun _ => true) true n 3 (([c0, c1, c2, c3, c4, c5].drop 3).take (Try.prog.cellsOf 3)) = some y3 := hf 3 _ rfl
    have g4 : DataW.trod enc Try.prog W 0 (fun _ => true) true n 9 (([c0, c1, c2, c3, c4, c5].drop 4).take (Try.prog.cellsOf 9)) = some y4 := hf 4 _ rfl
    have g5 : DataW.trod enc Try.prog W 0 (fun _ => true) true n 9 (([c0, c1, c2, c3, c4, c5].drop 5).take (Try.prog.cellsOf 9)) = some y5 := hf 5 _ rfl
    simp only [cellsInt2, cellsString2, List.drop_zero, List.drop_succ_cons, List.take_succ_cons, List.take_zero] at g0 g1 g2 g3 g4 g5
    obtain ⟨a0, e0, h0, w0⟩ := DataW.trod_int Try.underlying3 g0
    obtain ⟨a1, e1, h1, w1⟩ := DataW.trod_int Try.underlying3 g1
    obtain ⟨a2, e2, h2, w2⟩ := DataW.trod_int Try.underlying3 g2
    obtain ⟨a3, e3, h3, w3⟩ := DataW.trod_int Try.underlying3 g3
    obtain ⟨s4, e4, h4, w4⟩ := DataW.trod_string Try.underlying9 g4
    obtain ⟨s5, e5, h5, w5⟩ := DataW.trod_string Try.underlying9 g5
    simp at e0 e1 e2 e3 e4 e5
    subst e0 e1 e2 e3 e4 e5 hx
    exact ⟨⟨a0, a1, a2, a3, s4, s5⟩, rfl, ⟨wf_in w0, wf_in w1, wf_in w2, wf_in w3, w4, w5⟩⟩
theorem open_actsK {A : Option Addr} {n c : Nat} {d : DataW H} {p : List MemPlace} (h : DataW.Trod enc Try.prog W 0 (fun _ => true) true 35 (.slice A n c) d p) :
    ∃ acts : List ActK, KS W A n acts ∧ n ≤ c := by
  obtain ⟨fuel, hf⟩ := h
  rcases Go.Deep.open_slice Try.underlying35 hf with ⟨hcs, hx⟩ | ⟨a, len, cap, m, k, D, Pl, hcs, _, hl, hm, hmm, hx, hi⟩
  · simp [Value.cells] at hcs
    obtain ⟨rfl, rfl, rfl⟩ := hcs
    exact ⟨[], ⟨rfl, (fun h => absurd h (by omega)), fun a ha => by cases ha⟩, Nat.le_refl _⟩
  · simp [Value.cells] at hcs
    obtain ⟨rfl, rfl, rfl⟩ := hcs
    simp only [if_true] at hmm
    subst hmm
    rw [cellsActK] at hi hx
    have hv : ∀ i, i < m → ∃ v : ActK, v.Ok ∧ ∀ j u, v.arr[j]? = some u → W.cell? (a.add (i * 6 + j)) = some u := fun i him => by
      obtain ⟨cs', h1, h2⟩ := hi i him
      obtain ⟨v, rfl, hr⟩ := trod_actK h2
      obtain ⟨_, hlen, hcell⟩ := World.cells?_some h1
      refine ⟨v, hr, fun j u hu => ?_⟩
      have hj : j < 6 := by
        have := (Array.getElem?_eq_some_iff.1 hu).1
        simpa [ActK.arr] using this
      rw [← Go.Deep.add_add, hcell j hj]
      simpa using hu
    obtain ⟨V, hV⟩ : ∃ V : Nat → ActK, ∀ i, i < m → (V i).Ok ∧ ∀ j u, (V i).arr[j]? = some u → W.cell? (a.add (i * 6 + j)) = some u :=
      ⟨fun i => if h : i < m then (hv i h).choose else ⟨0, 0, 0, 0, ⟨#[]⟩, ⟨#[]⟩⟩, fun i hi => by have := (hv i hi).choose_spec; simp only [dif_pos hi]; exact this⟩
    refine ⟨(List.range n).map V, ⟨by simp, fun hn => ?_, ?_⟩, hl⟩
    · have c0 := (hV 0 (by omega)).2 0 _ rfl
      rw [show 0 * 6 + 0 = 0 from rfl] at c0
      obtain ⟨hs, hb⟩ := spot_none c0
      obtain ⟨b, off, spot⟩ := a
      simp only at hs hb
      subst hs
      refine ⟨b, off, rfl, hb, fun i v hi j u hu => ?_⟩
      have hin : i < n := by
        have := (List.getElem?_eq_some_iff.1 hi).1
        simpa using this
      have hvi : V i = v := by
        rw [List.getElem?_map, List.getElem?_range hin] at hi
        simpa using hi
      have g := (hV i (by omega)).2
      rw [hvi] at g
      have := g j u hu
      rw [addr_add] at this; simpa [Nat.add_assoc] using this
    · intro v hv
      obtain ⟨i, hi, rfl⟩ := List.mem_map.1 hv
      have hin := List.mem_range.1 hi
      exact (hV i (by omega)).1
/-- a list of numbers, an argument -/
theorem open_intsK {A : Option Addr} {n c : Nat} {d : DataW H} {p : List MemPlace} (h : DataW.Trod enc Try.prog W 0 (fun _ => true) true 28 (.slice A n c) d p) :
    ∃ l : List Int, IS W A n l ∧ (0 < n → ∀ k, blkOf A = some k → k < W.heap.size) ∧ n ≤ c ∧ ((c = 0 ∧ d = .nil) ∨ ∃ e r, d = .slice e r ∧ e.length + r.length = c) := by
  obtain ⟨fuel, hf⟩ := h
  obtain ⟨A', n', c', l, hcs, h1, h2, h3, h4⟩ := trod_ints hf
  simp [Value.cells] at hcs
  obtain ⟨rfl, rfl, rfl⟩ := hcs
  exact ⟨l, h1, h2, h3, h4⟩
end

end Go.Proofs.Ytjihboddejaelaa
