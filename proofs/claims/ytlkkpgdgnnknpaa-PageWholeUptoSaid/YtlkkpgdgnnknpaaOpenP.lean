/-
  A law's arguments opened: a Page by value; a list of texts; what the bound of '..UptoSaid' says of them.
-/
import Derived.Test.YtlkkpgdgnnknpaaPage9
import Derived.ProofKit
import Derived.OpenShut
import Derived.ShutString
import Derived.ChangeOld
import Derived.SliceStrings
import Derived.Lib.SmallJoins
namespace Go.Proofs.Ytlkkpgdgnnknpaa
open Go.ChangeShapes Go.WideShapes Go.ChangeAt Go.RowKit

theorem own1 : ownKnob Try.prog.godebug = none := by kernel_rfl
theorem laidOut1 : laidOutB Try.prog = true := by kernel_rfl
theorem cellsPage1 : Try.prog.cellsOf 40 = 3 := by kernel_rfl
theorem cellsInt1 : Try.prog.cellsOf 3 = 1 := by kernel_rfl
theorem cellsString1 : Try.prog.cellsOf 9 = 1 := by kernel_rfl
theorem cellsTexts1 : Try.prog.cellsOf 38 = 1 := by kernel_rfl

theorem bulk_texts {H : Type} (l : List ByteArray) : Rows.uptoBulkAll (H := H) (Go.ChangeShapes.strs l) = (l.map fun s => s.size + 1).sum := by
  induction l with
  | nil => rfl
  | cons s l ih =>
    have : Go.ChangeShapes.strs (H := H) (s :: l) = .lit (.string s.data.toList) :: Go.ChangeShapes.strs l := rfl
    rw [this]
    simp only [Rows.uptoBulkAll, Rows.uptoBulk, ih, List.map_cons, List.sum_cons]
    rw [Array.length_toList]; rfl
theorem used_bulk (l : List ByteArray) : usedN l ≤ 4 * (l.map fun s => s.size + 1).sum := by
  induction l with
  | nil => simp [usedN]
  | cons s l ih =>
    simp only [usedN, List.map_cons, List.sum_cons] at *
    omega
theorem length_bulk (l : List ByteArray) : l.length ≤ (l.map fun s => s.size + 1).sum := by
  induction l with
  | nil => simp
  | cons s l ih =>
    simp only [List.map_cons, List.sum_cons, List.length_cons] at *
    omega

section
variable {H : Type} {enc : TypeId × Value → H} {W : World}
theorem open_texts1 {fuel : Nat} {cs : List Value} {x : DataW H × List MemPlace} (h : DataW.trod enc Try.prog W 0 (fun _ => true) true fuel 38 cs = some x) :
    ∃ (A : Option Addr) (n c : Nat) (l : List ByteArray), cs = [.slice A n c] ∧ SS W A n l ∧ n ≤ Rows.uptoBulk x.1 ∧ usedN l ≤ 4 * Rows.uptoBulk x.1 := by
  rcases open_strings Try.underlying38 Try.underlying9 cellsString1 h with ⟨hcs, hx⟩ | ⟨a, len, cap, ss, hcs, _, hl, hm, hz, hx, hcell, _⟩
  · exact ⟨none, 0, 0, [], hcs, ⟨rfl, fun h => absurd h (by omega)⟩, Nat.zero_le _, by simp [usedN]⟩
  · simp only [if_true] at hz
    subst hx
    refine ⟨some a, len, cap, ss.take len, hcs, ⟨by rw [List.length_take]; omega, fun hn => ?_⟩, ?_, ?_⟩
    · have c0 := hcell 0 (by omega)
      have hs : a.spot = none := by
        unfold World.cell? at c0
        cases hsp : a.spot with
        | none => rfl
        | some q =>
          exfalso
          have : (a.add 0).spot = some q := by simp [Addr.add, hsp]
          rw [this] at c0
          split at c0 <;> simp at c0
      obtain ⟨b, off, spot⟩ := a
      simp only at hs
      subst hs
      have hblk : b < W.heap.size := by
        unfold World.cell? at c0
        rcases Nat.lt_or_ge b W.heap.size with h1 | h1
        · exact h1
        · rw [show ((⟨b, off, none⟩ : Addr).add 0).block = b from rfl, Array.getElem?_eq_none h1] at c0
          cases c0
      refine ⟨b, off, rfl, hblk, fun i v hv => ?_⟩
      rw [List.getElem?_take] at hv
      split at hv
      · rename_i hi
        have := hcell i (by omega)
        rw [addr_add] at this
        rw [this, List.getD_eq_getElem?_getD, hv]; rfl
      · cases hv
    · have h1 := length_bulk (ss.take len)
      have h2 := bulk_texts (H := H) (ss.take len)
      simp only [Rows.uptoBulk]
      rw [List.length_take] at h1
      omega
    · have h1 := used_bulk (ss.take len)
      have h2 := bulk_texts (H := H) (ss.take len)
      simp only [Rows.uptoBulk]
      omega
set_option maxRecDepth 100000 in
theorem open_page1 {r : Reach} {b0 : Nat} {v : Value} {d : DataW H} {p : List MemPlace} (hv : Value.okWide Try.prog W r b0 40 v) (h : DataW.Trod enc Try.prog W 0 (fun _ => true) true 40 v d p) :
    ∃ (k l : Int) (A : Option Addr) (n c : Nat) (cs : List ByteArray), v = .agg #[.int .i64 k, .int .i64 l, .slice A n c] ∧ SS W A n cs ∧ n ≤ Rows.uptoBulk d ∧ usedN cs ≤ 4 * Rows.uptoBulk d ∧ (Lit.int .i64 k).wf = true ∧ (Lit.int .i64 l).wf = true := by
  obtain ⟨cs, rfl, hsz⟩ := okWide_struct Try.underlying40 hv
  obtain ⟨fuel, hf⟩ := h
  obtain ⟨xs, n, _, hx, hl, hlen, hf⟩ := DataW.trod_struct Try.underlying40 hf
  rw [cellsPage1] at hl
  have hl' : cs.toList.length = 3 := by simpa [Value.cells] using hl
  obtain ⟨l⟩ := cs
  match l, hl', xs, hlen with
  | [c0, c1, c2], _, [y0, y1, y2], _ =>
    have g0 : DataW.trod enc Try.prog W 0 (fun _ => true) true n 3 (([c0, c1, c2].drop 0).take (Try.prog.cellsOf 3)) = some y0 := by simpa [Value.cells] using hf 0 _ rfl
    have g1 : DataW.trod enc Try.prog W 0 (fun _ => true) true n 3 (([c0, c1, c2].drop 1).take (Try.prog.cellsOf 3)) = some y1 := by simpa [Value.cells] using hf 1 _ rfl
    have g2 : DataW.trod enc Try.prog W 0 (fun _ => true) true n 38 (([c0, c1, c2].drop 2).take (Try.prog.cellsOf 38)) = some y2 := by simpa [Value.cells] using hf 2 _ rfl
    simp only [cellsInt1, cellsTexts1, List.drop_zero, List.drop_succ_cons, List.take_succ_cons, List.take_zero] at g0 g1 g2
    obtain ⟨k, e0, h0, w0⟩ := DataW.trod_int Try.underlying3 g0
    obtain ⟨l, e1, h1, w1⟩ := DataW.trod_int Try.underlying3 g1
    obtain ⟨A, m, c, t, e2, hs, hb1, hb2⟩ := open_texts1 g2
    simp at e0 e1 e2
    subst e0 e1 e2
    simp only [Prod.mk.injEq] at hx
    have hd := hx.1
    have hB : Rows.uptoBulk y2.1 ≤ Rows.uptoBulk d := by
      rw [hd]
      simp only [List.map_cons, List.map_nil, Rows.uptoBulk, Rows.uptoBulkAll]
      omega
    exact ⟨k, l, A, m, c, t, rfl, hs, Nat.le_trans hb1 hB, Nat.le_trans hb2 (Nat.mul_le_mul_left _ hB), w0, w1⟩
end

end Go.Proofs.Ytlkkpgdgnnknpaa
