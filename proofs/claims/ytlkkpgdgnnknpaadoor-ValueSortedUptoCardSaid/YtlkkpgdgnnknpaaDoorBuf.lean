/-
  A new row of bytes in memory: what []byte(s) makes.
-/
import Derived.Test.YtlkkpgdgnnknpaaDoorBytes
import Derived.Laws.IdiomStrings
namespace Go.Proofs.YtlkkpgdgnnknpaaDoor
open Go.RowKit
open Go.BigFrame
set_option linter.unusedVariables false

/-- a new row of bytes: block g begins with them -/
def Buf (w : World) (g : Nat) (l : List UInt8) : Prop := ∃ (C : Array Value) (e : TypeId) (m : Nat), w.heap[g]? = some (.cells C e (m, m + 1)) ∧ C.size = m ∧ l.length ≤ m ∧ ∀ (i : Nat) (v : UInt8), l[i]? = some v → C[i]? = some (u8v v)
section
variable {w w' : World} {g : Nat} {l : List UInt8}
theorem Buf.lt (h : Buf w g l) : g < w.heap.size := by
  obtain ⟨C, e, m, h1, _⟩ := h
  rcases Nat.lt_or_ge g w.heap.size with h2 | h2
  · exact h2
  · rw [Array.getElem?_eq_none h2] at h1; cases h1
theorem Buf.cell (h : Buf w g l) {i : Nat} {v : UInt8} (hv : l[i]? = some v) : w.cell? ⟨g, i, none⟩ = some (u8v v) := by
  obtain ⟨C, e, m, h1, _, _, h4⟩ := h
  rw [cell_of_row w g i C e (m, m + 1) h1]; exact h4 i v hv
theorem Buf.frozen (h : Buf w g l) {i : Nat} (hi : i < l.length) : w.frozen? ⟨g, i, none⟩ = false := by
  obtain ⟨C, e, m, h1, h2, h3, _⟩ := h
  unfold World.frozen?
  simp only [h1]
  simp; omega
theorem Buf.keep (h : Buf w g l) (hb : Below w.heap.size w w') : Buf w' g l := by
  have hl := h.lt
  obtain ⟨C, e, m, h1, h2⟩ := h
  exact ⟨C, e, m, (hb.block g hl).trans h1, h2⟩
theorem Buf.set (h : Buf w g l) (i : Nat) (v : UInt8) : Buf (w.setCell ⟨g, i, none⟩ (u8v v)) g (l.set i v) := by
  obtain ⟨C, e, m, h1, h2, h3, h4⟩ := h
  refine ⟨C.setIfInBounds i (u8v v), e, m, ?_, by simpa using h2, by simpa using h3, fun j u hu => ?_⟩
  · simp [World.setCell, Array.getElem?_modify, h1]
  · rw [List.getElem?_set] at hu
    rw [Array.getElem?_setIfInBounds]
    split at hu
    · rename_i hij
      subst hij
      split at hu
      · cases hu; rw [if_pos rfl, if_pos (by omega)]
      · cases hu
    · rename_i hij
      rw [if_neg hij]; exact h4 j u hu
theorem Buf.BS (h : Buf w g l) : BS w (some ⟨g, 0, none⟩) l.length l :=
  ⟨rfl, fun _ => ⟨g, 0, rfl, h.lt, fun i v hv => by rw [Nat.zero_add]; exact h.cell hv⟩⟩
end
theorem conv_new (s : ByteArray) (w : World) : ∃ c w', (convert 9 55 (.string s)).run Tryd.prog w = .ok (.slice (some ⟨w.heap.size, 0, none⟩) s.size c) w' ∧ s.size ≤ c ∧ Buf w' w.heap.size s.data.toList ∧ Below w.heap.size w w' := by
  have hr := run_bytes_of_string w 9 55 5 s Tryd.underlying9 Tryd.underlying55 Tryd.underlying5
  have hg := grownCap_ge w s.size 0 5
  refine ⟨_, _, hr, hg, ⟨_, _, _, heap_alloc_new w.drew _, rfl, ?_, fun i v hv => ?_⟩, (Below.refl _ _).drew.alloc (Nat.le_refl _) _⟩
  · unfold bytesRow
    simp only [Array.size_append, Array.size_map, Array.size_replicate, Array.length_toList]
    omega
  · obtain ⟨hi, rfl⟩ := List.getElem?_eq_some_iff.1 hv
    rw [bytesRow_at s _ i (by simpa using hi)]
    simp [u8v]

end Go.Proofs.YtlkkpgdgnnknpaaDoor
