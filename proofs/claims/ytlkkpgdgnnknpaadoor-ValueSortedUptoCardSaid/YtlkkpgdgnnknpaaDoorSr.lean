/-
  Values that are read one by one into a row of the call's own.
-/
import Derived.Test.YtlkkpgdgnnknpaaDoorCode5
namespace Go.Proofs.YtlkkpgdgnnknpaaDoor
open Go.RowKit
open Go.BigFrame
set_option linter.unusedVariables false
set_option linter.unusedSimpArgs false

theorem drop_at {S : ByteArray} {l : List UInt8} (h : S.data.toList = l) {p : Nat} (hp : p < S.size) : l.drop p = S[p] :: l.drop (p + 1) := by
  have h1 : p < S.data.toList.length := by simpa using hp
  have h2 : S.data.toList[p]? = some S[p] := by rw [List.getElem?_eq_getElem h1]; rfl
  have h3 : p < l.length := by rw [← h]; exact h1
  rw [h, List.getElem?_eq_getElem h3] at h2
  rw [List.drop_eq_getElem_cons h3, Option.some.inj h2]
/-- the values that were read -/
structure Sr (w0 : World) (w : World) (v : Value) (vs : List Val) : Prop where
  own : w.ownsRow w0.heap.size 38 3 v vs.length (cellsV vs)
  bel : Below w0.heap.size w0 w
section
variable {w0 w w' : World} {v : Value} {vs : List Val}
theorem Sr.step (h : Sr w0 w v vs) (hb : Below w.heap.size w w') : Sr w0 w' v vs := ⟨own_keep h.own hb, bel_step h.bel hb h.bel.size⟩
theorem Sr.alloc (h : Sr w0 w v vs) (o : Obj) : Sr w0 (w.alloc o) v vs := h.step ((Below.refl _ _).alloc (Nat.le_refl _) _)
theorem Sr.app (h : Sr w0 w v vs) {v' : Value} {x : Val} (hown : w'.ownsRow w0.heap.size 38 3 v' (vs.length + 1) (cellsV vs ++ x.cells)) (hg : w.grownBy w' v.ownBlock) : Sr w0 w' v' (vs ++ [x]) := by
  refine ⟨?_, h.bel.grown hg h.bel.size (fun k e => (h.own.lt k e).1)⟩
  rw [cellsV_append, List.length_append]
  have : cellsV [x] = x.cells := by simp [cellsV]
  rw [this]; exact hown
end
theorem ext_mid {S : ByteArray} {l : List UInt8} (h : S.data.toList = l) (a n : Nat) : S.extract a (a + n) = bsOf ((l.drop a).take n) := by
  apply ByteArray.ext; apply Array.toList_inj.1
  rw [Lib.extract_data, bsOf_data, h]
  have e : a + n - a = n := by omega
  rw [e]
theorem ext_size {S : ByteArray} {a n : Nat} (h : a + n ≤ S.size) : (S.extract a (a + n)).size = n := by
  rw [ByteArray.size_extract]; omega
theorem vs_own {w : World} {b : Nat} {e : TypeId} {v : Value} {n : Nat} {vs : List Val} (h : w.ownsRow b e 3 v n (cellsV vs)) : ∃ A c, v = .slice A n c ∧ n ≤ c ∧ VS w A n vs := by
  rcases h.2 with ⟨rfl, h0⟩ | ⟨g, cap, cur, rfl, hb, hg, hn, _⟩
  · subst h0
    have := h.1
    rw [cellsV_length] at this
    exact ⟨none, 0, rfl, Nat.le_refl _, by omega, fun h => absurd h (by omega)⟩
  · exact ⟨_, _, rfl, hn, VS.of_own h (Array.getElem?_eq_some_iff.1 hg).1⟩


end Go.Proofs.YtlkkpgdgnnknpaaDoor
