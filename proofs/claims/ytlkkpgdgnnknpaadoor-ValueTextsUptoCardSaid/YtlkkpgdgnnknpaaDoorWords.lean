/-
  Words on memory that every contract here leans on: a block that is known whole, kept over draws, new blocks, stores and calls. No program in sight.
-/
import Derived.Below
import Derived.Laws.Rows
import Derived.Laws.OwnMore
import Derived.Deep.Draws
import Derived.Lib.Hide
import Derived.Deep.Quiet
import Derived.Deep.QuietTactic
namespace Go.Proofs.YtlkkpgdgnnknpaaDoor
open Go.RowKit
set_option linter.unusedVariables false
set_option linter.unusedSimpArgs false

theorem bel_step {B : Nat} {w W w1 : World} (h : Below B w W) (hb : Below W.heap.size W w1) (hB : B ≤ W.heap.size) : Below B w w1 := h.trans (hb.mono hB)
theorem bcell {W w1 : World} (hb : Below W.heap.size W w1) : (∀ b o, b < W.heap.size → w1.cell? ⟨b, o, none⟩ = W.cell? ⟨b, o, none⟩) ∧ (∀ b o, b < W.heap.size → w1.frozen? ⟨b, o, none⟩ = W.frozen? ⟨b, o, none⟩) :=
  ⟨fun b o h => hb.cell (p := ⟨b, o, none⟩) h, fun b o h => hb.frozen (p := ⟨b, o, none⟩) h⟩

/-- block g is just these cells, none of them frozen -/
def Has (w : World) (g : Nat) (t : TypeId) (cs : Array Value) : Prop := w.heap[g]? = some (.cells cs t (0, 0))

section
variable {w w' : World} {g : Nat} {t : TypeId} {cs : Array Value}
theorem Has.lt (h : Has w g t cs) : g < w.heap.size := by
  rcases Nat.lt_or_ge g w.heap.size with h1 | h1
  · exact h1
  · exact absurd h (by unfold Has; rw [Array.getElem?_eq_none h1]; simp)
theorem Has.cell (h : Has w g t cs) (i : Nat) : w.cell? ⟨g, i, none⟩ = cs[i]? := cell_of_row w g i cs t (0, 0) h
theorem Has.frozen (h : Has w g t cs) (i : Nat) : w.frozen? ⟨g, i, none⟩ = false := by
  have h' : w.heap[g]? = some (.cells cs t (0, 0)) := h
  simp [World.frozen?, h']
theorem Has.new (w : World) (t : TypeId) (cs : Array Value) : Has (w.alloc (.cells cs t)) w.heap.size t cs := by
  show (w.heap.push _)[w.heap.size]? = _
  simp
theorem Has.alloc (h : Has w g t cs) (o : Obj) : Has (w.alloc o) g t cs := (Below.heap_alloc w o g h.lt).trans h
theorem Has.drew (h : Has w g t cs) : Has w.drew g t cs := h
theorem Has.drewN (h : Has w g t cs) (n : Nat) : Has (w.drewN n) g t cs := h
theorem Has.far (h : Has w g t cs) {p : Addr} (hp : g ≠ p.block) (u : Value) : Has (w.setCell p u) g t cs := (Below.heap_setCell w p u g hp).trans h
theorem Has.set (h : Has w g t cs) (i : Nat) (u : Value) : Has (w.setCell ⟨g, i, none⟩ u) g t (cs.setIfInBounds i u) := by
  have h' : w.heap[g]? = some (.cells cs t (0, 0)) := h
  unfold Has
  simp [World.setCell, Array.getElem?_modify, h']
theorem Has.below {B : Nat} (h : Has w g t cs) (hb : Below B w w') (hg : g < B) : Has w' g t cs := (hb.block g hg).trans h
theorem Has.belowS (h : Has w g t cs) (hb : Below w.heap.size w w') : Has w' g t cs := h.below hb h.lt
theorem Has.grown (h : Has w g t cs) {row : Option Nat} (hb : w.grownBy w' row) (hg : some g ≠ row) : Has w' g t cs := (hb.block g h.lt hg).trans h
end
section
variable {w : World} {g g' : Nat} {t : TypeId} {a b c x y z : Value} {cs : Array Value}
theorem Has.set1 (h : Has w g t #[a]) : Has (w.setCell ⟨g, 0, none⟩ x) g t #[x] := h.set 0 x
theorem Has.set2 (h : Has w g t #[a, b]) : Has ((w.setCell ⟨g, 0, none⟩ x).setCell ⟨g, 1, none⟩ y) g t #[x, y] := (h.set 0 x).set 1 y
theorem Has.set3 (h : Has w g t #[a, b, c]) : Has (((w.setCell ⟨g, 0, none⟩ x).setCell ⟨g, 1, none⟩ y).setCell ⟨g, 2, none⟩ z) g t #[x, y, z] := ((h.set 0 x).set 1 y).set 2 z
theorem Has.cells1 (h : Has w g t #[a]) : w.cell? ⟨g, 0, none⟩ = some a := h.cell 0
theorem Has.cells2 (h : Has w g t #[a, b]) : w.cell? ⟨g, 0, none⟩ = some a ∧ w.cell? ⟨g, 1, none⟩ = some b := ⟨h.cell 0, h.cell 1⟩
theorem Has.cells3 (h : Has w g t #[a, b, c]) : w.cell? ⟨g, 0, none⟩ = some a ∧ w.cell? ⟨g, 1, none⟩ = some b ∧ w.cell? ⟨g, 2, none⟩ = some c := ⟨h.cell 0, h.cell 1, h.cell 2⟩
theorem Has.far3 (h : Has w g t cs) (hg : g ≠ g') : Has (((w.setCell ⟨g', 0, none⟩ x).setCell ⟨g', 1, none⟩ y).setCell ⟨g', 2, none⟩ z) g t cs := ((h.far (p := ⟨g', 0, none⟩) hg x).far (p := ⟨g', 1, none⟩) hg y).far (p := ⟨g', 2, none⟩) hg z
end

/-- worlds in which nothing that was there has turned: the class of a drawn region whose operations read, and whose callees make memory at most -/
def Cls (w0 w' : World) : Prop := Below w0.heap.size w0 w'
theorem Cls.refl (w : World) : Cls w w := Below.refl _ _
theorem Cls.start (w : World) : Cls w { w with drawn := w.drawn + 1 } := (Below.refl w.heap.size w).drew
theorem Cls.step {w0 w' w'' : World} (h : Cls w0 w') (hb : Below w'.heap.size w' w'') : Cls w0 w'' := bel_step h hb h.size
theorem Cls.facts {W w1 : World} (h : Cls W w1) : (∀ b o, b < W.heap.size → w1.cell? ⟨b, o, none⟩ = W.cell? ⟨b, o, none⟩) ∧ (∀ b o, b < W.heap.size → w1.frozen? ⟨b, o, none⟩ = W.frozen? ⟨b, o, none⟩) := bcell h
theorem wp_region_cls {P : Program} {id : Nat} {Q : Exit → Act → World → Prop} {a : Act} {w : World} {l : List Oper} (W : World) (hm : P.follows .mixedOrders = true) (hB : Region.lexB .any l.toArray = true) (hC : Cls W { w with drawn := w.drawn + 1 })
    (h : wpQuiet P l.toArray (Cls W) (fun a' => ∀ w', Cls W w' → Q .normal a' w') l a) : (Code.region id l.toArray true).wp P Q a w :=
  wp_region_quiet hm hB hC (by simpa using h)
theorem Cls.bel {W w1 : World} (h : Cls W w1) : Below W.heap.size W w1 := h

theorem ret_int {k : IntKind} {a b : Int} (h : a = b) : Ending.returned (.int k a) = .returned (.int k b) := by rw [h]
theorem ret_bool {a b : Bool} (h : a = b) : Ending.returned (.bool a) = .returned (.bool b) := by rw [h]

end Go.Proofs.YtlkkpgdgnnknpaaDoor
