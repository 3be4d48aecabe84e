/-
  Objects in memory: a block of cells and rows of its own behind them; what a method may turn of it. No program in sight.
-/
import Derived.Test.YtjihboddejaelaaAppend
namespace Go.Proofs.Ytjihboddejaelaa
open Go.RowKit
set_option linter.unusedVariables false
set_option linter.unusedSimpArgs false

/-- a slice of an object's own: its value, and what it reads as -/
structure Row where
  v : Value
  e : TypeId
  size : Nat
  n : Nat
  xs : List Value
def Row.ok (w : World) (r : Row) : Prop := w.ownsRow 0 r.e r.size r.v r.n r.xs
def blks (g : Nat) (rs : List Row) : List (Option Nat) := some g :: rs.map (fun r => r.v.ownBlock)
/-- blocks that are all different -/
def Apart (b : List (Option Nat)) : Prop := b.Pairwise (fun x y => ∀ k, x = some k → y ≠ some k)
structure Ob (w : World) (g : Nat) (t : TypeId) (cs : Array Value) (rs : List Row) : Prop where
  has : Has w g t cs
  rows : ∀ r ∈ rs, r.ok w
  apart : Apart (blks g rs)
/-- blocks b alone have turned, and b' is what they became -/
structure Turn (b b' : List (Option Nat)) (w w' : World) : Prop where
  os : w'.os = w.os
  tape : w'.tape = w.tape
  output : w'.output = w.output
  size : w.heap.size ≤ w'.heap.size
  block : ∀ k, k < w.heap.size → some k ∉ b → w'.heap[k]? = w.heap[k]?
  new : ∀ k, some k ∈ b' → some k ∈ b ∨ w.heap.size ≤ k
def Disj (b c : List (Option Nat)) : Prop := ∀ k, some k ∈ b → some k ∉ c
theorem Disj.symm {b c : List (Option Nat)} (h : Disj b c) : Disj c b := fun k hk h2 => h k h2 hk

section
variable {w w' w1 w2 : World} {b b1 b2 c : List (Option Nat)} {g : Nat} {t : TypeId} {cs : Array Value} {rs : List Row}
theorem Turn.refl (b : List (Option Nat)) (w : World) : Turn b b w w := ⟨rfl, rfl, rfl, Nat.le_refl _, fun _ _ _ => rfl, fun _ h => .inl h⟩
theorem Turn.trans (h : Turn b b1 w w1) (k : Turn b1 b2 w1 w2) : Turn b b2 w w2 := by
  refine ⟨k.os.trans h.os, k.tape.trans h.tape, k.output.trans h.output, Nat.le_trans h.size k.size, fun i hi hn => ?_, fun i hi => ?_⟩
  · refine (k.block i (Nat.lt_of_lt_of_le hi h.size) (fun h2 => ?_)).trans (h.block i hi hn)
    rcases h.new i h2 with h3 | h3
    · exact hn h3
    · omega
  · rcases k.new i hi with h3 | h3
    · exact h.new i h3
    · exact .inr (Nat.le_trans h.size h3)
theorem Turn.below (b : List (Option Nat)) (hb : Below w.heap.size w w') : Turn b b w w' := ⟨hb.os, hb.tape, hb.output, hb.size, fun k hk _ => hb.block k hk, fun _ h => .inl h⟩
theorem Turn.bel {B : Nat} {a : World} (h : Turn b b1 w w1) (hb : Below B a w) (hB : ∀ k, some k ∈ b → B ≤ k) (hBw : B ≤ w.heap.size) : Below B a w1 :=
  hb.trans ⟨h.os, h.tape, h.output, h.size, fun k hk => h.block k (Nat.lt_of_lt_of_le hk hBw) (fun h2 => by have := hB k h2; omega)⟩
theorem Turn.low {B : Nat} (h : Turn b b1 w w1) (hB : ∀ k, some k ∈ b → B ≤ k) (hBw : B ≤ w.heap.size) : ∀ k, some k ∈ b1 → B ≤ k := fun k hk => by
  rcases h.new k hk with h2 | h2
  · exact hB k h2
  · omega
theorem Ob.lt (h : Ob w g t cs rs) {k : Nat} (hk : some k ∈ blks g rs) : k < w.heap.size := by
  rcases List.mem_cons.1 hk with e | hk
  · cases e; exact h.has.lt
  · obtain ⟨r, hr, e⟩ := List.mem_map.1 hk
    exact ((h.rows r hr).lt k e).2
theorem own_blocks {e : TypeId} {size n : Nat} {v : Value} {xs : List Value} (h : w.ownsRow 0 e size v n xs) (hb : ∀ k, v.ownBlock = some k → w'.heap[k]? = w.heap[k]?) : w'.ownsRow 0 e size v n xs := by
  refine ⟨h.1, ?_⟩
  rcases h.2 with h | ⟨g, cap, cur, hv, hbg, hg, r⟩
  · exact .inl h
  · exact .inr ⟨g, cap, cur, hv, hbg, (hb g (by rw [hv]; rfl)).trans hg, r⟩
/-- an object whose blocks have not turned -/
theorem Ob.kept (h : Ob w g t cs rs) (hb : ∀ k, some k ∈ blks g rs → w'.heap[k]? = w.heap[k]?) : Ob w' g t cs rs :=
  ⟨(hb g (List.mem_cons_self ..)).trans h.has, fun r hr => own_blocks (h.rows r hr) fun k hk => hb k (List.mem_cons_of_mem _ (List.mem_map.2 ⟨r, hr, hk⟩)), h.apart⟩
theorem Ob.far (h : Ob w g t cs rs) (ht : Turn b b1 w w1) (hd : Disj b (blks g rs)) : Ob w1 g t cs rs := h.kept fun k hk => ht.block k (h.lt hk) (fun h2 => hd k h2 hk)
theorem Ob.disj (h : Ob w g t cs rs) (ht : Turn b b1 w w1) (hd : Disj b (blks g rs)) : Disj b1 (blks g rs) := fun k hk h2 => by
  rcases ht.new k hk with h3 | h3
  · exact hd k h3 h2
  · have := h.lt h2; omega
theorem Ob.below (h : Ob w g t cs rs) (hb : Below w.heap.size w w') : Ob w' g t cs rs := h.kept fun k hk => hb.block k (h.lt hk)
theorem Ob.alloc (h : Ob w g t cs rs) (o : Obj) : Ob (w.alloc o) g t cs rs := h.below ((Below.refl _ _).alloc (Nat.le_refl _) _)
theorem apart_head (h : Apart (blks g rs)) {r : Row} (hr : r ∈ rs) : r.v.ownBlock ≠ some g := by
  obtain ⟨h1, _⟩ := List.pairwise_cons.1 h
  exact h1 r.v.ownBlock (List.mem_map.2 ⟨r, hr, rfl⟩) g rfl
/-- a cell of the object's own block is stored -/
theorem Ob.set (h : Ob w g t cs rs) (i : Nat) (u : Value) : Ob (w.setCell ⟨g, i, none⟩ u) g t (cs.setIfInBounds i u) rs :=
  ⟨h.has.set i u, fun r hr => own_blocks (h.rows r hr) fun k hk => Below.heap_setCell _ _ _ _ (fun e => apart_head h.apart hr (by rw [hk]; exact congrArg some e)), h.apart⟩
theorem Turn.set (g : Nat) (rs : List Row) (i : Nat) (u : Value) (w : World) : Turn (blks g rs) (blks g rs) w (w.setCell ⟨g, i, none⟩ u) :=
  ⟨rfl, rfl, rfl, by simp [World.setCell], fun k _ hk => Below.heap_setCell _ _ _ _ (fun e => hk (by rw [show k = g from e]; exact List.mem_cons_self ..)), fun _ h => .inl h⟩
/-- one row turns: it is written to, or another one stands in its place -/
theorem Ob.row0 (h : Ob w g t cs rs) (i : Nat) {r r' : Row} (hr : rs[i]? = some r) (hg : w.grownBy w' r.v.ownBlock) (hr' : r'.ok w') (hnew : ∀ k, r'.v.ownBlock = some k → r.v.ownBlock = some k ∨ some k ∉ blks g rs) :
    Ob w' g t cs (rs.set i r') := by
  have hmem : r ∈ rs := List.mem_of_getElem? hr
  obtain ⟨hi, hri⟩ := List.getElem?_eq_some_iff.1 hr
  have hap := h.apart
  have hin : ∀ x, x ∈ rs → ∀ k, x.v.ownBlock = some k → some k ∈ blks g rs := fun x hx k hk => List.mem_cons_of_mem _ (List.mem_map.2 ⟨x, hx, hk⟩)
  have hget : ∀ j x, (rs.set i r')[j]? = some x → (j = i ∧ x = r') ∨ (j ≠ i ∧ rs[j]? = some x) := fun j x hj => by
    rw [List.getElem?_set] at hj
    split at hj
    · rename_i e; subst e
      first
        | (cases hj; exact .inl ⟨rfl, rfl⟩)
        | (split at hj
           · cases hj; exact .inl ⟨rfl, rfl⟩
           · cases hj)
    · rename_i e; exact .inr ⟨fun e2 => e e2.symm, hj⟩
  have hpair : ∀ j x, rs[j]? = some x → j ≠ i → ∀ k, x.v.ownBlock = some k → r.v.ownBlock ≠ some k := fun j x hj hji k hk e => by
    have hp := (List.pairwise_cons.1 hap).2
    rw [List.pairwise_map] at hp
    obtain ⟨hj1, hj2⟩ := List.getElem?_eq_some_iff.1 hj
    rcases Nat.lt_or_ge j i with h1 | h1
    · have := List.pairwise_iff_getElem.1 hp j i hj1 hi h1
      rw [hj2, hri] at this
      exact this k hk e
    · have := List.pairwise_iff_getElem.1 hp i j hi hj1 (by omega)
      rw [hj2, hri] at this
      exact this k e hk
  have hgr : r.v.ownBlock ≠ some g := apart_head hap hmem
  refine ⟨(hg.block g h.has.lt (fun e => hgr e.symm)).trans h.has, fun x hx => ?_, ?_⟩
  · obtain ⟨j, hj⟩ := List.getElem?_of_mem hx
    rcases hget j x hj with ⟨_, rfl⟩ | ⟨hji, hj2⟩
    · exact hr'
    · have hm2 : x ∈ rs := List.mem_of_getElem? hj2
      exact own_blocks (h.rows x hm2) fun k hk => hg.block k ((h.rows x hm2).lt k hk).2 (fun e => hpair j x hj2 hji k hk e.symm)
  · refine List.pairwise_cons.2 ⟨fun y hy k hk => ?_, ?_⟩
    · cases hk
      obtain ⟨x, hx, rfl⟩ := List.mem_map.1 hy
      obtain ⟨j, hj⟩ := List.getElem?_of_mem hx
      rcases hget j x hj with ⟨_, rfl⟩ | ⟨_, hj2⟩
      · intro e
        rcases hnew _ e with h2 | h2
        · exact hgr h2
        · exact h2 (List.mem_cons_self ..)
      · exact apart_head hap (List.mem_of_getElem? hj2)
    · rw [List.pairwise_map, List.pairwise_iff_getElem]
      intro j1 j2 h1 h2 hlt k hk e
      have g1 := hget j1 _ (List.getElem?_eq_getElem h1)
      have g2 := hget j2 _ (List.getElem?_eq_getElem h2)
      generalize (rs.set i r')[j1] = x1 at *
      generalize (rs.set i r')[j2] = x2 at *
      rcases g1 with ⟨e1, rfl⟩ | ⟨n1, q1⟩
      · rcases g2 with ⟨e2, rfl⟩ | ⟨n2, q2⟩
        · omega
        · rcases hnew k hk with h3 | h3
          · exact hpair j2 x2 q2 n2 k e h3
          · exact h3 (hin x2 (List.mem_of_getElem? q2) k e)
      · rcases g2 with ⟨e2, rfl⟩ | ⟨n2, q2⟩
        · rcases hnew k e with h3 | h3
          · exact hpair j1 x1 q1 n1 k hk h3
          · exact h3 (hin x1 (List.mem_of_getElem? q1) k hk)
        · have hp := (List.pairwise_cons.1 hap).2
          rw [List.pairwise_map] at hp
          obtain ⟨hj1, hj2⟩ := List.getElem?_eq_some_iff.1 q1
          obtain ⟨hk1, hk2⟩ := List.getElem?_eq_some_iff.1 q2
          have := List.pairwise_iff_getElem.1 hp j1 j2 hj1 hk1 hlt
          rw [hj2, hk2] at this
          exact this k hk e
theorem blks_set (rs : List Row) (i : Nat) (r' : Row) {k : Nat} (hk : some k ∈ blks g (rs.set i r')) : some k ∈ blks g rs ∨ r'.v.ownBlock = some k := by
  rcases List.mem_cons.1 hk with e | hk
  · exact .inl (e ▸ List.mem_cons_self ..)
  · obtain ⟨x, hx, e⟩ := List.mem_map.1 hk
    rcases List.mem_or_eq_of_mem_set hx with h | h
    · exact .inl (List.mem_cons_of_mem _ (List.mem_map.2 ⟨x, h, e⟩))
    · exact .inr (h ▸ e)
theorem Ob.row (h : Ob w g t cs rs) (i : Nat) {r r' : Row} (hr : rs[i]? = some r) (hg : w.grownBy w' r.v.ownBlock) (hr' : r'.ok w') (hat : r'.v.ownBlock = r.v.ownBlock ∨ ∀ k, r'.v.ownBlock = some k → w.heap.size ≤ k) :
    Ob w' g t cs (rs.set i r') ∧ Turn (blks g rs) (blks g (rs.set i r')) w w' := by
  have hmem : r ∈ rs := List.mem_of_getElem? hr
  have hnew : ∀ k, r'.v.ownBlock = some k → r.v.ownBlock = some k ∨ w.heap.size ≤ k := fun k hk => by
    rcases hat with e | e
    · exact .inl (e ▸ hk)
    · exact .inr (e k hk)
  refine ⟨h.row0 i hr hg hr' fun k hk => (hnew k hk).imp id fun h2 h3 => by have := h.lt h3; omega, ⟨hg.os, hg.tape, hg.output, hg.size, fun k hk hn => hg.block k hk (fun e => hn ?_), fun k hk => ?_⟩⟩
  · exact List.mem_cons_of_mem _ (List.mem_map.2 ⟨r, hmem, e.symm⟩)
  · rcases blks_set rs i r' hk with h2 | h2
    · exact .inl h2
    · rcases hnew k h2 with h3 | h3
      · exact .inl (List.mem_cons_of_mem _ (List.mem_map.2 ⟨r, hmem, h3⟩))
      · exact .inr h3
/-- another row, which lies beside the object, comes in the place of one -/
theorem Ob.swap (h : Ob w g t cs rs) (i : Nat) {r r' : Row} (hr : rs[i]? = some r) (hr' : r'.ok w) (hn : ∀ k, r'.v.ownBlock = some k → some k ∉ blks g rs) : Ob w g t cs (rs.set i r') :=
  h.row0 i hr (grownBy_refl _ _) hr' fun k hk => .inr (hn k hk)
theorem Turn.swap {w0 : World} (ht : Turn b (blks g rs) w0 w) (i : Nat) {r' : Row} (hlow : ∀ k, r'.v.ownBlock = some k → w0.heap.size ≤ k) : Turn b (blks g (rs.set i r')) w0 w :=
  ⟨ht.os, ht.tape, ht.output, ht.size, ht.block, fun k hk => by
    rcases blks_set rs i r' hk with h2 | h2
    · exact ht.new k h2
    · exact .inr (hlow k h2)⟩
theorem own_mono0 {w : World} {b : Nat} {e : TypeId} {size : Nat} {v : Value} {n : Nat} {xs : List Value} (h : w.ownsRow b e size v n xs) : w.ownsRow 0 e size v n xs := by
  refine ⟨h.1, ?_⟩
  rcases h.2 with h | ⟨g, cap, cur, hv, hbg, r⟩
  · exact .inl h
  · exact .inr ⟨g, cap, cur, hv, Nat.zero_le _, r⟩
theorem grownBy_weak {r : Option Nat} (h : w.grownBy w' none) : w.grownBy w' r := ⟨h.os, h.tape, h.output, h.size, fun k hk _ => h.block k hk (by simp)⟩
end

end Go.Proofs.Ytjihboddejaelaa
