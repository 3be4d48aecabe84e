/-
  Words on memory that every contract here leans on: a block that is known whole, kept over draws, new blocks, stores and calls. No program in sight.
-/
import Derived.Below
import Derived.Laws.Rows
import Derived.Laws.OwnMore
import Derived.Deep.Draws
import Derived.Lib.Hide
import Derived.Deep.Quiet
import Derived.Deep.QuietTactic
import Derived.Deep.AppendSrc
import Derived.WalkKit
import Derived.Laws.CopyRow
import Derived.Test.YtjihboddejaelaaRows
import Derived.WalkSpells
import Derived.WalkLawsBesides
import Derived.BigQuiet
import Derived.Outline
import Derived.LoopTactic
import Derived.Deep.DeepCutAuto
import Derived.Deep.AppendLies
import Derived.Laws.BitsAllLaws
import Derived.Laws.CopyOwn
import Derived.Laws.BytesArg
import Derived.IntWalk
import Derived.Laws.MakeOwn
import Derived.Deep.RegionLaw
import Derived.Laws.IdiomStrings
import Derived.Lib.Strings
namespace Go.Proofs.Ytjihboddejaelaa
set_option linter.unusedVariables false
set_option linter.unusedSimpArgs false
open Go.RowKit
set_option linter.unusedVariables false
set_option linter.unusedSimpArgs false

theorem bel_step {B : Nat} {w W w1 : World} (h : Below B w W) (hb : Below W.heap.size W w1) (hB : B ≤ W.heap.size) : Below B w w1 := h.trans (hb.mono hB)
theorem bcell {W w1 : World} (hb : Below W.heap.size W w1) : (∀ b o, b < W.heap.size → w1.cell? ⟨b, o, none⟩ = W.cell? ⟨b, o, none⟩) ∧ (∀ b o, b < W.heap.size → w1.frozen? ⟨b, o, none⟩ = W.frozen? ⟨b, o, none⟩) :=
  ⟨fun b o h => hb.cell (p := ⟨b, o, none⟩) h, fun b o h => hb.frozen (p := ⟨b, o, none⟩) h⟩

/-- block g is just these cells, none of them frozen -/
def Has (w : World) (g : Nat) (t : TypeId) (cs : Array Value) : Prop := w.heap[g]? = some (.cells cs t (0, 0))

section
variable {w w' : World} {g : Nat} {t : TypeId} {cs : Array Value}
theorem Has.lt (h : Has w g t cs) : g < w.heap.size := by
  rcases Nat.lt_or_ge g w.heap.size with h1 | h1
  · exact h1
  · exact absurd h (by unfold Has; rw [Array.getElem?_eq_none h1]; simp)
theorem Has.cell (h : Has w g t cs) (i : Nat) : w.cell? ⟨g, i, none⟩ = cs[i]? := cell_of_row w g i cs t (0, 0) h
theorem Has.frozen (h : Has w g t cs) (i : Nat) : w.frozen? ⟨g, i, none⟩ = false := by
  have h' : w.heap[g]? = some (.cells cs t (0, 0)) := h
  simp [World.frozen?, h']
theorem Has.new (w : World) (t : TypeId) (cs : Array Value) : Has (w.alloc (.cells cs t)) w.heap.size t cs := by
  show (w.heap.push _)[w.heap.size]? = _
  simp
theorem Has.alloc (h : Has w g t cs) (o : Obj) : Has (w.alloc o) g t cs := (Below.heap_alloc w o g h.lt).trans h
theorem Has.drew (h : Has w g t cs) : Has w.drew g t cs := h
theorem Has.drewN (h : Has w g t cs) (n : Nat) : Has (w.drewN n) g t cs := h
theorem Has.far (h : Has w g t cs) {p : Addr} (hp : g ≠ p.block) (u : Value) : Has (w.setCell p u) g t cs := (Below.heap_setCell w p u g hp).trans h
theorem Has.set (h : Has w g t cs) (i : Nat) (u : Value) : Has (w.setCell ⟨g, i, none⟩ u) g t (cs.setIfInBounds i u) := by
  have h' : w.heap[g]? = some (.cells cs t (0, 0)) := h
  unfold Has
  simp [World.setCell, Array.getElem?_modify, h']
theorem Has.below {B : Nat} (h : Has w g t cs) (hb : Below B w w') (hg : g < B) : Has w' g t cs := (hb.block g hg).trans h
theorem Has.belowS (h : Has w g t cs) (hb : Below w.heap.size w w') : Has w' g t cs := h.below hb h.lt
theorem Has.grown (h : Has w g t cs) {row : Option Nat} (hb : w.grownBy w' row) (hg : some g ≠ row) : Has w' g t cs := (hb.block g h.lt hg).trans h
end
section
variable {w : World} {g g' : Nat} {t : TypeId} {a b c x y z : Value} {cs : Array Value}
theorem Has.set1 (h : Has w g t #[a]) : Has (w.setCell ⟨g, 0, none⟩ x) g t #[x] := h.set 0 x
theorem Has.set2 (h : Has w g t #[a, b]) : Has ((w.setCell ⟨g, 0, none⟩ x).setCell ⟨g, 1, none⟩ y) g t #[x, y] := (h.set 0 x).set 1 y
theorem Has.set3 (h : Has w g t #[a, b, c]) : Has (((w.setCell ⟨g, 0, none⟩ x).setCell ⟨g, 1, none⟩ y).setCell ⟨g, 2, none⟩ z) g t #[x, y, z] := ((h.set 0 x).set 1 y).set 2 z
theorem Has.cells1 (h : Has w g t #[a]) : w.cell? ⟨g, 0, none⟩ = some a := h.cell 0
theorem Has.cells2 (h : Has w g t #[a, b]) : w.cell? ⟨g, 0, none⟩ = some a ∧ w.cell? ⟨g, 1, none⟩ = some b := ⟨h.cell 0, h.cell 1⟩
theorem Has.cells3 (h : Has w g t #[a, b, c]) : w.cell? ⟨g, 0, none⟩ = some a ∧ w.cell? ⟨g, 1, none⟩ = some b ∧ w.cell? ⟨g, 2, none⟩ = some c := ⟨h.cell 0, h.cell 1, h.cell 2⟩
theorem Has.far3 (h : Has w g t cs) (hg : g ≠ g') : Has (((w.setCell ⟨g', 0, none⟩ x).setCell ⟨g', 1, none⟩ y).setCell ⟨g', 2, none⟩ z) g t cs := ((h.far (p := ⟨g', 0, none⟩) hg x).far (p := ⟨g', 1, none⟩) hg y).far (p := ⟨g', 2, none⟩) hg z
end

/-- worlds in which nothing that was there has turned: the class of a drawn region whose operations read, and whose callees make memory at most -/
def Cls (w0 w' : World) : Prop := Below w0.heap.size w0 w'
theorem Cls.refl (w : World) : Cls w w := Below.refl _ _
theorem Cls.start (w : World) : Cls w { w with drawn := w.drawn + 1 } := (Below.refl w.heap.size w).drew
theorem Cls.step {w0 w' w'' : World} (h : Cls w0 w') (hb : Below w'.heap.size w' w'') : Cls w0 w'' := bel_step h hb h.size
theorem Cls.facts {W w1 : World} (h : Cls W w1) : (∀ b o, b < W.heap.size → w1.cell? ⟨b, o, none⟩ = W.cell? ⟨b, o, none⟩) ∧ (∀ b o, b < W.heap.size → w1.frozen? ⟨b, o, none⟩ = W.frozen? ⟨b, o, none⟩) := bcell h
theorem wp_region_cls {P : Program} {id : Nat} {Q : Exit → Act → World → Prop} {a : Act} {w : World} {l : List Oper} (W : World) (hm : P.follows .mixedOrders = true) (hB : Region.lexB .any l.toArray = true) (hC : Cls W { w with drawn := w.drawn + 1 })
    (h : wpQuiet P l.toArray (Cls W) (fun a' => ∀ w', Cls W w' → Q .normal a' w') l a) : (Code.region id l.toArray true).wp P Q a w :=
  wp_region_quiet hm hB hC (by simpa using h)
theorem Cls.bel {W w1 : World} (h : Cls W w1) : Below W.heap.size W w1 := h

theorem ret_int {k : IntKind} {a b : Int} (h : a = b) : Ending.returned (.int k a) = .returned (.int k b) := by rw [h]
theorem ret_bool {a b : Bool} (h : a = b) : Ending.returned (.bool a) = .returned (.bool b) := by rw [h]

end Go.Proofs.Ytjihboddejaelaa

/-
  append onto a slice of the call's own, from whatever source (a slice, a nil slice, a string): one law at a list of operations. No program in sight.
-/
namespace Go.Proofs.Ytjihboddejaelaa
set_option linter.unusedVariables false
set_option linter.unusedSimpArgs false
open Go.RowKit
set_option linter.unusedVariables false
set_option linter.unusedSimpArgs false

section
variable {P : Program} (w : World)

theorem run_append_src_own (base : Nat) (t tx ty e : TypeId) (i : TypeInfo) (z : Value) (size bytes : Nat) (ht : P.underlying t = some (.slice e)) (hi : P.info? e = some i) (hz : i.zero = some z)
    (hsize : i.size = size) (hby : i.bytes = bytes) (hzs : z.cells.size = size) (hsz : 0 < size)
    (v : Value) (n : Nat) (xs : List Value) (hown : w.ownsRow base e size v n xs)
    (x : Value) (m : Nat) (news : List Value) (hs : Src P size tx x m news w)
    (h63 : n + m ≤ maxLen) (hbytes : (n + m) * bytes ≤ 140737488355328) (hbase : base ≤ w.heap.size) :
    ∃ v' w', (Builtin.append_ #[t, tx] ty #[v, x]).run P w = .ok v' w' ∧ w'.ownsRow base e size v' (n + m) (xs ++ news) ∧ w.grownBy w' v.ownBlock ∧
      (v' = .slice none 0 0 ↔ v = .slice none 0 0 ∧ m = 0) ∧ (v'.ownBlock = v.ownBlock ∨ v'.ownBlock = some w.heap.size) := by
  subst hsize
  subst hby
  have hl := hs.newsLen
  have hsmall : n + m ≤ 9223372036854775807 := by simp only [maxLen] at h63; omega
  have hlen : (xs ++ news).length = (n + m) * i.size := by rw [List.length_append, hown.1, hl, Nat.add_mul]
  have grown : ∀ (old : Nat), old < n + m → ∀ (row : Option Nat),
      (w.drew.alloc (.cells ((xs ++ news).toArray ++ Builtin.zeroCells z.cells (grownCap w (n + m) old e - (n + m))) e)).ownsRow base e i.size
        (.slice (some ⟨w.heap.size, 0, none⟩) (n + m) (grownCap w (n + m) old e)) (n + m) (xs ++ news) ∧
      w.grownBy (w.drew.alloc (.cells ((xs ++ news).toArray ++ Builtin.zeroCells z.cells (grownCap w (n + m) old e - (n + m))) e)) row := by
    intro old ho row
    have hge := grownCap_ge w (n + m) old e
    have hcm : grownCap w (n + m) old e ≤ maxLen := grownCap_le_maxLen w (n + m) old e h63
    refine ⟨⟨hlen, .inr ⟨w.heap.size, _, _, rfl, hbase, heap_alloc_new w.drew _, hge, hcm, ?_, ?_⟩⟩, ⟨rfl, rfl, rfl, by simp, fun k hk _ => Below.heap_alloc w.drew _ k hk⟩⟩
    · rw [Array.size_append, List.size_toArray, size_zeroCells, hzs, hlen, ← Nat.add_mul]
      congr 1
      omega
    · rw [Array.toList_append, ← hlen]
      exact List.take_left
  rcases hown.2 with ⟨rfl, rfl⟩ | ⟨g, cap, cur, rfl, hbg, hg, hnc, hcm, hcs, htake⟩
  · have hx : xs = [] := List.eq_nil_of_length_eq_zero (by simpa using hown.1)
    subst hx
    by_cases hm : m = 0
    · subst hm
      have hn : news = [] := List.eq_nil_of_length_eq_zero (by simpa using hl)
      subst hn
      refine ⟨.slice none 0 0, w, ?_, World.ownsRow_nil w base e i.size, ⟨rfl, rfl, rfl, Nat.le_refl _, fun _ _ _ => rfl⟩, by simp, Or.inl rfl⟩
      rcases hs.kind with ⟨e', hk⟩ | hk <;> simp [Builtin.append_, run_underlying ht, run_underlying hk, sizeOf, typeInfo, hi, hs.len, hs.cells]
    · have hr := run_append_grow_src (P := P) w t tx ty e i z ht hi hz none 0 0 [] (by simp [Builtin.firstCells]) x m news hs (by omega) (by omega) (growslice_fits (by omega) hbytes)
      have hgr := grown 0 (by omega) (Value.ownBlock (.slice none 0 0))
      exact ⟨_, _, hr, hgr.1, hgr.2, by simp [hm], Or.inr rfl⟩
  · by_cases hroom : n + m ≤ cap
    · have hfit : n * i.size + news.length ≤ cur.size := by rw [hl, hcs, ← Nat.add_mul]; exact Nat.mul_le_mul_right _ hroom
      have hst := run_storeCells_at P g (n * i.size) e news 0 cur w hg (by simpa using hfit) hs.one
      simp only [Nat.add_zero] at hst
      have hr : (Builtin.append_ #[t, tx] ty #[.slice (some ⟨g, 0, none⟩) n cap, x]).run P w =
          .ok (.slice (some ⟨g, 0, none⟩) (n + m) cap) (w.setRow g (cur.toList.take (n * i.size) ++ news ++ cur.toList.drop (n * i.size + news.length)).toArray) := by
        rcases hs.kind with ⟨e', hk⟩ | hk <;> simp [Builtin.append_, run_underlying ht, run_underlying hk, sizeOf, typeInfo, hi, hs.len, hroom, hs.cells, Addr.add_lit, hst]
      refine ⟨_, _, hr, ⟨hlen, .inr ⟨g, cap, _, rfl, hbg, setRow_heap w g cur _ e _ hg, hroom, hcm, ?_, ?_⟩⟩, ⟨rfl, rfl, rfl, by simp, fun k _ hk => setRow_other w g k _ (fun e => hk (by simp [Value.ownBlock, e]))⟩, by simp, Or.inl rfl⟩
      · simp only [List.size_toArray, List.length_append, List.length_take, List.length_drop, Array.length_toList]
        omega
      · rw [htake, ← hlen]
        exact List.take_left
    · have holds : ∀ j u, xs[j]? = some u → w.drew.cell? ((⟨g, 0, none⟩ : Addr).add j) = some u := fun j u hj => by
        have := hown.cells (g := g) rfl j u hj
        simpa using this
      have hr := run_append_grow_src (P := P) w t tx ty e i z ht hi hz (some ⟨g, 0, none⟩) n cap xs (run_firstCells_some w.drew i.size n _ n cap xs hown.1 holds) x m news hs (by omega) (by omega) (growslice_fits (by omega) hbytes)
      have hgr := grown cap (by omega) (Value.ownBlock (.slice (some ⟨g, 0, none⟩) n cap))
      exact ⟨_, _, hr, hgr.1, hgr.2, by simp, Or.inr rfl⟩

theorem wp_append_src {o : Oper} {a : Act} {K : Act → World → Prop} {Q : Exit → Act → World → Prop} (s x : Operand) (t tx : TypeId)
    (ho : o.op = .call { callee := .builtin .append, args := #[s, x], argTypes := #[t, tx] })
    (base : Nat) (e : TypeId) (i : TypeInfo) (z : Value) (size bytes : Nat) (ht : P.underlying t = some (.slice e)) (hi : P.info? e = some i) (hz : i.zero = some z)
    (hsize : i.size = size) (hby : i.bytes = bytes) (hzs : z.cells.size = size) (hsz : 0 < size)
    (v : Value) (n : Nat) (xs : List Value) (hs : a.eval s = v) (hown : w.ownsRow base e size v n xs)
    (y : Value) (m : Nat) (news : List Value) (hx : a.eval x = y) (hsrc : Src P size tx y m news w)
    (h63 : n + m ≤ maxLen) (hbytes : (n + m) * bytes ≤ 140737488355328) (hbase : base ≤ w.heap.size)
    (h : ∀ v' w', w'.ownsRow base e size v' (n + m) (xs ++ news) → w.grownBy w' v.ownBlock → (v' = .slice none 0 0 ↔ v = .slice none 0 0 ∧ m = 0) → (v'.ownBlock = v.ownBlock ∨ v'.ownBlock = some w.heap.size) → K (a.put o.dst v') w') : o.wp P a w K Q := by
  obtain ⟨v', w', hr, h2, h3, h4, h5⟩ := run_append_src_own (P := P) w base t tx o.type e i z size bytes ht hi hz hsize hby hzs hsz v n xs hown y m news hsrc h63 hbytes hbase
  unfold Oper.wp execOp
  simp only [ho, resolve, invoke, builtin, Sem.run_bind, Sem.run_pure, Result.andThen_ok, List.map_toArray, List.map_cons, List.map_nil, hs, hx, hr]
  exact h v' w' h2 h3 h4 h5

theorem wpList_append_src {ops : Array Oper} {rest : List Oper} {o : Oper} {a : Act} {Q : Exit → Act → World → Prop} (hgd : o.guard = none) (s x : Operand) (t tx : TypeId)
    (ho : o.op = .call { callee := .builtin .append, args := #[s, x], argTypes := #[t, tx] })
    (base : Nat) (e : TypeId) (i : TypeInfo) (z : Value) (size bytes : Nat) (ht : P.underlying t = some (.slice e)) (hi : P.info? e = some i) (hz : i.zero = some z)
    (hsize : i.size = size) (hby : i.bytes = bytes) (hzs : z.cells.size = size) (hsz : 0 < size)
    (v : Value) (n : Nat) (xs : List Value) (hs : a.eval s = v) (hown : w.ownsRow base e size v n xs)
    (y : Value) (m : Nat) (news : List Value) (hx : a.eval x = y) (hsrc : Src P size tx y m news w)
    (h63 : n + m ≤ maxLen) (hbytes : (n + m) * bytes ≤ 140737488355328) (hbase : base ≤ w.heap.size)
    (h : ∀ v' w', w'.ownsRow base e size v' (n + m) (xs ++ news) → w.grownBy w' v.ownBlock → (v' = .slice none 0 0 ↔ v = .slice none 0 0 ∧ m = 0) → (v'.ownBlock = v.ownBlock ∨ v'.ownBlock = some w.heap.size) → wpList P ops Q rest (a.put o.dst v') w') : wpList P ops Q (o :: rest) a w :=
  wpList_plain hgd fun _ hK => wp_append_src w s x t tx ho base e i z size bytes ht hi hz hsize hby hzs hsz v n xs hs hown y m news hx hsrc h63 hbytes hbase fun v' w' h2 h3 h4 h5 => hK _ _ (h v' w' h2 h3 h4 h5)
end

theorem grownBy_trans {w w1 w2 : World} {r : Option Nat} (h : w.grownBy w1 r) (k : w1.grownBy w2 r) : w.grownBy w2 r :=
  ⟨k.os.trans h.os, k.tape.trans h.tape, k.output.trans h.output, Nat.le_trans h.size k.size, fun i hi hn => (k.block i (Nat.lt_of_lt_of_le hi h.size) hn).trans (h.block i hi hn)⟩
theorem grownBy_setCell {w : World} (p : Addr) (u : Value) : w.grownBy (w.setCell p u) (some p.block) :=
  ⟨rfl, rfl, rfl, by simp [World.setCell], fun k hk hn => Below.heap_setCell _ _ _ _ (fun e => hn (by rw [e]))⟩
theorem grownBy_below {w w1 w2 : World} {r : Option Nat} (h : w.grownBy w1 r) (k : Below w1.heap.size w1 w2) : w.grownBy w2 r :=
  ⟨k.os.trans h.os, k.tape.trans h.tape, k.output.trans h.output, Nat.le_trans h.size k.size, fun i hi hn => (k.block i (Nat.lt_of_lt_of_le hi h.size)).trans (h.block i hi hn)⟩
theorem below_grownBy {w w1 : World} {r : Option Nat} (h : Below w.heap.size w w1) : w.grownBy w1 r := ⟨h.os, h.tape, h.output, h.size, fun i hi _ => h.block i hi⟩
theorem grownBy_refl (w : World) (r : Option Nat) : w.grownBy w r := ⟨rfl, rfl, rfl, Nat.le_refl _, fun _ _ _ => rfl⟩

end Go.Proofs.Ytjihboddejaelaa

/-
  append onto a slice that is full: nothing that was there turns. No program in sight.
-/
namespace Go.Proofs.Ytjihboddejaelaa
set_option linter.unusedVariables false
set_option linter.unusedSimpArgs false
open Go.RowKit
set_option linter.unusedVariables false
set_option linter.unusedSimpArgs false

section
variable {P : Program} (w : World)
theorem run_append_full (base : Nat) (t tx ty e : TypeId) (i : TypeInfo) (z : Value) (size bytes : Nat) (ht : P.underlying t = some (.slice e)) (hi : P.info? e = some i) (hz : i.zero = some z)
    (hsize : i.size = size) (hby : i.bytes = bytes) (hzs : z.cells.size = size)
    (g n : Nat) (xs : List Value) (hown : w.ownsRow base e size (.slice (some ⟨g, 0, none⟩) n n) n xs)
    (x : Value) (m : Nat) (news : List Value) (hs : Src P size tx x m news w)
    (h63 : n + m ≤ maxLen) (hbytes : (n + m) * bytes ≤ 140737488355328) (hbase : base ≤ w.heap.size) :
    ∃ v' w', (Builtin.append_ #[t, tx] ty #[.slice (some ⟨g, 0, none⟩) n n, x]).run P w = .ok v' w' ∧ w'.ownsRow base e size v' (n + m) (xs ++ news) ∧ Below w.heap.size w w' := by
  subst hsize
  subst hby
  have hl := hs.newsLen
  have hsmall : n + m ≤ 9223372036854775807 := by simp only [maxLen] at h63; omega
  have hlen : (xs ++ news).length = (n + m) * i.size := by rw [List.length_append, hown.1, hl, Nat.add_mul]
  rcases hown.2 with ⟨h, _⟩ | ⟨g', cap, cur, h, hbg, hg, hnc, hcm, hcs, htake⟩
  · cases h
  · cases h
    by_cases hm : m = 0
    · subst hm
      have hn : news = [] := List.eq_nil_of_length_eq_zero (by simpa using hl)
      subst hn
      have hst := run_storeCells_at P g (n * i.size) e [] 0 cur w hg (by simp [hcs]) hs.one
      simp only [Nat.add_zero] at hst
      have hself : (cur.toList.take (n * i.size) ++ [] ++ cur.toList.drop (n * i.size + 0)).toArray = cur := by
        rw [List.append_nil, Nat.add_zero, List.take_append_drop]
      simp only [List.length_nil, hself, setRow_self w g cur e (0, 0) hg] at hst
      have hr : (Builtin.append_ #[t, tx] ty #[.slice (some ⟨g, 0, none⟩) n n, x]).run P w = .ok (.slice (some ⟨g, 0, none⟩) (n + 0) n) w := by
        rcases hs.kind with ⟨e', hk⟩ | hk <;> simp [Builtin.append_, run_underlying ht, run_underlying hk, sizeOf, typeInfo, hi, hs.len, hs.cells, Addr.add_lit, hst]
      exact ⟨_, _, hr, by simpa using hown, Below.refl _ _⟩
    · have hge := grownCap_ge w (n + m) n e
      have hcm' : grownCap w (n + m) n e ≤ maxLen := grownCap_le_maxLen w (n + m) n e h63
      have holds : ∀ j u, xs[j]? = some u → w.drew.cell? ((⟨g, 0, none⟩ : Addr).add j) = some u := fun j u hj => by
        have := hown.cells (g := g) rfl j u hj
        simpa using this
      have hr := run_append_grow_src (P := P) w t tx ty e i z ht hi hz (some ⟨g, 0, none⟩) n n xs (run_firstCells_some w.drew i.size n _ n n xs hown.1 holds) x m news hs (by omega) (by omega) (growslice_fits (by omega) hbytes)
      refine ⟨_, _, hr, ⟨hlen, .inr ⟨w.heap.size, _, _, rfl, hbase, heap_alloc_new w.drew _, hge, hcm', ?_, ?_⟩⟩, (Below.refl _ _).drew.alloc (Nat.le_refl _) _⟩
      · rw [Array.size_append, List.size_toArray, size_zeroCells, hzs, hlen, ← Nat.add_mul]
        congr 1
        omega
      · rw [Array.toList_append, ← hlen]
        exact List.take_left
end

end Go.Proofs.Ytjihboddejaelaa

/-
  Numbers as bytes, the highest first; bytes, unbytes, in of the reference; slices of bytes that read as a list.
-/
namespace Go.Proofs.Ytjihboddejaelaa
set_option linter.unusedVariables false
set_option linter.unusedSimpArgs false
open Go.RowKit
open Go.BigFrame
set_option linter.unusedVariables false
set_option linter.unusedSimpArgs false

theorem byte_lt (b : UInt8) : b.toNat < 256 := by have := b.toNat_lt; omega
theorem zeroByte1 : (Value.int .u8 0).cells.size = 1 := by kernel_rfl
theorem infoByte : (Try.prog.info? 5).map (fun i => (i.zero, i.size, i.bytes)) = some (some (.int .u8 0), 1, 1) := by kernel_rfl

/-- a number's k lowest bytes, the highest first -/
def beK : Nat → Nat → List UInt8
  | _, 0 => []
  | n, k + 1 => beK (n / 256) k ++ [UInt8.ofNat n]
theorem beK_len : ∀ (k n : Nat), (beK n k).length = k
  | 0, _ => rfl
  | k + 1, n => by simp [beK, beK_len k]
theorem beK_two (n : Nat) : beK n 2 = [UInt8.ofNat (n / 256), UInt8.ofNat n] := rfl
theorem beK_four (n : Nat) : beK n 4 = beK (n / 65536) 2 ++ beK n 2 := by
  have e1 : n / 256 / 256 = n / 65536 := by omega
  have e2 : n / 256 / 256 / 256 = n / 65536 / 256 := by omega
  simp only [beK_two, beK, List.nil_append, List.append_assoc, List.cons_append, e2, e1]
def u8v (b : UInt8) : Value := .int .u8 (b.toNat : Nat)
def u8s (l : List UInt8) : List Value := l.map u8v
theorem u8s_append (a b : List UInt8) : u8s (a ++ b) = u8s a ++ u8s b := by simp [u8s]
theorem u8s_len (l : List UInt8) : (u8s l).length = l.length := by simp [u8s]
theorem u8s_one {l : List UInt8} : ∀ v ∈ u8s l, v.oneCell' = true := fun v hv => by
  obtain ⟨b, _, rfl⟩ := List.mem_map.1 hv; rfl
theorem u8s_get (l : List UInt8) (j : Nat) : (u8s l)[j]? = (l[j]?).map u8v := by simp [u8s]
theorem toNat_ofNat8 (n : Nat) : ((UInt8.ofNat n).toNat : Int) = (n : Int) % 256 := by
  rw [UInt8.toNat_ofNat']; omega

/-- the slice value '.slice A n c' reads as these bytes -/
def BS (w : World) (A : Option Addr) (n : Nat) (l : List UInt8) : Prop :=
  l.length = n ∧ (0 < n → ∃ b off, A = some ⟨b, off, none⟩ ∧ b < w.heap.size ∧ ∀ i v, l[i]? = some v → w.cell? ⟨b, off + i, none⟩ = some (u8v v))
section
variable {w w' : World} {A : Option Addr} {n : Nat} {l : List UInt8}
theorem BS.keep (h : BS w A n l) (hb : Below w.heap.size w w') : BS w' A n l :=
  ⟨h.1, fun hn => by
    obtain ⟨b, off, hA, hl, hc⟩ := h.2 hn
    exact ⟨b, off, hA, Nat.lt_of_lt_of_le hl hb.size, fun i v hv => (hb.cell (p := ⟨b, off + i, none⟩) hl).trans (hc i v hv)⟩⟩
theorem BS.of_has {g : Nat} {t : TypeId} (h : Has w g t (u8s l).toArray) : BS w (some ⟨g, 0, none⟩) l.length l :=
  ⟨rfl, fun _ => ⟨g, 0, rfl, h.lt, fun i v hv => by rw [Nat.zero_add, h.cell]; simp [u8s_get, hv]⟩⟩
theorem addr_add (b off j : Nat) : (⟨b, off, none⟩ : Addr).add j = ⟨b, off + j, none⟩ := by unfold Addr.add; split <;> simp_all
theorem BS.src {c : Nat} (h : BS w A n l) {e' tx : TypeId} {P : Program} (hk : P.underlying tx = some (.slice e')) : Src P 1 tx (.slice A n c) n (u8s l) w := by
  rcases Nat.eq_zero_or_pos n with rfl | hn
  · have hv : l = [] := List.eq_nil_of_length_eq_zero h.1
    subst hv
    cases A with
    | none => exact Src.ofNil w hk c
    | some a => exact Src.ofSlice w hk a 0 c [] rfl (fun j u hu => by simp at hu) (fun u hu => by simp at hu)
  · obtain ⟨b, off, rfl, hb, hc⟩ := h.2 hn
    exact Src.ofSlice w hk _ n c _ (by simp [u8s, h.1]) (fun j u hu => by
      rw [addr_add]
      rw [u8s_get] at hu
      obtain ⟨v, hv, rfl⟩ := Option.map_eq_some_iff.1 hu
      exact hc j v hv) u8s_one
theorem BS.of_own {base : Nat} {e : TypeId} {v : Value} (h : w.ownsRow base e 1 v n (u8s l)) : ∃ A c, v = .slice A n c ∧ n ≤ c ∧ BS w A n l := by
  have hl : l.length = n := by have := h.1; simp [u8s] at this; exact this
  rcases h.2 with ⟨rfl, h0⟩ | ⟨g, cap, cur, rfl, hb, hgg, hnc, _⟩
  · subst h0
    exact ⟨none, 0, rfl, Nat.le_refl _, hl, fun h => absurd h (by omega)⟩
  · refine ⟨_, _, rfl, hnc, hl, fun _ => ⟨g, 0, rfl, (Array.getElem?_eq_some_iff.1 hgg).1, fun i u hu => ?_⟩⟩
    have := h.cells (g := g) rfl i (u8v u) (by rw [u8s_get, hu]; rfl)
    rw [addr_add] at this; exact this
end
/-- a new slice of bytes that reads as this list -/
def BytesPost (w : World) (l : List UInt8) (e : Ending) (w' : World) : Prop := ∃ A c, e = .returned (.slice A l.length c) ∧ BS w' A l.length l ∧ Below w.heap.size w w'

theorem wpList_append_full {P : Program} {w : World} {ops : Array Oper} {rest : List Oper} {o : Oper} {a : Act} {Q : Exit → Act → World → Prop} (hgd : o.guard = none) (s x : Operand) (t tx : TypeId)
    (ho : o.op = .call { callee := .builtin .append, args := #[s, x], argTypes := #[t, tx] })
    (base : Nat) (e : TypeId) (i : TypeInfo) (z : Value) (size bytes : Nat) (ht : P.underlying t = some (.slice e)) (hi : P.info? e = some i) (hz : i.zero = some z)
    (hsize : i.size = size) (hby : i.bytes = bytes) (hzs : z.cells.size = size)
    (g n : Nat) (xs : List Value) (hs : a.eval s = .slice (some ⟨g, 0, none⟩) n n) (hown : w.ownsRow base e size (.slice (some ⟨g, 0, none⟩) n n) n xs)
    (y : Value) (m : Nat) (news : List Value) (hx : a.eval x = y) (hsrc : Src P size tx y m news w)
    (h63 : n + m ≤ maxLen) (hbytes : (n + m) * bytes ≤ 140737488355328) (hbase : base ≤ w.heap.size)
    (h : ∀ A c w', w'.ownsRow base e size (.slice A (n + m) c) (n + m) (xs ++ news) → Below w.heap.size w w' → wpList P ops Q rest (a.put o.dst (.slice A (n + m) c)) w') : wpList P ops Q (o :: rest) a w := by
  refine wpList_plain hgd fun K hK => ?_
  obtain ⟨v', w', hr, h2, h3⟩ := run_append_full (P := P) w base t tx o.type e i z size bytes ht hi hz hsize hby hzs g n xs hown y m news hsrc h63 hbytes hbase
  obtain ⟨A, c, rfl⟩ : ∃ A c, v' = .slice A (n + m) c := by
    rcases h2.2 with ⟨hv, h0⟩ | ⟨g, cap, cur, hv, _⟩
    · exact ⟨none, 0, by rw [hv, h0]⟩
    · exact ⟨_, _, hv⟩
  unfold Oper.wp execOp
  simp only [ho, resolve, invoke, builtin, Sem.run_bind, Sem.run_pure, Result.andThen_ok, List.map_toArray, List.map_cons, List.map_nil, hs, hx, hr]
  exact hK _ _ (h A c w' h2 h3)
theorem Has.own {w : World} {g : Nat} {t : TypeId} {l : List Value} {B n : Nat} (h : Has w g t l.toArray) (hB : B ≤ g) (hn : l.length = n) (hm : n ≤ maxLen) : w.ownsRow B t 1 (.slice (some ⟨g, 0, none⟩) n n) n l :=
  ⟨by omega, .inr ⟨g, n, l.toArray, rfl, hB, h, Nat.le_refl _, hm, by simp [hn], by simp [← hn]⟩⟩

def bsOf (l : List UInt8) : ByteArray := ⟨l.toArray⟩
theorem bsOf_data (l : List UInt8) : (bsOf l).data.toList = l := by simp [bsOf]
theorem bsOf_size (l : List UInt8) : (bsOf l).size = l.length := by simp [bsOf, ByteArray.size]
theorem bsOf_append (a b : List UInt8) : bsOf a ++ bsOf b = bsOf (a ++ b) := ByteArray.mk_append_mk _ _
theorem bsOf_of (s : ByteArray) : bsOf s.data.toList = s := by simp [bsOf]
theorem beK_step (n k : Nat) (l : List UInt8) : beK n (k + 1) ++ l = beK (n / 256) k ++ (UInt8.ofNat n :: l) := by simp [beK]

theorem strOfNums_bs (l : List UInt8) : strOfNums (l.map fun b => (b.toNat : Int)) = bsOf l := by
  unfold strOfNums bsOf
  rw [List.map_map]
  congr 2
  rw [show ((fun n : Int => UInt8.ofNat n.toNat) ∘ fun b : UInt8 => (b.toNat : Int)) = id by funext b; simp]
  simp
theorem conv_BS {w : World} {A : Option Addr} {n c : Nat} {l : List UInt8} (h : BS w A n l) : (convert 81 9 (.slice A n c)).run Try.prog w = .ok (.string (bsOf l)) w := by
  rcases Nat.eq_zero_or_pos n with rfl | hn
  · have hv : l = [] := List.eq_nil_of_length_eq_zero h.1
    subst hv
    cases A with
    | none => exact run_convert_bytes_nil w _ _ Try.underlying81 Try.underlying5 0 c _ Try.underlying9
    | some a =>
      have hl : (loadCells a 0).run Try.prog w = .ok (([] : List Int).map (Value.int .u8)).toArray w := by
        have := run_loadCells_list (P := Try.prog) w a [] (fun j v hj => by simp at hj)
        simpa using this
      rw [run_convert_bytes_string w _ _ _ _ 0 c Try.underlying81 Try.underlying5 Try.underlying9, run_bytesToString w a 0 c [] hl]
      rfl
  · obtain ⟨b, off, rfl, hb, hc⟩ := h.2 hn
    have := run_convert_bytes_arg (P := Try.prog) w 81 5 Try.underlying81 Try.underlying5 b off n c (l.map fun b => (b.toNat : Int)) (by simpa using h.1) (fun i hi => by
      have hl : i < l.length := by rw [h.1]; exact hi
      rw [hc i l[i] (by simp [hl])]
      simp [u8v, hl]) _ Try.underlying9
    rw [strOfNums_bs] at this
    exact this

set_option maxRecDepth 100000 in
set_option maxHeartbeats 1600000 in
theorem ref_bytes (n k : Nat) (hn : n < 18446744073709551616) (hk : k ≤ 1000) (w : World) : Calls Try.prog 81 #[.int .u64 n, .int .i64 k] w fun e w' => e = .returned (.string (bsOf (beK n k))) ∧ Below w.heap.size w w' := by
  go_enter Try.func81, Try.ntmps81
  go_wp2_with fail
  go_loopw [0, 1, 5] (fun v0 v1 v5 wr => ∃ (n' k' : Nat) (l : List UInt8), v0 = .int .u64 n' ∧ v1 = .int .i64 k' ∧ v5 = .string (bsOf l) ∧ beK n k = beK n' k' ++ l ∧ n' < 18446744073709551616 ∧ l.length + k' = k ∧ Below w.heap.size w wr) (fun _ v1 _ _ => (intOf v1).toNat)
  case atStart => exact ⟨n, k, [], rfl, rfl, rfl, by simp, hn, by simp, Below.refl _ _⟩
  case round =>
    obtain ⟨n', k', l, rfl, rfl, rfl, he, hn', hl, hbel⟩ := hrel
    have HE := Lib.hid he; clear he
    have HL := Lib.hid hl; clear hl
    cases k' with
    | zero =>
      have E := Lib.hid (show bsOf l = bsOf (beK n k) by rw [HE.out]; rfl)
      go_wp2_with fail
      go_ret
      exact ⟨by rw [← E.out]; rfl, hbel⟩
    | succ j =>
      have ST := Lib.hid (HE.out.trans (beK_step n' j l))
      have hcat : bsOf [UInt8.ofNat n'] ++ bsOf l = bsOf (UInt8.ofNat n' :: l) := by rw [bsOf_append]; rfl
      have hs1 : (bsOf [UInt8.ofNat n']).size = 1 := by rw [bsOf_size]; rfl
      have hs2 : (bsOf l).size ≤ 1000 := by rw [bsOf_size]; have := HL.out; omega
      have hcv := conv_BS (c := 1) (BS.of_has (Has.new wr 5 (u8s [UInt8.ofNat n']).toArray))
      rw [show (u8s [UInt8.ofNat n']).toArray = #[.int .u8 ((n' : Int) % 256)] by simp only [u8s, u8v, List.map_cons, List.map_nil, toNat_ofNat8]] at hcv
      have hcv2 : (convert 81 9 (.slice (some ⟨wr.heap.size, 0, none⟩) 1 1)).run Try.prog (wr.alloc (.cells #[.int .u8 ((n' : Int) % 256)] 5)) = .ok (.string (bsOf [UInt8.ofNat n'])) (wr.alloc (.cells #[.int .u8 ((n' : Int) % 256)] 5)) := hcv
      clear hcv
      have k1 : ((j + 1 : Nat) : Int) = (j : Int) + 1 := by omega
      have k2 : j ≤ 1000 := by have := HL.out; omega
      go_wp2_with fail
      go_roundw
      case rel => exact ⟨n' / 256, j, _, by simp, by simp, rfl, ST.out, by omega, by have := HL.out; simp; omega, hbel.alloc hbel.size _⟩
      case measure => simp [intOf]

/-- what bytes are as a number -/
def unK (l : List UInt8) : Nat := l.foldl (fun n b => 256 * n + b.toNat) 0
theorem unK_snoc (l : List UInt8) (b : UInt8) : unK (l ++ [b]) = 256 * unK l + b.toNat := by simp [unK]
theorem unK_lt : ∀ (k : Nat) (l : List UInt8), l.length = k → unK l < 256 ^ k
  | 0, l, h => by rw [List.eq_nil_of_length_eq_zero h]; decide
  | k + 1, l, h => by
    rcases List.eq_nil_or_concat l with rfl | ⟨m, b, rfl⟩
    · simp at h
    · have h2 : m.length = k := by simpa using h
      have := unK_lt k m h2
      have hb := byte_lt b
      rw [List.concat_eq_append, unK_snoc, Nat.pow_succ]
      omega
set_option maxRecDepth 100000 in
set_option maxHeartbeats 1600000 in
theorem ref_unbytes (s : ByteArray) (hs : s.size ≤ 7) (w : World) : Calls Try.prog 79 #[.string s] w fun e w' => e = .returned (.int .u64 (unK s.data.toList : Nat)) ∧ w = w' := by
  go_enter Try.func79, Try.ntmps79
  go_wp2_with fail
  go_loop [3, 4] (fun v3 v4 => ∃ i : Nat, i ≤ s.size ∧ v4 = .int .i64 i ∧ v3 = .int .u64 (unK (s.data.toList.take i) : Nat)) (fun _ v4 => s.size - (intOf v4).toNat)
  case atStart => exact ⟨0, Nat.zero_le _, rfl, rfl⟩
  case round =>
    obtain ⟨i, hi, rfl, rfl⟩ := hrel
    by_cases h1 : i < s.size
    · have hlt := unK_lt i (s.data.toList.take i) (by rw [List.length_take]; simp; omega)
      have hle : 256 ^ i ≤ 256 ^ 6 := Nat.pow_le_pow_right (by omega) (by omega)
      have h6 : (256 : Nat) ^ 6 = 281474976710656 := by decide
      rw [h6] at hle
      have E := Lib.hid (show unK (s.data.toList.take (i + 1)) = 256 * unK (s.data.toList.take i) + s[i].toNat by rw [List.take_succ_eq_append_getElem (by simpa using h1), unK_snoc]; rfl)
      have hx : unK (s.data.toList.take i) < 281474976710656 := by omega
      clear hlt hle h6
      have hbt := byte_lt s[i]
      obtain ⟨x, hxx⟩ : ∃ x, unK (s.data.toList.take i) = x := ⟨_, rfl⟩
      rw [hxx] at hx
      have HXX := Lib.hid hxx
      rw [hxx]
      clear hxx
      go_wp2_with fail
      go_round
      case rel => exact ⟨i + 1, by omega, by simp, by rw [E.out, HXX.out]; simp⟩
      case measure => simp [intOf]; omega
    · obtain rfl : i = s.size := by omega
      have E := Lib.hid (show (unK (s.data.toList.take s.size) : Int) = (unK s.data.toList : Nat) by rw [List.take_of_length_le (by simp)])
      go_wp2_with fail
      go_ret
      exact ⟨ret_int E.out, rfl⟩
theorem unK_prefix {l : List UInt8} {i : Nat} (hi : i < 8) (hl : i < l.length) : unK (l.take i) < 72057594037927936 := by
  have hlt := unK_lt i (l.take i) (by rw [List.length_take]; omega)
  have hle : 256 ^ i ≤ 256 ^ 7 := Nat.pow_le_pow_right (by omega) (by omega)
  have h6 : (256 : Nat) ^ 7 = 72057594037927936 := by decide
  omega
set_option maxRecDepth 100000 in
set_option maxHeartbeats 1600000 in
theorem ref_unbytes8 (s : ByteArray) (hs : s.size ≤ 8) (w : World) : Calls Try.prog 79 #[.string s] w fun e w' => e = .returned (.int .u64 (unK s.data.toList : Nat)) ∧ w = w' := by
  go_enter Try.func79, Try.ntmps79
  go_wp2_with fail
  go_loop [3, 4] (fun v3 v4 => ∃ i : Nat, i ≤ s.size ∧ v4 = .int .i64 i ∧ v3 = .int .u64 (unK (s.data.toList.take i) : Nat)) (fun _ v4 => s.size - (intOf v4).toNat)
  case atStart => exact ⟨0, Nat.zero_le _, rfl, rfl⟩
  case round =>
    obtain ⟨i, hi, rfl, rfl⟩ := hrel
    by_cases h1 : i < s.size
    · have hx := unK_prefix (l := s.data.toList) (i := i) (by omega) (by simpa using h1)
      have E := Lib.hid (show unK (s.data.toList.take (i + 1)) = 256 * unK (s.data.toList.take i) + s[i].toNat by rw [List.take_succ_eq_append_getElem (by simpa using h1), unK_snoc]; rfl)
      have hbt := byte_lt s[i]
      obtain ⟨x, hxx⟩ : ∃ x, unK (s.data.toList.take i) = x := ⟨_, rfl⟩
      rw [hxx] at hx
      have HXX := Lib.hid hxx
      rw [hxx]
      clear hxx
      go_wp2_with fail
      go_round
      case rel => exact ⟨i + 1, by omega, by simp, by rw [E.out, HXX.out]; simp⟩
      case measure => simp [intOf]; omega
    · obtain rfl : i = s.size := by omega
      have E := Lib.hid (show (unK (s.data.toList.take s.size) : Int) = (unK s.data.toList : Nat) by rw [List.take_of_length_le (by simp)])
      go_wp2_with fail
      go_ret
      exact ⟨ret_int E.out, rfl⟩

end Go.Proofs.Ytjihboddejaelaa

/-
  A disk in plain Lean: two files, what waits, what an operation makes of them. No program in sight.
-/
namespace Go.Proofs.Ytjihboddejaelaa
set_option linter.unusedVariables false
set_option linter.unusedSimpArgs false
open Go.RowKit
set_option linter.unusedVariables false
set_option linter.unusedSimpArgs false

/-- a change that waits -/
structure Ch where
  file : Nat
  at_ : Nat
  text : ByteArray
  cut : Bool
def zerosTo (l : List UInt8) (n : Nat) : List UInt8 := l ++ List.replicate (n - l.length) 0
def putL (l : List UInt8) (a : Nat) (t : List UInt8) : List UInt8 := (zerosTo l (a + t.length)).take a ++ t ++ (zerosTo l (a + t.length)).drop (a + t.length)
def Ch.done (c : Ch) (l : List UInt8) : List UInt8 := if c.cut then (zerosTo l c.at_).take c.at_ else putL l c.at_ c.text.data.toList
theorem zerosTo_len (l : List UInt8) (n : Nat) : (zerosTo l n).length = max l.length n := by
  unfold zerosTo; rw [List.length_append, List.length_replicate]; omega
theorem zerosTo_big {l : List UInt8} {n : Nat} (h : n ≤ l.length) : zerosTo l n = l := by
  unfold zerosTo; rw [show n - l.length = 0 by omega]; simp
theorem zerosTo_step {l : List UInt8} {n m : Nat} (h : l.length ≤ m) (h2 : m < n) : zerosTo l m ++ [0] = zerosTo l (m + 1) := by
  unfold zerosTo
  rw [List.append_assoc, show m + 1 - l.length = (m - l.length) + 1 by omega, List.replicate_succ']
theorem putL_len (l : List UInt8) (a : Nat) (t : List UInt8) : (putL l a t).length = max l.length (a + t.length) := by
  unfold putL
  rw [List.length_append, List.length_append, List.length_take, List.length_drop, zerosTo_len]; omega
theorem done_len (c : Ch) (l : List UInt8) : (c.done l).length ≤ max l.length (c.at_ + c.text.size) := by
  unfold Ch.done
  split
  · rw [List.length_take, zerosTo_len]; omega
  · rw [putL_len, Array.length_toList]; exact Nat.le_refl _
def maxFile : Nat := 67108864
/-- a change that fits a file -/
def Ch.fits (c : Ch) : Prop := c.file < 2 ∧ c.at_ ≤ 67108864 ∧ c.at_ + c.text.size ≤ 67108864 ∧ (c.cut = true → c.text.size = 0)
theorem done_fits {c : Ch} {l : List UInt8} (h : c.fits) (hl : l.length ≤ 67108864) : (c.done l).length ≤ 67108864 := by
  have := done_len c l
  have := h.2.2.1
  omega

/-- a file with the changes that wait for it -/
def seenL : List Ch → Nat → List UInt8 → List UInt8
  | [], _, l => l
  | c :: ws, f, l => seenL ws f (if c.file = f then c.done l else l)
theorem seenL_append : ∀ (ws us : List Ch) (f : Nat) (l : List UInt8), seenL (ws ++ us) f l = seenL us f (seenL ws f l)
  | [], us, f, l => rfl
  | c :: ws, us, f, l => by rw [List.cons_append, seenL, seenL_append ws us]; rfl
theorem seenL_snoc (ws : List Ch) (c : Ch) (f : Nat) (l : List UInt8) : seenL (ws ++ [c]) f l = if c.file = f then c.done (seenL ws f l) else seenL ws f l := by
  rw [seenL_append]; rfl
theorem seenL_fits : ∀ (ws : List Ch) (f : Nat) (l : List UInt8), (∀ c ∈ ws, c.fits) → l.length ≤ 67108864 → (seenL ws f l).length ≤ 67108864
  | [], f, l, _, hl => hl
  | c :: ws, f, l, h, hl => by
    rw [seenL]
    refine seenL_fits ws f _ (fun d hd => h d (List.mem_cons_of_mem _ hd)) ?_
    split
    · exact done_fits (h c (List.mem_cons_self ..)) hl
    · exact hl
theorem seenL_filter : ∀ (ws : List Ch) (f k : Nat) (l : List UInt8), f ≠ k → seenL (ws.filter (fun c => decide (c.file ≠ k))) f l = seenL ws f l
  | [], f, k, l, _ => rfl
  | c :: ws, f, k, l, h => by
    by_cases hc : c.file = k
    · rw [List.filter_cons_of_neg (by simp [hc]), seenL_filter ws f k l h, seenL, if_neg (by rw [hc]; exact fun e => h e.symm)]
    · rw [List.filter_cons_of_pos (by simp [hc]), seenL, seenL, seenL_filter ws f k _ h]
theorem seenL_filter_same : ∀ (ws : List Ch) (f : Nat) (l : List UInt8), seenL (ws.filter (fun c => decide (c.file ≠ f))) f l = l
  | [], f, l => rfl
  | c :: ws, f, l => by
    by_cases hc : c.file = f
    · rw [List.filter_cons_of_neg (by simp [hc]), seenL_filter_same ws f l]
    · rw [List.filter_cons_of_pos (by simp [hc]), seenL, if_neg hc, seenL_filter_same ws f l]

structure Dk where
  l0 : List UInt8
  l1 : List UInt8
  waits : List Ch
  fails : Int
  down : Bool
  count : Nat
def Dk.lasts (D : Dk) (f : Nat) : List UInt8 := if f = 0 then D.l0 else D.l1
def Dk.seen (D : Dk) (f : Nat) : List UInt8 := seenL D.waits f (D.lasts f)
/-- what holds of a disk always -/
structure Dk.ok (D : Dk) : Prop where
  l0 : D.l0.length ≤ 67108864
  l1 : D.l1.length ≤ 67108864
  waits : ∀ c ∈ D.waits, c.fits
  fails : -1 ≤ D.fails ∧ D.fails ≤ 9223372036854775807
theorem Dk.ok.lasts {D : Dk} (h : D.ok) (f : Nat) : (D.lasts f).length ≤ 67108864 := by
  unfold Dk.lasts; split
  · exact h.l0
  · exact h.l1
theorem Dk.ok.seen {D : Dk} (h : D.ok) (f : Nat) : (D.seen f).length ≤ 67108864 := seenL_fits _ _ _ h.waits (h.lasts f)
/-- an operation that changes something: is the disk down? -/
def Dk.stops (D : Dk) : Prop := D.down = true ∨ D.fails = 0
instance (D : Dk) : Decidable D.stops := by unfold Dk.stops; infer_instance
def Dk.turn (D : Dk) : Dk := if D.stops then { D with down := true } else { D with fails := if 0 < D.fails then D.fails - 1 else D.fails, count := D.count + 1 }
def Dk.turnE (D : Dk) : Int := if D.stops then 2 else 0
theorem Dk.turn_ok {D : Dk} (h : D.ok) : D.turn.ok := by
  obtain ⟨h1, h2, h3, h4, h5⟩ := h
  unfold Dk.turn
  split
  · exact ⟨h1, h2, h3, h4, h5⟩
  · refine ⟨h1, h2, h3, ?_⟩
    show -1 ≤ (if 0 < D.fails then D.fails - 1 else D.fails) ∧ (if 0 < D.fails then D.fails - 1 else D.fails) ≤ 9223372036854775807
    split <;> omega
def Dk.change (D : Dk) (c : Ch) : Dk := if D.stops then D.turn else { D.turn with waits := D.waits ++ [c] }
theorem Dk.change_ok {D : Dk} {c : Ch} (h : D.ok) (hc : c.fits) : (D.change c).ok := by
  unfold Dk.change
  split
  · exact Dk.turn_ok h
  · have ht := Dk.turn_ok h
    exact ⟨ht.l0, ht.l1, fun d hd => by
      rcases List.mem_append.1 hd with hd | hd
      · exact h.waits d hd
      · rw [List.mem_singleton.1 hd]; exact hc, ht.fails⟩
def fitsF (f a n : Int) : Prop := 0 ≤ f ∧ f < 2 ∧ 0 ≤ a ∧ 0 ≤ n ∧ a ≤ 67108864 ∧ n ≤ 67108864 - a
instance (f a n : Int) : Decidable (fitsF f a n) := by unfold fitsF; infer_instance
def Dk.write (D : Dk) (f a : Int) (s : ByteArray) : Dk := if fitsF f a s.size then D.change ⟨f.toNat, a.toNat, s, false⟩ else D
def Dk.writeE (D : Dk) (f a : Int) (s : ByteArray) : Int := if fitsF f a s.size then D.turnE else 1
def Dk.cutD (D : Dk) (f a : Int) : Dk := if fitsF f a 0 then D.change ⟨f.toNat, a.toNat, ⟨#[]⟩, true⟩ else D
def Dk.cutE (D : Dk) (f a : Int) : Int := if fitsF f a 0 then D.turnE else 1
def Dk.syncT (D : Dk) (f : Nat) : Dk := { D.turn with l0 := if f = 0 then D.seen 0 else D.l0, l1 := if f = 0 then D.l1 else D.seen 1, waits := D.waits.filter (fun c => decide (c.file ≠ f)) }
def Dk.sync (D : Dk) (f : Int) : Dk := if 0 ≤ f ∧ f < 2 then (if D.stops then D.turn else D.syncT f.toNat) else D
def Dk.syncE (D : Dk) (f : Int) : Int := if 0 ≤ f ∧ f < 2 then D.turnE else 1
def Dk.readS (D : Dk) (f a n : Int) : ByteArray := if fitsF f a n ∧ D.down = false ∧ a + n ≤ (D.seen f.toNat).length then bsOf (((D.seen f.toNat).drop a.toNat).take n.toNat) else ⟨#[]⟩
def Dk.readE (D : Dk) (f a n : Int) : Int := if fitsF f a n then (if D.down = true then 2 else if a + n ≤ (D.seen f.toNat).length then 0 else 3) else 1
def Dk.sizeN (D : Dk) (f : Int) : Int := if 0 ≤ f ∧ f < 2 ∧ D.down = false then (D.seen f.toNat).length else 0
def Dk.sizeE (D : Dk) (f : Int) : Int := if 0 ≤ f ∧ f < 2 then (if D.down = true then 2 else 0) else 1
def Dk.fail (D : Dk) (n : Int) : Dk := { D with fails := if n < 0 then -1 else n }
/-- how a change is kept in a crash -/
def howL (keep : List Int) (i : Nat) : Int := if keep.length = 0 then 0 else keep.getD (i % keep.length) 0
def Ch.half (c : Ch) : Ch := if c.cut then c else { c with text := c.text.extract 0 (c.text.size / 2) }
def crash1 (c : Ch) (how : Int) (l : List UInt8) (f : Nat) : List UInt8 := if c.file = f then (if how = 1 then c.done l else if how = 2 then c.half.done l else l) else l
def crashL (keep : List Int) : List Ch → Nat → Nat → List UInt8 → List UInt8
  | [], _, _, l => l
  | c :: ws, i, f, l => crashL keep ws (i + 1) f (crash1 c (howL keep i) l f)
def Dk.crash (D : Dk) (keep : List Int) : Dk := ⟨crashL keep D.waits 0 0 D.l0, crashL keep D.waits 0 1 D.l1, [], -1, false, D.count⟩
theorem crashL_append (keep : List Int) : ∀ (ws us : List Ch) (i f : Nat) (l : List UInt8), crashL keep (ws ++ us) i f l = crashL keep us (i + ws.length) f (crashL keep ws i f l)
  | [], us, i, f, l => by simp [crashL]
  | c :: ws, us, i, f, l => by
    rw [List.cons_append, crashL, crashL_append keep ws us, crashL, List.length_cons]
    congr 1; omega
theorem half_fits {c : Ch} (h : c.fits) : c.half.fits := by
  unfold Ch.half
  split
  · exact h
  · rename_i hc
    refine ⟨h.1, h.2.1, ?_, fun h2 => absurd h2 hc⟩
    have := h.2.2.1
    show c.at_ + (c.text.extract 0 (c.text.size / 2)).size ≤ _
    rw [ByteArray.size_extract]; omega
theorem crash1_fits {c : Ch} {how : Int} {l : List UInt8} {f : Nat} (h : c.fits) (hl : l.length ≤ 67108864) : (crash1 c how l f).length ≤ 67108864 := by
  unfold crash1
  split
  · split
    · exact done_fits h hl
    · split
      · exact done_fits (half_fits h) hl
      · exact hl
  · exact hl
theorem crashL_fits (keep : List Int) : ∀ (ws : List Ch) (i f : Nat) (l : List UInt8), (∀ c ∈ ws, c.fits) → l.length ≤ 67108864 → (crashL keep ws i f l).length ≤ 67108864
  | [], _, _, _, _, hl => hl
  | c :: ws, i, f, l, h, hl => crashL_fits keep ws _ f _ (fun d hd => h d (List.mem_cons_of_mem _ hd)) (crash1_fits (h c (List.mem_cons_self ..)) hl)
theorem Dk.crash_ok {D : Dk} (h : D.ok) (keep : List Int) : (D.crash keep).ok :=
  ⟨crashL_fits _ _ _ _ _ h.waits h.l0, crashL_fits _ _ _ _ _ h.waits h.l1, (fun c hc => by cases hc), by show -1 ≤ (-1 : Int) ∧ (-1 : Int) ≤ 9223372036854775807; omega⟩
theorem Dk.fail_ok {D : Dk} (h : D.ok) {n : Int} (hn : n ≤ 9223372036854775807) : (D.fail n).ok :=
  ⟨h.l0, h.l1, h.waits, by show -1 ≤ (if n < 0 then -1 else n) ∧ (if n < 0 then -1 else n) ≤ 9223372036854775807; split <;> omega⟩
theorem Dk.sync_ok {D : Dk} (h : D.ok) (f : Int) : (D.sync f).ok := by
  unfold Dk.sync
  split
  · split
    · exact Dk.turn_ok h
    · have ht := Dk.turn_ok h
      refine ⟨?_, ?_, fun c hc => h.waits c (List.mem_filter.1 hc).1, ht.fails⟩
      · show (if f.toNat = 0 then D.seen 0 else D.l0).length ≤ _
        split
        · exact h.seen 0
        · exact h.l0
      · show (if f.toNat = 0 then D.l1 else D.seen 1).length ≤ _
        split
        · exact h.l1
        · exact h.seen 1
  · exact h
theorem Dk.write_ok {D : Dk} (h : D.ok) (f a : Int) (s : ByteArray) : (D.write f a s).ok := by
  unfold Dk.write
  split
  · rename_i hf
    obtain ⟨h1, h2, h3, h4, h5, h6⟩ := hf
    exact Dk.change_ok h ⟨by show f.toNat < 2; omega, by show a.toNat ≤ _; omega, by show a.toNat + s.size ≤ _; omega, fun h => by cases h⟩
  · exact h
theorem Dk.cut_ok {D : Dk} (h : D.ok) (f a : Int) : (D.cutD f a).ok := by
  unfold Dk.cutD
  split
  · rename_i hf
    obtain ⟨h1, h2, h3, h4, h5, h6⟩ := hf
    exact Dk.change_ok h ⟨by show f.toNat < 2; omega, by show a.toNat ≤ _; omega, by show a.toNat + 0 ≤ _; omega, fun _ => rfl⟩
  · exact h
/-- what is seen behind a sync is what was seen -/
theorem Dk.syncT_seen (D : Dk) (f k : Nat) (hf : f < 2) (hk : k < 2) : (D.syncT f).seen k = D.seen k := by
  unfold Dk.syncT Dk.seen Dk.lasts
  simp only
  by_cases h : k = f
  · subst h
    rw [seenL_filter_same]
    rcases (show k = 0 ∨ k = 1 by omega) with rfl | rfl <;> rfl
  · rw [seenL_filter _ _ _ _ h]
    rcases (show k = 0 ∧ f = 1 ∨ k = 1 ∧ f = 0 by omega) with ⟨rfl, rfl⟩ | ⟨rfl, rfl⟩ <;> rfl
theorem Dk.turn_seen (D : Dk) (k : Nat) : D.turn.seen k = D.seen k := by
  unfold Dk.turn; split <;> rfl
theorem Dk.change_seen (D : Dk) (c : Ch) (h : ¬ D.stops) (k : Nat) : (D.change c).seen k = if c.file = k then c.done (D.seen k) else D.seen k := by
  unfold Dk.change
  rw [if_neg h]
  show seenL (D.waits ++ [c]) k (D.turn.lasts k) = _
  rw [seenL_snoc]
  have : D.turn.lasts k = D.lasts k := by unfold Dk.turn; split <;> rfl
  rw [this]; rfl
theorem Dk.crash_seen (D : Dk) (keep : List Int) (k : Nat) : (D.crash keep).seen k = (D.crash keep).lasts k := rfl

end Go.Proofs.Ytjihboddejaelaa

/-
  A log over a disk in plain Lean: frames that lie in the second file, slots that tell a commit; what each operation makes. No program in sight.
-/
namespace Go.Proofs.Ytjihboddejaelaa
set_option linter.unusedVariables false
set_option linter.unusedSimpArgs false
open Go.RowKit
set_option linter.unusedVariables false
set_option linter.unusedSimpArgs false

def partL (l : List UInt8) (a n : Nat) : List UInt8 := (l.drop a).take n
theorem partL_get (l : List UInt8) (a n i : Nat) : (partL l a n)[i]? = if i < n then l[a + i]? else none := by
  unfold partL
  rw [List.getElem?_take]
  split
  · rw [List.getElem?_drop]
  · rfl
theorem partL_len (l : List UInt8) (a n : Nat) : (partL l a n).length = min n (l.length - a) := by
  unfold partL; rw [List.length_take, List.length_drop]
theorem zerosTo_get (l : List UInt8) (n i : Nat) (h : i < l.length) : (zerosTo l n)[i]? = l[i]? := by
  unfold zerosTo; rw [List.getElem?_append_left h]
theorem putL_get (l : List UInt8) (a : Nat) (t : List UInt8) (i : Nat) : (putL l a t)[i]? = if a ≤ i ∧ i < a + t.length then t[i - a]? else (zerosTo l (a + t.length))[i]? := by
  have hz := zerosTo_len l (a + t.length)
  unfold putL
  have e1 : ((zerosTo l (a + t.length)).take a).length = a := by rw [List.length_take, hz]; omega
  by_cases h1 : i < a
  · rw [if_neg (by omega), List.append_assoc, List.getElem?_append_left (by rw [e1]; exact h1), List.getElem?_take, if_pos h1]
  · by_cases h2 : i < a + t.length
    · rw [if_pos ⟨by omega, h2⟩, List.append_assoc, List.getElem?_append_right (by rw [e1]; omega), e1, List.getElem?_append_left (by omega)]
    · rw [if_neg (by omega), List.getElem?_append_right (by rw [List.length_append, e1]; omega), List.length_append, e1, List.getElem?_drop]
      congr 1; omega
/-- a part that is there and that is not written to -/
theorem partL_put {l : List UInt8} {a : Nat} {t : List UInt8} {b n : Nat} (hl : b + n ≤ l.length) (h : b + n ≤ a ∨ a + t.length ≤ b) : partL (putL l a t) b n = partL l b n := by
  refine List.ext_getElem? fun i => ?_
  rw [partL_get, partL_get]
  split
  · rw [putL_get, if_neg (by omega), zerosTo_get _ _ _ (by omega)]
  · rfl
theorem partL_put_same (l : List UInt8) (a : Nat) (t : List UInt8) : partL (putL l a t) a t.length = t := by
  refine List.ext_getElem? fun i => ?_
  rw [partL_get]
  split
  · rw [putL_get, if_pos ⟨by omega, by omega⟩]; congr 1; omega
  · rw [List.getElem?_eq_none (by omega)]
theorem partL_full {l : List UInt8} {a n : Nat} {t : List UInt8} (h : partL l a n = t) (hn : t.length = n) (h0 : 0 < n) : a + n ≤ l.length := by
  have := partL_len l a n
  rw [h] at this; omega
theorem partL_part (l : List UInt8) (a n b m : Nat) (h : b + m ≤ n) : partL (partL l a n) b m = partL l (a + b) m := by
  refine List.ext_getElem? fun i => ?_
  rw [partL_get (partL l a n), partL_get l (a + b)]
  split
  · rw [partL_get, if_pos (by omega)]; congr 1; omega
  · rfl

/-- frame of a log: a page's number and text -/
structure Fr where
  n : Nat
  text : ByteArray
def Fr.bytes (f : Fr) : List UInt8 := beK f.n 4 ++ f.text.data.toList
theorem Fr.bytes_len (f : Fr) (h : f.text.size = 1024) : f.bytes.length = 1028 := by
  unfold Fr.bytes; rw [List.length_append, beK_len, Array.length_toList, show f.text.data.size = f.text.size from rfl, h]
/-- where a page lies: of its last frame the place, from 1 on; 0: nowhere -/
def lastAt : List Fr → Int → Nat
  | [], _ => 0
  | f :: fs, x => if lastAt fs x ≠ 0 then lastAt fs x + 1 else if (f.n : Int) = x then 1 else 0
theorem lastAt_le : ∀ (fs : List Fr) (x : Int), lastAt fs x ≤ fs.length
  | [], _ => Nat.le_refl _
  | f :: fs, x => by
    have := lastAt_le fs x
    rw [lastAt, List.length_cons]
    split
    · omega
    · split <;> omega
theorem lastAt_snoc : ∀ (fs : List Fr) (f : Fr) (x : Int), lastAt (fs ++ [f]) x = if (f.n : Int) = x then fs.length + 1 else lastAt fs x
  | [], f, x => by simp [lastAt]
  | g :: fs, f, x => by
    rw [List.cons_append, lastAt, lastAt_snoc fs f x]
    by_cases h : (f.n : Int) = x
    · simp [h]
    · rw [if_neg h, if_neg h, lastAt]
theorem lastAt_get : ∀ (fs : List Fr) (x : Int), lastAt fs x ≠ 0 → ∃ f, fs[lastAt fs x - 1]? = some f ∧ (f.n : Int) = x
  | [], x, h => absurd rfl h
  | g :: fs, x, h => by
    rw [lastAt] at h ⊢
    by_cases h2 : lastAt fs x ≠ 0
    · rw [if_pos h2]
      obtain ⟨f, h3, h4⟩ := lastAt_get fs x h2
      refine ⟨f, ?_, h4⟩
      rw [show lastAt fs x + 1 - 1 = (lastAt fs x - 1) + 1 by omega, List.getElem?_cons_succ]; exact h3
    · rw [if_neg h2] at h ⊢
      by_cases h3 : (g.n : Int) = x
      · rw [if_pos h3]; exact ⟨g, rfl, h3⟩
      · rw [if_neg h3] at h; exact absurd rfl h

/-- a commit as a slot tells it -/
def slotL (n f p : Nat) : List UInt8 := (beK n 4 ++ beK f 4 ++ beK p 4) ++ (beK n 4 ++ beK f 4 ++ beK p 4)
theorem slotL_len (n f p : Nat) : (slotL n f p).length = 24 := by simp [slotL, beK_len]
def markL : List UInt8 := [114, 101, 108, 115, 116, 111, 114, 101, 32, 108, 111, 103, 32, 48, 48, 49]
/-- what a slot of a file tells: the number, 0: nothing; frames, pages -/
def slotOf (l : List UInt8) (k : Nat) : Nat × Nat × Nat :=
  if l.length < 40 + 24 * k then (0, 0, 0) else
  let t := partL l (16 + 24 * k) 24
  let n := unK (t.take 4)
  let f := unK (partL t 4 4)
  let p := unK (partL t 8 4)
  if t.take 12 ≠ t.drop 12 ∨ ¬ (1 ≤ n ∧ n ≤ 3) ∨ 0 < f ∧ l.length < 64 + 1028 * f then (0, 0, 0) else (n, f, p)
/-- the slot that counts; 2: none -/
def slotIx (l : List UInt8) : Nat :=
  if l.take 16 ≠ markL ∨ (slotOf l 0).1 = 0 ∧ (slotOf l 1).1 = 0 then 2
  else if (slotOf l 0).1 = 0 ∨ (slotOf l 1).1 ≠ 0 ∧ (slotOf l 1).1 = (slotOf l 0).1 % 3 + 1 then 1 else 0

structure Lg where
  D : Dk
  fs : List Fr
  kept : Nat
  pages : Nat
  slot : Nat
  number : Nat
structure Lg.ok (L : Lg) : Prop where
  disk : L.D.ok
  frames : ∀ f ∈ L.fs, f.n < 4294967296 ∧ f.text.size = 1024
  lies : ∀ i f, L.fs[i]? = some f → partL (L.D.seen 1) (64 + 1028 * i) 1028 = f.bytes
  top : 64 + 1028 * L.fs.length ≤ 67108864 ∨ L.fs = []
  kept : L.kept ≤ L.fs.length
  pages : L.pages < 4294967296
  slot : L.slot < 2
  number : L.number < 4
theorem Lg.ok.len {L : Lg} (h : L.ok) : L.fs.length ≤ 65281 := by
  rcases h.top with h | h
  · omega
  · rw [h]; show 0 ≤ 65281; omega

/-- reads of a page -/
def Lg.readS (L : Lg) (n : Int) : ByteArray :=
  if 0 ≤ n ∧ n ≤ 2147483647 ∧ L.D.down = false then
    if lastAt L.fs n ≠ 0 then ((L.fs[lastAt L.fs n - 1]?).map (·.text)).getD ⟨#[]⟩
    else if n < ((L.D.seen 0).length / 1024 : Nat) then bsOf (partL (L.D.seen 0) (1024 * n.toNat) 1024) else ⟨#[]⟩
  else ⟨#[]⟩
def Lg.readE (L : Lg) (n : Int) : Int :=
  if 0 ≤ n ∧ n ≤ 2147483647 then
    if L.D.down = true then 2 else if lastAt L.fs n ≠ 0 then 0 else if n < ((L.D.seen 0).length / 1024 : Nat) then 0 else 7
  else 1
/-- a page is appended -/
def Lg.fitsA (L : Lg) (n : Int) (t : ByteArray) : Prop := 0 ≤ n ∧ n ≤ 2147483647 ∧ t.size = 1024
instance (L : Lg) (n : Int) (t : ByteArray) : Decidable (L.fitsA n t) := by unfold Lg.fitsA; infer_instance
def Lg.at_ (L : Lg) : Nat := 64 + 1028 * L.fs.length
def Lg.append (L : Lg) (n : Int) (t : ByteArray) : Lg :=
  if L.fitsA n t ∧ L.at_ + 1028 ≤ 67108864 then
    { L with D := L.D.write 1 L.at_ (bsOf (Fr.bytes ⟨n.toNat, t⟩)), fs := if L.D.stops then L.fs else L.fs ++ [⟨n.toNat, t⟩] }
  else L
def Lg.appendE (L : Lg) (n : Int) (t : ByteArray) : Int := if L.fitsA n t then (if L.at_ + 1028 ≤ 67108864 then L.D.turnE else 8) else 1
/-- a commit is told in the other slot -/
def Lg.tellD (L : Lg) (f p : Nat) : Dk := L.D.write 1 (16 + 24 * (1 - L.slot) : Nat) (bsOf (slotL (L.number % 3 + 1) f p))
def Lg.tell (L : Lg) (f p : Nat) : Lg :=
  if L.D.stops then { L with D := L.tellD f p }
  else if (L.tellD f p).stops then { L with D := (L.tellD f p).sync 1 }
  else { L with D := (L.tellD f p).sync 1, slot := 1 - L.slot, number := L.number % 3 + 1, kept := f, pages := p }
def Lg.tellE (L : Lg) (f p : Nat) : Int := if L.D.stops then 2 else (L.tellD f p).turnE
def Lg.commit (L : Lg) (n : Int) (t : ByteArray) (p : Int) : Lg :=
  if 1 ≤ p ∧ p ≤ 65536 then
    if L.appendE n t = 0 then
      if (L.append n t).D.stops then { L.append n t with D := (L.append n t).D.sync 1 }
      else ({ L.append n t with D := (L.append n t).D.sync 1 } : Lg).tell (L.append n t).fs.length p.toNat
    else L.append n t
  else L
def Lg.commitE (L : Lg) (n : Int) (t : ByteArray) (p : Int) : Int :=
  if 1 ≤ p ∧ p ≤ 65536 then
    if L.appendE n t = 0 then
      if (L.append n t).D.stops then 2
      else ({ L.append n t with D := (L.append n t).D.sync 1 } : Lg).tellE (L.append n t).fs.length p.toNat
    else L.appendE n t
  else 1
def Lg.back (L : Lg) : Lg := { L with fs := L.fs.take L.kept }
/-- the pages m, m + 1, .. up to m + k are written to their places, up to the first that fails -/
def Lg.put1 (L : Lg) (D : Dk) (m : Nat) : Dk := if lastAt L.fs m ≠ 0 then D.write 0 (1024 * m : Nat) (((L.fs[lastAt L.fs m - 1]?).map (·.text)).getD ⟨#[]⟩) else D
def Lg.put1E (L : Lg) (D : Dk) (m : Nat) : Int := if lastAt L.fs m ≠ 0 then D.writeE 0 (1024 * m : Nat) (((L.fs[lastAt L.fs m - 1]?).map (·.text)).getD ⟨#[]⟩) else 0
def Lg.puts (L : Lg) : Nat → Nat → Dk → Dk × Int
  | 0, _, D => (D, 0)
  | k + 1, m, D => if L.put1E D m = 0 then L.puts k (m + 1) (L.put1 D m) else (L.put1 D m, L.put1E D m)
def Lg.check3 (L : Lg) (D : Dk) : Lg × Int :=
  if D.cutE 0 (1024 * L.pages : Nat) ≠ 0 then ({ L with D := D.cutD 0 (1024 * L.pages : Nat) }, D.cutE 0 (1024 * L.pages : Nat))
  else if (D.cutD 0 (1024 * L.pages : Nat)).stops then ({ L with D := (D.cutD 0 (1024 * L.pages : Nat)).sync 0 }, 2)
  else
    let M : Lg := { L with D := (D.cutD 0 (1024 * L.pages : Nat)).sync 0 }
    if M.tellE 0 L.pages = 0 then ({ M.tell 0 L.pages with fs := [] }, 0) else (M.tell 0 L.pages, M.tellE 0 L.pages)
def Lg.checkpoint (L : Lg) : Lg × Int :=
  if L.fs.length ≠ L.kept then (L, 11)
  else if L.kept = 0 then (L, 0)
  else if (L.puts L.pages 0 L.D).2 ≠ 0 then ({ L with D := (L.puts L.pages 0 L.D).1 }, (L.puts L.pages 0 L.D).2)
  else L.check3 (L.puts L.pages 0 L.D).1
/-- a log that is opened, on a disk that does not fail -/
def frameAt (l : List UInt8) (k : Nat) : Fr := ⟨unK (partL l (64 + 1028 * k) 4), bsOf (partL l (64 + 1028 * k + 4) 1024)⟩
def framesOf (l : List UInt8) (f : Nat) : List Fr := (List.range f).map (frameAt l)
def anewD (D : Dk) : Dk := (((D.cutD 1 0).sync 1).write 1 0 (bsOf (markL ++ slotL 1 0 ((D.seen 0).length / 1024)))).sync 1
def Lg.opened (D : Dk) : Lg :=
  if slotIx (D.seen 1) = 2 then ⟨anewD D, [], 0, (D.seen 0).length / 1024, 0, 1⟩
  else ⟨D, framesOf (D.seen 1) (slotOf (D.seen 1) (slotIx (D.seen 1))).2.1, (slotOf (D.seen 1) (slotIx (D.seen 1))).2.1, (slotOf (D.seen 1) (slotIx (D.seen 1))).2.2, slotIx (D.seen 1), (slotOf (D.seen 1) (slotIx (D.seen 1))).1⟩

end Go.Proofs.Ytjihboddejaelaa

/-
  four, number, slotText, slotAt of package wal; slot, slotOf of the reference.
-/
namespace Go.Proofs.Ytjihboddejaelaa
set_option linter.unusedVariables false
set_option linter.unusedSimpArgs false
open Go.RowKit
open Go.BigFrame
set_option linter.unusedVariables false
set_option linter.unusedSimpArgs false

theorem or_add (i x y : Nat) (hx : x % 2 ^ i = 0) (hy : y < 2 ^ i) (hs : x + y < 4611686018427387904) : bits .or .i64 (x : Int) (y : Int) = ((x + y : Nat) : Int) := by
  have h1 : (BitVec.ofInt 64 (x : Int)).toNat = x := by
    rw [BitVec.ofInt_natCast, BitVec.toNat_ofNat]; exact Nat.mod_eq_of_lt (by omega)
  have h2 : (BitVec.ofInt 64 (y : Int)).toNat = y := by
    rw [BitVec.ofInt_natCast, BitVec.toNat_ofNat]; exact Nat.mod_eq_of_lt (by omega)
  show IntKind.i64.wrap ((BitVec.ofInt 64 (x : Int) ||| BitVec.ofInt 64 (y : Int)).toNat : Int) = _
  rw [BitVec.toNat_or, h1, h2, nat_join i x y hx hy]
  exact IntWalk.i64_in _ ⟨by omega, by omega⟩
theorem beK4 (x : Nat) : beK x 4 = [UInt8.ofNat (x / 16777216), UInt8.ofNat (x / 65536), UInt8.ofNat (x / 256), UInt8.ofNat x] := by
  simp only [beK, List.nil_append, List.cons_append, Nat.div_div_eq_div_mul]
theorem u8s_beK4 (n : Nat) : u8s (beK n 4) = [.int .u8 ((n : Int) / 16777216 % 256), .int .u8 ((n : Int) / 65536 % 256), .int .u8 ((n : Int) / 256 % 256), .int .u8 ((n : Int) % 256)] := by
  rw [beK4]
  simp only [u8s, u8v, List.map_cons, List.map_nil, toNat_ofNat8]
  rw [show ((n / 16777216 : Nat) : Int) = (n : Int) / 16777216 by omega, show ((n / 65536 : Nat) : Int) = (n : Int) / 65536 by omega, show ((n / 256 : Nat) : Int) = (n : Int) / 256 by omega]
theorem conv_four (w : World) (n : Nat) : (convert 81 9 (.slice (some ⟨w.heap.size, 0, none⟩) 4 4)).run Try.prog (w.alloc (.cells #[.int .u8 ((n : Int) / 16777216 % 256), .int .u8 ((n : Int) / 65536 % 256), .int .u8 ((n : Int) / 256 % 256), .int .u8 ((n : Int) % 256)] 5)) = .ok (.string (bsOf (beK n 4))) (w.alloc (.cells #[.int .u8 ((n : Int) / 16777216 % 256), .int .u8 ((n : Int) / 65536 % 256), .int .u8 ((n : Int) / 256 % 256), .int .u8 ((n : Int) % 256)] 5)) := by
  have := conv_BS (c := 4) (BS.of_has (Has.new w 5 (u8s (beK n 4)).toArray))
  rw [beK_len, u8s_beK4] at this
  exact this

set_option maxHeartbeats 400000 in
theorem wal_four (n : Nat) (hn : n ≤ 4611686018427387904) (w : World) : Calls Try.prog 67 #[.int .i64 n] w fun e w' => e = .returned (.string (bsOf (beK n 4))) ∧ Below w.heap.size w w' := by
  have hcv := conv_four w n
  obtain ⟨S, hS⟩ : ∃ S, bsOf (beK n 4) = S := ⟨_, rfl⟩
  rw [hS] at hcv ⊢
  go_enter Try.func67, Try.ntmps67
  go_wp2
  go_ret
  exact ⟨rfl, (Below.refl _ _).alloc (Nat.le_refl _) _⟩

theorem unK4 (a b c d : UInt8) (r : List UInt8) : unK ((a :: b :: c :: d :: r).take 4) = a.toNat * 16777216 + b.toNat * 65536 + c.toNat * 256 + d.toNat := by
  show unK [a, b, c, d] = _
  simp only [unK, List.foldl_cons, List.foldl_nil]
  omega
set_option maxRecDepth 100000 in
set_option maxHeartbeats 1600000 in
theorem wal_number (s : ByteArray) (h4 : 4 ≤ s.size) (w : World) : Calls Try.prog 65 #[.string s] w fun e w' => e = .returned (.int .i64 (unK (s.data.toList.take 4) : Nat)) ∧ Below w.heap.size w w' := by
  have h0 : 0 < s.size := by omega
  have h1 : 1 < s.size := by omega
  have h2 : 2 < s.size := by omega
  have h3 : 3 < s.size := by omega
  have hl : s.data.toList = s[0] :: s[1] :: s[2] :: s[3] :: s.data.toList.drop 4 := by
    have e (i : Nat) (h : i < s.size) : s.data.toList[i]'(by simpa using h) = s[i] := by simp [ByteArray.getElem_eq_getElem_data]
    rw [← e 0 h0, ← e 1 h1, ← e 2 h2, ← e 3 h3]
    rw [← List.drop_eq_getElem_cons, ← List.drop_eq_getElem_cons, ← List.drop_eq_getElem_cons, ← List.drop_eq_getElem_cons]; rfl
  have E := Lib.hid (show unK (s.data.toList.take 4) = s[0].toNat * 16777216 + s[1].toNat * 65536 + s[2].toNat * 256 + s[3].toNat by rw [hl]; exact unK4 _ _ _ _ _)
  clear hl
  rw [E.out]
  have b0 := byte_lt s[0]
  have b1 := byte_lt s[1]
  have b2 := byte_lt s[2]
  have b3 := byte_lt s[3]
  have O := Lib.hid (show ∀ a b c d : Nat, a < 256 → b < 256 → c < 256 → d < 256 → bits .or .i64 (bits .or .i64 (bits .or .i64 ((a : Int) * 16777216) ((b : Int) * 65536)) ((c : Int) * 256)) (d : Int) = ((a * 16777216 + b * 65536 + c * 256 + d : Nat) : Int) from fun a b c d ha hb hc hd => by
    have e1 := or_add 24 (a * 16777216) (b * 65536) (by omega) (by omega) (by omega)
    have e2 := or_add 16 (a * 16777216 + b * 65536) (c * 256) (by omega) (by omega) (by omega)
    have e3 := or_add 8 (a * 16777216 + b * 65536 + c * 256) d (by omega) (by omega) (by omega)
    rw [← e3, ← e2, ← e1]
    simp only [Int.natCast_mul]; rfl)
  have i1 : (1 : Int) < (s.size : Int) := by omega
  have i2 : (2 : Int) < (s.size : Int) := by omega
  have i3 : (3 : Int) < (s.size : Int) := by omega
  go_enter Try.func65, Try.ntmps65
  go_wp2_with fail
  refine wp_region_cls (w) (by kernel_rfl) (by kernel_rfl) (Cls.start _) ?_
  repeat
    first
      | go_big_quiet_skip
      | (go_big_quiet_want; (first | go_big_quiet_op | go_simp); first | go_big_quiet_on | (apply Exists.intro; refine ⟨fun w' hw' => ?_, ?_⟩; (· (first | (with_reducible exact rfl) | (fail) | (obtain ⟨hc, hf⟩ := hw'.facts; go_simp; first | done | (with_reducible exact rfl) | (with_reducible exact ⟨rfl, rfl⟩)))); go_big_quiet_on))
  refine wpQuiet_nil ?_
  intro wq hq
  go_wp2_with fail
  go_ret
  exact ⟨ret_int (O.out _ _ _ _ b0 b1 b2 b3), hq.bel⟩

set_option maxRecDepth 100000 in
set_option maxHeartbeats 1600000 in
theorem wal_slotText (n f p : Nat) (hn : n ≤ 4611686018427387904) (hf : f ≤ 4611686018427387904) (hp : p ≤ 4611686018427387904) (w : World) : Calls Try.prog 106 #[.int .i64 n, .int .i64 f, .int .i64 p] w fun e w' => e = .returned (.string (bsOf (slotL n f p))) ∧ Below w.heap.size w w' := by
  have T1 := Lib.hid (wal_four n hn)
  have T2 := Lib.hid (wal_four f hf)
  have T3 := Lib.hid (wal_four p hp)
  have E := Lib.hid (show bsOf (slotL n f p) = bsOf (beK n 4) ++ bsOf (beK f 4) ++ bsOf (beK p 4) ++ (bsOf (beK n 4) ++ bsOf (beK f 4) ++ bsOf (beK p 4)) by simp only [bsOf_append, slotL])
  rw [E.out]
  obtain ⟨s1, hs1⟩ : ∃ s, bsOf (beK n 4) = s := ⟨_, rfl⟩
  obtain ⟨s2, hs2⟩ : ∃ s, bsOf (beK f 4) = s := ⟨_, rfl⟩
  obtain ⟨s3, hs3⟩ : ∃ s, bsOf (beK p 4) = s := ⟨_, rfl⟩
  have z1 : s1.size = 4 := by rw [← hs1, bsOf_size, beK_len]
  have z2 : s2.size = 4 := by rw [← hs2, bsOf_size, beK_len]
  have z3 : s3.size = 4 := by rw [← hs3, bsOf_size, beK_len]
  simp only [hs1, hs2, hs3] at T1 T2 T3 ⊢
  clear E hs1 hs2 hs3
  go_enter Try.func106, Try.ntmps106
  go_wp2_with (first | (go_at_call 67; (with_reducible refine (T1.out _).mono ?_); rintro e w1 ⟨rfl, hb⟩; obtain ⟨hc, hf⟩ := bcell hb; have hz := hb.size; (try simp at hz)) | (go_at_call 67; (with_reducible refine (T2.out _).mono ?_); rintro e w1 ⟨rfl, hb⟩; obtain ⟨hc, hf⟩ := bcell hb; have hz := hb.size; (try simp at hz)) | (go_at_call 67; (with_reducible refine (T3.out _).mono ?_); rintro e w1 ⟨rfl, hb⟩; obtain ⟨hc, hf⟩ := bcell hb; have hz := hb.size; (try simp at hz)))
  go_ret
  rename_i wa ha _ _ za wb hb2 _ _ zb
  exact ⟨rfl, bel_step (bel_step ha hb2 za) hb (Nat.le_trans za zb)⟩

end Go.Proofs.Ytjihboddejaelaa

/-
  in of the reference.
-/
namespace Go.Proofs.Ytjihboddejaelaa
set_option linter.unusedVariables false
set_option linter.unusedSimpArgs false
open Go.RowKit
open Go.BigFrame
set_option linter.unusedVariables false

set_option maxHeartbeats 400000 in
theorem ref_in (a b c : Int) (w : World) : Calls Try.prog 80 #[.int .i64 a, .int .i64 b, .int .i64 c] w fun e w' => e = .returned (.bool (decide (b ≤ a) && decide (a ≤ c))) ∧ w = w' := by
  by_cases h : b ≤ a
  · by_cases h' : a ≤ c
    · go_enter Try.func80, Try.ntmps80
      go_wp2
      go_ret
      exact ⟨ret_bool (by simp [h, h']), rfl⟩
    · go_enter Try.func80, Try.ntmps80
      go_wp2
      go_ret
      exact ⟨ret_bool (by simp [h, h']; try omega), rfl⟩
  · go_enter Try.func80, Try.ntmps80
    go_wp2
    go_ret
    exact ⟨ret_bool (by simp [h]; try omega), rfl⟩


end Go.Proofs.Ytjihboddejaelaa

/-
  Objects in memory: a block of cells and rows of its own behind them; what a method may turn of it. No program in sight.
-/
namespace Go.Proofs.Ytjihboddejaelaa
set_option linter.unusedVariables false
set_option linter.unusedSimpArgs false
open Go.RowKit
set_option linter.unusedVariables false
set_option linter.unusedSimpArgs false

/-- a slice of an object's own: its value, and what it reads as -/
structure Row where
  v : Value
  e : TypeId
  size : Nat
  n : Nat
  xs : List Value
def Row.ok (w : World) (r : Row) : Prop := w.ownsRow 0 r.e r.size r.v r.n r.xs
def blks (g : Nat) (rs : List Row) : List (Option Nat) := some g :: rs.map (fun r => r.v.ownBlock)
/-- blocks that are all different -/
def Apart (b : List (Option Nat)) : Prop := b.Pairwise (fun x y => ∀ k, x = some k → y ≠ some k)
structure Ob (w : World) (g : Nat) (t : TypeId) (cs : Array Value) (rs : List Row) : Prop where
  has : Has w g t cs
  rows : ∀ r ∈ rs, r.ok w
  apart : Apart (blks g rs)
/-- blocks b alone have turned, and b' is what they became -/
structure Turn (b b' : List (Option Nat)) (w w' : World) : Prop where
  os : w'.os = w.os
  tape : w'.tape = w.tape
  output : w'.output = w.output
  size : w.heap.size ≤ w'.heap.size
  block : ∀ k, k < w.heap.size → some k ∉ b → w'.heap[k]? = w.heap[k]?
  new : ∀ k, some k ∈ b' → some k ∈ b ∨ w.heap.size ≤ k
def Disj (b c : List (Option Nat)) : Prop := ∀ k, some k ∈ b → some k ∉ c
theorem Disj.symm {b c : List (Option Nat)} (h : Disj b c) : Disj c b := fun k hk h2 => h k h2 hk

section
variable {w w' w1 w2 : World} {b b1 b2 c : List (Option Nat)} {g : Nat} {t : TypeId} {cs : Array Value} {rs : List Row}
theorem Turn.refl (b : List (Option Nat)) (w : World) : Turn b b w w := ⟨rfl, rfl, rfl, Nat.le_refl _, fun _ _ _ => rfl, fun _ h => .inl h⟩
theorem Turn.trans (h : Turn b b1 w w1) (k : Turn b1 b2 w1 w2) : Turn b b2 w w2 := by
  refine ⟨k.os.trans h.os, k.tape.trans h.tape, k.output.trans h.output, Nat.le_trans h.size k.size, fun i hi hn => ?_, fun i hi => ?_⟩
  · refine (k.block i (Nat.lt_of_lt_of_le hi h.size) (fun h2 => ?_)).trans (h.block i hi hn)
    rcases h.new i h2 with h3 | h3
    · exact hn h3
    · omega
  · rcases k.new i hi with h3 | h3
    · exact h.new i h3
    · exact .inr (Nat.le_trans h.size h3)
theorem Turn.below (b : List (Option Nat)) (hb : Below w.heap.size w w') : Turn b b w w' := ⟨hb.os, hb.tape, hb.output, hb.size, fun k hk _ => hb.block k hk, fun _ h => .inl h⟩
theorem Turn.bel {B : Nat} {a : World} (h : Turn b b1 w w1) (hb : Below B a w) (hB : ∀ k, some k ∈ b → B ≤ k) (hBw : B ≤ w.heap.size) : Below B a w1 :=
  hb.trans ⟨h.os, h.tape, h.output, h.size, fun k hk => h.block k (Nat.lt_of_lt_of_le hk hBw) (fun h2 => by have := hB k h2; omega)⟩
theorem Turn.low {B : Nat} (h : Turn b b1 w w1) (hB : ∀ k, some k ∈ b → B ≤ k) (hBw : B ≤ w.heap.size) : ∀ k, some k ∈ b1 → B ≤ k := fun k hk => by
  rcases h.new k hk with h2 | h2
  · exact hB k h2
  · omega
theorem Ob.lt (h : Ob w g t cs rs) {k : Nat} (hk : some k ∈ blks g rs) : k < w.heap.size := by
  rcases List.mem_cons.1 hk with e | hk
  · cases e; exact h.has.lt
  · obtain ⟨r, hr, e⟩ := List.mem_map.1 hk
    exact ((h.rows r hr).lt k e).2
theorem own_blocks {e : TypeId} {size n : Nat} {v : Value} {xs : List Value} (h : w.ownsRow 0 e size v n xs) (hb : ∀ k, v.ownBlock = some k → w'.heap[k]? = w.heap[k]?) : w'.ownsRow 0 e size v n xs := by
  refine ⟨h.1, ?_⟩
  rcases h.2 with h | ⟨g, cap, cur, hv, hbg, hg, r⟩
  · exact .inl h
  · exact .inr ⟨g, cap, cur, hv, hbg, (hb g (by rw [hv]; rfl)).trans hg, r⟩
/-- an object whose blocks have not turned -/
theorem Ob.kept (h : Ob w g t cs rs) (hb : ∀ k, some k ∈ blks g rs → w'.heap[k]? = w.heap[k]?) : Ob w' g t cs rs :=
  ⟨(hb g (List.mem_cons_self ..)).trans h.has, fun r hr => own_blocks (h.rows r hr) fun k hk => hb k (List.mem_cons_of_mem _ (List.mem_map.2 ⟨r, hr, hk⟩)), h.apart⟩
theorem Ob.far (h : Ob w g t cs rs) (ht : Turn b b1 w w1) (hd : Disj b (blks g rs)) : Ob w1 g t cs rs := h.kept fun k hk => ht.block k (h.lt hk) (fun h2 => hd k h2 hk)
theorem Ob.disj (h : Ob w g t cs rs) (ht : Turn b b1 w w1) (hd : Disj b (blks g rs)) : Disj b1 (blks g rs) := fun k hk h2 => by
  rcases ht.new k hk with h3 | h3
  · exact hd k h3 h2
  · have := h.lt h2; omega
theorem Ob.below (h : Ob w g t cs rs) (hb : Below w.heap.size w w') : Ob w' g t cs rs := h.kept fun k hk => hb.block k (h.lt hk)
theorem Ob.alloc (h : Ob w g t cs rs) (o : Obj) : Ob (w.alloc o) g t cs rs := h.below ((Below.refl _ _).alloc (Nat.le_refl _) _)
theorem apart_head (h : Apart (blks g rs)) {r : Row} (hr : r ∈ rs) : r.v.ownBlock ≠ some g := by
  obtain ⟨h1, _⟩ := List.pairwise_cons.1 h
  exact h1 r.v.ownBlock (List.mem_map.2 ⟨r, hr, rfl⟩) g rfl
/-- a cell of the object's own block is stored -/
theorem Ob.set (h : Ob w g t cs rs) (i : Nat) (u : Value) : Ob (w.setCell ⟨g, i, none⟩ u) g t (cs.setIfInBounds i u) rs :=
  ⟨h.has.set i u, fun r hr => own_blocks (h.rows r hr) fun k hk => Below.heap_setCell _ _ _ _ (fun e => apart_head h.apart hr (by rw [hk]; exact congrArg some e)), h.apart⟩
theorem Turn.set (g : Nat) (rs : List Row) (i : Nat) (u : Value) (w : World) : Turn (blks g rs) (blks g rs) w (w.setCell ⟨g, i, none⟩ u) :=
  ⟨rfl, rfl, rfl, by simp [World.setCell], fun k _ hk => Below.heap_setCell _ _ _ _ (fun e => hk (by rw [show k = g from e]; exact List.mem_cons_self ..)), fun _ h => .inl h⟩
/-- one row turns: it is written to, or another one stands in its place -/
theorem Ob.row0 (h : Ob w g t cs rs) (i : Nat) {r r' : Row} (hr : rs[i]? = some r) (hg : w.grownBy w' r.v.ownBlock) (hr' : r'.ok w') (hnew : ∀ k, r'.v.ownBlock = some k → r.v.ownBlock = some k ∨ some k ∉ blks g rs) :
    Ob w' g t cs (rs.set i r') := by
  have hmem : r ∈ rs := List.mem_of_getElem? hr
  obtain ⟨hi, hri⟩ := List.getElem?_eq_some_iff.1 hr
  have hap := h.apart
  have hin : ∀ x, x ∈ rs → ∀ k, x.v.ownBlock = some k → some k ∈ blks g rs := fun x hx k hk => List.mem_cons_of_mem _ (List.mem_map.2 ⟨x, hx, hk⟩)
  have hget : ∀ j x, (rs.set i r')[j]? = some x → (j = i ∧ x = r') ∨ (j ≠ i ∧ rs[j]? = some x) := fun j x hj => by
    rw [List.getElem?_set] at hj
    split at hj
    · rename_i e; subst e
      first
        | (cases hj; exact .inl ⟨rfl, rfl⟩)
        | (split at hj
           · cases hj; exact .inl ⟨rfl, rfl⟩
           · cases hj)
    · rename_i e; exact .inr ⟨fun e2 => e e2.symm, hj⟩
  have hpair : ∀ j x, rs[j]? = some x → j ≠ i → ∀ k, x.v.ownBlock = some k → r.v.ownBlock ≠ some k := fun j x hj hji k hk e => by
    have hp := (List.pairwise_cons.1 hap).2
    rw [List.pairwise_map] at hp
    obtain ⟨hj1, hj2⟩ := List.getElem?_eq_some_iff.1 hj
    rcases Nat.lt_or_ge j i with h1 | h1
    · have := List.pairwise_iff_getElem.1 hp j i hj1 hi h1
      rw [hj2, hri] at this
      exact this k hk e
    · have := List.pairwise_iff_getElem.1 hp i j hi hj1 (by omega)
      rw [hj2, hri] at this
      exact this k e hk
  have hgr : r.v.ownBlock ≠ some g := apart_head hap hmem
  refine ⟨(hg.block g h.has.lt (fun e => hgr e.symm)).trans h.has, fun x hx => ?_, ?_⟩
  · obtain ⟨j, hj⟩ := List.getElem?_of_mem hx
    rcases hget j x hj with ⟨_, rfl⟩ | ⟨hji, hj2⟩
    · exact hr'
    · have hm2 : x ∈ rs := List.mem_of_getElem? hj2
      exact own_blocks (h.rows x hm2) fun k hk => hg.block k ((h.rows x hm2).lt k hk).2 (fun e => hpair j x hj2 hji k hk e.symm)
  · refine List.pairwise_cons.2 ⟨fun y hy k hk => ?_, ?_⟩
    · cases hk
      obtain ⟨x, hx, rfl⟩ := List.mem_map.1 hy
      obtain ⟨j, hj⟩ := List.getElem?_of_mem hx
      rcases hget j x hj with ⟨_, rfl⟩ | ⟨_, hj2⟩
      · intro e
        rcases hnew _ e with h2 | h2
        · exact hgr h2
        · exact h2 (List.mem_cons_self ..)
      · exact apart_head hap (List.mem_of_getElem? hj2)
    · rw [List.pairwise_map, List.pairwise_iff_getElem]
      intro j1 j2 h1 h2 hlt k hk e
      have g1 := hget j1 _ (List.getElem?_eq_getElem h1)
      have g2 := hget j2 _ (List.getElem?_eq_getElem h2)
      generalize (rs.set i r')[j1] = x1 at *
      generalize (rs.set i r')[j2] = x2 at *
      rcases g1 with ⟨e1, rfl⟩ | ⟨n1, q1⟩
      · rcases g2 with ⟨e2, rfl⟩ | ⟨n2, q2⟩
        · omega
        · rcases hnew k hk with h3 | h3
          · exact hpair j2 x2 q2 n2 k e h3
          · exact h3 (hin x2 (List.mem_of_getElem? q2) k e)
      · rcases g2 with ⟨e2, rfl⟩ | ⟨n2, q2⟩
        · rcases hnew k e with h3 | h3
          · exact hpair j1 x1 q1 n1 k hk h3
          · exact h3 (hin x1 (List.mem_of_getElem? q1) k hk)
        · have hp := (List.pairwise_cons.1 hap).2
          rw [List.pairwise_map] at hp
          obtain ⟨hj1, hj2⟩ := List.getElem?_eq_some_iff.1 q1
          obtain ⟨hk1, hk2⟩ := List.getElem?_eq_some_iff.1 q2
          have := List.pairwise_iff_getElem.1 hp j1 j2 hj1 hk1 hlt
          rw [hj2, hk2] at this
          exact this k hk e
theorem blks_set (rs : List Row) (i : Nat) (r' : Row) {k : Nat} (hk : some k ∈ blks g (rs.set i r')) : some k ∈ blks g rs ∨ r'.v.ownBlock = some k := by
  rcases List.mem_cons.1 hk with e | hk
  · exact .inl (e ▸ List.mem_cons_self ..)
  · obtain ⟨x, hx, e⟩ := List.mem_map.1 hk
    rcases List.mem_or_eq_of_mem_set hx with h | h
    · exact .inl (List.mem_cons_of_mem _ (List.mem_map.2 ⟨x, h, e⟩))
    · exact .inr (h ▸ e)
theorem Ob.row (h : Ob w g t cs rs) (i : Nat) {r r' : Row} (hr : rs[i]? = some r) (hg : w.grownBy w' r.v.ownBlock) (hr' : r'.ok w') (hat : r'.v.ownBlock = r.v.ownBlock ∨ ∀ k, r'.v.ownBlock = some k → w.heap.size ≤ k) :
    Ob w' g t cs (rs.set i r') ∧ Turn (blks g rs) (blks g (rs.set i r')) w w' := by
  have hmem : r ∈ rs := List.mem_of_getElem? hr
  have hnew : ∀ k, r'.v.ownBlock = some k → r.v.ownBlock = some k ∨ w.heap.size ≤ k := fun k hk => by
    rcases hat with e | e
    · exact .inl (e ▸ hk)
    · exact .inr (e k hk)
  refine ⟨h.row0 i hr hg hr' fun k hk => (hnew k hk).imp id fun h2 h3 => by have := h.lt h3; omega, ⟨hg.os, hg.tape, hg.output, hg.size, fun k hk hn => hg.block k hk (fun e => hn ?_), fun k hk => ?_⟩⟩
  · exact List.mem_cons_of_mem _ (List.mem_map.2 ⟨r, hmem, e.symm⟩)
  · rcases blks_set rs i r' hk with h2 | h2
    · exact .inl h2
    · rcases hnew k h2 with h3 | h3
      · exact .inl (List.mem_cons_of_mem _ (List.mem_map.2 ⟨r, hmem, h3⟩))
      · exact .inr h3
/-- another row, which lies beside the object, comes in the place of one -/
theorem Ob.swap (h : Ob w g t cs rs) (i : Nat) {r r' : Row} (hr : rs[i]? = some r) (hr' : r'.ok w) (hn : ∀ k, r'.v.ownBlock = some k → some k ∉ blks g rs) : Ob w g t cs (rs.set i r') :=
  h.row0 i hr (grownBy_refl _ _) hr' fun k hk => .inr (hn k hk)
theorem Turn.swap {w0 : World} (ht : Turn b (blks g rs) w0 w) (i : Nat) {r' : Row} (hlow : ∀ k, r'.v.ownBlock = some k → w0.heap.size ≤ k) : Turn b (blks g (rs.set i r')) w0 w :=
  ⟨ht.os, ht.tape, ht.output, ht.size, ht.block, fun k hk => by
    rcases blks_set rs i r' hk with h2 | h2
    · exact ht.new k h2
    · exact .inr (hlow k h2)⟩
theorem own_mono0 {w : World} {b : Nat} {e : TypeId} {size : Nat} {v : Value} {n : Nat} {xs : List Value} (h : w.ownsRow b e size v n xs) : w.ownsRow 0 e size v n xs := by
  refine ⟨h.1, ?_⟩
  rcases h.2 with h | ⟨g, cap, cur, hv, hbg, r⟩
  · exact .inl h
  · exact .inr ⟨g, cap, cur, hv, Nat.zero_le _, r⟩
theorem grownBy_weak {r : Option Nat} (h : w.grownBy w' none) : w.grownBy w' r := ⟨h.os, h.tape, h.output, h.size, fun k hk _ => h.block k hk (by simp)⟩
end

end Go.Proofs.Ytjihboddejaelaa

/-
  The reference's disk (1): filled, on, fits; plain texts.
-/
namespace Go.Proofs.Ytjihboddejaelaa
set_option linter.unusedVariables false
set_option linter.unusedSimpArgs false
open Go.RowKit
open Go.BigFrame
set_option linter.unusedVariables false
set_option linter.unusedSimpArgs false

theorem made_zeroN (n : Nat) (w : World) : BS (w.alloc (.cells (madeCells #[.int .u8 0] n) 5)) (some ⟨w.heap.size, 0, none⟩) n (List.replicate n 0) := by
  have e : madeCells #[Value.int .u8 0] n = (u8s (List.replicate n 0)).toArray := by
    apply Array.toList_inj.1
    rw [show (u8s (List.replicate n 0)).toArray.toList = List.replicate n (Value.int .u8 0) by simp [u8s, u8v]]
    refine List.eq_replicate_iff.2 ⟨by simp [size_madeCells], fun b hb => ?_⟩
    simp only [madeCells, Array.toList_map, List.mem_map] at hb
    obtain ⟨a, _, rfl⟩ := hb
    show (#[Value.int .u8 0] : Array Value)[a % 1]! = _
    rw [Nat.mod_one]; rfl
  rw [e]
  have := BS.of_has (Has.new w 5 (u8s (List.replicate n 0)).toArray)
  rwa [List.length_replicate] at this
theorem make_bytesN (i : Nat) (hi : i ≤ 67108864) (w : World) : (Instr.makeSlice 81 (.int .i64 i) (.int .i64 i)).run Try.prog w = .ok (.slice (some ⟨w.heap.size, 0, none⟩) i i) (w.alloc (.cells (madeCells #[.int .u8 0] i) 5)) := by
  obtain ⟨i0, hi0, hz0, hz1, hz2⟩ := info_parts infoByte
  have := run_make (P := Try.prog) w 81 5 i0 _ Try.underlying81 hi0 hz0 .i64 .i64 (i : Int) (i : Int) (by omega) (by omega) (by rw [hz2]; omega) (by omega)
  rw [hz1, show (Value.int .u8 0).cells = #[.int .u8 0] from rfl] at this
  simpa using this

set_option maxRecDepth 100000 in
set_option maxHeartbeats 1600000 in
theorem ref_filled (l : List UInt8) (n : Nat) (hl : l.length ≤ 67108864) (hn : n ≤ 67108864) (w : World) :
    Calls Try.prog 112 #[.string (bsOf l), .int .i64 n] w fun e w' => e = .returned (.string (bsOf (zerosTo l n))) ∧ Below w.heap.size w w' := by
  obtain ⟨S, hS⟩ : ∃ S, bsOf l = S := ⟨_, rfl⟩
  have hs : S.size = l.length := by rw [← hS, bsOf_size]
  by_cases h : n ≤ l.length
  · have E := Lib.hid (show bsOf (zerosTo l n) = S by rw [zerosTo_big h, hS])
    rw [E.out, hS]
    have h2 : n ≤ S.size := by omega
    have h3 : S.size ≤ 67108864 := by omega
    clear hs hl h hS
    go_enter Try.func112, Try.ntmps112
    go_wp2_with fail
    go_ret
    exact ⟨rfl, Below.refl _ _⟩
  · obtain ⟨k, hk⟩ : ∃ k, n - l.length = k := ⟨_, rfl⟩
    have hmk := make_bytesN k (by omega) w
    obtain ⟨Z, hZ⟩ : ∃ s, bsOf (List.replicate k 0) = s := ⟨_, rfl⟩
    have hcv := conv_BS (c := k) (made_zeroN k w)
    rw [hZ] at hcv
    have E := Lib.hid (show S ++ Z = bsOf (zerosTo l n) by rw [← hS, ← hZ, bsOf_append]; unfold zerosTo; rw [hk])
    have lz : Z.size = k := by rw [← hZ, bsOf_size, List.length_replicate]
    have h2 : ¬ n ≤ S.size := by omega
    have h3 : S.size ≤ 67108864 := by omega
    have h4 : (n : Int) - (S.size : Int) = (k : Int) := by omega
    rw [hS, ← E.out]
    have h5 : Z.size ≤ 67108864 := by omega
    clear hs hl h hS hZ hk lz
    go_enter Try.func112, Try.ntmps112
    go_wp2_with fail
    go_ret
    exact ⟨rfl, (Below.refl _ _).alloc (Nat.le_refl _) _⟩

theorem extr_take (l : List UInt8) (n : Nat) : (bsOf l).extract 0 n = bsOf (l.take n) := by
  apply ByteArray.ext; apply Array.toList_inj.1
  rw [Lib.extract_data, bsOf_data, bsOf_data]; simp
theorem extr_drop (l : List UInt8) (n : Nat) : (bsOf l).extract n (bsOf l).size = bsOf (l.drop n) := by
  apply ByteArray.ext; apply Array.toList_inj.1
  rw [Lib.extract_data, bsOf_data, bsOf_data, bsOf_size, List.take_of_length_le (by simp)]
def actVal (c : Ch) : Value := .agg #[.int .i64 c.file, .int .i64 c.at_, .string c.text, .bool c.cut]
theorem Has.cells4r {w : World} {g : Nat} {t : TypeId} {a0 a1 a2 a3 : Value} (h : Has w g t #[a0, a1, a2, a3]) : w.cell? ⟨g, 0, none⟩ = some a0 ∧ w.cell? ⟨g, 1, none⟩ = some a1 ∧ w.cell? ⟨g, 2, none⟩ = some a2 ∧ w.cell? ⟨g, 3, none⟩ = some a3 :=
  ⟨h.cell 0, h.cell 1, h.cell 2, h.cell 3⟩
set_option maxRecDepth 100000 in
set_option maxHeartbeats 1600000 in
theorem ref_on (c : Ch) (l : List UInt8) (hl : l.length ≤ 67108864) (hc : c.fits) (w : World) :
    Calls Try.prog 83 #[actVal c, .string (bsOf l)] w fun e w' => e = .returned (.string (bsOf (c.done l))) ∧ Below w.heap.size w w' := by
  obtain ⟨f, a, t, b⟩ := c
  obtain ⟨hf, ha, hat, hct⟩ := hc
  simp only at hf ha hat hct
  show Calls Try.prog 83 #[.agg #[.int .i64 f, .int .i64 a, .string t, .bool b], .string (bsOf l)] w fun e w' => e = .returned (.string (bsOf (Ch.done ⟨f, a, t, b⟩ l))) ∧ Below w.heap.size w w'
  have HX := Lib.hid (Has.new w 124 #[.int .i64 f, .int .i64 a, .string t, .bool b])
  have HB := Lib.hid ((Below.refl w.heap.size w).alloc (Nat.le_refl _) (.cells #[.int .i64 f, .int .i64 a, .string t, .bool b] 124))
  cases b with
  | true =>
    have T := Lib.hid (fun w1 => ref_filled l a hl ha w1)
    have hz := zerosTo_len l a
    have ex := extr_take (zerosTo l a) a
    have E := Lib.hid (show Ch.done ⟨f, a, t, true⟩ l = (zerosTo l a).take a from rfl)
    rw [E.out]
    obtain ⟨F, hF⟩ : ∃ F, bsOf (zerosTo l a) = F := ⟨_, rfl⟩
    obtain ⟨R, hR⟩ : ∃ F, bsOf ((zerosTo l a).take a) = F := ⟨_, rfl⟩
    obtain ⟨S, hS⟩ : ∃ F, bsOf l = F := ⟨_, rfl⟩
    have lF : F.size = max l.length a := by rw [← hF, bsOf_size, hz]
    have lF2 : a ≤ F.size := by omega
    have lF3 : F.size ≤ 67108864 := by omega
    rw [hF, hS] at T
    rw [hF, hR] at ex
    rw [hR, hS]
    have i1 : (0 : Int) ≤ (a : Int) := by omega
    have i2 : (a : Int) ≤ (F.size : Int) := by omega
    clear hz hF hR hS lF hl hat hct hf
    go_enter Try.func83, Try.ntmps83
    go_wp2_with fail
    generalize w.alloc (.cells #[.int .i64 f, .int .i64 a, .string t, .bool true] 124) = W at *
    obtain ⟨x0, x1, x2, x3⟩ := HX.out.cells4r
    have xz := HX.out.lt
    refine wp_region_cls (W) (by kernel_rfl) (by kernel_rfl) (Cls.start _) ?_
    repeat
      first
        | go_big_quiet_skip
        | (go_big_quiet_want; (first | go_big_quiet_op | go_simp); first | go_big_quiet_on | (apply Exists.intro; refine ⟨fun w' hw' => ?_, ?_⟩; (· (first | (with_reducible exact rfl) | ((go_at_call 112; refine (T.out _).mono ?_; rintro e w1 ⟨rfl, hb⟩; exact ⟨rfl, Cls.step hw' hb⟩)) | (obtain ⟨hc, hf⟩ := hw'.facts; go_simp; first | done | (with_reducible exact rfl) | (with_reducible exact ⟨rfl, rfl⟩)))); go_big_quiet_on))
    refine wpQuiet_nil ?_
    intro wq hq
    have HQ := Lib.hid hq
    clear hq
    go_wp2_with fail
    go_ret
    exact ⟨rfl, bel_step HB.out HQ.out HB.out.size⟩
  | false =>
    obtain ⟨N, hN⟩ : ∃ N, a + t.size = N := ⟨_, rfl⟩
    have hN2 : (a : Int) + (t.size : Int) = (N : Int) := by omega
    have T := Lib.hid (fun w1 => ref_filled l N hl (by omega) w1)
    have hz := zerosTo_len l N
    have ex := extr_take (zerosTo l N) a
    have ex2 := extr_drop (zerosTo l N) N
    have ht : t.data.toList.length = t.size := by simp
    obtain ⟨R, hR⟩ : ∃ F, bsOf (Ch.done ⟨f, a, t, false⟩ l) = F := ⟨_, rfl⟩
    have E := Lib.hid (show (bsOf ((zerosTo l N).take a) ++ t) ++ bsOf ((zerosTo l N).drop N) = R by
      rw [← hR, ← bsOf_of t, bsOf_append, bsOf_append]
      unfold Ch.done putL
      simp only [ht, hN, bsOf_of]
      rfl)
    obtain ⟨F, hF⟩ : ∃ F, bsOf (zerosTo l N) = F := ⟨_, rfl⟩
    obtain ⟨S, hS⟩ : ∃ F, bsOf l = F := ⟨_, rfl⟩
    obtain ⟨P1, hP1⟩ : ∃ F, bsOf ((zerosTo l N).take a) = F := ⟨_, rfl⟩
    obtain ⟨P2, hP2⟩ : ∃ F, bsOf ((zerosTo l N).drop N) = F := ⟨_, rfl⟩
    have lF : F.size = max l.length N := by rw [← hF, bsOf_size, hz]
    have lF2 : N ≤ F.size := by omega
    have lF4 : a ≤ F.size := by omega
    have lF3 : F.size ≤ 67108864 := by omega
    have lP1 : P1.size ≤ 67108864 := by rw [← hP1, bsOf_size, List.length_take]; omega
    have lP2 : P2.size ≤ 67108864 := by rw [← hP2, bsOf_size, List.length_drop]; omega
    rw [hF, hS] at T
    rw [hF, hP1] at ex
    rw [hF, hP2] at ex2
    rw [hP1, hP2] at E
    rw [hR, hS, ← E.out]
    have i1 : (0 : Int) ≤ (a : Int) := by omega
    have i2 : (a : Int) ≤ (F.size : Int) := by omega
    have i3 : (0 : Int) ≤ (N : Int) := by omega
    have i4 : (N : Int) ≤ (F.size : Int) := by omega
    have lt : t.size ≤ 67108864 := by omega
    clear hz hF hR hS lF hl hct hf hP1 hP2 ht hat hN
    go_enter Try.func83, Try.ntmps83
    go_upto_region 4 with (go_at_call 112; (with_reducible refine (T.out _).mono ?_); rintro e w1 ⟨rfl, hb1⟩)
    have HX1 := Lib.hid (HX.out.belowS hb1)
    have HB1 := Lib.hid (bel_step HB.out hb1 HB.out.size)
    clear hb1
    obtain ⟨x0, x1, x2, x3⟩ := HX1.out.cells4r
    have xz := HX1.out.lt
    have w1e : IntKind.i64.wrap ((a : Int) + (t.size : Int)) = (N : Int) := by rw [hN2]; exact IntWalk.i64_in _ ⟨by omega, by omega⟩
    have s1 : P1.size + t.size ≤ 9223372036854775807 := by omega
    have s2 : (P1 ++ t).size + P2.size ≤ 9223372036854775807 := by rw [ByteArray.size_append]; omega
    refine wp_region_cls (w1) (by kernel_rfl) (by kernel_rfl) (Cls.start _) ?_
    repeat
      first
        | go_big_quiet_skip
        | (go_big_quiet_want; (first | go_big_quiet_op | go_simp); first | go_big_quiet_on | (apply Exists.intro; refine ⟨fun w' hw' => ?_, ?_⟩; (· (first | (with_reducible exact rfl) | (fail) | (obtain ⟨hc, hf⟩ := hw'.facts; go_simp; first | done | (with_reducible exact rfl) | (with_reducible exact ⟨rfl, rfl⟩)))); go_big_quiet_on))
    refine wpQuiet_nil ?_
    intro wq hq
    have HQ := Lib.hid hq
    clear hq
    go_wp2_with fail
    go_ret
    exact ⟨rfl, bel_step HB1.out HQ.out HB1.out.size⟩

def inB (a b c : Int) : Bool := decide (b ≤ a) && decide (a ≤ c)
theorem inB_yes {a b c : Int} (h1 : b ≤ a) (h2 : a ≤ c) : inB a b c = true := by simp [inB, h1, h2]
theorem inB_no {a b c : Int} (h : ¬ (b ≤ a ∧ a ≤ c)) : inB a b c = false := by
  unfold inB; rw [Bool.and_eq_false_iff]; simp only [decide_eq_false_iff_not]; omega
theorem ref_inB (a b c : Int) (w : World) : Calls Try.prog 80 #[.int .i64 a, .int .i64 b, .int .i64 c] w fun e w' => e = .returned (.bool (inB a b c)) ∧ w = w' := ref_in a b c w
def fitsR (f a n : Int) : Bool := decide (fitsF f a n)
set_option maxHeartbeats 3200000 in
theorem ref_fits (f a n : Int) (w : World) : Calls Try.prog 97 #[.int .i64 f, .int .i64 a, .int .i64 n] w fun e w' => e = .returned (.bool (fitsR f a n)) ∧ w = w' := by
  have I1 := Lib.hid (fun w1 => ref_inB f 0 1 w1)
  have I2 := Lib.hid (fun w1 => ref_inB a 0 67108864 w1)
  have I3 := Lib.hid (fun w1 => ref_inB n 0 (67108864 - a) w1)
  by_cases h1 : 0 ≤ f ∧ f ≤ 1
  · rw [inB_yes h1.1 h1.2] at I1
    by_cases h2 : 0 ≤ a ∧ a ≤ 67108864
    · rw [inB_yes h2.1 h2.2] at I2
      obtain ⟨a1, a2⟩ := h2
      by_cases h3 : 0 ≤ n ∧ n ≤ 67108864 - a
      · rw [inB_yes h3.1 h3.2] at I3
        have E := Lib.hid (show fitsR f a n = true from decide_eq_true (by unfold fitsF; omega))
        clear h1 h3
        go_enter Try.func97, Try.ntmps97
        go_wp2_with (first | (go_at_call 80; (with_reducible refine (I1.out _).mono ?_); rintro e w1 ⟨rfl, rfl⟩) | (go_at_call 80; (with_reducible refine (I2.out _).mono ?_); rintro e w1 ⟨rfl, rfl⟩) | (go_at_call 80; (with_reducible refine (I3.out _).mono ?_); rintro e w1 ⟨rfl, rfl⟩))
        go_ret
        exact ⟨ret_bool (by rw [E.out]), rfl⟩
      · rw [inB_no h3] at I3
        have E := Lib.hid (show fitsR f a n = false from decide_eq_false (by unfold fitsF; omega))
        clear h1 h3
        go_enter Try.func97, Try.ntmps97
        go_wp2_with (first | (go_at_call 80; (with_reducible refine (I1.out _).mono ?_); rintro e w1 ⟨rfl, rfl⟩) | (go_at_call 80; (with_reducible refine (I2.out _).mono ?_); rintro e w1 ⟨rfl, rfl⟩) | (go_at_call 80; (with_reducible refine (I3.out _).mono ?_); rintro e w1 ⟨rfl, rfl⟩))
        go_ret
        exact ⟨ret_bool (by rw [E.out]), rfl⟩
    · rw [inB_no h2] at I2
      have E := Lib.hid (show fitsR f a n = false from decide_eq_false (by unfold fitsF; omega))
      clear h1 h2
      go_enter Try.func97, Try.ntmps97
      go_wp2_with (first | (go_at_call 80; (with_reducible refine (I1.out _).mono ?_); rintro e w1 ⟨rfl, rfl⟩) | (go_at_call 80; (with_reducible refine (I2.out _).mono ?_); rintro e w1 ⟨rfl, rfl⟩))
      go_ret
      exact ⟨ret_bool (by rw [E.out]), rfl⟩
  · rw [inB_no h1] at I1
    have E := Lib.hid (show fitsR f a n = false from decide_eq_false (by unfold fitsF; omega))
    clear h1
    go_enter Try.func97, Try.ntmps97
    go_wp2_with (go_at_call 80; (with_reducible refine (I1.out _).mono ?_); rintro e w1 ⟨rfl, rfl⟩)
    go_ret
    exact ⟨ret_bool (by rw [E.out]), rfl⟩

end Go.Proofs.Ytjihboddejaelaa

/-
  slotAt of package wal; slot, slotOf of the reference.
-/
namespace Go.Proofs.Ytjihboddejaelaa
set_option linter.unusedVariables false
set_option linter.unusedSimpArgs false
open Go.RowKit
open Go.BigFrame
set_option linter.unusedVariables false
set_option linter.unusedSimpArgs false

theorem extr_part (s : ByteArray) (a b : Nat) : s.extract a b = bsOf (partL s.data.toList a (b - a)) := by
  rw [← bsOf_of (s.extract a b), Lib.extract_data]
  congr 1
theorem beK_unK : ∀ (l : List UInt8) (k : Nat), l.length = k → beK (unK l) k = l := by
  intro l k
  induction k generalizing l with
  | zero => intro h; rw [List.eq_nil_of_length_eq_zero h]; rfl
  | succ k ih =>
    intro h
    obtain ⟨r, b, rfl⟩ : ∃ r b, l = r ++ [b] := ⟨l.dropLast, l.getLast (by intro e; rw [e] at h; cases h), (List.dropLast_concat_getLast _).symm⟩
    have hb := byte_lt b
    rw [unK_snoc, beK, show (256 * unK r + b.toNat) / 256 = unK r by omega, ih r (by simpa using h)]
    congr 2
    apply UInt8.toNat_inj.1
    rw [UInt8.toNat_ofNat']; omega
theorem partL_zero (l : List UInt8) (n : Nat) : partL l 0 n = l.take n := by unfold partL; rw [List.drop_zero]
theorem take12 {t : List UInt8} (ht : t.length = 24) : t.take 12 = t.take 4 ++ partL t 4 4 ++ partL t 8 4 := by
  refine List.ext_getElem? fun i => ?_
  rw [List.getElem?_take]
  rcases Nat.lt_or_ge i 4 with h | h
  · rw [if_pos (by omega), List.append_assoc, List.getElem?_append_left (by simp; omega), List.getElem?_take, if_pos h]
  · rcases Nat.lt_or_ge i 8 with h2 | h2
    · rw [if_pos (by omega), List.append_assoc, List.getElem?_append_right (by simp; omega), List.getElem?_append_left (by simp [partL_len]; omega), partL_get, if_pos (by simp; omega)]
      congr 1; simp; omega
    · rw [List.append_assoc, List.getElem?_append_right (by simp; omega), List.getElem?_append_right (by simp [partL_len]; omega), partL_get]
      simp only [List.length_take, partL_len, ht]
      split
      · rw [if_pos (by omega)]; congr 1; omega
      · rw [if_neg (by omega)]
theorem slotL_parts {t : List UInt8} (ht : t.length = 24) : t.take 12 = t.drop 12 ↔ t = slotL (unK (t.take 4)) (unK (partL t 4 4)) (unK (partL t 8 4)) := by
  have e : slotL (unK (t.take 4)) (unK (partL t 4 4)) (unK (partL t 8 4)) = t.take 12 ++ t.take 12 := by
    unfold slotL
    rw [beK_unK _ 4 (by simp; omega), beK_unK _ 4 (by simp [partL_len]; omega), beK_unK _ 4 (by simp [partL_len]; omega), ← take12 ht]
  rw [e]
  constructor
  · intro h
    conv => lhs; rw [← List.take_append_drop 12 t, ← h]
  · intro h
    have : t.drop 12 = (t.take 12 ++ t.take 12).drop 12 := by rw [← h]
    rw [this, List.drop_append_of_le_length (by simp; omega), List.drop_of_length_le (by simp; omega), List.nil_append]
theorem slotOf_near {l : List UInt8} {k : Nat} (h : ¬ l.length < 40 + 24 * k) {t : List UInt8} (ht : partL l (16 + 24 * k) 24 = t) {n f p : Nat} (hn : unK (t.take 4) = n) (hf : unK (partL t 4 4) = f) (hp : unK (partL t 8 4) = p) :
    slotOf l k = if t = slotL n f p ∧ 1 ≤ n ∧ n ≤ 3 ∧ (f = 0 ∨ 64 + 1028 * f ≤ l.length) then (n, f, p) else (0, 0, 0) := by
  have hl : t.length = 24 := by rw [← ht, partL_len]; omega
  have e := slotL_parts hl
  unfold slotOf
  rw [if_neg h]
  simp only [ht, hn, hf, hp]
  rw [hn, hf, hp] at e
  by_cases hC : t = slotL n f p ∧ 1 ≤ n ∧ n ≤ 3 ∧ (f = 0 ∨ 64 + 1028 * f ≤ l.length)
  · rw [if_pos hC, if_neg]
    rintro (h1 | h1 | h1)
    · exact h1 (e.2 hC.1)
    · exact h1 ⟨hC.2.1, hC.2.2.1⟩
    · have := hC.2.2.2; omega
  · rw [if_neg hC, if_pos]
    by_cases h1 : t.take 12 = t.drop 12
    · refine .inr ?_
      by_cases h2 : 1 ≤ n ∧ n ≤ 3
      · refine .inr ?_
        by_cases h3 : f = 0 ∨ 64 + 1028 * f ≤ l.length
        · exact absurd ⟨e.1 h1, h2.1, h2.2, h3⟩ hC
        · omega
      · exact .inl h2
    · exact .inl h1
theorem results_tmp4 {fn : Func} {t u v x : Tmp} (h : fn.results = #[.tmp t, .tmp u, .tmp v, .tmp x]) (tmps : Array Value) (P : Program) (w : World) :
    (results fn tmps).run P w = .ok (.tuple #[tmps.getD t undef, tmps.getD u undef, tmps.getD v undef, tmps.getD x undef]) w := by
  simp [results, h]
/-- what slotAt says of a slot -/
def SlotIs (l : List UInt8) (k : Nat) (n f p : Nat) (b : Bool) : Prop := b = decide ((slotOf l k).1 ≠ 0) ∧ (b = true → slotOf l k = (n, f, p))
def SlotAtPost (w : World) (l : List UInt8) (k : Nat) (e : Ending) (w' : World) : Prop :=
  ∃ (n f p : Nat) (b : Bool), e = .returned (.tuple #[.int .i64 n, .int .i64 f, .int .i64 p, .bool b]) ∧ SlotIs l k n f p b ∧ Below w.heap.size w w'
theorem SlotIs.mk {l : List UInt8} {k n f p : Nat} {b : Bool} {C : Prop} [Decidable C] (h : slotOf l k = if C then (n, f, p) else (0, 0, 0)) (hn : C → 1 ≤ n) (hb : b = true ↔ C) : SlotIs l k n f p b := by
  unfold SlotIs
  rw [h]
  by_cases hC : C
  · have := hn hC
    rw [if_pos hC, hb.2 hC]
    exact ⟨by simp; omega, fun _ => rfl⟩
  · have hf : b = false := by cases b with
      | true => exact absurd (hb.1 rfl) hC
      | false => rfl
    rw [if_neg hC, hf]
    exact ⟨by simp, fun h => by cases h⟩
theorem slotOf_far {l : List UInt8} {k : Nat} (h : l.length < 40 + 24 * k) : slotOf l k = (0, 0, 0) := if_pos h

set_option maxRecDepth 100000 in
set_option maxHeartbeats 1600000 in
theorem wal_slotAt (s : ByteArray) (k : Nat) (hk : k < 2) (hs : s.size ≤ 67108864) (w : World) :
    Calls Try.prog 102 #[.string s, .int .i64 k] w (SlotAtPost w s.data.toList k) := by
  by_cases h1 : s.size < 40 + 24 * k
  · have E := Lib.hid (slotOf_far (l := s.data.toList) (k := k) (by simpa using h1))
    go_enter Try.func102, Try.ntmps102
    go_wp2_with fail
    ((try simp only [Exit.inBlock, Exit.then]); refine bodyPost_ret (results_tmp4 rfl _ _ _) rfl ?_)
    exact ⟨0, 0, 0, false, rfl, ⟨by rw [E.out]; rfl, fun h => by cases h⟩, Below.refl _ _⟩
  · obtain ⟨T, hT⟩ : ∃ T, s.extract (16 + 24 * k) (40 + 24 * k) = T := ⟨_, rfl⟩
    have hz : T.size = 24 := by rw [← hT, ByteArray.size_extract]; omega
    obtain ⟨T4, hT4⟩ : ∃ U, T.extract 4 24 = U := ⟨_, rfl⟩
    obtain ⟨T8, hT8⟩ : ∃ U, T.extract 8 24 = U := ⟨_, rfl⟩
    have hz4 : T4.size = 20 := by rw [← hT4, ByteArray.size_extract]; omega
    have hz8 : T8.size = 16 := by rw [← hT8, ByteArray.size_extract]; omega
    have N0 := Lib.hid (wal_number T (by omega))
    have N4 := Lib.hid (wal_number T4 (by omega))
    have N8 := Lib.hid (wal_number T8 (by omega))
    obtain ⟨n, hn⟩ : ∃ n, unK (T.data.toList.take 4) = n := ⟨_, rfl⟩
    obtain ⟨f, hf⟩ : ∃ n, unK (T4.data.toList.take 4) = n := ⟨_, rfl⟩
    obtain ⟨p, hp⟩ : ∃ n, unK (T8.data.toList.take 4) = n := ⟨_, rfl⟩
    have ln : n < 4294967296 := by rw [← hn]; exact unK_lt 4 _ (by simp; omega)
    have lf : f < 4294967296 := by rw [← hf]; exact unK_lt 4 _ (by simp; omega)
    have lp : p < 4294967296 := by rw [← hp]; exact unK_lt 4 _ (by simp; omega)
    have ST := Lib.hid (wal_slotText n f p (by omega) (by omega) (by omega))
    obtain ⟨S, hS⟩ : ∃ S, bsOf (slotL n f p) = S := ⟨_, rfl⟩
    rw [hn] at N0; rw [hf] at N4; rw [hp] at N8; rw [hS] at ST
    have E := Lib.hid (show slotOf s.data.toList k = if T.toList = S.toList ∧ 1 ≤ n ∧ n ≤ 3 ∧ (f = 0 ∨ 64 + 1028 * f ≤ s.size) then (n, f, p) else (0, 0, 0) by
      have hT2 : T.data.toList = partL s.data.toList (16 + 24 * k) 24 := by rw [← hT, extr_part, bsOf_data]; congr 1; omega
      have hf2 : unK (partL T.data.toList 4 4) = f := by rw [← hf, ← hT4, extr_part, bsOf_data]; unfold partL; simp [List.take_take]
      have hp2 : unK (partL T.data.toList 8 4) = p := by rw [← hp, ← hT8, extr_part, bsOf_data]; unfold partL; simp [List.take_take]
      have := slotOf_near (l := s.data.toList) (k := k) (by simpa using h1) hT2.symm hn hf2 hp2
      rw [this, Lib.toList_data, Lib.toList_data, ← hS, bsOf_data, Array.length_toList]
      rfl)
    have HS := Lib.hid hS; have HN := Lib.hid hn; have HF := Lib.hid hf; have HP := Lib.hid hp
    clear hS hn hf hp
    obtain rfl | rfl : k = 0 ∨ k = 1 := by omega
    · rw [show ((0 : Nat) : Int) = 0 from rfl]
      go_enter Try.func102, Try.ntmps102
      go_wp2_with fail
      refine wp_region_cls (w) (by kernel_rfl) (by kernel_rfl) (Cls.start _) ?_
      repeat
        first
          | go_big_quiet_skip
          | (go_big_quiet_want; (first | go_big_quiet_op | go_simp); first | go_big_quiet_on | (apply Exists.intro; refine ⟨fun w' hw' => ?_, ?_⟩; (· (first | (with_reducible exact rfl) | (first | (go_at_call 65; (with_reducible refine (N0.out _).mono ?_); rintro e w1 ⟨rfl, hb⟩; exact ⟨rfl, Cls.step hw' hb⟩) | (go_at_call 65; (with_reducible refine (N4.out _).mono ?_); rintro e w1 ⟨rfl, hb⟩; exact ⟨rfl, Cls.step hw' hb⟩) | (go_at_call 65; (with_reducible refine (N8.out _).mono ?_); rintro e w1 ⟨rfl, hb⟩; exact ⟨rfl, Cls.step hw' hb⟩)) | (obtain ⟨hc, hf⟩ := hw'.facts; go_simp; first | done | (with_reducible exact rfl) | (with_reducible exact ⟨rfl, rfl⟩)))); go_big_quiet_on))
      refine wpQuiet_nil ?_
      intro wq hq
      go_wp2_with (go_at_call 106; (with_reducible refine (ST.out _).mono ?_); rintro e w1 ⟨rfl, hb⟩; obtain ⟨hc, hf⟩ := bcell hb; have hz := hb.size; (try simp at hz))
      all_goals
        ((try simp only [Exit.inBlock, Exit.then]); refine bodyPost_ret (results_tmp4 rfl _ _ _) rfl ?_)
        first
          | refine ⟨n, f, p, _, rfl, SlotIs.mk E.out (fun h => h.2.1) ?_, bel_step hq.bel hb hq.bel.size⟩
          | refine ⟨n, 0, p, _, rfl, SlotIs.mk (C := T.toList = S.toList ∧ 1 ≤ n ∧ n ≤ 3) ?_ (fun h => h.2.1) ?_, bel_step hq.bel hb hq.bel.size⟩
        all_goals first
          | (have f0 : f = 0 := by assumption
             rw [E.out, f0]; simp; done)
          | (constructor
             · intro h
               first
                 | (cases h; done)
                 | exact ⟨by assumption, by omega, by omega⟩
                 | (refine ⟨by assumption, by omega, by omega, ?_⟩; simp at h; omega)
             · rintro ⟨h1, h2⟩
               first
                 | rfl
                 | exact absurd h1 (by assumption)
                 | (exfalso; omega)
                 | (simp; omega))
    · rw [show ((1 : Nat) : Int) = 1 from rfl]
      go_enter Try.func102, Try.ntmps102
      go_wp2_with fail
      refine wp_region_cls (w) (by kernel_rfl) (by kernel_rfl) (Cls.start _) ?_
      repeat
        first
          | go_big_quiet_skip
          | (go_big_quiet_want; (first | go_big_quiet_op | go_simp); first | go_big_quiet_on | (apply Exists.intro; refine ⟨fun w' hw' => ?_, ?_⟩; (· (first | (with_reducible exact rfl) | (first | (go_at_call 65; (with_reducible refine (N0.out _).mono ?_); rintro e w1 ⟨rfl, hb⟩; exact ⟨rfl, Cls.step hw' hb⟩) | (go_at_call 65; (with_reducible refine (N4.out _).mono ?_); rintro e w1 ⟨rfl, hb⟩; exact ⟨rfl, Cls.step hw' hb⟩) | (go_at_call 65; (with_reducible refine (N8.out _).mono ?_); rintro e w1 ⟨rfl, hb⟩; exact ⟨rfl, Cls.step hw' hb⟩)) | (obtain ⟨hc, hf⟩ := hw'.facts; go_simp; first | done | (with_reducible exact rfl) | (with_reducible exact ⟨rfl, rfl⟩)))); go_big_quiet_on))
      refine wpQuiet_nil ?_
      intro wq hq
      go_wp2_with (go_at_call 106; (with_reducible refine (ST.out _).mono ?_); rintro e w1 ⟨rfl, hb⟩; obtain ⟨hc, hf⟩ := bcell hb; have hz := hb.size; (try simp at hz))
      all_goals
        ((try simp only [Exit.inBlock, Exit.then]); refine bodyPost_ret (results_tmp4 rfl _ _ _) rfl ?_)
        first
          | refine ⟨n, f, p, _, rfl, SlotIs.mk E.out (fun h => h.2.1) ?_, bel_step hq.bel hb hq.bel.size⟩
          | refine ⟨n, 0, p, _, rfl, SlotIs.mk (C := T.toList = S.toList ∧ 1 ≤ n ∧ n ≤ 3) ?_ (fun h => h.2.1) ?_, bel_step hq.bel hb hq.bel.size⟩
        all_goals first
          | (have f0 : f = 0 := by assumption
             rw [E.out, f0]; simp; done)
          | (constructor
             · intro h
               first
                 | (cases h; done)
                 | exact ⟨by assumption, by omega, by omega⟩
                 | (refine ⟨by assumption, by omega, by omega, ?_⟩; simp at h; omega)
             · rintro ⟨h1, h2⟩
               first
                 | rfl
                 | exact absurd h1 (by assumption)
                 | (exfalso; omega)
                 | (simp; omega))

set_option maxRecDepth 100000 in
set_option maxHeartbeats 1600000 in
theorem ref_slot (n f p : Nat) (hn : n ≤ 4611686018427387904) (hf : f ≤ 4611686018427387904) (hp : p ≤ 4611686018427387904) (w : World) : Calls Try.prog 111 #[.int .i64 n, .int .i64 f, .int .i64 p] w fun e w' => e = .returned (.string (bsOf (slotL n f p))) ∧ Below w.heap.size w w' := by
  have T1 := Lib.hid (fun w => ref_bytes n 4 (by omega) (by omega) w)
  have T2 := Lib.hid (fun w => ref_bytes f 4 (by omega) (by omega) w)
  have T3 := Lib.hid (fun w => ref_bytes p 4 (by omega) (by omega) w)
  have E := Lib.hid (show bsOf (slotL n f p) = bsOf (beK n 4) ++ bsOf (beK f 4) ++ bsOf (beK p 4) ++ (bsOf (beK n 4) ++ bsOf (beK f 4) ++ bsOf (beK p 4)) by simp only [bsOf_append, slotL])
  rw [E.out]
  obtain ⟨s1, hs1⟩ : ∃ s, bsOf (beK n 4) = s := ⟨_, rfl⟩
  obtain ⟨s2, hs2⟩ : ∃ s, bsOf (beK f 4) = s := ⟨_, rfl⟩
  obtain ⟨s3, hs3⟩ : ∃ s, bsOf (beK p 4) = s := ⟨_, rfl⟩
  have z1 : s1.size = 4 := by rw [← hs1, bsOf_size, beK_len]
  have z2 : s2.size = 4 := by rw [← hs2, bsOf_size, beK_len]
  have z3 : s3.size = 4 := by rw [← hs3, bsOf_size, beK_len]
  have u1 : (n : Int) % 18446744073709551616 = n := by omega
  have u2 : (f : Int) % 18446744073709551616 = f := by omega
  have u3 : (p : Int) % 18446744073709551616 = p := by omega
  simp only [hs1, hs2, hs3, show ((4 : Nat) : Int) = 4 from rfl] at T1 T2 T3 ⊢
  clear E hs1 hs2 hs3
  go_enter Try.func111, Try.ntmps111
  go_wp2_with (first | (go_at_call 81; (with_reducible refine (T1.out _).mono ?_); rintro e w1 ⟨rfl, hb⟩; obtain ⟨hc, hf⟩ := bcell hb; have hz := hb.size; (try simp at hz)) | (go_at_call 81; (with_reducible refine (T2.out _).mono ?_); rintro e w1 ⟨rfl, hb⟩; obtain ⟨hc, hf⟩ := bcell hb; have hz := hb.size; (try simp at hz)) | (go_at_call 81; (with_reducible refine (T3.out _).mono ?_); rintro e w1 ⟨rfl, hb⟩; obtain ⟨hc, hf⟩ := bcell hb; have hz := hb.size; (try simp at hz)))
  go_ret
  rename_i wa ha _ _ za wb hb2 _ _ zb
  exact ⟨rfl, bel_step (bel_step ha hb2 za) hb (Nat.le_trans za zb)⟩

end Go.Proofs.Ytjihboddejaelaa

/-
  slotOf of the reference.
-/
namespace Go.Proofs.Ytjihboddejaelaa
set_option linter.unusedVariables false
set_option linter.unusedSimpArgs false
open Go.RowKit
open Go.BigFrame
set_option linter.unusedVariables false
set_option linter.unusedSimpArgs false

def SlotVal (x : Nat × Nat × Nat) : Value := .tuple #[.int .i64 x.1, .int .i64 x.2.1, .int .i64 x.2.2]
theorem slotVal_zero : SlotVal (0, 0, 0) = .tuple #[.int .i64 0, .int .i64 0, .int .i64 0] := rfl

set_option maxRecDepth 100000 in
set_option maxHeartbeats 1600000 in
theorem ref_slotOf (s : ByteArray) (k : Nat) (hk : k < 2) (hs : s.size ≤ 67108864) (w : World) :
    Calls Try.prog 77 #[.string s, .int .i64 k] w fun e w' => e = .returned (SlotVal (slotOf s.data.toList k)) ∧ Below w.heap.size w w' := by
  by_cases h1 : s.size < 40 + 24 * k
  · have E := Lib.hid (slotOf_far (l := s.data.toList) (k := k) (by simpa using h1))
    rw [E.out, slotVal_zero]
    go_enter Try.func77, Try.ntmps77
    go_wp2_with fail
    go_ret3
    exact ⟨rfl, Below.refl _ _⟩
  · obtain ⟨T, hT⟩ : ∃ T, s.extract (16 + 24 * k) (40 + 24 * k) = T := ⟨_, rfl⟩
    have hz : T.size = 24 := by rw [← hT, ByteArray.size_extract]; omega
    obtain ⟨T0, hT0⟩ : ∃ U, T.extract 0 4 = U := ⟨_, rfl⟩
    obtain ⟨T4, hT4⟩ : ∃ U, T.extract 4 8 = U := ⟨_, rfl⟩
    obtain ⟨T8, hT8⟩ : ∃ U, T.extract 8 12 = U := ⟨_, rfl⟩
    obtain ⟨U, hU⟩ : ∃ U, T.extract 0 12 = U := ⟨_, rfl⟩
    obtain ⟨V, hV⟩ : ∃ U, T.extract 12 24 = U := ⟨_, rfl⟩
    have hz0 : T0.size = 4 := by rw [← hT0, ByteArray.size_extract]; omega
    have hz4 : T4.size = 4 := by rw [← hT4, ByteArray.size_extract]; omega
    have hz8 : T8.size = 4 := by rw [← hT8, ByteArray.size_extract]; omega
    have N0 := Lib.hid (ref_unbytes T0 (by omega))
    have N4 := Lib.hid (ref_unbytes T4 (by omega))
    have N8 := Lib.hid (ref_unbytes T8 (by omega))
    obtain ⟨n, hn⟩ : ∃ n, unK T0.data.toList = n := ⟨_, rfl⟩
    obtain ⟨f, hf⟩ : ∃ n, unK T4.data.toList = n := ⟨_, rfl⟩
    obtain ⟨p, hp⟩ : ∃ n, unK T8.data.toList = n := ⟨_, rfl⟩
    have ln : n < 4294967296 := by rw [← hn]; exact unK_lt 4 _ (by simp; omega)
    have lf : f < 4294967296 := by rw [← hf]; exact unK_lt 4 _ (by simp; omega)
    have lp : p < 4294967296 := by rw [← hp]; exact unK_lt 4 _ (by simp; omega)
    rw [hn] at N0; rw [hf] at N4; rw [hp] at N8
    have E := Lib.hid (show slotOf s.data.toList k = if ¬ U.toList = V.toList ∨ ¬ (1 ≤ n ∧ n ≤ 3) ∨ 0 < f ∧ s.size < 64 + 1028 * f then (0, 0, 0) else (n, f, p) by
      have hT2 : partL s.data.toList (16 + 24 * k) 24 = T.data.toList := by rw [← hT, extr_part, bsOf_data]; congr 1; omega
      unfold slotOf
      rw [if_neg (by simpa using h1)]
      simp only [hT2]
      have e0 : unK (T.data.toList.take 4) = n := by rw [← hn, ← hT0, extr_part, bsOf_data, partL_zero]
      have e4 : unK (partL T.data.toList 4 4) = f := by rw [← hf, ← hT4, extr_part, bsOf_data]
      have e8 : unK (partL T.data.toList 8 4) = p := by rw [← hp, ← hT8, extr_part, bsOf_data]
      have eU : U.toList = T.data.toList.take 12 := by rw [← hU, Lib.toList_data, extr_part, bsOf_data, partL_zero]
      have eV : V.toList = T.data.toList.drop 12 := by
        rw [← hV, Lib.toList_data, extr_part, bsOf_data]; unfold partL; exact List.take_of_length_le (by rw [List.length_drop, Array.length_toList]; show T.size - 12 ≤ _; omega)
      rw [e0, e4, e8, eU, eV, Array.length_toList]
      rfl)
    have HN := Lib.hid hn; have HF := Lib.hid hf; have HP := Lib.hid hp
    have IN := Lib.hid (fun w => ref_in n 1 3 w)
    clear hn hf hp
    obtain rfl | rfl : k = 0 ∨ k = 1 := by omega
    · rw [show ((0 : Nat) : Int) = 0 from rfl]
      by_cases q1 : U.toList = V.toList
      · by_cases q2 : 1 ≤ n ∧ n ≤ 3
        · by_cases q3 : 0 < f
          · by_cases q4 : s.size < 64 + 1028 * f
            · skip
              have b1 : (U.toList == V.toList) = true := by simpa using q1
              have b2 : (decide ((1 : Int) ≤ (n : Int)) && decide ((n : Int) ≤ (3 : Int))) = true := by simp; omega
              rw [b2] at IN
              have b3 : decide ((0 : Int) < (f : Int)) = true := by simp; omega
              have b4 : decide ((s.size : Int) < 64 + (f : Int) * 1028) = true := by simp; omega
              have E := Lib.hid (E.out.trans (if_pos (.inr (.inr ⟨q3, q4⟩))))
              rw [E.out, slotVal_zero]
              go_enter Try.func77, Try.ntmps77
              go_wp2_with fail
              refine wp_region_cls (w) (by kernel_rfl) (by kernel_rfl) (Cls.start _) ?_
              repeat
                first
                  | go_big_quiet_skip
                  | (go_big_quiet_want; (first | go_big_quiet_op | go_simp); first | go_big_quiet_on | (apply Exists.intro; refine ⟨fun w' hw' => ?_, ?_⟩; (· (first | (with_reducible exact rfl) | (first | (go_at_call 79; (with_reducible refine (N0.out _).mono ?_); rintro e w1 ⟨rfl, rfl⟩; exact ⟨rfl, hw'⟩) | (go_at_call 79; (with_reducible refine (N4.out _).mono ?_); rintro e w1 ⟨rfl, rfl⟩; exact ⟨rfl, hw'⟩) | (go_at_call 79; (with_reducible refine (N8.out _).mono ?_); rintro e w1 ⟨rfl, rfl⟩; exact ⟨rfl, hw'⟩)) | (obtain ⟨hc, hf⟩ := hw'.facts; go_simp; first | done | (with_reducible exact rfl) | (with_reducible exact ⟨rfl, rfl⟩)))); go_big_quiet_on))
              refine wpQuiet_nil ?_
              intro wq hq
              have hq1 := hq.bel
              clear hq
              go_wp2_with fail
              refine wp_region_cls (wq) (by kernel_rfl) (by kernel_rfl) (Cls.start _) ?_
              repeat
                first
                  | go_big_quiet_skip
                  | (go_big_quiet_want; (first | go_big_quiet_op | go_simp); first | go_big_quiet_on | (apply Exists.intro; refine ⟨fun w' hw' => ?_, ?_⟩; (· (first | (with_reducible exact rfl) | ((go_at_call 80; refine (IN.out _).mono ?_; rintro e w1 ⟨rfl, rfl⟩; exact ⟨rfl, hw'⟩)) | (obtain ⟨hc, hf⟩ := hw'.facts; go_simp; first | done | (with_reducible exact rfl) | (with_reducible exact ⟨rfl, rfl⟩)))); go_big_quiet_on))
              refine wpQuiet_nil ?_
              intro wq hq
              go_wp2_with fail
              go_ret3
              exact ⟨rfl, bel_step hq1 hq.bel hq1.size⟩
            · skip
              have b1 : (U.toList == V.toList) = true := by simpa using q1
              have b2 : (decide ((1 : Int) ≤ (n : Int)) && decide ((n : Int) ≤ (3 : Int))) = true := by simp; omega
              rw [b2] at IN
              have b3 : decide ((0 : Int) < (f : Int)) = true := by simp; omega
              have b4 : decide ((s.size : Int) < 64 + (f : Int) * 1028) = false := by simp; omega
              have E := Lib.hid (E.out.trans (if_neg (fun h => h.elim (fun h => h q1) (fun h => h.elim (fun h => h q2) (fun h => q4 h.2)))))
              rw [E.out, show SlotVal (n, f, p) = .tuple #[.int .i64 n, .int .i64 f, .int .i64 p] from rfl]
              go_enter Try.func77, Try.ntmps77
              go_wp2_with fail
              refine wp_region_cls (w) (by kernel_rfl) (by kernel_rfl) (Cls.start _) ?_
              repeat
                first
                  | go_big_quiet_skip
                  | (go_big_quiet_want; (first | go_big_quiet_op | go_simp); first | go_big_quiet_on | (apply Exists.intro; refine ⟨fun w' hw' => ?_, ?_⟩; (· (first | (with_reducible exact rfl) | (first | (go_at_call 79; (with_reducible refine (N0.out _).mono ?_); rintro e w1 ⟨rfl, rfl⟩; exact ⟨rfl, hw'⟩) | (go_at_call 79; (with_reducible refine (N4.out _).mono ?_); rintro e w1 ⟨rfl, rfl⟩; exact ⟨rfl, hw'⟩) | (go_at_call 79; (with_reducible refine (N8.out _).mono ?_); rintro e w1 ⟨rfl, rfl⟩; exact ⟨rfl, hw'⟩)) | (obtain ⟨hc, hf⟩ := hw'.facts; go_simp; first | done | (with_reducible exact rfl) | (with_reducible exact ⟨rfl, rfl⟩)))); go_big_quiet_on))
              refine wpQuiet_nil ?_
              intro wq hq
              have hq1 := hq.bel
              clear hq
              go_wp2_with fail
              refine wp_region_cls (wq) (by kernel_rfl) (by kernel_rfl) (Cls.start _) ?_
              repeat
                first
                  | go_big_quiet_skip
                  | (go_big_quiet_want; (first | go_big_quiet_op | go_simp); first | go_big_quiet_on | (apply Exists.intro; refine ⟨fun w' hw' => ?_, ?_⟩; (· (first | (with_reducible exact rfl) | ((go_at_call 80; refine (IN.out _).mono ?_; rintro e w1 ⟨rfl, rfl⟩; exact ⟨rfl, hw'⟩)) | (obtain ⟨hc, hf⟩ := hw'.facts; go_simp; first | done | (with_reducible exact rfl) | (with_reducible exact ⟨rfl, rfl⟩)))); go_big_quiet_on))
              refine wpQuiet_nil ?_
              intro wq hq
              go_wp2_with fail
              go_ret3
              exact ⟨rfl, bel_step hq1 hq.bel hq1.size⟩
          · skip
            have b1 : (U.toList == V.toList) = true := by simpa using q1
            have b2 : (decide ((1 : Int) ≤ (n : Int)) && decide ((n : Int) ≤ (3 : Int))) = true := by simp; omega
            rw [b2] at IN
            have b3 : decide ((0 : Int) < (f : Int)) = false := by simp; omega
            have E := Lib.hid (E.out.trans (if_neg (fun h => h.elim (fun h => h q1) (fun h => h.elim (fun h => h q2) (fun h => q3 h.1)))))
            rw [E.out, show SlotVal (n, f, p) = .tuple #[.int .i64 n, .int .i64 f, .int .i64 p] from rfl]
            go_enter Try.func77, Try.ntmps77
            go_wp2_with fail
            refine wp_region_cls (w) (by kernel_rfl) (by kernel_rfl) (Cls.start _) ?_
            repeat
              first
                | go_big_quiet_skip
                | (go_big_quiet_want; (first | go_big_quiet_op | go_simp); first | go_big_quiet_on | (apply Exists.intro; refine ⟨fun w' hw' => ?_, ?_⟩; (· (first | (with_reducible exact rfl) | (first | (go_at_call 79; (with_reducible refine (N0.out _).mono ?_); rintro e w1 ⟨rfl, rfl⟩; exact ⟨rfl, hw'⟩) | (go_at_call 79; (with_reducible refine (N4.out _).mono ?_); rintro e w1 ⟨rfl, rfl⟩; exact ⟨rfl, hw'⟩) | (go_at_call 79; (with_reducible refine (N8.out _).mono ?_); rintro e w1 ⟨rfl, rfl⟩; exact ⟨rfl, hw'⟩)) | (obtain ⟨hc, hf⟩ := hw'.facts; go_simp; first | done | (with_reducible exact rfl) | (with_reducible exact ⟨rfl, rfl⟩)))); go_big_quiet_on))
            refine wpQuiet_nil ?_
            intro wq hq
            have hq1 := hq.bel
            clear hq
            go_wp2_with fail
            refine wp_region_cls (wq) (by kernel_rfl) (by kernel_rfl) (Cls.start _) ?_
            repeat
              first
                | go_big_quiet_skip
                | (go_big_quiet_want; (first | go_big_quiet_op | go_simp); first | go_big_quiet_on | (apply Exists.intro; refine ⟨fun w' hw' => ?_, ?_⟩; (· (first | (with_reducible exact rfl) | ((go_at_call 80; refine (IN.out _).mono ?_; rintro e w1 ⟨rfl, rfl⟩; exact ⟨rfl, hw'⟩)) | (obtain ⟨hc, hf⟩ := hw'.facts; go_simp; first | done | (with_reducible exact rfl) | (with_reducible exact ⟨rfl, rfl⟩)))); go_big_quiet_on))
            refine wpQuiet_nil ?_
            intro wq hq
            go_wp2_with fail
            go_ret3
            exact ⟨rfl, bel_step hq1 hq.bel hq1.size⟩
        · skip
          have b1 : (U.toList == V.toList) = true := by simpa using q1
          have b2 : (decide ((1 : Int) ≤ (n : Int)) && decide ((n : Int) ≤ (3 : Int))) = false := by simp; omega
          rw [b2] at IN
          have E := Lib.hid (E.out.trans (if_pos (.inr (.inl q2))))
          rw [E.out, slotVal_zero]
          go_enter Try.func77, Try.ntmps77
          go_wp2_with fail
          refine wp_region_cls (w) (by kernel_rfl) (by kernel_rfl) (Cls.start _) ?_
          repeat
            first
              | go_big_quiet_skip
              | (go_big_quiet_want; (first | go_big_quiet_op | go_simp); first | go_big_quiet_on | (apply Exists.intro; refine ⟨fun w' hw' => ?_, ?_⟩; (· (first | (with_reducible exact rfl) | (first | (go_at_call 79; (with_reducible refine (N0.out _).mono ?_); rintro e w1 ⟨rfl, rfl⟩; exact ⟨rfl, hw'⟩) | (go_at_call 79; (with_reducible refine (N4.out _).mono ?_); rintro e w1 ⟨rfl, rfl⟩; exact ⟨rfl, hw'⟩) | (go_at_call 79; (with_reducible refine (N8.out _).mono ?_); rintro e w1 ⟨rfl, rfl⟩; exact ⟨rfl, hw'⟩)) | (obtain ⟨hc, hf⟩ := hw'.facts; go_simp; first | done | (with_reducible exact rfl) | (with_reducible exact ⟨rfl, rfl⟩)))); go_big_quiet_on))
          refine wpQuiet_nil ?_
          intro wq hq
          have hq1 := hq.bel
          clear hq
          go_wp2_with fail
          refine wp_region_cls (wq) (by kernel_rfl) (by kernel_rfl) (Cls.start _) ?_
          repeat
            first
              | go_big_quiet_skip
              | (go_big_quiet_want; (first | go_big_quiet_op | go_simp); first | go_big_quiet_on | (apply Exists.intro; refine ⟨fun w' hw' => ?_, ?_⟩; (· (first | (with_reducible exact rfl) | ((go_at_call 80; refine (IN.out _).mono ?_; rintro e w1 ⟨rfl, rfl⟩; exact ⟨rfl, hw'⟩)) | (obtain ⟨hc, hf⟩ := hw'.facts; go_simp; first | done | (with_reducible exact rfl) | (with_reducible exact ⟨rfl, rfl⟩)))); go_big_quiet_on))
          refine wpQuiet_nil ?_
          intro wq hq
          go_wp2_with fail
          go_ret3
          exact ⟨rfl, bel_step hq1 hq.bel hq1.size⟩
      · skip
        have b1 : (U.toList == V.toList) = false := by simpa using q1
        have E := Lib.hid (E.out.trans (if_pos (.inl q1)))
        rw [E.out, slotVal_zero]
        go_enter Try.func77, Try.ntmps77
        go_wp2_with fail
        refine wp_region_cls (w) (by kernel_rfl) (by kernel_rfl) (Cls.start _) ?_
        repeat
          first
            | go_big_quiet_skip
            | (go_big_quiet_want; (first | go_big_quiet_op | go_simp); first | go_big_quiet_on | (apply Exists.intro; refine ⟨fun w' hw' => ?_, ?_⟩; (· (first | (with_reducible exact rfl) | (first | (go_at_call 79; (with_reducible refine (N0.out _).mono ?_); rintro e w1 ⟨rfl, rfl⟩; exact ⟨rfl, hw'⟩) | (go_at_call 79; (with_reducible refine (N4.out _).mono ?_); rintro e w1 ⟨rfl, rfl⟩; exact ⟨rfl, hw'⟩) | (go_at_call 79; (with_reducible refine (N8.out _).mono ?_); rintro e w1 ⟨rfl, rfl⟩; exact ⟨rfl, hw'⟩)) | (obtain ⟨hc, hf⟩ := hw'.facts; go_simp; first | done | (with_reducible exact rfl) | (with_reducible exact ⟨rfl, rfl⟩)))); go_big_quiet_on))
        refine wpQuiet_nil ?_
        intro wq hq
        have hq1 := hq.bel
        clear hq
        go_wp2_with fail
        refine wp_region_cls (wq) (by kernel_rfl) (by kernel_rfl) (Cls.start _) ?_
        repeat
          first
            | go_big_quiet_skip
            | (go_big_quiet_want; (first | go_big_quiet_op | go_simp); first | go_big_quiet_on | (apply Exists.intro; refine ⟨fun w' hw' => ?_, ?_⟩; (· (first | (with_reducible exact rfl) | ((go_at_call 80; refine (IN.out _).mono ?_; rintro e w1 ⟨rfl, rfl⟩; exact ⟨rfl, hw'⟩)) | (obtain ⟨hc, hf⟩ := hw'.facts; go_simp; first | done | (with_reducible exact rfl) | (with_reducible exact ⟨rfl, rfl⟩)))); go_big_quiet_on))
        refine wpQuiet_nil ?_
        intro wq hq
        go_wp2_with fail
        go_ret3
        exact ⟨rfl, bel_step hq1 hq.bel hq1.size⟩
    · rw [show ((1 : Nat) : Int) = 1 from rfl]
      by_cases q1 : U.toList = V.toList
      · by_cases q2 : 1 ≤ n ∧ n ≤ 3
        · by_cases q3 : 0 < f
          · by_cases q4 : s.size < 64 + 1028 * f
            · skip
              have b1 : (U.toList == V.toList) = true := by simpa using q1
              have b2 : (decide ((1 : Int) ≤ (n : Int)) && decide ((n : Int) ≤ (3 : Int))) = true := by simp; omega
              rw [b2] at IN
              have b3 : decide ((0 : Int) < (f : Int)) = true := by simp; omega
              have b4 : decide ((s.size : Int) < 64 + (f : Int) * 1028) = true := by simp; omega
              have E := Lib.hid (E.out.trans (if_pos (.inr (.inr ⟨q3, q4⟩))))
              rw [E.out, slotVal_zero]
              go_enter Try.func77, Try.ntmps77
              go_wp2_with fail
              refine wp_region_cls (w) (by kernel_rfl) (by kernel_rfl) (Cls.start _) ?_
              repeat
                first
                  | go_big_quiet_skip
                  | (go_big_quiet_want; (first | go_big_quiet_op | go_simp); first | go_big_quiet_on | (apply Exists.intro; refine ⟨fun w' hw' => ?_, ?_⟩; (· (first | (with_reducible exact rfl) | (first | (go_at_call 79; (with_reducible refine (N0.out _).mono ?_); rintro e w1 ⟨rfl, rfl⟩; exact ⟨rfl, hw'⟩) | (go_at_call 79; (with_reducible refine (N4.out _).mono ?_); rintro e w1 ⟨rfl, rfl⟩; exact ⟨rfl, hw'⟩) | (go_at_call 79; (with_reducible refine (N8.out _).mono ?_); rintro e w1 ⟨rfl, rfl⟩; exact ⟨rfl, hw'⟩)) | (obtain ⟨hc, hf⟩ := hw'.facts; go_simp; first | done | (with_reducible exact rfl) | (with_reducible exact ⟨rfl, rfl⟩)))); go_big_quiet_on))
              refine wpQuiet_nil ?_
              intro wq hq
              have hq1 := hq.bel
              clear hq
              go_wp2_with fail
              refine wp_region_cls (wq) (by kernel_rfl) (by kernel_rfl) (Cls.start _) ?_
              repeat
                first
                  | go_big_quiet_skip
                  | (go_big_quiet_want; (first | go_big_quiet_op | go_simp); first | go_big_quiet_on | (apply Exists.intro; refine ⟨fun w' hw' => ?_, ?_⟩; (· (first | (with_reducible exact rfl) | ((go_at_call 80; refine (IN.out _).mono ?_; rintro e w1 ⟨rfl, rfl⟩; exact ⟨rfl, hw'⟩)) | (obtain ⟨hc, hf⟩ := hw'.facts; go_simp; first | done | (with_reducible exact rfl) | (with_reducible exact ⟨rfl, rfl⟩)))); go_big_quiet_on))
              refine wpQuiet_nil ?_
              intro wq hq
              go_wp2_with fail
              go_ret3
              exact ⟨rfl, bel_step hq1 hq.bel hq1.size⟩
            · skip
              have b1 : (U.toList == V.toList) = true := by simpa using q1
              have b2 : (decide ((1 : Int) ≤ (n : Int)) && decide ((n : Int) ≤ (3 : Int))) = true := by simp; omega
              rw [b2] at IN
              have b3 : decide ((0 : Int) < (f : Int)) = true := by simp; omega
              have b4 : decide ((s.size : Int) < 64 + (f : Int) * 1028) = false := by simp; omega
              have E := Lib.hid (E.out.trans (if_neg (fun h => h.elim (fun h => h q1) (fun h => h.elim (fun h => h q2) (fun h => q4 h.2)))))
              rw [E.out, show SlotVal (n, f, p) = .tuple #[.int .i64 n, .int .i64 f, .int .i64 p] from rfl]
              go_enter Try.func77, Try.ntmps77
              go_wp2_with fail
              refine wp_region_cls (w) (by kernel_rfl) (by kernel_rfl) (Cls.start _) ?_
              repeat
                first
                  | go_big_quiet_skip
                  | (go_big_quiet_want; (first | go_big_quiet_op | go_simp); first | go_big_quiet_on | (apply Exists.intro; refine ⟨fun w' hw' => ?_, ?_⟩; (· (first | (with_reducible exact rfl) | (first | (go_at_call 79; (with_reducible refine (N0.out _).mono ?_); rintro e w1 ⟨rfl, rfl⟩; exact ⟨rfl, hw'⟩) | (go_at_call 79; (with_reducible refine (N4.out _).mono ?_); rintro e w1 ⟨rfl, rfl⟩; exact ⟨rfl, hw'⟩) | (go_at_call 79; (with_reducible refine (N8.out _).mono ?_); rintro e w1 ⟨rfl, rfl⟩; exact ⟨rfl, hw'⟩)) | (obtain ⟨hc, hf⟩ := hw'.facts; go_simp; first | done | (with_reducible exact rfl) | (with_reducible exact ⟨rfl, rfl⟩)))); go_big_quiet_on))
              refine wpQuiet_nil ?_
              intro wq hq
              have hq1 := hq.bel
              clear hq
              go_wp2_with fail
              refine wp_region_cls (wq) (by kernel_rfl) (by kernel_rfl) (Cls.start _) ?_
              repeat
                first
                  | go_big_quiet_skip
                  | (go_big_quiet_want; (first | go_big_quiet_op | go_simp); first | go_big_quiet_on | (apply Exists.intro; refine ⟨fun w' hw' => ?_, ?_⟩; (· (first | (with_reducible exact rfl) | ((go_at_call 80; refine (IN.out _).mono ?_; rintro e w1 ⟨rfl, rfl⟩; exact ⟨rfl, hw'⟩)) | (obtain ⟨hc, hf⟩ := hw'.facts; go_simp; first | done | (with_reducible exact rfl) | (with_reducible exact ⟨rfl, rfl⟩)))); go_big_quiet_on))
              refine wpQuiet_nil ?_
              intro wq hq
              go_wp2_with fail
              go_ret3
              exact ⟨rfl, bel_step hq1 hq.bel hq1.size⟩
          · skip
            have b1 : (U.toList == V.toList) = true := by simpa using q1
            have b2 : (decide ((1 : Int) ≤ (n : Int)) && decide ((n : Int) ≤ (3 : Int))) = true := by simp; omega
            rw [b2] at IN
            have b3 : decide ((0 : Int) < (f : Int)) = false := by simp; omega
            have E := Lib.hid (E.out.trans (if_neg (fun h => h.elim (fun h => h q1) (fun h => h.elim (fun h => h q2) (fun h => q3 h.1)))))
            rw [E.out, show SlotVal (n, f, p) = .tuple #[.int .i64 n, .int .i64 f, .int .i64 p] from rfl]
            go_enter Try.func77, Try.ntmps77
            go_wp2_with fail
            refine wp_region_cls (w) (by kernel_rfl) (by kernel_rfl) (Cls.start _) ?_
            repeat
              first
                | go_big_quiet_skip
                | (go_big_quiet_want; (first | go_big_quiet_op | go_simp); first | go_big_quiet_on | (apply Exists.intro; refine ⟨fun w' hw' => ?_, ?_⟩; (· (first | (with_reducible exact rfl) | (first | (go_at_call 79; (with_reducible refine (N0.out _).mono ?_); rintro e w1 ⟨rfl, rfl⟩; exact ⟨rfl, hw'⟩) | (go_at_call 79; (with_reducible refine (N4.out _).mono ?_); rintro e w1 ⟨rfl, rfl⟩; exact ⟨rfl, hw'⟩) | (go_at_call 79; (with_reducible refine (N8.out _).mono ?_); rintro e w1 ⟨rfl, rfl⟩; exact ⟨rfl, hw'⟩)) | (obtain ⟨hc, hf⟩ := hw'.facts; go_simp; first | done | (with_reducible exact rfl) | (with_reducible exact ⟨rfl, rfl⟩)))); go_big_quiet_on))
            refine wpQuiet_nil ?_
            intro wq hq
            have hq1 := hq.bel
            clear hq
            go_wp2_with fail
            refine wp_region_cls (wq) (by kernel_rfl) (by kernel_rfl) (Cls.start _) ?_
            repeat
              first
                | go_big_quiet_skip
                | (go_big_quiet_want; (first | go_big_quiet_op | go_simp); first | go_big_quiet_on | (apply Exists.intro; refine ⟨fun w' hw' => ?_, ?_⟩; (· (first | (with_reducible exact rfl) | ((go_at_call 80; refine (IN.out _).mono ?_; rintro e w1 ⟨rfl, rfl⟩; exact ⟨rfl, hw'⟩)) | (obtain ⟨hc, hf⟩ := hw'.facts; go_simp; first | done | (with_reducible exact rfl) | (with_reducible exact ⟨rfl, rfl⟩)))); go_big_quiet_on))
            refine wpQuiet_nil ?_
            intro wq hq
            go_wp2_with fail
            go_ret3
            exact ⟨rfl, bel_step hq1 hq.bel hq1.size⟩
        · skip
          have b1 : (U.toList == V.toList) = true := by simpa using q1
          have b2 : (decide ((1 : Int) ≤ (n : Int)) && decide ((n : Int) ≤ (3 : Int))) = false := by simp; omega
          rw [b2] at IN
          have E := Lib.hid (E.out.trans (if_pos (.inr (.inl q2))))
          rw [E.out, slotVal_zero]
          go_enter Try.func77, Try.ntmps77
          go_wp2_with fail
          refine wp_region_cls (w) (by kernel_rfl) (by kernel_rfl) (Cls.start _) ?_
          repeat
            first
              | go_big_quiet_skip
              | (go_big_quiet_want; (first | go_big_quiet_op | go_simp); first | go_big_quiet_on | (apply Exists.intro; refine ⟨fun w' hw' => ?_, ?_⟩; (· (first | (with_reducible exact rfl) | (first | (go_at_call 79; (with_reducible refine (N0.out _).mono ?_); rintro e w1 ⟨rfl, rfl⟩; exact ⟨rfl, hw'⟩) | (go_at_call 79; (with_reducible refine (N4.out _).mono ?_); rintro e w1 ⟨rfl, rfl⟩; exact ⟨rfl, hw'⟩) | (go_at_call 79; (with_reducible refine (N8.out _).mono ?_); rintro e w1 ⟨rfl, rfl⟩; exact ⟨rfl, hw'⟩)) | (obtain ⟨hc, hf⟩ := hw'.facts; go_simp; first | done | (with_reducible exact rfl) | (with_reducible exact ⟨rfl, rfl⟩)))); go_big_quiet_on))
          refine wpQuiet_nil ?_
          intro wq hq
          have hq1 := hq.bel
          clear hq
          go_wp2_with fail
          refine wp_region_cls (wq) (by kernel_rfl) (by kernel_rfl) (Cls.start _) ?_
          repeat
            first
              | go_big_quiet_skip
              | (go_big_quiet_want; (first | go_big_quiet_op | go_simp); first | go_big_quiet_on | (apply Exists.intro; refine ⟨fun w' hw' => ?_, ?_⟩; (· (first | (with_reducible exact rfl) | ((go_at_call 80; refine (IN.out _).mono ?_; rintro e w1 ⟨rfl, rfl⟩; exact ⟨rfl, hw'⟩)) | (obtain ⟨hc, hf⟩ := hw'.facts; go_simp; first | done | (with_reducible exact rfl) | (with_reducible exact ⟨rfl, rfl⟩)))); go_big_quiet_on))
          refine wpQuiet_nil ?_
          intro wq hq
          go_wp2_with fail
          go_ret3
          exact ⟨rfl, bel_step hq1 hq.bel hq1.size⟩
      · skip
        have b1 : (U.toList == V.toList) = false := by simpa using q1
        have E := Lib.hid (E.out.trans (if_pos (.inl q1)))
        rw [E.out, slotVal_zero]
        go_enter Try.func77, Try.ntmps77
        go_wp2_with fail
        refine wp_region_cls (w) (by kernel_rfl) (by kernel_rfl) (Cls.start _) ?_
        repeat
          first
            | go_big_quiet_skip
            | (go_big_quiet_want; (first | go_big_quiet_op | go_simp); first | go_big_quiet_on | (apply Exists.intro; refine ⟨fun w' hw' => ?_, ?_⟩; (· (first | (with_reducible exact rfl) | (first | (go_at_call 79; (with_reducible refine (N0.out _).mono ?_); rintro e w1 ⟨rfl, rfl⟩; exact ⟨rfl, hw'⟩) | (go_at_call 79; (with_reducible refine (N4.out _).mono ?_); rintro e w1 ⟨rfl, rfl⟩; exact ⟨rfl, hw'⟩) | (go_at_call 79; (with_reducible refine (N8.out _).mono ?_); rintro e w1 ⟨rfl, rfl⟩; exact ⟨rfl, hw'⟩)) | (obtain ⟨hc, hf⟩ := hw'.facts; go_simp; first | done | (with_reducible exact rfl) | (with_reducible exact ⟨rfl, rfl⟩)))); go_big_quiet_on))
        refine wpQuiet_nil ?_
        intro wq hq
        have hq1 := hq.bel
        clear hq
        go_wp2_with fail
        refine wp_region_cls (wq) (by kernel_rfl) (by kernel_rfl) (Cls.start _) ?_
        repeat
          first
            | go_big_quiet_skip
            | (go_big_quiet_want; (first | go_big_quiet_op | go_simp); first | go_big_quiet_on | (apply Exists.intro; refine ⟨fun w' hw' => ?_, ?_⟩; (· (first | (with_reducible exact rfl) | ((go_at_call 80; refine (IN.out _).mono ?_; rintro e w1 ⟨rfl, rfl⟩; exact ⟨rfl, hw'⟩)) | (obtain ⟨hc, hf⟩ := hw'.facts; go_simp; first | done | (with_reducible exact rfl) | (with_reducible exact ⟨rfl, rfl⟩)))); go_big_quiet_on))
        refine wpQuiet_nil ?_
        intro wq hq
        go_wp2_with fail
        go_ret3
        exact ⟨rfl, bel_step hq1 hq.bel hq1.size⟩

end Go.Proofs.Ytjihboddejaelaa

/-
  done of package wal: functions in turns, up to the first one that fails.
-/
namespace Go.Proofs.Ytjihboddejaelaa
set_option linter.unusedVariables false
set_option linter.unusedSimpArgs false
open Go.RowKit
open Go.BigFrame
set_option linter.unusedVariables false
set_option linter.unusedSimpArgs false

/-- what a function that done calls leaves: the next state, or an error's state -/
def Step (S : World → Prop) (Q : Int → World → Prop) (e : Ending) (w' : World) : Prop := ∃ r : Int, e = .returned (.int .i64 r) ∧ ((r = 0 ∧ S w') ∨ (r ≠ 0 ∧ Q r w'))
def DoneQ (Q : Int → World → Prop) (e : Ending) (w' : World) : Prop := ∃ r : Int, e = .returned (.int .i64 r) ∧ Q r w'

set_option maxRecDepth 100000 in
set_option maxHeartbeats 1600000 in
theorem wal_done (fs : List (FuncId × Array Value)) (g n : Nat) (w : World) (S : Nat → World → Prop) (Q : Int → World → Prop) (hn : fs.length = n) (hn4 : n ≤ 4)
    (hcell : ∀ i u, S i u → ∀ j k cs, fs[j]? = some (k, cs) → u.cell? ⟨g, j, none⟩ = some (.func (.func k) #[] cs))
    (hrun : ∀ (i : Nat) k cs, fs[i]? = some (k, cs) → ∀ u, (callFunc k cs).run Try.prog u = .ok (.enter k cs) u)
    (hstep : ∀ (i : Nat) k cs, fs[i]? = some (k, cs) → ∀ u, S i u → Calls Try.prog k cs u (Step (S (i + 1)) Q))
    (hend : ∀ u, S n u → Q 0 u) (h0 : S 0 w) :
    Calls Try.prog 68 #[.slice (some ⟨g, 0, none⟩) n n] w (DoneQ Q) := by
  have HC := Lib.hid hcell
  have HS := Lib.hid hstep
  have HE := Lib.hid hend
  have HR := Lib.hid hrun
  have HN := Lib.hid hn
  have H0 := Lib.hid h0
  clear hcell hstep hrun hend hn h0
  go_enter Try.func68, Try.ntmps68
  go_wp2_with fail
  go_loopw [8] (fun v8 wr => ∃ i : Nat, i ≤ n ∧ v8 = .int .i64 i ∧ S i wr) (fun v8 _ => n - (intOf v8).toNat)
  case atStart => exact ⟨0, Nat.zero_le _, rfl, H0.out⟩
  case round =>
    obtain ⟨i, hi, rfl, hS⟩ := hrel
    by_cases hin : i < n
    · obtain ⟨k, cs, hk⟩ : ∃ k cs, fs[i]? = some (k, cs) := by
        have hl : i < fs.length := by rw [HN.out]; exact hin
        exact ⟨fs[i].1, fs[i].2, List.getElem?_eq_getElem hl⟩
      have c0 := HC.out i wr hS i k cs hk
      have ST := Lib.hid (HS.out i k cs hk wr hS)
      have hru := HR.out i k cs hk wr
      clear hS hk
      go_wp2_with ((with_reducible refine ST.out.mono ?_); rintro e w1 ⟨r, rfl, hr⟩; have HR := Lib.hid hr; clear hr)
      · go_ret
        rename_i hrn
        have hr0 : r ≠ 0 := by simpa using hrn
        exact ⟨r, rfl, HR.out.elim (fun h => absurd h.1 hr0) (fun h => h.2)⟩
      · rename_i hrn
        have hr0 : r = 0 := by simpa using hrn
        refine ⟨⟨i + 1, by omega, by simp, HR.out.elim (fun h => h.2) (fun h => absurd hr0 h.1)⟩, ?_⟩
        simp [intOf]; omega
    · obtain rfl : i = n := by omega
      have HSS := Lib.hid (HE.out _ hS)
      clear hS
      go_wp2_with fail
      go_ret
      exact ⟨0, rfl, HSS.out⟩

end Go.Proofs.Ytjihboddejaelaa
