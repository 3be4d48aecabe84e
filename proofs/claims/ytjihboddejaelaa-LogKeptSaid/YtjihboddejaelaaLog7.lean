/-
  done over a log: each function turns the log, up to the first one that fails.
-/
import Derived.Test.YtjihboddejaelaaLog6
namespace Go.Proofs.Ytjihboddejaelaa
open Go.RowKit
open Go.BigFrame
open Go.Maps
set_option linter.unusedVariables false
set_option linter.unusedSimpArgs false

/-- blocks beside the log -/
def Boxes (u : World) (xs : List (Nat × TypeId × Array Value)) : Prop := ∀ x ∈ xs, Has u x.1 x.2.1 x.2.2
def Off (xs : List (Nat × TypeId × Array Value)) (b : List (Option Nat)) : Prop := ∀ x ∈ xs, some x.1 ∉ b
theorem Boxes.turn {u u' : World} {xs : List (Nat × TypeId × Array Value)} {b b' : List (Option Nat)} (h : Boxes u xs) (ht : Turn b b' u u') (ho : Off xs b) : Boxes u' xs ∧ Off xs b' :=
  ⟨fun x hx => (h x hx).turn ht (ho x hx), fun x hx h2 => by
    rcases ht.new x.1 h2 with h3 | h3
    · exact ho x hx h3
    · have := (h x hx).lt; omega⟩
theorem Boxes.below {u u' : World} {xs : List (Nat × TypeId × Array Value)} (h : Boxes u xs) (hb : Below u.heap.size u u') : Boxes u' xs := fun x hx => (h x hx).belowS hb
/-- the state in which a chain stops, and its error -/
def upTo (Es : Nat → Int) : Nat → Nat × Int
  | 0 => (0, 0)
  | n + 1 => if (upTo Es n).2 ≠ 0 then upTo Es n else (n + 1, Es n)
theorem upTo_stop {Es : Nat → Int} {i n : Nat} (hi : (upTo Es i).2 ≠ 0) (h : i ≤ n) : upTo Es n = upTo Es i := by
  induction n with
  | zero => rw [show i = 0 by omega]
  | succ n ih =>
    rcases Nat.lt_or_ge n i with h2 | h2
    · rw [show i = n + 1 by omega]
    · have e := ih h2
      rw [upTo, if_pos (by rw [e]; exact hi), e]
theorem upTo_next {Es : Nat → Int} {i : Nat} (hi : upTo Es i = (i, 0)) : upTo Es (i + 1) = (i + 1, Es i) := by
  rw [upTo, if_neg (by rw [hi]; simp)]
/-- a log with blocks beside it, since w0 -/
def Held (w0 : World) (b0 : List (Option Nat)) (gd g m1 m2 : Nat) (xs : List (Nat × TypeId × Array Value)) (R : Rw) (u : World) : Prop :=
  ∃ b', LR u b' gd g m1 m2 R ∧ Boxes u xs ∧ Off xs (b' ++ lb g m1 m2) ∧ Turn (b0 ++ lb g m1 m2) (b' ++ lb g m1 m2) w0 u
/-- what a function of a chain leaves -/
def LinkPost (u : World) (b : List (Option Nat)) (gd g m1 m2 : Nat) (R' : Rw) (E : Int) (e : Ending) (w' : World) : Prop :=
  e = .returned (.int .i64 E) ∧ ∃ b', LR w' b' gd g m1 m2 R' ∧ Turn (b ++ lb g m1 m2) (b' ++ lb g m1 m2) u w'
theorem LinkPost.ofDisk {u : World} {b : List (Option Nat)} {gd g m1 m2 : Nat} {R : Rw} {D' : Dk} {E : Int} {e : Ending} {w' : World} (h : LR u b gd g m1 m2 R) (hp : DPost u b gd D' (.int .i64 E) e w') : LinkPost u b gd g m1 m2 { R with D := D' } E e w' := by
  obtain ⟨he, b', hd, ht⟩ := hp
  obtain ⟨h1, h2⟩ := h.onDisk hd ht
  exact ⟨he, b', h1, h2⟩

theorem wal_chain (fs : List (FuncId × Array Value)) (gs n : Nat) (w0 : World) (b0 : List (Option Nat)) (gd g m1 m2 : Nat) (xs : List (Nat × TypeId × Array Value)) (Rs : Nat → Rw) (Es : Nat → Int) (t : TypeId) (w : World)
    (hn : fs.length = n) (hn4 : n ≤ 4) (hgs : (gs, t, (fs.map (fun x => Value.func (.func x.1) #[] x.2)).toArray) ∈ xs) (h0 : Held w0 b0 gd g m1 m2 xs (Rs 0) w)
    (hrun : ∀ (i : Nat) k cs, fs[i]? = some (k, cs) → ∀ u, (callFunc k cs).run Try.prog u = .ok (.enter k cs) u)
    (hstep : ∀ (i : Nat) k cs, fs[i]? = some (k, cs) → ∀ u b', LR u b' gd g m1 m2 (Rs i) → Boxes u xs → Off xs (b' ++ lb g m1 m2) → upTo Es i = (i, 0) → Calls Try.prog k cs u (LinkPost u b' gd g m1 m2 (Rs (i + 1)) (Es i))) :
    Calls Try.prog 68 #[.slice (some ⟨gs, 0, none⟩) n n] w fun e w' => e = .returned (.int .i64 (upTo Es n).2) ∧ Held w0 b0 gd g m1 m2 xs (Rs (upTo Es n).1) w' := by
  refine (wal_done fs gs n w (fun i u => i ≤ n ∧ upTo Es i = (i, 0) ∧ Held w0 b0 gd g m1 m2 xs (Rs i) u) (fun r u => r = (upTo Es n).2 ∧ Held w0 b0 gd g m1 m2 xs (Rs (upTo Es n).1) u) hn hn4 ?_ hrun ?_ ?_ ⟨Nat.zero_le _, rfl, h0⟩).mono ?_
  · rintro i u ⟨_, _, b', _, hx, _, _⟩ j k cs hj
    have := (hx _ hgs).cell j
    simp only at this
    rw [this]
    simp [hj]
  · rintro i k cs hi u ⟨hin, hu, b', hl, hx, ho, ht⟩
    have hlt : i < n := by
      have := (List.getElem?_eq_some_iff.1 hi).1
      omega
    refine (hstep i k cs hi u b' hl hx ho hu).mono ?_
    rintro e w' ⟨rfl, b'', hl2, ht2⟩
    obtain ⟨hx2, ho2⟩ := hx.turn ht2 ho
    have hH : Held w0 b0 gd g m1 m2 xs (Rs (i + 1)) w' := ⟨b'', hl2, hx2, ho2, ht.trans ht2⟩
    have hu2 := upTo_next hu
    refine ⟨Es i, rfl, ?_⟩
    by_cases hz : Es i = 0
    · exact .inl ⟨hz, hlt, by rw [hu2, hz], hH⟩
    · have e2 : upTo Es n = (i + 1, Es i) := by
        rw [← hu2]
        exact upTo_stop (by rw [hu2]; exact hz) hlt
      exact .inr ⟨hz, by rw [e2], by rw [e2]; exact hH⟩
  · rintro u ⟨_, hu, hH⟩
    rw [hu]; exact ⟨rfl, hH⟩
  · rintro e w' ⟨r, rfl, rfl, hH⟩
    exact ⟨rfl, hH⟩

end Go.Proofs.Ytjihboddejaelaa
