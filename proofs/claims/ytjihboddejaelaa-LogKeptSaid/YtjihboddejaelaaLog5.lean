/-
  A log in memory (wal.Log): its own block, its two maps, its disk; tell and the functions it hands on.
-/
import Derived.Test.YtjihboddejaelaaLog4
import Derived.Test.YtjihboddejaelaaDisk4
namespace Go.Proofs.Ytjihboddejaelaa
open Go.RowKit
open Go.BigFrame
open Go.Maps
set_option linter.unusedVariables false
set_option linter.unusedSimpArgs false

/-- a log as its cells tell it: f1, f2: where pages lie, now and by the last commit -/
structure Rw where
  D : Dk
  nf : Nat
  np : Nat
  f1 : Int → Nat
  kf : Nat
  kp : Nat
  f2 : Int → Nat
  slot : Nat
  number : Nat
def rwCells (gd m1 m2 : Nat) (R : Rw) : Array Value := #[.pointer (some ⟨gd, 0, none⟩), .int .i64 R.nf, .int .i64 R.np, .map (some m1), .int .i64 R.kf, .int .i64 R.kp, .map (some m2), .int .i64 R.slot, .int .i64 R.number]
def lb (g m1 m2 : Nat) : List (Option Nat) := [some g, some m1, some m2]
/-- the log R lies at block g, its disk at gd in blocks b -/
structure LR (w : World) (b : List (Option Nat)) (gd g m1 m2 : Nat) (R : Rw) : Prop where
  disk : DP w b gd R.D
  has : Has w g 106 (rwCells gd m1 m2 R)
  map1 : MP w m1 R.nf R.f1
  map2 : MP w m2 R.kf R.f2
  ne : m1 ≠ m2
  apart : Disj b (lb g m1 m2)
theorem has_map {w : World} {g m : Nat} {t : TypeId} {cs : Array Value} {n : Nat} {f : Int → Nat} (h : Has w g t cs) (hm : MP w m n f) : g ≠ m := by
  rintro rfl
  obtain ⟨D, ⟨es, cl, h1, _⟩, _⟩ := hm
  unfold Has at h
  rw [h] at h1; cases h1
theorem DP.has {w : World} {b : List (Option Nat)} {g : Nat} {D : Dk} (h : DP w b g D) : some g ∈ b := DPx.has h

theorem MP.turn {w w' : World} {b b' : List (Option Nat)} {m n : Nat} {f : Int → Nat} (h : MP w m n f) (ht : Turn b b' w w') (hg : some m ∉ b) : MP w' m n f := h.block (ht.block m h.lt hg)
theorem DP.turn {w w' : World} {b c c' : List (Option Nat)} {g : Nat} {D : Dk} (h : DP w b g D) (ht : Turn c c' w w') (hd : Disj c b) : DP w' b g D := by
  obtain ⟨v0, v1, v2, v3, v4, rfl, h2⟩ := h
  exact ⟨v0, v1, v2, v3, v4, rfl, h2.far ht hd⟩
theorem DP.disj {w w' : World} {b c c' : List (Option Nat)} {g : Nat} {D : Dk} (h : DP w b g D) (ht : Turn c c' w w') (hd : Disj c b) : Disj c' b := by
  obtain ⟨v0, v1, v2, v3, v4, rfl, h2⟩ := h
  exact h2.disj ht hd
theorem Turn.left {w w' : World} {b b' : List (Option Nat)} (c : List (Option Nat)) (h : Turn b b' w w') : Turn (b ++ c) (b' ++ c) w w' :=
  ⟨h.os, h.tape, h.output, h.size, fun k hk hn => h.block k hk (fun h2 => hn (List.mem_append_left _ h2)), fun k hk => by
    rcases List.mem_append.1 hk with h2 | h2
    · exact (h.new k h2).imp (List.mem_append_left _) id
    · exact .inl (List.mem_append_right _ h2)⟩
theorem Turn.right {w w' : World} {b b' : List (Option Nat)} (c : List (Option Nat)) (h : Turn b b' w w') : Turn (c ++ b) (c ++ b') w w' :=
  ⟨h.os, h.tape, h.output, h.size, fun k hk hn => h.block k hk (fun h2 => hn (List.mem_append_right _ h2)), fun k hk => by
    rcases List.mem_append.1 hk with h2 | h2
    · exact .inl (List.mem_append_left _ h2)
    · exact (h.new k h2).imp (List.mem_append_right _) id⟩
theorem Turn.wide {w w' : World} {b b' c c' : List (Option Nat)} (h : Turn b b' w w') (h1 : ∀ k, some k ∈ b → some k ∈ c) (h2 : ∀ k, some k ∈ c' → some k ∈ b' ∨ some k ∈ c) : Turn c c' w w' :=
  ⟨h.os, h.tape, h.output, h.size, fun k hk hn => h.block k hk (fun h3 => hn (h1 k h3)), fun k hk => by
    rcases h2 k hk with h3 | h3
    · exact (h.new k h3).imp (h1 k) id
    · exact .inl h3⟩
theorem Turn.grown {w w' : World} {m : Nat} (h : w.grownBy w' (some m)) : Turn [some m] [some m] w w' :=
  ⟨h.os, h.tape, h.output, h.size, fun k hk hn => h.block k hk (fun e => hn (by rw [e]; exact List.mem_singleton.2 rfl)), fun k hk => .inl hk⟩
theorem mem_lb {g m1 m2 k : Nat} : some k ∈ lb g m1 m2 ↔ k = g ∨ k = m1 ∨ k = m2 := by
  simp [lb]
section
variable {w w' : World} {b b' : List (Option Nat)} {gd g m1 m2 : Nat} {R : Rw}
theorem LR.ne1 (h : LR w b gd g m1 m2 R) : g ≠ m1 := has_map h.has h.map1
theorem LR.ne2 (h : LR w b gd g m1 m2 R) : g ≠ m2 := has_map h.has h.map2
theorem LR.off (h : LR w b gd g m1 m2 R) : some g ∉ b ∧ some m1 ∉ b ∧ some m2 ∉ b :=
  ⟨fun h2 => h.apart g h2 (mem_lb.2 (.inl rfl)), fun h2 => h.apart m1 h2 (mem_lb.2 (.inr (.inl rfl))), fun h2 => h.apart m2 h2 (mem_lb.2 (.inr (.inr rfl)))⟩
theorem LR.lt (h : LR w b gd g m1 m2 R) {k : Nat} (hk : some k ∈ b ++ lb g m1 m2) : k < w.heap.size := by
  rcases List.mem_append.1 hk with h2 | h2
  · exact h.disk.lt h2
  · rcases mem_lb.1 h2 with rfl | rfl | rfl
    · exact h.has.lt
    · exact h.map1.lt
    · exact h.map2.lt
theorem LR.below (h : LR w b gd g m1 m2 R) (hb : Below w.heap.size w w') : LR w' b gd g m1 m2 R :=
  ⟨h.disk.below hb, h.has.belowS hb, h.map1.below hb, h.map2.below hb, h.ne, h.apart⟩
/-- blocks that lie elsewhere have turned -/
theorem LR.far {c c' : List (Option Nat)} (h : LR w b gd g m1 m2 R) (ht : Turn c c' w w') (hd : Disj c (b ++ lb g m1 m2)) : LR w' b gd g m1 m2 R :=
  ⟨h.disk.turn ht fun k hk h2 => hd k hk (List.mem_append_left _ h2), h.has.turn ht fun h2 => hd g h2 (List.mem_append_right _ (mem_lb.2 (.inl rfl))),
    h.map1.turn ht fun h2 => hd m1 h2 (List.mem_append_right _ (mem_lb.2 (.inr (.inl rfl)))), h.map2.turn ht fun h2 => hd m2 h2 (List.mem_append_right _ (mem_lb.2 (.inr (.inr rfl)))), h.ne, h.apart⟩
/-- the disk has turned -/
theorem LR.onDisk {D' : Dk} (h : LR w b gd g m1 m2 R) (hD : DP w' b' gd D') (ht : Turn b b' w w') : LR w' b' gd g m1 m2 { R with D := D' } ∧ Turn (b ++ lb g m1 m2) (b' ++ lb g m1 m2) w w' := by
  obtain ⟨h1, h2, h3⟩ := h.off
  refine ⟨⟨hD, h.has.turn ht h1, h.map1.turn ht h2, h.map2.turn ht h3, h.ne, fun k hk h4 => ?_⟩, ht.left _⟩
  rcases ht.new k hk with h5 | h5
  · exact h.apart k h5 h4
  · have := h.lt (List.mem_append_right b h4); omega
theorem Turn.cell (g i : Nat) (u : Value) (w : World) : Turn [some g] [some g] w (w.setCell ⟨g, i, none⟩ u) := Turn.grown (grownBy_setCell ⟨g, i, none⟩ u)
/-- a cell of the log's block is stored -/
theorem LR.set (h : LR w b gd g m1 m2 R) (i : Nat) (u : Value) (R' : Rw) (hc : (rwCells gd m1 m2 R).setIfInBounds i u = rwCells gd m1 m2 R') (hD : R'.D = R.D) (h1 : MP w m1 R'.nf R'.f1) (h2 : MP w m2 R'.kf R'.f2) :
    LR (w.setCell ⟨g, i, none⟩ u) b gd g m1 m2 R' ∧ Turn (b ++ lb g m1 m2) (b ++ lb g m1 m2) w (w.setCell ⟨g, i, none⟩ u) := by
  have ht := Turn.cell g i u w
  refine ⟨⟨hD ▸ h.disk.turn ht fun k hk h2 => ?_, hc ▸ h.has.set i u, h1.turn ht fun h3 => ?_, h2.turn ht fun h3 => ?_, h.ne, h.apart⟩, ht.wide (fun k hk => ?_) (fun k hk => .inr hk)⟩
  · have : k = g := by simpa using hk
    subst this
    exact h.off.1 h2
  · exact h.ne1 (by simpa using h3 : m1 = g).symm
  · exact h.ne2 (by simpa using h3 : m2 = g).symm
  · have : k = g := by simpa using hk
    exact List.mem_append_right _ (mem_lb.2 (.inl this))
end

end Go.Proofs.Ytjihboddejaelaa
