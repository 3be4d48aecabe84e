/-
  Back, Pages, Frames of package wal; a disk that does not fail.
-/
import Derived.Test.YtjihboddejaelaaLog10
namespace Go.Proofs.Ytjihboddejaelaa
open Go.RowKit
open Go.BigFrame
open Go.Maps
set_option linter.unusedVariables false
set_option linter.unusedSimpArgs false

/-- a method that may lay new maps -/
def MapsPost (u : World) (b : List (Option Nat)) (gd g m1 m2 : Nat) (R' : Rw) (v : Value) (e : Ending) (w' : World) : Prop :=
  e = .returned v ∧ ∃ b' m1' m2', LR w' b' gd g m1' m2' R' ∧ Turn (b ++ lb g m1 m2) (b' ++ lb g m1' m2') u w'
theorem LinkPost.maps {u : World} {b : List (Option Nat)} {gd g m1 m2 : Nat} {R' : Rw} {E : Int} {e : Ending} {w' : World} (h : LinkPost u b gd g m1 m2 R' E e w') : MapsPost u b gd g m1 m2 R' (.int .i64 E) e w' := by
  obtain ⟨he, b', h1, h2⟩ := h
  exact ⟨he, b', m1, m2, h1, h2⟩
theorem Turn.trans' {w0 w w' : World} {c d d' s s' : List (Option Nat)} (h : Turn c d w0 w) (k : Turn s s' w w') (hs : ∀ k, some k ∈ s → some k ∈ d) (hd : ∀ k, some k ∈ d' → some k ∈ d ∨ w0.heap.size ≤ k) : Turn c d' w0 w' :=
  ⟨k.os.trans h.os, k.tape.trans h.tape, k.output.trans h.output, Nat.le_trans h.size k.size, fun i hi hn => (k.block i (Nat.lt_of_lt_of_le hi h.size) (fun h2 => by
    rcases h.new i (hs i h2) with h3 | h3
    · exact hn h3
    · omega)).trans (h.block i hi hn), fun i hi => (hd i hi).elim (h.new i) .inr⟩
section
variable {w0 w w' : World} {b c : List (Option Nat)} {gd g m1 m2 m n : Nat} {R : Rw} {f : Int → Nat}
/-- another point stands in the place of now -/
theorem LR.newNow (h : LR w b gd g m1 m2 R) (ht : Turn c (b ++ lb g m1 m2) w0 w) (hm : MP w m n f) (hoff : some m ∉ b ++ lb g m1 m2) (hlow : w0.heap.size ≤ m) (p : Nat) :
    LR (((w.setCell ⟨g, 1, none⟩ (.int .i64 n)).setCell ⟨g, 2, none⟩ (.int .i64 p)).setCell ⟨g, 3, none⟩ (.map (some m))) b gd g m m2 { R with nf := n, np := p, f1 := f } ∧
    Turn c (b ++ lb g m m2) w0 (((w.setCell ⟨g, 1, none⟩ (.int .i64 n)).setCell ⟨g, 2, none⟩ (.int .i64 p)).setCell ⟨g, 3, none⟩ (.map (some m))) := by
  have t1 : Turn [some g] [some g] w (((w.setCell ⟨g, 1, none⟩ (.int .i64 n)).setCell ⟨g, 2, none⟩ (.int .i64 p)).setCell ⟨g, 3, none⟩ (.map (some m))) := ((Turn.cell g 1 _ w).trans (Turn.cell g 2 _ _)).trans (Turn.cell g 3 _ _)
  have hg : some g ∈ b ++ lb g m1 m2 := List.mem_append_right _ (mem_lb.2 (.inl rfl))
  have hmg : m ≠ g := by rintro rfl; exact hoff hg
  have hm2 : m ≠ m2 := by rintro rfl; exact hoff (List.mem_append_right _ (mem_lb.2 (.inr (.inr rfl))))
  have hmb : some m ∉ b := fun h2 => hoff (List.mem_append_left _ h2)
  refine ⟨⟨h.disk.turn t1 fun k hk h2 => ?_, ((h.has.set 1 _).set 2 _).set 3 _, hm.turn t1 fun h3 => hmg (by simpa using h3), h.map2.turn t1 fun h3 => h.ne2 (by simpa using h3 : m2 = g).symm, hm2, fun k hk h2 => ?_⟩, ?_⟩
  · have : k = g := by simpa using hk
    subst this; exact h.off.1 h2
  · rcases mem_lb.1 h2 with rfl | rfl | rfl
    · exact h.off.1 hk
    · exact hmb hk
    · exact h.off.2.2 hk
  · refine ht.trans' t1 (fun k hk => ?_) (fun k hk => ?_)
    · have : k = g := by simpa using hk
      subst this; exact hg
    · rcases List.mem_append.1 hk with h2 | h2
      · exact .inl (List.mem_append_left _ h2)
      · rcases mem_lb.1 h2 with rfl | rfl | rfl
        · exact .inl hg
        · exact .inr hlow
        · exact .inl (List.mem_append_right _ (mem_lb.2 (.inr (.inr rfl))))
end

theorem LR.now {w : World} {b : List (Option Nat)} {gd g m1 m2 : Nat} {R : Rw} (h : LR w b gd g m1 m2 R) : w.cell? ⟨g, 1, none⟩ = some (.int .i64 R.nf) ∧ w.cell? ⟨g, 2, none⟩ = some (.int .i64 R.np) ∧ w.cell? ⟨g, 3, none⟩ = some (.map (some m1)) := ⟨h.has.cell 1, h.has.cell 2, h.has.cell 3⟩
theorem LR.old {w : World} {b : List (Option Nat)} {gd g m1 m2 : Nat} {R : Rw} (h : LR w b gd g m1 m2 R) : w.cell? ⟨g, 4, none⟩ = some (.int .i64 R.kf) ∧ w.cell? ⟨g, 5, none⟩ = some (.int .i64 R.kp) ∧ w.cell? ⟨g, 6, none⟩ = some (.map (some m2)) := ⟨h.has.cell 4, h.has.cell 5, h.has.cell 6⟩
def Rw.back (R : Rw) : Rw := { R with nf := R.kf, np := R.kp, f1 := R.f2 }
set_option maxRecDepth 100000 in
set_option maxHeartbeats 1600000 in
theorem wal_Back (b : List (Option Nat)) (gd g m1 m2 : Nat) (R : Rw) (w : World) (h : LR w b gd g m1 m2 R) (hk : R.kf ≤ 1000000) :
    Calls Try.prog 20 #[.pointer (some ⟨g, 0, none⟩)] w (MapsPost w b gd g m1 m2 R.back (.tuple #[])) := by
  have HL := Lib.hid h
  have x4 : w.cell? ⟨g, 4, none⟩ = some (.int .i64 R.kf) := h.has.cell 4
  have x5 : w.cell? ⟨g, 5, none⟩ = some (.int .i64 R.kp) := h.has.cell 5
  have x6 : w.cell? ⟨g, 6, none⟩ = some (.map (some m2)) := h.has.cell 6
  have xf := h.has.frozen
  have xz := h.has.lt
  have CP := Lib.hid (fun w1 (h1 : MP w1 m2 R.kf R.f2) => wal_copied m2 R.kf R.kp R.kf R.f2 w1 hk h1)
  clear h
  go_enter Try.func20, Try.ntmps20
  go_wp2_with ((go_at_call 66; refine (CP.out _ HL.out.map2).mono ?_); rintro e w1 ⟨m, rfl, hm, hlow, hb⟩; have HM := Lib.hid hm; have HW := Lib.hid hlow; have HB := Lib.hid hb; have y1 := (HL.out.below hb).has.lt; have c1 := (HL.out.below hb).now; have yf := (HL.out.below hb).has.frozen; clear hm hlow hb; obtain ⟨c1, c2, c3⟩ := c1)
  go_end0
  have H1 := HL.out.below HB.out
  obtain ⟨h2, t2⟩ := H1.newNow (Turn.below _ HB.out) HM.out (fun h3 => by have := HL.out.lt h3; have := HW.out; omega) HW.out R.kp
  exact ⟨rfl, b, m, m2, h2, t2⟩

set_option maxHeartbeats 400000 in
theorem wal_Pages (b : List (Option Nat)) (gd g m1 m2 : Nat) (R : Rw) (w : World) (h : LR w b gd g m1 m2 R) : Calls Try.prog 37 #[.pointer (some ⟨g, 0, none⟩)] w fun e w' => e = .returned (.int .i64 R.kp) ∧ w = w' := by
  have x5 : w.cell? ⟨g, 5, none⟩ = some (.int .i64 R.kp) := h.has.cell 5
  go_enter Try.func37, Try.ntmps37
  go_wp2_with fail
  go_ret
  exact ⟨rfl, rfl⟩
set_option maxHeartbeats 400000 in
theorem wal_Frames (b : List (Option Nat)) (gd g m1 m2 : Nat) (R : Rw) (w : World) (h : LR w b gd g m1 m2 R) : Calls Try.prog 39 #[.pointer (some ⟨g, 0, none⟩)] w fun e w' => e = .returned (.int .i64 R.nf) ∧ w = w' := by
  have x5 : w.cell? ⟨g, 1, none⟩ = some (.int .i64 R.nf) := h.has.cell 1
  go_enter Try.func39, Try.ntmps39
  go_wp2_with fail
  go_ret
  exact ⟨rfl, rfl⟩

end Go.Proofs.Ytjihboddejaelaa
