/-
  Maps from int to int; point.copied of package wal.
-/
import Derived.Test.YtjihboddejaelaaDone
import Derived.Maps.RangeWalk
import Derived.Maps.OwnSet
import Derived.Maps.OwnOps
import Derived.Maps.Ext
namespace Go.Proofs.Ytjihboddejaelaa
open Go.RowKit
open Go.BigFrame
open Go.Maps
set_option linter.unusedVariables false
set_option linter.unusedSimpArgs false

theorem lawInt : Keyed Try.prog 3 := int_keyed Try.underlying3
theorem zeroInt (w : World) : (zeroValue 3).run Try.prog w = .ok (.int .i64 0) w := by kernel_rfl
/-- block b is a map of at most n entries; f: what it holds -/
def MP (w : World) (b n : Nat) (f : Int → Nat) : Prop := ∃ D : DataW Unit, w.ownsMap Try.prog 3 (plainElem Try.prog 3) b n D ∧ ∀ x : Int, D.atKey (.int .i64 x) (.lit (.int .i64 0)) = .lit (.int .i64 (f x))
theorem MP.kept {w w' : World} {b n : Nat} {f : Int → Nat} {row : Option Nat} (h : MP w b n f) (hg : w.grownBy w' row) (hn : some b ≠ row) : MP w' b n f := by
  obtain ⟨D, h1, h2⟩ := h
  exact ⟨D, h1.kept hg hn, h2⟩
theorem MP.lt {w : World} {b n : Nat} {f : Int → Nat} (h : MP w b n f) : b < w.heap.size := by
  obtain ⟨D, h1, h2⟩ := h
  exact h1.lt
theorem MP.block {w w' : World} {b n : Nat} {f : Int → Nat} (h : MP w b n f) (hb : w'.heap[b]? = w.heap[b]?) : MP w' b n f := by
  obtain ⟨D, ⟨es, cl, h1, h2⟩, h3⟩ := h
  exact ⟨D, ⟨es, cl, hb.trans h1, h2⟩, h3⟩
theorem MP.below {w w' : World} {b n : Nat} {f : Int → Nat} (h : MP w b n f) (hb : Below w.heap.size w w') : MP w' b n f := h.block (hb.block b h.lt)
theorem MP.made (w : World) : MP (w.alloc (.map #[] 0)) w.heap.size 0 (fun _ => 0) := ⟨_, World.ownsMap_made _ _ _ _, fun x => rfl⟩
theorem make_hint (n : Nat) (w : World) : (Instr.makeMap 102 (some (.int .i64 n))).run Try.prog w = .ok (.map (some w.heap.size)) (w.alloc (.map #[] 0)) := by
  simp [Instr.makeMap, asInt, asIntOf]

def CopyPost (w : World) (a p n : Nat) (f : Int → Nat) (e : Ending) (w' : World) : Prop :=
  ∃ b', e = .returned (.agg #[.int .i64 a, .int .i64 p, .map (some b')]) ∧ MP w' b' n f ∧ w.heap.size ≤ b' ∧ Below w.heap.size w w'

set_option maxRecDepth 100000 in
set_option maxHeartbeats 1600000 in
theorem wal_copied (b a p n : Nat) (f : Int → Nat) (w : World) (hn : n ≤ 1000000) (h : MP w b n f) :
    Calls Try.prog 66 #[.agg #[.int .i64 a, .int .i64 p, .map (some b)]] w (CopyPost w a p n f) := by
  obtain ⟨D0, hown, hD⟩ := h
  have hmm := make_hint
  have hbl := hown.lt
  have hsz := hown.size_le
  have HD := Lib.hid hD
  have HA := Lib.hid (Has.new w 104 #[.int .i64 a, .int .i64 p, .map (some b)])
  clear hD
  go_enter Try.func66, Try.ntmps66
  go_wp2_with (first
    | (at_len; refine wpList_len_own _ rfl _ 102 rfl 3 3 Try.underlying102 _ b n D0 rfl ((hown.alloc _).alloc _) ?_)
    | (at_range; refine wpList_range_own _ rfl _ 102 rfl 3 3 lawInt Try.underlying102 _ b n _ rfl (((hown.alloc _).alloc _).alloc _) ?_; intro w0 hrg0 hg0 hs0)
    | go_in)
  go_frame
  have e1 : (((w.alloc (.cells #[.int .i64 a, .int .i64 p, .map (some b)] 104)).alloc (.cells #[.int .i64 0, .int .i64 0, .map none] 104)).alloc (.map #[] 0)).heap.size = w.heap.size + 1 + 1 + 1 := by simp
  have HB := Lib.hid (Has.new (w.alloc (.cells #[.int .i64 a, .int .i64 p, .map (some b)] 104)) 104 #[.int .i64 0, .int .i64 0, .map none])
  rw [World.size_alloc] at HB
  rw [e1] at hrg0 hs0 ⊢
  have HM0 := Lib.hid (World.ownsMap_made (H := Unit) ((w.alloc (.cells #[.int .i64 a, .int .i64 p, .map (some b)] 104)).alloc (.cells #[.int .i64 0, .int .i64 0, .map none] 104)) Try.prog 3 (plainElem Try.prog 3))
  rw [World.size_alloc, World.size_alloc] at HM0
  go_loopw [4] (fun _ wr => ∃ (left : Lit → Bool) (cnt : Nat) (Dout : DataW Unit), wr.ranges Try.prog 3 (plainElem Try.prog 3) b (w.heap.size + 1 + 1 + 1) n D0 left cnt ∧ cnt ≤ Maps.size D0 ∧
      wr.ownsMap Try.prog 3 (plainElem Try.prog 3) (w.heap.size + 1 + 1) (Maps.size D0 - cnt) Dout ∧ Agree Dout D0 left ∧ Below w.heap.size w wr ∧
      Has wr w.heap.size 104 #[.int .i64 a, .int .i64 p, .map (some b)] ∧ Has wr (w.heap.size + 1) 104 #[.int .i64 0, .int .i64 0, .map none])
    (fun _ wr => wr.rangeLeft b (w.heap.size + 1 + 1 + 1))
  case atStart =>
    exact ⟨_, _, .map [], hrg0, Nat.le_refl _, (HM0.out.kept hg0 (by simp)).mono (Nat.zero_le _), agree_start D0, ((((Below.refl _ _).alloc (Nat.le_refl _) _).alloc (by simp) _).alloc (by simp; omega) _).grown hg0 (by simp; omega) (fun j hj => by cases hj),
      ((HA.out.alloc _).alloc _).grown hg0 (by simp), (HB.out.alloc _).grown hg0 (by simp)⟩
  case round =>
    obtain ⟨left, cnt, Dout, hrg, hcs, hout, hA, hnx, hp, hr⟩ := hrel
    have HP := Lib.hid hp
    have HR := Lib.hid hr
    obtain ⟨c0, c1, c2, d0, d1, d2⟩ := (show wr.cell? ⟨w.heap.size, 0, none⟩ = some (.int .i64 a) ∧ wr.cell? ⟨w.heap.size, 1, none⟩ = some (.int .i64 p) ∧ wr.cell? ⟨w.heap.size, 2, none⟩ = some (.map (some b)) ∧ wr.cell? ⟨w.heap.size + 1, 0, none⟩ = some (.int .i64 0) ∧ wr.cell? ⟨w.heap.size + 1, 1, none⟩ = some (.int .i64 0) ∧ wr.cell? ⟨w.heap.size + 1, 2, none⟩ = some (.map none) from ⟨hp.cell 0, hp.cell 1, hp.cell 2, hr.cell 0, hr.cell 1, hr.cell 2⟩)
    have cf := hp.frozen
    have cf2 := hr.frozen
    clear hp hr HA HB HM0 hrg0 hg0 hs0 e1
    go_wp2_with (first
      | (at_next; refine wpList_next_ranges_ii _ rfl _ rfl 3 3 .i64 .i64 lawInt Try.underlying3 Try.underlying3 b (w.heap.size + 1 + 1 + 1) n _ _ _ rfl hrg ?_ ?_)
      | go_in)
    · intro hc0 hl0
      go_wp2
      subst hc0
      have e := agree_end hA hl0 (hout.canon lawInt) (hown.canon lawInt)
      subst e
      have h2 := (HR.out.far (p := ⟨w.heap.size, 2, none⟩) (by simp) (.map (some (w.heap.size + 1 + 1)))).set3 (x := .int .i64 a) (y := .int .i64 p) (z := .map (some (w.heap.size + 1 + 1)))
      have h3 := (((hout.setCell (a := ⟨w.heap.size, 2, none⟩) (by simp; omega) (.map (some (w.heap.size + 1 + 1)))).setCell (a := ⟨w.heap.size + 1, 0, none⟩) (by simp) (.int .i64 a)).setCell (a := ⟨w.heap.size + 1, 1, none⟩) (by simp) (.int .i64 p)).setCell (a := ⟨w.heap.size + 1, 2, none⟩) (by simp) (.map (some (w.heap.size + 1 + 1)))
      have h4 := (((hnx.setCell (p := ⟨w.heap.size, 2, none⟩) (Nat.le_refl _) (.map (some (w.heap.size + 1 + 1)))).setCell (p := ⟨w.heap.size + 1, 0, none⟩) (by simp) (.int .i64 a)).setCell (p := ⟨w.heap.size + 1, 1, none⟩) (by simp) (.int .i64 p)).setCell (p := ⟨w.heap.size + 1, 2, none⟩) (by simp) (.map (some (w.heap.size + 1 + 1)))
      refine bodyPost_ret (results_cell_row rfl _ _ (w.heap.size + 1) 104 _ (0, 0) _ rfl h2 Try.underlying104 rfl (by kernel_rfl)) rfl ?_
      exact ⟨_, rfl, ⟨_, h3.mono (by omega), HD.out⟩, by omega, h4⟩
    · intro x c w1 cnt1 hwx hwc hlx hat hrg1 hlt hg1 hs1 hen
      have hout1 := hout.kept hg1 (by simp)
      go_wp2_with (first
        | (at_mapUpdate; refine wpList_mapUpdate_own _ rfl _ _ _ 102 rfl 3 3 lawInt Try.underlying102 _ (w.heap.size + 1 + 1) _ _ rfl hout1 (by unfold maxLen; omega) _ _ _ rfl rfl (keyOf_int_mk Try.underlying3 hwx) _ [] (plainElem_int Try.underlying3 hwc) ?_; intro w2 hout2 hg2; go_frame)
        | go_in)
      have hrg2 := hrg1.kept hg2 (fun e => by have := Option.some.inj e; omega) (fun e => by have := Option.some.inj e; omega)
      go_roundw
      case rel =>
        exact ⟨_, cnt1, _, hrg2, by omega, hout2.mono (by omega), agree_step hA hout.isMap trivial hat,
          (hnx.grown hg1 hnx.size (fun j hj => by cases hj; omega)).grown hg2 (by have := hnx.size; omega) (fun j hj => by cases hj; omega),
          (HP.out.grown hg1 (by simp <;> omega)).grown hg2 (by simp <;> omega), (HR.out.grown hg1 (by simp <;> omega)).grown hg2 (by simp <;> omega)⟩
      case measure => rw [hrg2.left_eq, hrg.left_eq]; exact hlt

end Go.Proofs.Ytjihboddejaelaa
