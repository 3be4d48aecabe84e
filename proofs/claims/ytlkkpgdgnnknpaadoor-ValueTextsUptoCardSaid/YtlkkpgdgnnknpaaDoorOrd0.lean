/-
  Contracts: cmp.Compare, Order.
-/
import Derived.Test.YtlkkpgdgnnknpaaDoorVal0
import Derived.Test.YtlkkpgdgnnknpaaDoorShelf
import Derived.Deep.RegionHeld3
import Derived.Deep.DeepCutAuto
import Derived.Deep.DrawnRows
namespace Go.Proofs.YtlkkpgdgnnknpaaDoor
open Go.RowKit
attribute [local go_sem ↓] Go.wp_at_zero Go.wp_at_succ

def ordI (a b : Int) : Int := if a < b then -1 else if b < a then 1 else 0
theorem ordI_lt {a b : Int} (h : a < b) : -1 = ordI a b := by simp [ordI, h]
theorem ordI_gt {a b : Int} (h : b < a) : 1 = ordI a b := by simp [ordI]; omega
theorem ordI_eq {a b : Int} (h : ¬ a < b) (h' : ¬ b < a) : 0 = ordI a b := by simp [ordI, h, h']

set_option maxHeartbeats 400000 in
theorem cmp_int (a b : Int) (w : World) :
    Calls Tryd.prog 42 #[.int .i64 a, .int .i64 b] w fun e w' => e = .returned (.int .i64 (ordI a b)) ∧ w = w' := by
  by_cases h1 : a < b
  · go_enter Tryd.func42, Tryd.ntmps42
    go_wp2
    go_ret
    exact ⟨ret_int (ordI_lt h1), rfl⟩
  · by_cases h2 : b < a
    · go_enter Tryd.func42, Tryd.ntmps42
      go_wp2
      go_ret
      exact ⟨ret_int (ordI_gt h2), rfl⟩
    · go_enter Tryd.func42, Tryd.ntmps42
      go_wp2
      go_ret
      exact ⟨ret_int (ordI_eq (by omega) (by omega)), rfl⟩

set_option maxHeartbeats 400000 in
theorem cmp_int64 (a b : Int) (w : World) :
    Calls Tryd.prog 44 #[.int .i64 a, .int .i64 b] w fun e w' => e = .returned (.int .i64 (ordI a b)) ∧ w = w' := by
  by_cases h1 : a < b
  · go_enter Tryd.func44, Tryd.ntmps44
    go_wp2
    go_ret
    exact ⟨ret_int (ordI_lt h1), rfl⟩
  · by_cases h2 : b < a
    · go_enter Tryd.func44, Tryd.ntmps44
      go_wp2
      go_ret
      exact ⟨ret_int (ordI_gt h2), rfl⟩
    · go_enter Tryd.func44, Tryd.ntmps44
      go_wp2
      go_ret
      exact ⟨ret_int (ordI_eq (by omega) (by omega)), rfl⟩


def ordS (a b : ByteArray) : Int := Lib.compareBytes a.data.toList b.data.toList
theorem strings_Compare (a b : ByteArray) (w : World) : Calls Tryd.prog 43 #[.string a, .string b] w fun e w' => e = .returned (.int .i64 (ordS a b)) ∧ w = w' :=
  (Tryd.strings_Compare a b w).mono fun _ _ ⟨he, hw⟩ => ⟨he, hw.symm⟩

def orderV (k n : Int) (s : ByteArray) (k' n' : Int) (s' : ByteArray) : Int :=
  if cleanK k ≠ cleanK k' then ordI (cleanK k) (cleanK k') else if cleanK k = 3 then ordS (cleanS k s) (cleanS k' s') else ordI (cleanN k n) (cleanN k' n')

theorem two_boxes {w w2 : World} {A B : Array Value} {t : TypeId} (h : Below ((w.alloc (.cells A t)).alloc (.cells B t)).heap.size ((w.alloc (.cells A t)).alloc (.cells B t)) w2) :
    Has w2 w.heap.size t A ∧ Has w2 (w.heap.size + 1) t B ∧ Below w.heap.size w w2 := by
  refine ⟨((Has.new w t A).alloc _).belowS h, ?_, ?_⟩
  · have := (Has.new (w.alloc (.cells A t)) t B).belowS h
    simpa using this
  · exact (((Below.refl _ _).alloc (Nat.le_refl _) _).alloc (by simp) _).trans (h.mono (by simp; omega))

theorem two_stores {w w2 : World} {a b c a' b' c' x y z x' y' z' : Value} {t : TypeId} (h : Has w2 w.heap.size t #[a, b, c] ∧ Has w2 (w.heap.size + 1) t #[a', b', c'] ∧ Below w.heap.size w w2) :
    Below w.heap.size w ((((((w2.setCell ⟨w.heap.size, 0, none⟩ x).setCell ⟨w.heap.size, 1, none⟩ y).setCell ⟨w.heap.size, 2, none⟩ z).setCell ⟨w.heap.size + 1, 0, none⟩ x').setCell ⟨w.heap.size + 1, 1, none⟩ y').setCell ⟨w.heap.size + 1, 2, none⟩ z') ∧
    Has ((((((w2.setCell ⟨w.heap.size, 0, none⟩ x).setCell ⟨w.heap.size, 1, none⟩ y).setCell ⟨w.heap.size, 2, none⟩ z).setCell ⟨w.heap.size + 1, 0, none⟩ x').setCell ⟨w.heap.size + 1, 1, none⟩ y').setCell ⟨w.heap.size + 1, 2, none⟩ z') w.heap.size t #[x, y, z] ∧
    Has ((((((w2.setCell ⟨w.heap.size, 0, none⟩ x).setCell ⟨w.heap.size, 1, none⟩ y).setCell ⟨w.heap.size, 2, none⟩ z).setCell ⟨w.heap.size + 1, 0, none⟩ x').setCell ⟨w.heap.size + 1, 1, none⟩ y').setCell ⟨w.heap.size + 1, 2, none⟩ z') (w.heap.size + 1) t #[x', y', z'] := by
  obtain ⟨h1, h2, h3⟩ := h
  refine ⟨?_, (h1.set3).far3 (by omega), (h2.far3 (by omega)).set3⟩
  exact (((((h3.setCell (by simp) _).setCell (by simp) _).setCell (by simp) _).setCell (by simp) _).setCell (by simp) _).setCell (by simp) _

set_option maxHeartbeats 1600000 in
theorem value_Order (k n : Int) (s : ByteArray) (k' n' : Int) (s' : ByteArray) (w : World) :
    Calls Tryd.prog 17 #[.agg #[.int .i64 k, .int .i64 n, .string s], .agg #[.int .i64 k', .int .i64 n', .string s']] w fun e w' => e = .returned (.int .i64 (orderV k n s k' n' s')) ∧ Below w.heap.size w w' := by
  go_enter Tryd.func17, Tryd.ntmps17
  go_upto_region 1 with fail
  go_cut [2, 3, 4] (fun s2 s3 s4 wx => s2 = .pointer (some ⟨w.heap.size, 0, none⟩) ∧ s3 = .pointer (some ⟨w.heap.size + 1, 0, none⟩) ∧ s4 = .int .i64 0 ∧ Below w.heap.size w wx ∧
    Has wx w.heap.size 38 #[.int .i64 (cleanK k), .int .i64 (cleanN k n), .string (cleanS k s)] ∧ Has wx (w.heap.size + 1) 38 #[.int .i64 (cleanK k'), .int .i64 (cleanN k' n'), .string (cleanS k' s')])
  case first =>
    go_region_with (go_at_call 37; refine (value_Clean _ _ _ _).mono ?_; rintro e w1 ⟨rfl, hb⟩; obtain ⟨hc, hf⟩ := bcell hb; have hz := hb.size; (try simp at hz); have hz0 : w.heap.size < w1.heap.size := (by omega); have hz1 : w.heap.size + 1 < w1.heap.size := (by omega))
    all_goals
      go_wp2_with fail
      go_meet
      exact ⟨rfl, rfl, rfl, two_stores (two_boxes (by first | (exact bel_step (by assumption) (by assumption) (by omega)) | (repeat (first | exact Below.refl _ _ | assumption | (refine Below.setCell ?_ (by first | omega | (simp <;> omega)) _) | refine Below.drew ?_ | (refine Below.alloc ?_ (by first | omega | (simp <;> omega)) _) | (refine bel_step ?_ (by assumption) (by first | omega | (simp <;> omega)))))))⟩
  case rest =>
    obtain ⟨rfl, rfl, rfl, hbel, hA, hB⟩ := hcut
    obtain ⟨c0, c1, c2⟩ := hA.cells3
    obtain ⟨c3, c4, c5⟩ := hB.cells3
    by_cases e1 : cleanK k = cleanK k'
    · have g1 : (cleanK k != cleanK k') = false := by rw [e1]; simp
      by_cases e2 : cleanK k = 3
      · have g2 : (cleanK k == 3) = true := by rw [e2]; rfl
        have H : ordS (cleanS k s) (cleanS k' s') = orderV k n s k' n' s' := by simp [orderV, ← e1, e2]
        have HH := Lib.hid H; clear H e1 e2
        go_wp2_with (go_at_call 43; refine (strings_Compare _ _ _).mono ?_; rintro e w1 ⟨rfl, rfl⟩)
        go_ret
        exact ⟨ret_int HH.out, hbel⟩
      · have g2 : (cleanK k == 3) = false := beq_eq_false_iff_ne.2 e2
        have H : ordI (cleanN k n) (cleanN k' n') = orderV k n s k' n' s' := by simp [orderV, ← e1, e2]
        have HH := Lib.hid H; clear H e1 e2
        go_wp2_with (go_at_call 44; refine (cmp_int64 _ _ _).mono ?_; rintro e w1 ⟨rfl, rfl⟩)
        go_ret
        exact ⟨ret_int HH.out, hbel⟩
    · have g1 : (cleanK k != cleanK k') = true := bne_iff_ne.2 e1
      have H : ordI (cleanK k) (cleanK k') = orderV k n s k' n' s' := by simp [orderV, e1]
      have HH := Lib.hid H; clear H e1
      go_wp2_with (go_at_call 42; refine (cmp_int _ _ _).mono ?_; rintro e w1 ⟨rfl, rfl⟩)
      go_ret
      exact ⟨ret_int HH.out, hbel⟩

end Go.Proofs.YtlkkpgdgnnknpaaDoor
