/-
  moved of package relstorekeep: a disk made of another one's files.
-/
import Derived.Test.YtjihboddejaelaaKeptC
import Derived.Test.YtjihboddejaelaaKeptP3
import Derived.Test.YtjihboddejaelaaLogO
namespace Go.Proofs.Ytjihboddejaelaa
open Go.RowKit
open Go.BigFrame
open Go.Maps
set_option linter.unusedVariables false
set_option linter.unusedSimpArgs false

/-- the new disk behind k files -/
def movedD (D : Dk) : Nat → Dk
  | 0 => Dk.new
  | k + 1 => ((movedD D k).write (k : Nat) 0 (bsOf (D.lasts k))).sync (k : Nat)
theorem moved_fit (D : Dk) : ∀ k, k ≤ 2 → Fit (movedD D k) (20 - 2 * k) ∧ (movedD D k).calm
  | 0, _ => ⟨new_fit.less (by omega), rfl, rfl⟩
  | k + 1, hk => by
    obtain ⟨h1, h2⟩ := moved_fit D k (by omega)
    have h3 : Fit (movedD D k) ((20 - 2 * (k + 1)) + 1 + 1) := h1.less (by omega)
    exact ⟨(h3.write _ _ _).sync _, (h2.write _ _ _).sync _⟩
theorem moved_end (D : Dk) (h : D.ok) : movedD D 2 = plainD D.l0 D.l1 (-1) 4 := by
  have z0 : (bsOf D.l0).size = D.l0.length := bsOf_size _
  have z1 : (bsOf D.l1).size = D.l1.length := bsOf_size _
  have f0 : fitsF (0 : Nat) 0 (bsOf D.l0).size := by have := h.l0; unfold fitsF; omega
  have f1 : fitsF (1 : Nat) 0 (bsOf D.l1).size := by have := h.l1; unfold fitsF; omega
  have p0 : putL [] 0 (bsOf D.l0).data.toList = D.l0 := by rw [bsOf_list, putL_nil]
  have p1 : putL [] 0 (bsOf D.l1).data.toList = D.l1 := by rw [bsOf_list, putL_nil]
  have e1 : movedD D 1 = ⟨D.l0, [], [], -1, false, 2⟩ := by
    show (Dk.new.write (0 : Nat) 0 (bsOf (D.lasts 0))).sync (0 : Nat) = _
    have a : Dk.new.write (0 : Nat) 0 (bsOf (D.lasts 0)) = ⟨[], [], [⟨0, 0, bsOf D.l0, false⟩], -1, false, 1⟩ := (if_pos f0).trans rfl
    rw [a]
    show (⟨putL [] 0 (bsOf D.l0).data.toList, [], [], -1, false, 2⟩ : Dk) = _
    rw [p0]
  show ((movedD D 1).write (1 : Nat) 0 (bsOf (D.lasts 1))).sync (1 : Nat) = _
  rw [e1]
  have a : (⟨D.l0, [], [], -1, false, 2⟩ : Dk).write (1 : Nat) 0 (bsOf (D.lasts 1)) = ⟨D.l0, [], [⟨1, 0, bsOf D.l1, false⟩], -1, false, 3⟩ := (if_pos f1).trans rfl
  rw [a]
  show (⟨D.l0, putL [] 0 (bsOf D.l1).data.toList, [], -1, false, 4⟩ : Dk) = _
  rw [p1]; rfl
theorem moved_step (D : Dk) (h : D.ok) (k : Nat) (hk : k < 2) : (movedD D k).writeE (k : Nat) 0 (bsOf (D.lasts k)) = 0 ∧ ((movedD D k).write (k : Nat) 0 (bsOf (D.lasts k))).syncE (k : Nat) = 0 := by
  obtain ⟨h1, h2⟩ := moved_fit D k (by omega)
  have z : (bsOf (D.lasts k)).size = (D.lasts k).length := bsOf_size _
  have hl := h.lasts k
  exact ⟨(if_pos (show fitsF (k : Nat) 0 (bsOf (D.lasts k)).size from by unfold fitsF; omega)).trans h2.turnE, (syncE_fits hk).trans (h2.write _ _ _).turnE⟩
def MovedPost (w : World) (D : Dk) (e : Ending) (w' : World) : Prop := ∃ g b', e = .returned (.pointer (some ⟨g, 0, none⟩)) ∧ DP w' b' g (plainD D.l0 D.l1 (-1) 4) ∧ Turn [] b' w w'

set_option maxRecDepth 100000 in
set_option maxHeartbeats 3200000 in
theorem keep_moved (b : List (Option Nat)) (gd : Nat) (D : Dk) (w : World) (h : DP w b gd D) (hok : D.ok) (hd : D.down = false) (hw : D.waits = []) :
    Calls Try.prog 24 #[.pointer (some ⟨gd, 0, none⟩)] w (MovedPost w D) := by
  have ME := moved_end D hok
  unfold MovedPost
  rw [← ME]
  have HD := Lib.hid h
  have OK := Lib.hid hok
  have TS := Lib.hid (fun (k : Nat) (hk : k < 2) w1 (h1 : DP w1 b gd D) => by
    have s1 : D.sizeN k = ((D.lasts k).length : Int) ∧ D.sizeE k = 0 := by
      have e : D.seen k = D.lasts k := by unfold Dk.seen; rw [hw]; rfl
      rw [← e]
      exact ⟨if_pos ⟨by omega, by omega, hd⟩, (if_pos (by omega)).trans (if_neg (by rw [hd]; decide))⟩
    have := disk_Size gd D b k w1 h1 hok
    rw [s1.1, s1.2] at this
    exact this)
  have TR := Lib.hid (fun (k : Nat) (hk : k < 2) w1 (h1 : DP w1 b gd D) => by
    have e : D.seen k = D.lasts k := by unfold Dk.seen; rw [hw]; rfl
    have s2 := readS_all2 hok (f := k) hk hd
    rw [e] at s2
    have := disk_Read gd D b k 0 (D.lasts k).length w1 h1 hok
    rw [s2.1, s2.2] at this
    exact this)
  have TW := Lib.hid (fun (k : Nat) (hk : k < 2) g b1 w1 (h1 : DP w1 b1 g (movedD D k)) => by
    obtain ⟨f1, f2⟩ := moved_fit D k (by omega)
    have hz : (bsOf (D.lasts k)).size ≤ 9223372036854775807 := by rw [bsOf_size]; have := hok.lasts k; omega
    have := disk_Write g (movedD D k) b1 k 0 (bsOf (D.lasts k)) w1 h1 f1.ok (by have := f1.count; omega) (by have := f1.waits; omega) hz
    rw [(moved_step D hok k hk).1] at this
    exact this)
  have TY := Lib.hid (fun (k : Nat) (hk : k < 2) g b1 w1 (h1 : DP w1 b1 g ((movedD D k).write (k : Nat) 0 (bsOf (D.lasts k)))) => by
    obtain ⟨f1, f2⟩ := moved_fit D k (by omega)
    have f3 : Fit ((movedD D k).write (k : Nat) 0 (bsOf (D.lasts k))) 1 := (f1.less (show 2 ≤ 20 - 2 * k by omega)).write _ _ _
    have := disk_Sync g _ b1 k w1 h1 f3.ok (by have := f3.count; omega) (by have := f3.waits; omega)
    rw [(moved_step D hok k hk).2] at this
    exact this)
  clear h hok hd hw ME
  go_enter Try.func24, Try.ntmps24
  go_wp2_with (go_at_call 7; refine (disk_New _).mono ?_; rintro e w1 ⟨g, b1, rfl, hp, ht⟩; have HP := Lib.hid hp; have HT := Lib.hid ht; clear hp ht)
  go_loopw [4] (fun v4 wr => ∃ (k : Nat) (b2 : List (Option Nat)), k ≤ 2 ∧ v4 = .int .i64 k ∧ DP wr b2 g (movedD D k) ∧ Turn [] b2 w wr) (fun v4 _ => 2 - (intOf v4).toNat)
  case atStart => exact ⟨0, b1, by omega, rfl, HP.out, HT.out⟩
  case round =>
    obtain ⟨k, b2, hk, rfl, hp2, ht2⟩ := hrel
    have H2 := Lib.hid hp2
    have T2 := Lib.hid ht2
    have HS := Lib.hid (HD.out.below ht2.belowN)
    clear hp2 ht2 HP HT
    by_cases hk2 : k < 2
    · have S1 := Lib.hid (TS.out k hk2 _ HS.out)
      have R1 := Lib.hid (TR.out k hk2 _ HS.out)
      have W1 := Lib.hid (TW.out k hk2 g b2 _ H2.out)
      have Y1 := Lib.hid (TY.out k hk2 g)
      go_wp2_with (first
        | (go_at_call 55; (with_reducible refine S1.out.mono ?_); rintro e w3 ⟨rfl, rfl⟩)
        | (go_at_call 49; (with_reducible refine R1.out.mono ?_); rintro e w3 ⟨rfl, rfl⟩)
        | (go_at_call 51; (with_reducible refine W1.out.mono ?_); rintro e w3 ⟨rfl, b3, hp3, ht3⟩; have H3 := Lib.hid hp3; have T3 := Lib.hid (T2.out.trans ht3); clear hp3 ht3)
        | (go_at_call 57; (with_reducible refine (Y1.out _ _ H3.out).mono ?_); rintro e w4 ⟨rfl, b4, hp4, ht4⟩; have H4 := Lib.hid hp4; have T4 := Lib.hid (T3.out.trans ht4); clear hp4 ht4))
      go_roundw
      case rel => exact ⟨k + 1, b4, by omega, by simp, H4.out, T4.out⟩
      case measure => simp [intOf]; omega
    · have hk3 : k = 2 := by omega
      subst hk3
      go_wp2_with fail
      go_ret
      exact ⟨g, b2, rfl, H2.out, T2.out⟩

end Go.Proofs.Ytjihboddejaelaa
