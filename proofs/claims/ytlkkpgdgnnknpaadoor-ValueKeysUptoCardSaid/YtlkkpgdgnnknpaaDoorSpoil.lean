/-
  spoil and num of the laws.
-/
import Derived.Test.YtlkkpgdgnnknpaaDoorCode2
namespace Go.Proofs.YtlkkpgdgnnknpaaDoor
open Go.RowKit
open Go.BigFrame
set_option linter.unusedVariables false
set_option linter.unusedSimpArgs false

theorem own_apart {w : World} {B : Nat} {e : TypeId} {size n : Nat} {v v' : Value} {xs : List Value} (h : w.ownsRow B e size v n xs) (h' : ∀ k, v'.ownBlock = some k → k < B) : v.ownBlock = none ∨ v.ownBlock ≠ v'.ownBlock := by
  cases hv : v.ownBlock with
  | none => exact .inl rfl
  | some k => exact .inr (fun e => by have := h' k e.symm; have := (h.lt k hv).1; omega)
/-- the caller writes over a list, and behind it: its own block alone turns -/
def SpoilPost (w : World) (v : Value) (e : Ending) (w' : World) : Prop := e = .returned (.tuple #[]) ∧ w.grownBy w' v.ownBlock
theorem has_own {w : World} {g : Nat} {t : TypeId} {cur : Array Value} {B n cap size : Nat} (h : Has w g t cur) (hB : B ≤ g) (hn : n ≤ cap) (hc : cap ≤ maxLen) (hs : cur.size = cap * size) : w.ownsRow B t size (.slice (some ⟨g, 0, none⟩) n cap) n (cur.toList.take (n * size)) :=
  ⟨by rw [List.length_take, Array.length_toList, hs]; exact Nat.min_eq_left (Nat.mul_le_mul_right _ hn), .inr ⟨g, cap, cur, rfl, hB, h, hn, hc, hs, rfl⟩⟩
theorem own_none {w : World} {e : TypeId} {v : Value} {n B : Nat} {xs : List Value} (h : w.ownsRow B e 3 v n xs) (hn : n = 0 ∨ ∃ g cap cur, v = .slice (some ⟨g, 0, none⟩) n cap ∧ Has w g e cur) : True := trivial

set_option maxRecDepth 100000 in
set_option maxHeartbeats 3200000 in
theorem law_spoil (B : Nat) (v : Value) (n : Nat) (vs : List Val) (w : World) (hown : w.ownsRow B 38 3 v n (cellsV vs)) (hB : B ≤ w.heap.size) (hn : n ≤ 100000000) :
    Calls Tryd.prog 14 #[v] w (SpoilPost w v) := by
  obtain ⟨i0, hi, hz0, hz1, hz2⟩ := info_parts infoValue
  have G1 := Lib.hid (show n + 2 ≤ maxLen by unfold maxLen; omega)
  have G2 := Lib.hid (show (n + 2) * 32 ≤ 140737488355328 by omega)
  rcases hown.2 with ⟨rfl, rfl⟩ | ⟨g, cap, cur, rfl, hbg, hg, hnc, hcm, hcs, _⟩
  · have HO := Lib.hid hown
    clear hown
    go_enter Tryd.func14, Tryd.ntmps14
    go_wp2_with fail
    go_loopw [2, 5] (fun _ v5 wr => v5 = .int .i64 0 ∧ wr = w) (fun _ _ _ => 0)
    case atStart => exact ⟨rfl, rfl⟩
    case round =>
      obtain ⟨rfl, rfl⟩ := hrel
      go_wp2_with ((at_builtin; refine wpList_append_src _ rfl (.tmp 13) (.tmp 16) 22 22 rfl (B) 38 i0 _ 3 32 Tryd.underlying22 hi hz0 hz1 hz2 zeroCellsValue (by decide) (_) (0) (_) rfl (HO.out.alloc _) (.slice (some ⟨_, 0, none⟩) 2 2) (2) ([.int .i64 9, .int .i64 0, .string ⟨#[]⟩, .int .i64 9, .int .i64 0, .string ⟨#[]⟩]) rfl (Src.ofSlice _ Tryd.underlying22 ⟨_, 0, none⟩ 2 2 ([.int .i64 9, .int .i64 0, .string ⟨#[]⟩, .int .i64 9, .int .i64 0, .string ⟨#[]⟩]) rfl (World.news_of_block (heap_alloc_new _ _)) (by simp [Value.oneCell'])) (G1.out) (G2.out) (Nat.le_trans hB (by simp)) ?_; intro v1 w2 hown1 hg1 _ hat1))
      go_end0
      exact ⟨rfl, grownBy_trans (World.grownBy_alloc _ _ _) hg1⟩
  · have hlt : g < w.heap.size := (Array.getElem?_eq_some_iff.1 hg).1
    have HH := Lib.hid (show Has w g 38 cur from hg)
    have HCS := Lib.hid hcs
    have HCM := Lib.hid hcm
    clear hown hg hcs hcm
    go_enter Tryd.func14, Tryd.ntmps14
    go_wp2_with fail
    go_loopw [2, 5] (fun _ v5 wr => ∃ (k : Nat) (C : Array Value), k ≤ n ∧ v5 = .int .i64 k ∧ Has wr g 38 C ∧ C.size = cap * 3 ∧ w.grownBy wr (some g)) (fun _ v5 _ => n - (intOf v5).toNat)
    case atStart => exact ⟨0, cur, Nat.zero_le _, rfl, HH.out, HCS.out, grownBy_refl _ _⟩
    case round =>
      clear HH HCS
      obtain ⟨k, C, hk, rfl, hH, hC, hG⟩ := hrel
      have HH := Lib.hid hH; have HC := Lib.hid hC; have HG := Lib.hid hG
      have hltr := hH.lt
      clear hH hC hG
      by_cases hkn : k < n
      · have kc : k < cap := by omega
        obtain ⟨a0, h0⟩ : ∃ a, wr.cell? ⟨g, k * 3, none⟩ = some a := ⟨_, by rw [HH.out.cell]; exact Array.getElem?_eq_getElem (by rw [HC.out]; omega)⟩
        obtain ⟨a1, h1⟩ : ∃ a, wr.cell? ⟨g, k * 3 + 1, none⟩ = some a := ⟨_, by rw [HH.out.cell]; exact Array.getElem?_eq_getElem (by rw [HC.out]; omega)⟩
        obtain ⟨a2, h2⟩ : ∃ a, wr.cell? ⟨g, k * 3 + 2, none⟩ = some a := ⟨_, by rw [HH.out.cell]; exact Array.getElem?_eq_getElem (by rw [HC.out]; omega)⟩
        have f0 := HH.out.frozen
        go_wp2_with fail
        go_roundw
        case rel => exact ⟨k + 1, _, by omega, by simp, ((HH.out.set _ _).set _ _).set _ _, by simp [HC.out], grownBy_trans HG.out (grownBy_trans (grownBy_setCell _ _) (grownBy_trans (grownBy_setCell _ _) (grownBy_setCell _ _)))⟩
        case measure => simp [intOf]; omega
      · obtain rfl : k = n := by omega
        have HO := Lib.hid (has_own (B := B) HH.out hbg hnc HCM.out HC.out)
        have HB := Lib.hid HG.out.size
        go_wp2_with ((at_builtin; refine wpList_append_src _ rfl (.tmp 13) (.tmp 16) 22 22 rfl (B) 38 i0 _ 3 32 Tryd.underlying22 hi hz0 hz1 hz2 zeroCellsValue (by decide) (_) (k) (_) rfl (HO.out.alloc _) (.slice (some ⟨_, 0, none⟩) 2 2) (2) ([.int .i64 9, .int .i64 0, .string ⟨#[]⟩, .int .i64 9, .int .i64 0, .string ⟨#[]⟩]) rfl (Src.ofSlice _ Tryd.underlying22 ⟨_, 0, none⟩ 2 2 ([.int .i64 9, .int .i64 0, .string ⟨#[]⟩, .int .i64 9, .int .i64 0, .string ⟨#[]⟩]) rfl (World.news_of_block (heap_alloc_new _ _)) (by simp [Value.oneCell'])) (G1.out) (G2.out) (Nat.le_trans hB (Nat.le_trans HB.out (by simp))) ?_; intro v1 w2 hown1 hg1 _ hat1))
        go_end0
        exact ⟨rfl, grownBy_trans HG.out (grownBy_trans (World.grownBy_alloc _ _ _) hg1)⟩

set_option maxHeartbeats 400000 in
theorem law_num7 (x : Int) (w : World) : Calls Tryd.prog 13 #[.int .i64 x] w fun e w' => e = .returned (.int .i64 x) ∧ w = w' := by
  go_enter Tryd.func13, Tryd.ntmps13
  go_wp2
  go_ret
  exact ⟨rfl, rfl⟩


end Go.Proofs.YtlkkpgdgnnknpaaDoor
