/-
  pick, short, sheet of package relstorekeep.
-/
import Derived.Test.YtjihboddejaelaaKeptA
import Derived.Test.YtjihboddejaelaaSheet
namespace Go.Proofs.Ytjihboddejaelaa
open Go.RowKit
open Go.BigFrame
open Go.Maps
set_option linter.unusedVariables false
set_option linter.unusedSimpArgs false

def pickN (c : Int) (n : Nat) : Nat := (if c < 0 then (-(c + 1)).toNat else c.toNat) % n
theorem pickN_lt (c : Int) {n : Nat} (h : 0 < n) : pickN c n < n := Nat.mod_lt _ h
set_option maxHeartbeats 400000 in
theorem keep_pick (c : Int) (n : Nat) (hc : in64 c) (h0 : 0 < n) (hn : n ≤ 1000000) (w : World) : Calls Try.prog 14 #[.int .i64 c, .int .i64 n] w fun e w' => e = .returned (.int .i64 (pickN c n : Nat)) ∧ w = w' := by
  obtain ⟨x, hx⟩ : ∃ x, pickN c n = x := ⟨_, rfl⟩
  rw [hx]
  by_cases hneg : c < 0
  · have w1 : wrap64 (c + 1) = c + 1 := IntWalk.wrap64_in _ (by unfold in64 at hc; omega)
    have w2 : wrap64 (-(c + 1)) = -(c + 1) := IntWalk.wrap64_in _ (by unfold in64 at hc; omega)
    have e : (-(c + 1)).tmod (n : Int) = (x : Int) := by
      rw [← hx, pickN, if_pos hneg]
      rw [Int.tmod_eq_emod_of_nonneg (by omega), Int.natCast_emod, Int.toNat_of_nonneg (by omega)]
    have X := Lib.hid hx
    clear hx hc
    go_enter Try.func14, Try.ntmps14
    go_wp2_with fail
    go_ret
    exact ⟨by first | rfl | simp_all, rfl⟩
  · have e : c.tmod (n : Int) = (x : Int) := by
      rw [← hx, pickN, if_neg hneg]
      rw [Int.tmod_eq_emod_of_nonneg (by omega), Int.natCast_emod, Int.toNat_of_nonneg (by omega)]
    have X := Lib.hid hx
    clear hx hc
    go_enter Try.func14, Try.ntmps14
    go_wp2_with fail
    go_ret
    exact ⟨by first | rfl | simp_all, rfl⟩
theorem slice_shortK (A : Option Addr) (m c a : Nat) (h : a ≤ c) (w : World) : (Instr.sliceAt 35 (.slice A m c) none (some (.int .i64 a)) none).run Try.prog w = .ok (.slice A a c) w := by
  have h1 : (0 : Int) ≤ (a : Int) := by omega
  have h2 : (a : Int) ≤ (c : Int) := by omega
  go_simp
set_option maxHeartbeats 400000 in
theorem keep_short (A : Option Addr) (n c : Nat) (hc : n ≤ c) (w : World) : Calls Try.prog 15 #[.slice A n c] w fun e w' => e = .returned (.slice A (min n 250) c) ∧ w = w' := by
  by_cases h : n ≤ 250
  · have E := Lib.hid (show min n 250 = n by omega)
    rw [E.out]
    have hm : min (n : Int) 250 = (n : Int) := by omega
    have hs := fun w => slice_shortK A n c n hc w
    go_enter Try.func15, Try.ntmps15
    go_wp2_with fail
    go_ret
    exact ⟨rfl, rfl⟩
  · have E := Lib.hid (show min n 250 = 250 by omega)
    rw [E.out]
    have hm : min (n : Int) 250 = 250 := by omega
    have hs := fun w => slice_shortK A n c 250 (by omega) w
    go_enter Try.func15, Try.ntmps15
    go_wp2_with fail
    go_ret
    exact ⟨rfl, rfl⟩
set_option maxRecDepth 100000 in
set_option maxHeartbeats 3200000 in
theorem keep_sheet (n : Int) (w : World) : Calls Try.prog 16 #[.int .i64 n] w fun e w' => e = .returned (.string (sheetB n)) ∧ Below w.heap.size w w' := by
  have hmk := make_bytesN 1024 (by omega) w
  rw [madeZeros, ← sheetL_zero n, show ((1024 : Nat) : Int) = 1024 from rfl] at hmk
  have H0 := Lib.hid (Has.new w 5 (u8s (sheetL n 0)).toArray)
  have HB := Lib.hid ((Below.refl w.heap.size w).alloc (Nat.le_refl _) (.cells (u8s (sheetL n 0)).toArray 5))
  go_enter Try.func16, Try.ntmps16
  go_wp2_with fail
  go_loopw [8] (fun v8 wr => ∃ k : Nat, k ≤ 1024 ∧ v8 = .int .i64 k ∧ Has wr w.heap.size 5 (u8s (sheetL n k)).toArray ∧ Below w.heap.size w wr) (fun v8 _ => 1024 - (intOf v8).toNat)
  case atStart => exact ⟨0, by omega, rfl, H0.out, HB.out⟩
  case round =>
    obtain ⟨k, hk, rfl, hh, hb⟩ := hrel
    have HH := Lib.hid hh
    have HBB := Lib.hid hb
    clear hh hb H0 HB hmk
    have gz := HH.out.lt
    by_cases hk2 : k < 1024
    · have c0 : wr.cell? ⟨w.heap.size, k, none⟩ = some (.int .u8 (((sheetL n k)[k]?.getD 0).toNat : Nat)) := by
        have := HH.out.cell k
        rw [this, sheetL_get n k k hk2]
        simp [u8s, u8v, sheetL_get n k k hk2]
      have cf := HH.out.frozen
      have HS := Lib.hid (HH.out.set k (.int .u8 (sheetAt n k).toNat))
      rw [u8s_set, ← sheetL_succ n k hk2] at HS
      have SV := Lib.hid (sheet_val n k)
      go_wp2_with fail
      rw [SV.out]
      go_roundw
      case rel => exact ⟨k + 1, by omega, by simp, HS.out, HBB.out.setCell (Nat.le_refl _) _⟩
      case measure => simp [intOf]; omega
    · have hk3 : k = 1024 := by omega
      subst hk3
      have hcv := conv_BS (c := 1024) (BS.of_has HH.out)
      rw [sheetL_len] at hcv
      have SB := Lib.hid (show bsOf (sheetL n 1024) = sheetB n from rfl)
      rw [SB.out] at hcv
      rw [show ((1024 : Nat) : Int) = 1024 from rfl]
      go_wp2_with fail
      go_ret
      exact ⟨rfl, HBB.out⟩

end Go.Proofs.Ytjihboddejaelaa
