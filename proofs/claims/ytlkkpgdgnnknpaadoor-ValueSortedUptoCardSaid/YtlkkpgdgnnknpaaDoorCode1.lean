/-
  value.long: a number's eight bytes behind a row of bytes.
-/
import Derived.Test.YtlkkpgdgnnknpaaDoorCode0
import Derived.Laws.BitsAllLaws
import Derived.IntWalk
namespace Go.Proofs.YtlkkpgdgnnknpaaDoor
open Go.RowKit
open Go.BigFrame
set_option linter.unusedVariables false
set_option linter.unusedSimpArgs false

/-- what value.long hands back: the row with eight bytes more -/
def LongPost (B : Nat) (w : World) (m : Nat) (l : List UInt8) (e : Ending) (w' : World) : Prop :=
  ∃ v', e = .returned v' ∧ w'.ownsRow B 5 1 v' m (u8s l) ∧ Below B w w'
theorem beK8 (x : Nat) : beK x 8 = [UInt8.ofNat (x / 72057594037927936), UInt8.ofNat (x / 281474976710656), UInt8.ofNat (x / 1099511627776), UInt8.ofNat (x / 4294967296), UInt8.ofNat (x / 16777216), UInt8.ofNat (x / 65536), UInt8.ofNat (x / 256), UInt8.ofNat x] := by
  simp only [beK, List.nil_append, List.cons_append, Nat.div_div_eq_div_mul]
theorem u8s_one_val (x : Int) (n : Nat) (h : x = (n : Int) % 256) : [Value.int .u8 x] = u8s [UInt8.ofNat n] := by
  simp only [u8s, u8v, List.map_cons, List.map_nil, toNat_ofNat8, h]

set_option maxRecDepth 100000 in
set_option maxHeartbeats 3200000 in
theorem value_long (B : Nat) (v : Value) (m : Nat) (l : List UInt8) (x : Nat) (w : World) (hown : w.ownsRow B 5 1 v m (u8s l)) (hB : B ≤ w.heap.size) (hm : m ≤ 100000000) (hx : x < 18446744073709551616) :
    Calls Tryd.prog 38 #[v, .int .u64 x] w (LongPost B w (m + 8) (l ++ beK x 8)) := by
  obtain ⟨i0, hi, hz0, hz1, hz2⟩ := info_parts infoByte
  have HO := Lib.hid hown
  clear hown
  go_enter Tryd.func38, Tryd.ntmps38
  go_wp2_with fail
  go_loopw [0, 5] (fun v0 v5 wr => ∃ j : Nat, j ≤ 8 ∧ v5 = .int .i64 (56 - 8 * j) ∧ wr.ownsRow B 5 1 v0 (m + j) (u8s (l ++ (beK x 8).take j)) ∧ Below B w wr) (fun _ v5 _ => (intOf v5 + 8).toNat)
  case atStart => exact ⟨0, by omega, by simp, by simpa using HO.out, Below.refl _ _⟩
  case round =>
    obtain ⟨j, hj, rfl, hO, hb⟩ := hrel
    have HO := Lib.hid hO; have HB := Lib.hid hb
    clear hO hb
    obtain rfl | rfl | rfl | rfl | rfl | rfl | rfl | rfl | rfl : j = 0 ∨ j = 1 ∨ j = 2 ∨ j = 3 ∨ j = 4 ∨ j = 5 ∨ j = 6 ∨ j = 7 ∨ j = 8 := by omega
    · have HE := Lib.hid (show u8s (l ++ (beK x 8).take 0) ++ [Value.int .u8 ((x : Int) / 72057594037927936)] = u8s (l ++ (beK x 8).take (0 + 1)) by
        rw [u8s_one_val ((x : Int) / 72057594037927936) (x / 72057594037927936) (by omega), ← u8s_append, beK8, List.append_assoc]; rfl)
      have G1 := Lib.hid (show m + 0 + 1 ≤ maxLen by unfold maxLen; omega)
      have G2 := Lib.hid (show (m + 0 + 1) * 1 ≤ 140737488355328 by omega)
      have G3 := Lib.hid (Nat.le_trans hB HB.out.size)
      go_wp2_with (at_builtin; refine wpList_append_src _ rfl (.tmp 10) (.tmp 15) 55 55 rfl (B) 5 i0 _ 1 1 Tryd.underlying55 hi hz0 hz1 hz2 zeroByte1 (by decide) (_) (m + 0) (_) rfl (HO.out.alloc _) (.slice (some ⟨wr.heap.size, 0, none⟩) 1 1) (1) ([Value.int .u8 ((x : Int) / 72057594037927936)]) rfl (Src.ofSlice _ Tryd.underlying55 ⟨wr.heap.size, 0, none⟩ 1 1 ([Value.int .u8 ((x : Int) / 72057594037927936)]) rfl (World.news_of_block (heap_alloc_new _ _)) (by simp [Value.oneCell'])) (G1.out) (G2.out) (Nat.le_trans G3.out (by simp)) ?_; intro v1 w1 hown1 hg1 _ hat1)
      have HO1 := Lib.hid hown1
      rw [HE.out] at HO1
      have HB1 := Lib.hid ((HB.out.alloc G3.out (.cells #[Value.int .u8 ((x : Int) / 72057594037927936)] 5)).grown hg1 (Nat.le_trans G3.out (by simp)) (fun k hk => (HO.out.lt k hk).1))
      clear hown1 hg1 hat1
      go_roundw
      case rel => exact ⟨0 + 1, by omega, by simp, HO1.out, HB1.out⟩
      case measure => simp [intOf]
    · have HE := Lib.hid (show u8s (l ++ (beK x 8).take 1) ++ [Value.int .u8 ((x : Int) / 281474976710656 % 256)] = u8s (l ++ (beK x 8).take (1 + 1)) by
        rw [u8s_one_val ((x : Int) / 281474976710656 % 256) (x / 281474976710656) (by omega), ← u8s_append, beK8, List.append_assoc]; rfl)
      have G1 := Lib.hid (show m + 1 + 1 ≤ maxLen by unfold maxLen; omega)
      have G2 := Lib.hid (show (m + 1 + 1) * 1 ≤ 140737488355328 by omega)
      have G3 := Lib.hid (Nat.le_trans hB HB.out.size)
      go_wp2_with (at_builtin; refine wpList_append_src _ rfl (.tmp 10) (.tmp 15) 55 55 rfl (B) 5 i0 _ 1 1 Tryd.underlying55 hi hz0 hz1 hz2 zeroByte1 (by decide) (_) (m + 1) (_) rfl (HO.out.alloc _) (.slice (some ⟨wr.heap.size, 0, none⟩) 1 1) (1) ([Value.int .u8 ((x : Int) / 281474976710656 % 256)]) rfl (Src.ofSlice _ Tryd.underlying55 ⟨wr.heap.size, 0, none⟩ 1 1 ([Value.int .u8 ((x : Int) / 281474976710656 % 256)]) rfl (World.news_of_block (heap_alloc_new _ _)) (by simp [Value.oneCell'])) (G1.out) (G2.out) (Nat.le_trans G3.out (by simp)) ?_; intro v1 w1 hown1 hg1 _ hat1)
      have HO1 := Lib.hid hown1
      rw [HE.out] at HO1
      have HB1 := Lib.hid ((HB.out.alloc G3.out (.cells #[Value.int .u8 ((x : Int) / 281474976710656 % 256)] 5)).grown hg1 (Nat.le_trans G3.out (by simp)) (fun k hk => (HO.out.lt k hk).1))
      clear hown1 hg1 hat1
      go_roundw
      case rel => exact ⟨1 + 1, by omega, by simp, HO1.out, HB1.out⟩
      case measure => simp [intOf]
    · have HE := Lib.hid (show u8s (l ++ (beK x 8).take 2) ++ [Value.int .u8 ((x : Int) / 1099511627776 % 256)] = u8s (l ++ (beK x 8).take (2 + 1)) by
        rw [u8s_one_val ((x : Int) / 1099511627776 % 256) (x / 1099511627776) (by omega), ← u8s_append, beK8, List.append_assoc]; rfl)
      have G1 := Lib.hid (show m + 2 + 1 ≤ maxLen by unfold maxLen; omega)
      have G2 := Lib.hid (show (m + 2 + 1) * 1 ≤ 140737488355328 by omega)
      have G3 := Lib.hid (Nat.le_trans hB HB.out.size)
      go_wp2_with (at_builtin; refine wpList_append_src _ rfl (.tmp 10) (.tmp 15) 55 55 rfl (B) 5 i0 _ 1 1 Tryd.underlying55 hi hz0 hz1 hz2 zeroByte1 (by decide) (_) (m + 2) (_) rfl (HO.out.alloc _) (.slice (some ⟨wr.heap.size, 0, none⟩) 1 1) (1) ([Value.int .u8 ((x : Int) / 1099511627776 % 256)]) rfl (Src.ofSlice _ Tryd.underlying55 ⟨wr.heap.size, 0, none⟩ 1 1 ([Value.int .u8 ((x : Int) / 1099511627776 % 256)]) rfl (World.news_of_block (heap_alloc_new _ _)) (by simp [Value.oneCell'])) (G1.out) (G2.out) (Nat.le_trans G3.out (by simp)) ?_; intro v1 w1 hown1 hg1 _ hat1)
      have HO1 := Lib.hid hown1
      rw [HE.out] at HO1
      have HB1 := Lib.hid ((HB.out.alloc G3.out (.cells #[Value.int .u8 ((x : Int) / 1099511627776 % 256)] 5)).grown hg1 (Nat.le_trans G3.out (by simp)) (fun k hk => (HO.out.lt k hk).1))
      clear hown1 hg1 hat1
      go_roundw
      case rel => exact ⟨2 + 1, by omega, by simp, HO1.out, HB1.out⟩
      case measure => simp [intOf]
    · have HE := Lib.hid (show u8s (l ++ (beK x 8).take 3) ++ [Value.int .u8 ((x : Int) / 4294967296 % 256)] = u8s (l ++ (beK x 8).take (3 + 1)) by
        rw [u8s_one_val ((x : Int) / 4294967296 % 256) (x / 4294967296) (by omega), ← u8s_append, beK8, List.append_assoc]; rfl)
      have G1 := Lib.hid (show m + 3 + 1 ≤ maxLen by unfold maxLen; omega)
      have G2 := Lib.hid (show (m + 3 + 1) * 1 ≤ 140737488355328 by omega)
      have G3 := Lib.hid (Nat.le_trans hB HB.out.size)
      go_wp2_with (at_builtin; refine wpList_append_src _ rfl (.tmp 10) (.tmp 15) 55 55 rfl (B) 5 i0 _ 1 1 Tryd.underlying55 hi hz0 hz1 hz2 zeroByte1 (by decide) (_) (m + 3) (_) rfl (HO.out.alloc _) (.slice (some ⟨wr.heap.size, 0, none⟩) 1 1) (1) ([Value.int .u8 ((x : Int) / 4294967296 % 256)]) rfl (Src.ofSlice _ Tryd.underlying55 ⟨wr.heap.size, 0, none⟩ 1 1 ([Value.int .u8 ((x : Int) / 4294967296 % 256)]) rfl (World.news_of_block (heap_alloc_new _ _)) (by simp [Value.oneCell'])) (G1.out) (G2.out) (Nat.le_trans G3.out (by simp)) ?_; intro v1 w1 hown1 hg1 _ hat1)
      have HO1 := Lib.hid hown1
      rw [HE.out] at HO1
      have HB1 := Lib.hid ((HB.out.alloc G3.out (.cells #[Value.int .u8 ((x : Int) / 4294967296 % 256)] 5)).grown hg1 (Nat.le_trans G3.out (by simp)) (fun k hk => (HO.out.lt k hk).1))
      clear hown1 hg1 hat1
      go_roundw
      case rel => exact ⟨3 + 1, by omega, by simp, HO1.out, HB1.out⟩
      case measure => simp [intOf]
    · have HE := Lib.hid (show u8s (l ++ (beK x 8).take 4) ++ [Value.int .u8 ((x : Int) / 16777216 % 256)] = u8s (l ++ (beK x 8).take (4 + 1)) by
        rw [u8s_one_val ((x : Int) / 16777216 % 256) (x / 16777216) (by omega), ← u8s_append, beK8, List.append_assoc]; rfl)
      have G1 := Lib.hid (show m + 4 + 1 ≤ maxLen by unfold maxLen; omega)
      have G2 := Lib.hid (show (m + 4 + 1) * 1 ≤ 140737488355328 by omega)
      have G3 := Lib.hid (Nat.le_trans hB HB.out.size)
      go_wp2_with (at_builtin; refine wpList_append_src _ rfl (.tmp 10) (.tmp 15) 55 55 rfl (B) 5 i0 _ 1 1 Tryd.underlying55 hi hz0 hz1 hz2 zeroByte1 (by decide) (_) (m + 4) (_) rfl (HO.out.alloc _) (.slice (some ⟨wr.heap.size, 0, none⟩) 1 1) (1) ([Value.int .u8 ((x : Int) / 16777216 % 256)]) rfl (Src.ofSlice _ Tryd.underlying55 ⟨wr.heap.size, 0, none⟩ 1 1 ([Value.int .u8 ((x : Int) / 16777216 % 256)]) rfl (World.news_of_block (heap_alloc_new _ _)) (by simp [Value.oneCell'])) (G1.out) (G2.out) (Nat.le_trans G3.out (by simp)) ?_; intro v1 w1 hown1 hg1 _ hat1)
      have HO1 := Lib.hid hown1
      rw [HE.out] at HO1
      have HB1 := Lib.hid ((HB.out.alloc G3.out (.cells #[Value.int .u8 ((x : Int) / 16777216 % 256)] 5)).grown hg1 (Nat.le_trans G3.out (by simp)) (fun k hk => (HO.out.lt k hk).1))
      clear hown1 hg1 hat1
      go_roundw
      case rel => exact ⟨4 + 1, by omega, by simp, HO1.out, HB1.out⟩
      case measure => simp [intOf]
    · have HE := Lib.hid (show u8s (l ++ (beK x 8).take 5) ++ [Value.int .u8 ((x : Int) / 65536 % 256)] = u8s (l ++ (beK x 8).take (5 + 1)) by
        rw [u8s_one_val ((x : Int) / 65536 % 256) (x / 65536) (by omega), ← u8s_append, beK8, List.append_assoc]; rfl)
      have G1 := Lib.hid (show m + 5 + 1 ≤ maxLen by unfold maxLen; omega)
      have G2 := Lib.hid (show (m + 5 + 1) * 1 ≤ 140737488355328 by omega)
      have G3 := Lib.hid (Nat.le_trans hB HB.out.size)
      go_wp2_with (at_builtin; refine wpList_append_src _ rfl (.tmp 10) (.tmp 15) 55 55 rfl (B) 5 i0 _ 1 1 Tryd.underlying55 hi hz0 hz1 hz2 zeroByte1 (by decide) (_) (m + 5) (_) rfl (HO.out.alloc _) (.slice (some ⟨wr.heap.size, 0, none⟩) 1 1) (1) ([Value.int .u8 ((x : Int) / 65536 % 256)]) rfl (Src.ofSlice _ Tryd.underlying55 ⟨wr.heap.size, 0, none⟩ 1 1 ([Value.int .u8 ((x : Int) / 65536 % 256)]) rfl (World.news_of_block (heap_alloc_new _ _)) (by simp [Value.oneCell'])) (G1.out) (G2.out) (Nat.le_trans G3.out (by simp)) ?_; intro v1 w1 hown1 hg1 _ hat1)
      have HO1 := Lib.hid hown1
      rw [HE.out] at HO1
      have HB1 := Lib.hid ((HB.out.alloc G3.out (.cells #[Value.int .u8 ((x : Int) / 65536 % 256)] 5)).grown hg1 (Nat.le_trans G3.out (by simp)) (fun k hk => (HO.out.lt k hk).1))
      clear hown1 hg1 hat1
      go_roundw
      case rel => exact ⟨5 + 1, by omega, by simp, HO1.out, HB1.out⟩
      case measure => simp [intOf]
    · have HE := Lib.hid (show u8s (l ++ (beK x 8).take 6) ++ [Value.int .u8 ((x : Int) / 256 % 256)] = u8s (l ++ (beK x 8).take (6 + 1)) by
        rw [u8s_one_val ((x : Int) / 256 % 256) (x / 256) (by omega), ← u8s_append, beK8, List.append_assoc]; rfl)
      have G1 := Lib.hid (show m + 6 + 1 ≤ maxLen by unfold maxLen; omega)
      have G2 := Lib.hid (show (m + 6 + 1) * 1 ≤ 140737488355328 by omega)
      have G3 := Lib.hid (Nat.le_trans hB HB.out.size)
      go_wp2_with (at_builtin; refine wpList_append_src _ rfl (.tmp 10) (.tmp 15) 55 55 rfl (B) 5 i0 _ 1 1 Tryd.underlying55 hi hz0 hz1 hz2 zeroByte1 (by decide) (_) (m + 6) (_) rfl (HO.out.alloc _) (.slice (some ⟨wr.heap.size, 0, none⟩) 1 1) (1) ([Value.int .u8 ((x : Int) / 256 % 256)]) rfl (Src.ofSlice _ Tryd.underlying55 ⟨wr.heap.size, 0, none⟩ 1 1 ([Value.int .u8 ((x : Int) / 256 % 256)]) rfl (World.news_of_block (heap_alloc_new _ _)) (by simp [Value.oneCell'])) (G1.out) (G2.out) (Nat.le_trans G3.out (by simp)) ?_; intro v1 w1 hown1 hg1 _ hat1)
      have HO1 := Lib.hid hown1
      rw [HE.out] at HO1
      have HB1 := Lib.hid ((HB.out.alloc G3.out (.cells #[Value.int .u8 ((x : Int) / 256 % 256)] 5)).grown hg1 (Nat.le_trans G3.out (by simp)) (fun k hk => (HO.out.lt k hk).1))
      clear hown1 hg1 hat1
      go_roundw
      case rel => exact ⟨6 + 1, by omega, by simp, HO1.out, HB1.out⟩
      case measure => simp [intOf]
    · have HE := Lib.hid (show u8s (l ++ (beK x 8).take 7) ++ [Value.int .u8 ((x : Int) % 256)] = u8s (l ++ (beK x 8).take (7 + 1)) by
        rw [u8s_one_val ((x : Int) % 256) (x) (by omega), ← u8s_append, beK8, List.append_assoc]; rfl)
      have G1 := Lib.hid (show m + 7 + 1 ≤ maxLen by unfold maxLen; omega)
      have G2 := Lib.hid (show (m + 7 + 1) * 1 ≤ 140737488355328 by omega)
      have G3 := Lib.hid (Nat.le_trans hB HB.out.size)
      go_wp2_with (at_builtin; refine wpList_append_src _ rfl (.tmp 10) (.tmp 15) 55 55 rfl (B) 5 i0 _ 1 1 Tryd.underlying55 hi hz0 hz1 hz2 zeroByte1 (by decide) (_) (m + 7) (_) rfl (HO.out.alloc _) (.slice (some ⟨wr.heap.size, 0, none⟩) 1 1) (1) ([Value.int .u8 ((x : Int) % 256)]) rfl (Src.ofSlice _ Tryd.underlying55 ⟨wr.heap.size, 0, none⟩ 1 1 ([Value.int .u8 ((x : Int) % 256)]) rfl (World.news_of_block (heap_alloc_new _ _)) (by simp [Value.oneCell'])) (G1.out) (G2.out) (Nat.le_trans G3.out (by simp)) ?_; intro v1 w1 hown1 hg1 _ hat1)
      have HO1 := Lib.hid hown1
      rw [HE.out] at HO1
      have HB1 := Lib.hid ((HB.out.alloc G3.out (.cells #[Value.int .u8 ((x : Int) % 256)] 5)).grown hg1 (Nat.le_trans G3.out (by simp)) (fun k hk => (HO.out.lt k hk).1))
      clear hown1 hg1 hat1
      go_roundw
      case rel => exact ⟨7 + 1, by omega, by simp, HO1.out, HB1.out⟩
      case measure => simp [intOf]
    · have HE := Lib.hid (show l ++ (beK x 8).take 8 = l ++ beK x 8 by rw [List.take_of_length_le (by rw [beK_len]; omega)])
      rw [HE.out] at HO
      go_wp2_with fail
      go_ret
      exact ⟨_, rfl, HO.out, HB.out⟩

end Go.Proofs.YtlkkpgdgnnknpaaDoor
