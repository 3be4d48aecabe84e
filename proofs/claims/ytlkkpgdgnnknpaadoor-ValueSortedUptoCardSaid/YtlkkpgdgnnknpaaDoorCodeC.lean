/-
  Single bytes as texts; texts that are joined.
-/
import Derived.Test.YtlkkpgdgnnknpaaDoorCode1
namespace Go.Proofs.YtlkkpgdgnnknpaaDoor
open Go.RowKit
open Go.BigFrame
set_option linter.unusedVariables false
set_option linter.unusedSimpArgs false

theorem conv_one (W : World) (x : Int) (n : Nat) (h : x = (n : Int) % 256) : (convert 55 9 (.slice (some ⟨W.heap.size, 0, none⟩) 1 1)).run Tryd.prog (W.alloc (.cells #[Value.int .u8 x] 5)) = .ok (.string (bsOf [UInt8.ofNat n])) (W.alloc (.cells #[Value.int .u8 x] 5)) := by
  have := conv_BS (c := 1) (BS.of_has (Has.new W 5 (u8s [UInt8.ofNat n]).toArray))
  rw [show (u8s [UInt8.ofNat n]).toArray = #[Value.int .u8 x] by rw [← u8s_one_val x n h]] at this
  exact this
theorem conv_next (W : World) (o : Obj) (x : Int) (n : Nat) (h : x = (n : Int) % 256) : (convert 55 9 (.slice (some ⟨W.heap.size + 1, 0, none⟩) 1 1)).run Tryd.prog ((W.alloc o).alloc (.cells #[Value.int .u8 x] 5)) = .ok (.string (bsOf [UInt8.ofNat n])) ((W.alloc o).alloc (.cells #[Value.int .u8 x] 5)) := by
  have := conv_one (W.alloc o) x n h
  simp only [World.size_alloc] at this
  exact this
theorem bs_add {S : ByteArray} {L : List UInt8} (h : bsOf L = S) (a : List UInt8) : S ++ bsOf a = bsOf (L ++ a) := by rw [← h, bsOf_append]
theorem bs_add_str {S : ByteArray} {L : List UInt8} (h : bsOf L = S) (s : ByteArray) : S ++ s = bsOf (L ++ s.data.toList) := by
  rw [← h, ← bsOf_append, bsOf_of]


end Go.Proofs.YtlkkpgdgnnknpaaDoor
