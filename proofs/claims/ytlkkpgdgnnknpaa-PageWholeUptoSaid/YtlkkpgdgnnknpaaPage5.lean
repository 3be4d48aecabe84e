/-
  at16, at32 of page; what is read out of a page's bytes.
-/
import Derived.Test.YtlkkpgdgnnknpaaPage4
namespace Go.Proofs.Ytlkkpgdgnnknpaa
open Go.RowKit
open Go.BigFrame
set_option linter.unusedVariables false
attribute [local go_sem] OpGood goodUpon fillA Act.put

def at16N (l : List UInt8) (o : Nat) : Nat := 256 * (l.getD o 0).toNat + (l.getD (o + 1) 0).toNat
def at32N (l : List UInt8) (o : Nat) : Nat := 65536 * at16N l o + at16N l (o + 2)
theorem at16N_lt (l : List UInt8) (o : Nat) : at16N l o < 65536 := by
  have h1 := byte_lt (l.getD o 0)
  have h2 := byte_lt (l.getD (o + 1) 0)
  unfold at16N; omega
theorem at32N_lt (l : List UInt8) (o : Nat) : at32N l o < 4294967296 := by
  have h1 := at16N_lt l o
  have h2 := at16N_lt l (o + 2)
  unfold at32N; omega
theorem getD_byte (s : ByteArray) (i : Nat) (h : i < s.size) : (s.data.toList.getD i 0) = s[i] := by
  rw [List.getD_eq_getElem?_getD, byte_at s i h]; rfl

theorem i64_or_nat (a b : Nat) (ha : a < 4611686018427387904) (hb : b < 4611686018427387904) : bits .or .i64 (a : Int) (b : Int) = ((a ||| b : Nat) : Int) := by
  have hx : a ||| b < 2 ^ 62 := Nat.or_lt_two_pow (by omega) (by omega)
  have h1 : (BitVec.ofInt 64 (a : Int)).toNat = a := by
    rw [BitVec.ofInt_natCast, BitVec.toNat_ofNat]; exact Nat.mod_eq_of_lt (by omega)
  have h2 : (BitVec.ofInt 64 (b : Int)).toNat = b := by
    rw [BitVec.ofInt_natCast, BitVec.toNat_ofNat]; exact Nat.mod_eq_of_lt (by omega)
  show IntKind.i64.wrap ((BitVec.ofInt 64 (a : Int) ||| BitVec.ofInt 64 (b : Int)).toNat : Int) = _
  rw [BitVec.toNat_or, h1, h2]
  exact IntWalk.i64_in _ ⟨by omega, by omega⟩
theorem or_256 (a b : Nat) (ha : a < 256) (hb : b < 256) : bits .or .i64 ((a : Int) * 256) (b : Int) = ((256 * a + b : Nat) : Int) := by
  rw [show ((a : Int) * 256) = ((256 * a : Nat) : Int) by omega, i64_or_nat _ _ (by omega) (by omega), nat_join 8 (256 * a) b (by omega) (by omega)]
theorem or_65536 (a b : Nat) (ha : a < 65536) (hb : b < 65536) : bits .or .i64 ((a : Int) * 65536) (b : Int) = ((65536 * a + b : Nat) : Int) := by
  rw [show ((a : Int) * 65536) = ((65536 * a : Nat) : Int) by omega, i64_or_nat _ _ (by omega) (by omega), nat_join 16 (65536 * a) b (by omega) (by omega)]
set_option maxHeartbeats 1600000 in
theorem page_at16 (s : ByteArray) (o : Nat) (ho : o + 2 ≤ s.size) (hs : s.size ≤ 1048576) (w : World) :
    Calls Try.prog 74 #[.string s, .int .i64 o] w fun e w' => e = .returned (.int .i64 (at16N s.data.toList o : Nat)) ∧ Below w.heap.size w w' := by
  have h1 : o < s.size := by omega
  have h2 : o + 1 < s.size := by omega
  have i1 : (o : Int) < (s.size : Int) := by omega
  have i2 : (o : Int) + 1 < (s.size : Int) := by omega
  have w1 : IntKind.i64.wrap ((o : Int) + 1) = (o : Int) + 1 := IntWalk.i64_in _ ⟨by omega, by omega⟩
  have w2 : ((o : Int) + 1).toNat = o + 1 := by omega
  have w3 : (0 : Int) ≤ (o : Int) + 1 := by omega
  have b1 := byte_lt s[o]
  have b2 := byte_lt s[o + 1]
  have E : bits .or .i64 (wrap64 (wrap64 (s[o].toNat : Int) * 256)) (wrap64 (s[o + 1].toNat : Int)) = ((at16N s.data.toList o : Nat) : Int) := by
    have e1 : wrap64 (s[o].toNat : Int) = (s[o].toNat : Int) := by unfold wrap64; omega
    have e2 : wrap64 (s[o + 1].toNat : Int) = (s[o + 1].toNat : Int) := by unfold wrap64; omega
    have e3 : wrap64 ((s[o].toNat : Int) * 256) = (s[o].toNat : Int) * 256 := by unfold wrap64; omega
    rw [e1, e2, e3, or_256 _ _ b1 b2, at16N, getD_byte s o h1, getD_byte s (o + 1) h2]
  have HE := Lib.hid E
  clear E b1 b2
  go_enter Try.func74, Try.ntmps74
  go_wp2_with fail
  refine wp_region_cls (w) (by kernel_rfl) (by kernel_rfl) (Cls.start _) ?_
  repeat
    first
      | go_big_quiet_skip
      | (go_big_quiet_want; (first | go_big_quiet_op | go_simp); first | go_big_quiet_on | (apply Exists.intro; refine ⟨fun w' hw' => ?_, ?_⟩; (· (first | (with_reducible exact rfl) | (fail) | (obtain ⟨hc, hf⟩ := hw'.facts; go_simp; first | done | (with_reducible exact rfl) | (with_reducible exact ⟨rfl, rfl⟩)))); go_big_quiet_on))
  refine wpQuiet_nil ?_
  intro wq hq
  go_wp2_with fail
  go_ret
  exact ⟨ret_int HE.out, hq.bel⟩

set_option maxHeartbeats 1600000 in
theorem page_at32 (s : ByteArray) (o : Nat) (ho : o + 4 ≤ s.size) (hs : s.size ≤ 1048576) (w : World) :
    Calls Try.prog 73 #[.string s, .int .i64 o] w fun e w' => e = .returned (.int .i64 (at32N s.data.toList o : Nat)) ∧ Below w.heap.size w w' := by
  have T1 := Lib.hid (fun w1 => page_at16 s o (by omega) hs w1)
  have t2 := (fun w1 => page_at16 s (o + 2) (by omega) hs w1)
  rw [show ((o + 2 : Nat) : Int) = (o : Int) + 2 by omega] at t2
  have T2 := Lib.hid t2
  clear t2
  have l1 := at16N_lt s.data.toList o
  have l2 := at16N_lt s.data.toList (o + 2)
  have E : bits .or .i64 ((at16N s.data.toList o : Int) * 65536) (at16N s.data.toList (o + 2) : Int) = ((at32N s.data.toList o : Nat) : Int) := by
    rw [or_65536 _ _ l1 l2, at32N]
  obtain ⟨x, hx⟩ : ∃ x, at16N s.data.toList o = x := ⟨_, rfl⟩
  obtain ⟨y, hy⟩ : ∃ y, at16N s.data.toList (o + 2) = y := ⟨_, rfl⟩
  rw [hx] at E T1 l1
  rw [hy] at E T2 l2
  have HE := Lib.hid E
  clear E hx hy
  go_enter Try.func73, Try.ntmps73
  go_wp2_with (first | (go_at_call 74; (with_reducible refine (T1.out _).mono ?_); rintro e w1 ⟨rfl, hb1⟩) | (go_at_call 74; (with_reducible refine (T2.out _).mono ?_); rintro e w2 ⟨rfl, hb2⟩))
  go_ret
  exact ⟨ret_int HE.out, bel_step hb1 hb2 hb1.size⟩

end Go.Proofs.Ytlkkpgdgnnknpaa
