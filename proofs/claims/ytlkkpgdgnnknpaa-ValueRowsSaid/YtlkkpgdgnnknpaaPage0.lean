/-
  Sums and sizes of pages: page.Sum, page.Used, two, four; the reference's Sum.
-/
import Derived.Test.YtlkkpgdgnnknpaaCrc
import Derived.Test.YtlkkpgdgnnknpaaAppend
import Derived.Test.YtlkkpgdgnnknpaaRows
import Derived.WalkSpells
import Derived.WalkLawsBesides
import Derived.BigQuiet
import Derived.Outline
import Derived.LoopTactic
import Derived.Deep.DeepCutAuto
import Derived.Deep.AppendLies
import Derived.Laws.BitsAllLaws
namespace Go.Proofs.Ytlkkpgdgnnknpaa
open Go.RowKit
open Go.BigFrame
set_option linter.unusedVariables false

theorem and_one {c : Nat} (h : c < 4294967296) : bits .and .u32 (c : Int) 1 = ((c % 2 : Nat) : Int) := by
  have := u32_and_nat c 1 h (by omega)
  rw [nat_mask1] at this
  exact this
theorem xor_poly {c : Nat} (h : c < 4294967296) : bits .xor .u32 (c : Int) 3988292384 = ((c ^^^ 3988292384 : Nat) : Int) := u32_xor_nat c 3988292384 h (by omega)
theorem xor_byte {c b : Nat} (h : c < 4294967296) (hb : b < 256) : bits .xor .u32 (c : Int) ((b : Int) % 4294967296) = ((c ^^^ b : Nat) : Int) := by
  rw [show (b : Int) % 4294967296 = (b : Int) by omega]; exact u32_xor_nat c b h (by omega)
theorem byte_lt (b : UInt8) : b.toNat < 256 := by have := b.toNat_lt; omega

theorem crc_odd {e : Nat} (he : e < 4294967296) (ho : e % 2 = 1) : bits .xor .u32 ((e : Int) / 2) 3988292384 = ((crcBit e : Nat) : Int) := by
  rw [show ((e : Int) / 2) = ((e / 2 : Nat) : Int) by omega, xor_poly (by omega), crcBit, if_pos ho]
theorem crc_even {e : Nat} (ho : ¬ e % 2 = 1) : ((e : Int) / 2) = ((crcBit e : Nat) : Int) := by
  rw [crcBit, if_neg ho]; omega
theorem crc_step {s : ByteArray} {i c d k e : Nat} (h1 : i < s.size) (hx : c = crcGo 4294967295 (s.data.toList.take i)) (hd : c ^^^ s[i].toNat = d) (he : e = crcBits k d) (hk : k = 8) : e = crcGo 4294967295 (s.data.toList.take (i + 1)) := by
  subst hk
  rw [List.take_succ_eq_append_getElem (by simpa using h1), crcGo_snoc, ← hx, he, ← hd]; rfl
theorem xor_ones {c : Nat} (h : c < 4294967296) : 4294967295 ^^^ c = 4294967295 - c := by
  have h1 : (BitVec.ofNat 32 c ^^^ BitVec.allOnes 32).toNat = (~~~ BitVec.ofNat 32 c).toNat := by rw [BitVec.xor_allOnes]
  rw [BitVec.toNat_xor, BitVec.toNat_not, BitVec.toNat_allOnes, BitVec.toNat_ofNat, Nat.mod_eq_of_lt (show c < 2 ^ 32 by omega), Nat.xor_comm] at h1
  exact h1
theorem u32_not {c : Nat} (h : c < 4294967296) : bits .xor .u32 IntKind.u32.max (c : Int) = ((4294967295 - c : Nat) : Int) := by
  have := u32_xor_nat 4294967295 c (by omega) h
  rw [xor_ones h] at this
  exact this

set_option maxHeartbeats 1600000 in
theorem page_Sum (s : ByteArray) (w : World) (hs : s.size ≤ 9223372036854775807) :
    Calls Try.prog 34 #[.string s] w fun e w' => e = .returned (.int .u32 (crcN s.data.toList : Nat)) ∧ w = w' := by
  go_enter Try.func34, Try.ntmps34
  go_wp2_with fail
  go_loop [3, 4] (fun v3 v4 => ∃ i c : Nat, i ≤ s.size ∧ c < 4294967296 ∧ v3 = .int .u32 c ∧ v4 = .int .i64 i ∧ c = crcGo 4294967295 (s.data.toList.take i)) (fun _ v4 => s.size - (intOf v4).toNat)
  case atStart => exact ⟨0, 4294967295, Nat.zero_le _, by omega, rfl, rfl, rfl⟩
  case round =>
    obtain ⟨i, c, hi, hc, rfl, rfl, hx⟩ := hrel
    have HX := Lib.hid hx; clear hx
    by_cases h1 : i < s.size
    · have x1 := xor_byte hc (byte_lt s[i])
      have hx2 : c ^^^ s[i].toNat < 4294967296 := xor_lt32 hc (byte_lt s[i])
      obtain ⟨d, hd⟩ : ∃ d, c ^^^ s[i].toNat = d := ⟨_, rfl⟩
      rw [hd] at x1 hx2
      have HD := Lib.hid hd; clear hd
      obtain ⟨wo, rfl⟩ : ∃ wo : World, wo = w := ⟨_, rfl⟩
      go_wp2_with fail
      go_loop [3, 17] (fun v3 v17 => ∃ k e : Nat, k ≤ 8 ∧ e < 4294967296 ∧ v3 = .int .u32 e ∧ v17 = .int .i64 k ∧ e = crcBits k d) (fun _ v17 => 8 - (intOf v17).toNat)
      case atStart => exact ⟨0, d, by omega, hx2, rfl, rfl, rfl⟩
      case round =>
        obtain ⟨k, e, hk, he, rfl, rfl, hy⟩ := hrel
        have HY := Lib.hid hy; clear hy
        by_cases hk8 : k < 8
        · by_cases ho : e % 2 = 1
          · have a1 : bits .and .u32 (e : Int) 1 = 1 := by rw [and_one he, ho]; rfl
            have HO := Lib.hid ho; clear ho
            have a2 := crc_odd he HO.out
            go_wp2_with fail
            go_round
            case rel => exact ⟨k + 1, _, by omega, crcBit_lt he, rfl, by simp, by rw [HY.out, crcBits_succ]⟩
            case measure => simp [intOf]; omega
          · have a1 : bits .and .u32 (e : Int) 1 = 0 := by rw [and_one he, show e % 2 = 0 by omega]; rfl
            have HO := Lib.hid ho; clear ho
            go_wp2_with fail
            go_round
            case rel => exact ⟨k + 1, _, by omega, crcBit_lt he, by rw [crc_even HO.out], by simp, by rw [HY.out, crcBits_succ]⟩
            case measure => simp [intOf]; omega
        · have ST := Lib.hid (crc_step h1 HX.out HD.out HY.out (by omega))
          go_wp2_with fail
          go_round
          case rel => exact ⟨i + 1, e, by omega, he, rfl, by simp, ST.out⟩
          case measure => simp [intOf]; omega
    · obtain rfl : i = s.size := by omega
      have T : crcGo 4294967295 (s.data.toList.take s.size) = crcGo 4294967295 s.data.toList := by rw [List.take_of_length_le (by simp)]
      have E := Lib.hid (show bits .xor .u32 IntKind.u32.max (c : Int) = ((crcN s.data.toList : Nat) : Int) by rw [u32_not hc, HX.out, T]; rfl)
      clear T
      go_wp2_with fail
      go_ret
      exact ⟨ret_int E.out, rfl⟩

set_option maxHeartbeats 1600000 in
theorem ref_Sum (s : ByteArray) (w : World) (hs : s.size ≤ 9223372036854775807) :
    Calls Try.prog 35 #[.string s] w fun e w' => e = .returned (.int .u32 (crcN s.data.toList : Nat)) ∧ w = w' := by
  go_enter Try.func35, Try.ntmps35
  go_wp2_with fail
  go_loop [3, 4] (fun v3 v4 => ∃ i c : Nat, i ≤ s.size ∧ c < 4294967296 ∧ v3 = .int .u32 c ∧ v4 = .int .i64 i ∧ c = crcGo 4294967295 (s.data.toList.take i)) (fun _ v4 => s.size - (intOf v4).toNat)
  case atStart => exact ⟨0, 4294967295, Nat.zero_le _, by omega, rfl, rfl, rfl⟩
  case round =>
    obtain ⟨i, c, hi, hc, rfl, rfl, hx⟩ := hrel
    have HX := Lib.hid hx; clear hx
    by_cases h1 : i < s.size
    · have x1 := xor_byte hc (byte_lt s[i])
      have hx2 : c ^^^ s[i].toNat < 4294967296 := xor_lt32 hc (byte_lt s[i])
      obtain ⟨d, hd⟩ : ∃ d, c ^^^ s[i].toNat = d := ⟨_, rfl⟩
      rw [hd] at x1 hx2
      have HD := Lib.hid hd; clear hd
      obtain ⟨wo, rfl⟩ : ∃ wo : World, wo = w := ⟨_, rfl⟩
      go_wp2_with fail
      go_loop [3, 5] (fun v3 v17 => ∃ k e : Nat, k ≤ 8 ∧ e < 4294967296 ∧ v3 = .int .u32 e ∧ v17 = .int .i64 k ∧ e = crcBits k d) (fun _ v17 => 8 - (intOf v17).toNat)
      case atStart => exact ⟨0, d, by omega, hx2, rfl, rfl, rfl⟩
      case round =>
        obtain ⟨k, e, hk, he, rfl, rfl, hy⟩ := hrel
        have HY := Lib.hid hy; clear hy
        by_cases hk8 : k < 8
        · by_cases ho : e % 2 = 1
          · have a1 : ((e : Int) % 2 == 1) = true := by rw [beq_iff_eq]; omega
            have a2 := crc_odd he ho
            clear ho
            go_wp2_with fail
            go_round
            case rel => exact ⟨k + 1, _, by omega, crcBit_lt he, rfl, by simp, by rw [HY.out, crcBits_succ]⟩
            case measure => simp [intOf]; omega
          · have a1 : ((e : Int) % 2 == 1) = false := by rw [beq_eq_false_iff_ne]; omega
            have HO := Lib.hid ho; clear ho
            go_wp2_with fail
            go_round
            case rel => exact ⟨k + 1, _, by omega, crcBit_lt he, by rw [crc_even HO.out], by simp, by rw [HY.out, crcBits_succ]⟩
            case measure => simp [intOf]; omega
        · have ST := Lib.hid (crc_step h1 HX.out HD.out HY.out (by omega))
          go_wp2_with fail
          go_round
          case rel => exact ⟨i + 1, e, by omega, he, rfl, by simp, ST.out⟩
          case measure => simp [intOf]; omega
    · obtain rfl : i = s.size := by omega
      have T : crcGo 4294967295 (s.data.toList.take s.size) = crcGo 4294967295 s.data.toList := by rw [List.take_of_length_le (by simp)]
      have E := Lib.hid (show 4294967295 - (c : Int) = ((crcN s.data.toList : Nat) : Int) by rw [HX.out, T]; unfold crcN; have := crcGo_lt s.data.toList (c := 4294967295) (by omega); omega)
      clear T
      go_wp2_with fail
      go_ret
      exact ⟨ret_int (by first | exact E.out | (rw [← E.out]; have := hc; rw [IntKind.wrap_u32']; omega)), rfl⟩

end Go.Proofs.Ytlkkpgdgnnknpaa
