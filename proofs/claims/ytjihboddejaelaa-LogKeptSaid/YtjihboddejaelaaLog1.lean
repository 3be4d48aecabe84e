/-
  four, number, slotText, slotAt of package wal; slot, slotOf of the reference.
-/
import Derived.Test.YtjihboddejaelaaLog0
import Derived.IntWalk
namespace Go.Proofs.Ytjihboddejaelaa
open Go.RowKit
open Go.BigFrame
set_option linter.unusedVariables false
set_option linter.unusedSimpArgs false

theorem or_add (i x y : Nat) (hx : x % 2 ^ i = 0) (hy : y < 2 ^ i) (hs : x + y < 4611686018427387904) : bits .or .i64 (x : Int) (y : Int) = ((x + y : Nat) : Int) := by
  have h1 : (BitVec.ofInt 64 (x : Int)).toNat = x := by
    rw [BitVec.ofInt_natCast, BitVec.toNat_ofNat]; exact Nat.mod_eq_of_lt (by omega)
  have h2 : (BitVec.ofInt 64 (y : Int)).toNat = y := by
    rw [BitVec.ofInt_natCast, BitVec.toNat_ofNat]; exact Nat.mod_eq_of_lt (by omega)
  show IntKind.i64.wrap ((BitVec.ofInt 64 (x : Int) ||| BitVec.ofInt 64 (y : Int)).toNat : Int) = _
  rw [BitVec.toNat_or, h1, h2, nat_join i x y hx hy]
  exact IntWalk.i64_in _ ⟨by omega, by omega⟩
theorem beK4 (x : Nat) : beK x 4 = [UInt8.ofNat (x / 16777216), UInt8.ofNat (x / 65536), UInt8.ofNat (x / 256), UInt8.ofNat x] := by
  simp only [beK, List.nil_append, List.cons_append, Nat.div_div_eq_div_mul]
theorem u8s_beK4 (n : Nat) : u8s (beK n 4) = [.int .u8 ((n : Int) / 16777216 % 256), .int .u8 ((n : Int) / 65536 % 256), .int .u8 ((n : Int) / 256 % 256), .int .u8 ((n : Int) % 256)] := by
  rw [beK4]
  simp only [u8s, u8v, List.map_cons, List.map_nil, toNat_ofNat8]
  rw [show ((n / 16777216 : Nat) : Int) = (n : Int) / 16777216 by omega, show ((n / 65536 : Nat) : Int) = (n : Int) / 65536 by omega, show ((n / 256 : Nat) : Int) = (n : Int) / 256 by omega]
theorem conv_four (w : World) (n : Nat) : (convert 81 9 (.slice (some ⟨w.heap.size, 0, none⟩) 4 4)).run Try.prog (w.alloc (.cells #[.int .u8 ((n : Int) / 16777216 % 256), .int .u8 ((n : Int) / 65536 % 256), .int .u8 ((n : Int) / 256 % 256), .int .u8 ((n : Int) % 256)] 5)) = .ok (.string (bsOf (beK n 4))) (w.alloc (.cells #[.int .u8 ((n : Int) / 16777216 % 256), .int .u8 ((n : Int) / 65536 % 256), .int .u8 ((n : Int) / 256 % 256), .int .u8 ((n : Int) % 256)] 5)) := by
  have := conv_BS (c := 4) (BS.of_has (Has.new w 5 (u8s (beK n 4)).toArray))
  rw [beK_len, u8s_beK4] at this
  exact this

set_option maxHeartbeats 400000 in
theorem wal_four (n : Nat) (hn : n ≤ 4611686018427387904) (w : World) : Calls Try.prog 67 #[.int .i64 n] w fun e w' => e = .returned (.string (bsOf (beK n 4))) ∧ Below w.heap.size w w' := by
  have hcv := conv_four w n
  obtain ⟨S, hS⟩ : ∃ S, bsOf (beK n 4) = S := ⟨_, rfl⟩
  rw [hS] at hcv ⊢
  go_enter Try.func67, Try.ntmps67
  go_wp2
  go_ret
  exact ⟨rfl, (Below.refl _ _).alloc (Nat.le_refl _) _⟩

theorem unK4 (a b c d : UInt8) (r : List UInt8) : unK ((a :: b :: c :: d :: r).take 4) = a.toNat * 16777216 + b.toNat * 65536 + c.toNat * 256 + d.toNat := by
  show unK [a, b, c, d] = _
  simp only [unK, List.foldl_cons, List.foldl_nil]
  omega
set_option maxRecDepth 100000 in
set_option maxHeartbeats 1600000 in
theorem wal_number (s : ByteArray) (h4 : 4 ≤ s.size) (w : World) : Calls Try.prog 65 #[.string s] w fun e w' => e = .returned (.int .i64 (unK (s.data.toList.take 4) : Nat)) ∧ Below w.heap.size w w' := by
  have h0 : 0 < s.size := by omega
  have h1 : 1 < s.size := by omega
  have h2 : 2 < s.size := by omega
  have h3 : 3 < s.size := by omega
  have hl : s.data.toList = s[0] :: s[1] :: s[2] :: s[3] :: s.data.toList.drop 4 := by
    have e (i : Nat) (h : i < s.size) : s.data.toList[i]'(by simpa using h) = s[i] := by simp [ByteArray.getElem_eq_getElem_data]
    rw [← e 0 h0, ← e 1 h1, ← e 2 h2, ← e 3 h3]
    rw [← List.drop_eq_getElem_cons, ← List.drop_eq_getElem_cons, ← List.drop_eq_getElem_cons, ← List.drop_eq_getElem_cons]; rfl
  have E := Lib.hid (show unK (s.data.toList.take 4) = s[0].toNat * 16777216 + s[1].toNat * 65536 + s[2].toNat * 256 + s[3].toNat by rw [hl]; exact unK4 _ _ _ _ _)
  clear hl
  rw [E.out]
  have b0 := byte_lt s[0]
  have b1 := byte_lt s[1]
  have b2 := byte_lt s[2]
  have b3 := byte_lt s[3]
  have O := Lib.hid (show ∀ a b c d : Nat, a < 256 → b < 256 → c < 256 → d < 256 → bits .or .i64 (bits .or .i64 (bits .or .i64 ((a : Int) * 16777216) ((b : Int) * 65536)) ((c : Int) * 256)) (d : Int) = ((a * 16777216 + b * 65536 + c * 256 + d : Nat) : Int) from fun a b c d ha hb hc hd => by
    have e1 := or_add 24 (a * 16777216) (b * 65536) (by omega) (by omega) (by omega)
    have e2 := or_add 16 (a * 16777216 + b * 65536) (c * 256) (by omega) (by omega) (by omega)
    have e3 := or_add 8 (a * 16777216 + b * 65536 + c * 256) d (by omega) (by omega) (by omega)
    rw [← e3, ← e2, ← e1]
    simp only [Int.natCast_mul]; rfl)
  have i1 : (1 : Int) < (s.size : Int) := by omega
  have i2 : (2 : Int) < (s.size : Int) := by omega
  have i3 : (3 : Int) < (s.size : Int) := by omega
  go_enter Try.func65, Try.ntmps65
  go_wp2_with fail
  refine wp_region_cls (w) (by kernel_rfl) (by kernel_rfl) (Cls.start _) ?_
  repeat
    first
      | go_big_quiet_skip
      | (go_big_quiet_want; (first | go_big_quiet_op | go_simp); first | go_big_quiet_on | (apply Exists.intro; refine ⟨fun w' hw' => ?_, ?_⟩; (· (first | (with_reducible exact rfl) | (fail) | (obtain ⟨hc, hf⟩ := hw'.facts; go_simp; first | done | (with_reducible exact rfl) | (with_reducible exact ⟨rfl, rfl⟩)))); go_big_quiet_on))
  refine wpQuiet_nil ?_
  intro wq hq
  go_wp2_with fail
  go_ret
  exact ⟨ret_int (O.out _ _ _ _ b0 b1 b2 b3), hq.bel⟩

set_option maxRecDepth 100000 in
set_option maxHeartbeats 1600000 in
theorem wal_slotText (n f p : Nat) (hn : n ≤ 4611686018427387904) (hf : f ≤ 4611686018427387904) (hp : p ≤ 4611686018427387904) (w : World) : Calls Try.prog 106 #[.int .i64 n, .int .i64 f, .int .i64 p] w fun e w' => e = .returned (.string (bsOf (slotL n f p))) ∧ Below w.heap.size w w' := by
  have T1 := Lib.hid (wal_four n hn)
  have T2 := Lib.hid (wal_four f hf)
  have T3 := Lib.hid (wal_four p hp)
  have E := Lib.hid (show bsOf (slotL n f p) = bsOf (beK n 4) ++ bsOf (beK f 4) ++ bsOf (beK p 4) ++ (bsOf (beK n 4) ++ bsOf (beK f 4) ++ bsOf (beK p 4)) by simp only [bsOf_append, slotL])
  rw [E.out]
  obtain ⟨s1, hs1⟩ : ∃ s, bsOf (beK n 4) = s := ⟨_, rfl⟩
  obtain ⟨s2, hs2⟩ : ∃ s, bsOf (beK f 4) = s := ⟨_, rfl⟩
  obtain ⟨s3, hs3⟩ : ∃ s, bsOf (beK p 4) = s := ⟨_, rfl⟩
  have z1 : s1.size = 4 := by rw [← hs1, bsOf_size, beK_len]
  have z2 : s2.size = 4 := by rw [← hs2, bsOf_size, beK_len]
  have z3 : s3.size = 4 := by rw [← hs3, bsOf_size, beK_len]
  simp only [hs1, hs2, hs3] at T1 T2 T3 ⊢
  clear E hs1 hs2 hs3
  go_enter Try.func106, Try.ntmps106
  go_wp2_with (first | (go_at_call 67; (with_reducible refine (T1.out _).mono ?_); rintro e w1 ⟨rfl, hb⟩; obtain ⟨hc, hf⟩ := bcell hb; have hz := hb.size; (try simp at hz)) | (go_at_call 67; (with_reducible refine (T2.out _).mono ?_); rintro e w1 ⟨rfl, hb⟩; obtain ⟨hc, hf⟩ := bcell hb; have hz := hb.size; (try simp at hz)) | (go_at_call 67; (with_reducible refine (T3.out _).mono ?_); rintro e w1 ⟨rfl, hb⟩; obtain ⟨hc, hf⟩ := bcell hb; have hz := hb.size; (try simp at hz)))
  go_ret
  rename_i wa ha _ _ za wb hb2 _ _ zb
  exact ⟨rfl, bel_step (bel_step ha hb2 za) hb (Nat.le_trans za zb)⟩

end Go.Proofs.Ytjihboddejaelaa
