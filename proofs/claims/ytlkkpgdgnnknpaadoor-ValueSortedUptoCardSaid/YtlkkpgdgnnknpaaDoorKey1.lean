/-
  ReplaceAll and IndexByte at the byte 0; the row of bytes that Key makes.
-/
import Derived.Test.YtlkkpgdgnnknpaaDoorKey0
import Derived.Test.YtlkkpgdgnnknpaaDoorCodeC
import Derived.Test.YtlkkpgdgnnknpaaDoorShelf
import Derived.Lib.SplitLaws
import Derived.Lib.IndexLaws
import Derived.Lib.IndexBytes
import Derived.Lib.Replace
import Derived.Laws.BitsAllLaws
namespace Go.Proofs.YtlkkpgdgnnknpaaDoor
open Go.RowKit
open Go.BigFrame
set_option linter.unusedVariables false
set_option linter.unusedSimpArgs false

theorem esc_none : ∀ l : List UInt8, (∀ c ∈ l, c ≠ 0) → esc l = l
  | [], _ => rfl
  | c :: l, h => by
    rw [esc, if_neg (h c (List.mem_cons_self ..)), esc_none l fun d hd => h d (List.mem_cons_of_mem _ hd)]
theorem zero_none {s : List UInt8} (h : Lib.indexByte s 0 = -1) : ∀ c ∈ s, c ≠ 0 := fun c hc e => by
  obtain ⟨k, hk⟩ := List.getElem?_of_mem hc
  subst e
  exact Lib.indexByte_none h k hk
theorem zero_split {s : List UInt8} {i : Nat} (h : Lib.indexByte s 0 = i) : s = s.take i ++ 0 :: s.drop (i + 1) ∧ (∀ c ∈ s.take i, c ≠ 0) ∧ i < s.length := by
  obtain ⟨h1, h2⟩ := Lib.indexByte_some h
  obtain ⟨hl, h3⟩ := List.getElem?_eq_some_iff.1 h1
  refine ⟨?_, fun c hc e => ?_, hl⟩
  · have := (List.take_append_drop i s).symm
    rw [List.drop_eq_getElem_cons hl, h3] at this
    exact this
  · obtain ⟨k, hk⟩ := List.getElem?_of_mem hc
    rw [List.getElem?_take] at hk
    subst e
    split at hk
    · rename_i hki
      exact h2 k hki hk
    · cases hk
theorem replaceK_esc : ∀ (n : Nat) (s : List UInt8), s.length ≤ n → Lib.replaceK [0] [0, 255] (s.count 0) s = esc s
  | n, s, hn => by
    have hge := Lib.indexByte_ge s 0
    by_cases hm : Lib.indexByte s 0 = -1
    · have hz := zero_none hm
      have hc : s.count 0 = 0 := List.count_eq_zero.2 fun h => hz 0 h rfl
      rw [hc, Lib.replaceK, esc_none s hz]
    · obtain ⟨i, hi⟩ : ∃ i : Nat, Lib.indexByte s 0 = i := ⟨(Lib.indexByte s 0).toNat, by omega⟩
      obtain ⟨h1, h2, h3⟩ := zero_split hi
      have hc : s.count 0 = (s.drop (i + 1)).count 0 + 1 := by
        rw [h1, List.count_append, List.count_cons_self, List.count_eq_zero.2 fun h => h2 0 h rfl]
        have hl : (s.take i).length = i := by rw [List.length_take]; omega
        have e : (s.take i ++ 0 :: s.drop (i + 1)).drop (i + 1) = s.drop (i + 1) := by rw [← h1]
        rw [e]; omega
      rw [hc, Lib.replaceK_hit [0] [0, 255] _ s i (by rw [Lib.index_one]; exact hi)]
      cases n with
      | zero => omega
      | succ n =>
        have hd : (s.drop (i + 1)).length ≤ n := by rw [List.length_drop]; omega
        have ih := replaceK_esc n (s.drop (i + 1)) hd
        rw [show i + ([0] : List UInt8).length = i + 1 from rfl, ih]
        have e2 : esc s = esc (s.take i ++ 0 :: s.drop (i + 1)) := by rw [← h1]
        rw [e2, esc_append, esc_none _ h2, esc, if_pos rfl, List.append_assoc]; rfl
theorem replaceAll_esc (s : List UInt8) : Lib.replaceAll s [0] [0, 255] = esc s := by
  unfold Lib.replaceAll Lib.replace Lib.replaceNum
  rw [if_neg (by decide), if_pos (.inl (by decide)), Lib.count_one]
  exact replaceK_esc s.length s (Nat.le_refl _)
/-- the variable that strings.Index reads holds some number -/
def HasMax (w : World) : Prop := ∃ m : Int, w.cell? ⟨0, 0, none⟩ = some (.int .i64 m) ∧ 0 < w.heap.size
theorem HasMax.below {w w' : World} (h : HasMax w) (hb : Below w.heap.size w w') : HasMax w' := by
  obtain ⟨m, h1, h2⟩ := h
  exact ⟨m, (hb.cell (p := ⟨0, 0, none⟩) h2).trans h1, Nat.lt_of_lt_of_le h2 hb.size⟩
theorem text_esc (s : ByteArray) (w : World) (hm : HasMax w) (hs : s.size ≤ 50000000) : Calls Tryd.prog 39 #[.string s, .string ⟨#[0]⟩, .string ⟨#[0, 255]⟩] w fun e w' => e = .returned (.string (bsOf (esc s.data.toList))) ∧ Below w.heap.size w w' := by
  obtain ⟨m, h1, _⟩ := hm
  have hc := Lib.countB_le ⟨#[0]⟩ (by decide) s.size s (Nat.le_refl _)
  refine (Tryd.strings_ReplaceAll s ⟨#[0]⟩ ⟨#[0, 255]⟩ m w (by omega) h1 (by decide) (by rw [show (⟨#[0, 255]⟩ : ByteArray).size = 2 from rfl]; omega)).mono fun e w' ⟨he, hb⟩ => ⟨?_, hb⟩
  rw [he, show (⟨#[0]⟩ : ByteArray).data.toList = [0] from rfl, show (⟨#[0, 255]⟩ : ByteArray).data.toList = [0, 255] from rfl, replaceAll_esc]; rfl
theorem index_zero (l : List UInt8) (w : World) : Calls Tryd.prog 70 #[.string (bsOf l), .int .u8 0] w fun e w' => e = .returned (.int .i64 (Lib.indexByte l 0)) ∧ w = w' :=
  (Tryd.strings_IndexByte (bsOf l) 0 w).mono fun e w' ⟨he, hw⟩ => ⟨by rw [he, bsOf_data]; rfl, hw.symm⟩

theorem top_xor (X : Nat) (h : X < 2 ^ 64) : X ^^^ 2 ^ 63 = (X + 2 ^ 63) % 2 ^ 64 := by
  refine Nat.eq_of_testBit_eq fun j => ?_
  rw [Nat.testBit_xor, Nat.testBit_mod_two_pow, Nat.add_comm, Nat.testBit_two_pow]
  by_cases h1 : j < 63
  · rw [Nat.testBit_two_pow_add_gt h1, decide_eq_true (show j < 64 by omega), decide_eq_false (show ¬ 63 = j by omega)]
    simp
  · by_cases h2 : j = 63
    · subst h2
      rw [Nat.testBit_two_pow_add_eq]
      simp
    · have h3 : X.testBit j = false := Nat.testBit_lt_two_pow (Nat.lt_of_lt_of_le h (Nat.pow_le_pow_right (by decide) (by omega)))
      rw [h3, decide_eq_false (show ¬ j < 64 by omega), decide_eq_false (show ¬ 63 = j by omega)]
      simp
theorem keyN_xor (n : Int) : bits .xor .u64 (u64N n : Int) 9223372036854775808 = (keyN n : Int) := by
  have h := u64N_lt n
  have e := top_xor (u64N n) (by rw [show (2 : Nat) ^ 64 = 18446744073709551616 from by decide]; exact h)
  rw [show (2 : Nat) ^ 64 = 18446744073709551616 from by decide, show (2 : Nat) ^ 63 = 9223372036854775808 from by decide] at e
  have := u64_xor_nat (u64N n) 9223372036854775808 h (by decide)
  rw [e] at this
  exact this
theorem keyN_back {X : Nat} (h : X < 18446744073709551616) : bits .xor .u64 (X : Int) 9223372036854775808 = (((X + 9223372036854775808) % 18446744073709551616 : Nat) : Int) := by
  have e := top_xor X (by rw [show (2 : Nat) ^ 64 = 18446744073709551616 from by decide]; exact h)
  rw [show (2 : Nat) ^ 64 = 18446744073709551616 from by decide, show (2 : Nat) ^ 63 = 9223372036854775808 from by decide] at e
  have := u64_xor_nat X 9223372036854775808 h (by decide)
  rw [e] at this
  exact this
theorem u8s_k4 (l : List UInt8) : u8s l ++ [Value.int .u8 4] = u8s (l ++ [4]) := by rw [u8s_append]; rfl
theorem u8s_k5 (l : List UInt8) : u8s l ++ [Value.int .u8 5] = u8s (l ++ [5]) := by rw [u8s_append]; rfl
theorem u8s_k01 (l : List UInt8) : u8s l ++ [Value.int .u8 0, Value.int .u8 1] = u8s (l ++ [0, 1]) := by rw [u8s_append]; rfl

end Go.Proofs.YtlkkpgdgnnknpaaDoor
