/-
  Like of package value; fits, marked, starts of relstorekeep.
-/
import Derived.Test.YtlkkpgdgnnknpaaLike1
import Derived.Lib.Strings
namespace Go.Proofs.Ytlkkpgdgnnknpaa
open Go.RowKit

theorem bool_of (A : Prop) : ∃ r : Bool, r = true ↔ A := by
  by_cases h : A
  · exact ⟨true, by simp [h]⟩
  · exact ⟨false, by simp [h]⟩

set_option maxHeartbeats 400000 in
theorem value_Like_text (n : Int) (s : ByteArray) (n' : Int) (s' : ByteArray) (r : Bool) (hr : r = true ↔ Fit s.data.toList s'.data.toList) (w : World) (hs : s.size ≤ 9223372036854775807) (hs' : s'.size ≤ 9223372036854775807) :
    Calls Try.prog 55 #[.agg #[.int .i64 3, .int .i64 n, .string s], .agg #[.int .i64 3, .int .i64 n', .string s']] w fun e w' => e = .returned (.agg #[.int .i64 1, .int .i64 (flagN r), .string ⟨#[]⟩]) ∧ Below w.heap.size w w' := by
  have H := Lib.hid (fun w => value_like s s' r hr w hs hs')
  clear hr hs hs'
  go_enter Try.func55, Try.ntmps55
  go_wp2_with (first | (go_at_call 89; refine (H.out _).mono ?_; rintro e w1 ⟨rfl, hb⟩; obtain ⟨hc, hf⟩ := bcell hb; have hz := hb.size; (try simp at hz); have hz0 : w.heap.size < w1.heap.size := (by omega); have hz1 : w.heap.size + 1 < w1.heap.size := (by omega); have hz2 : w.heap.size + 2 < w1.heap.size := (by omega)) | (go_at_call 61; refine (value_Flag _ _).mono ?_; rintro e w1 ⟨rfl, hb⟩; obtain ⟨hc, hf⟩ := bcell hb; have hz := hb.size; (try simp at hz); have hz0 : w.heap.size < w1.heap.size := (by omega); have hz1 : w.heap.size + 1 < w1.heap.size := (by omega); have hz2 : w.heap.size + 2 < w1.heap.size := (by omega)))
  refine bodyPost_ret (v := .agg #[.int .i64 1, .int .i64 (flagN r), .string ⟨#[]⟩]) (by simp [results, Try.results55, go_sem, *]) rfl ⟨?_, ?_⟩
  · rfl
  · (repeat (first | exact Below.refl _ _ | (refine Below.setCell ?_ (by first | omega | (simp <;> omega)) _) | refine Below.drew ?_ | (refine Below.alloc ?_ (by first | omega | (simp <;> omega)) _) | (refine bel_step ?_ (by assumption) (by first | omega | (simp <;> omega)))))

def markB (s : Bs) : Bool := s.any isMark
set_option maxHeartbeats 400000 in
theorem keep_marked (s : ByteArray) (w : World) (hs : s.size ≤ 9223372036854775807) :
    Calls Try.prog 15 #[.string s] w fun e w' => e = .returned (.bool (markB s.data.toList)) ∧ w = w' := by
  go_enter Try.func15, Try.ntmps15
  go_wp2_with fail
  go_loop [3] (fun v3 => ∃ i : Nat, i ≤ s.size ∧ v3 = .int .i64 i ∧ markB s.data.toList = markB (s.data.toList.drop i)) (fun v3 => s.size - (intOf v3).toNat)
  case atStart => exact ⟨0, Nat.zero_le _, rfl, rfl⟩
  case round =>
    obtain ⟨i, hi, rfl, hd⟩ := hrel
    have HD := Lib.hid hd; clear hd
    by_cases h1 : i < s.size
    · have SI := Lib.hid (byte_at s i h1)
      have DC := Lib.hid (drop_cons (p := s.data.toList) (by simpa using h1) SI.out)
      by_cases h3 : s[i] = pct
      · have g3 : ((s[i].toNat : Int) == 37) = true := by rw [h3]; rfl
        have X := Lib.hid h3; clear h3
        go_wp2_with fail
        go_ret
        exact ⟨ret_bool (by rw [HD.out, DC.out, X.out, markB]; rfl), rfl⟩
      · have g3 : ((s[i].toNat : Int) == 37) = false := by rw [beq_eq_false_iff_ne]; intro e; exact h3 (u8_eq.2 e)
        have X := Lib.hid h3; clear h3
        by_cases h4 : s[i] = und
        · have g4 : ((s[i].toNat : Int) == 95) = true := by rw [h4]; rfl
          have Y := Lib.hid h4; clear h4
          go_wp2_with fail
          go_ret
          exact ⟨ret_bool (by rw [HD.out, DC.out, Y.out, markB]; rfl), rfl⟩
        · have g4 : ((s[i].toNat : Int) == 95) = false := by rw [beq_eq_false_iff_ne]; intro e; exact h4 (u8_eq.2 e)
          have Y := Lib.hid h4; clear h4
          go_wp2_with fail
          go_round
          case rel => exact ⟨i + 1, by omega, by simp, by rw [HD.out, DC.out]; simp [markB, isMark, X.out, Y.out]⟩
          case measure => simp [intOf]; omega
    · obtain rfl : i = s.size := by omega
      go_wp2_with fail
      go_ret
      exact ⟨ret_bool (by rw [HD.out, List.drop_of_length_le (by simp)]; rfl), rfl⟩

theorem beq_decide {a b : Bs} : (a == b) = decide (a = b) := by rw [Bool.eq_iff_iff]; simp
set_option maxHeartbeats 400000 in
theorem keep_starts (s p : ByteArray) (w : World) (hs : s.size ≤ 9223372036854775807) (hp : p.size ≤ 9223372036854775807) :
    Calls Try.prog 16 #[.string s, .string p] w fun e w' => e = .returned (.bool (decide (p.size ≤ s.size ∧ s.data.toList.take p.size = p.data.toList))) ∧ w = w' := by
  by_cases h : p.size ≤ s.size
  · go_enter Try.func16, Try.ntmps16
    go_wp2_with fail
    go_ret
    refine ⟨ret_bool ?_, rfl⟩
    show ((s.extract 0 p.size).toList == p.toList) = _
    rw [Lib.extract_toList, Lib.toList_data, List.drop_zero, Nat.sub_zero, beq_decide]
    simp [h]
  · go_enter Try.func16, Try.ntmps16
    go_wp2_with fail
    go_ret
    exact ⟨ret_bool (by simp [h]), rfl⟩


set_option maxHeartbeats 400000 in
theorem keep_fits (s p : ByteArray) (r : Bool) (hr : r = true ↔ Fit s.data.toList p.data.toList) (w : World) (hs : s.size ≤ 9223372036854775807) (hp : p.size ≤ 9223372036854775807) :
    Calls Try.prog 14 #[.string s, .string p] w fun e w' => e = .returned (.bool r) ∧ Below w.heap.size w w' := by
  have H := Lib.hid (fun n n' w => value_Like_text n s n' p r hr w hs hp)
  clear hr hs hp
  cases r
  all_goals
    go_enter Try.func14, Try.ntmps14
    go_wp2_with ((go_at_call 55; refine (H.out _ _ _).mono ?_; rintro e w1 ⟨rfl, hb⟩; obtain ⟨hc, hf⟩ := bcell hb; have hz := hb.size; (try simp at hz)))
    go_ret
    exact ⟨rfl, by (repeat (first | exact Below.refl _ _ | (refine Below.setCell ?_ (by first | omega | (simp <;> omega)) _) | refine Below.drew ?_ | (refine Below.alloc ?_ (by first | omega | (simp <;> omega)) _) | (refine bel_step ?_ (by assumption) (by first | omega | (simp <;> omega)))))⟩

end Go.Proofs.Ytlkkpgdgnnknpaa
