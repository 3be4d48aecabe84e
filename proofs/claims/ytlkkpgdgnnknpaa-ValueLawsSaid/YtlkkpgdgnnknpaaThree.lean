/-
  Truths of three kinds: three, told, Not, Both, Either of both packages; Test.
-/
import Derived.Test.YtlkkpgdgnnknpaaOrd1
import Derived.Test.YtlkkpgdgnnknpaaInv
namespace Go.Proofs.Ytlkkpgdgnnknpaa
open Go.RowKit
attribute [local go_sem] OpGood goodUpon

def threeN (k n : Int) : Nat := if k ≠ 1 then 2 else if n ≠ 0 then 1 else 0
def tK (t : Nat) : Int := if t = 2 then 0 else 1
def tN (t : Nat) : Int := if t = 1 then 1 else 0
def not3 (t : Nat) : Nat := if t = 2 then 2 else if t = 1 then 0 else 1
def both3 (t u : Nat) : Nat := if t = 0 ∨ u = 0 then 0 else if t = 1 ∧ u = 1 then 1 else 2
def either3 (t u : Nat) : Nat := if t = 1 ∨ u = 1 then 1 else if t = 0 ∧ u = 0 then 0 else 2
theorem threeN_lt (k n : Int) : threeN k n < 3 := by unfold threeN; split <;> (try split) <;> omega
theorem threeN_t {t : Nat} (h : t < 3) : threeN (tK t) (tN t) = t := by
  match t, h with
  | 0, _ => rfl
  | 1, _ => rfl
  | 2, _ => rfl
theorem not3_lt (t : Nat) : not3 t < 3 := by unfold not3; split <;> (try split) <;> omega
theorem both3_lt (t u : Nat) : both3 t u < 3 := by unfold both3; split <;> (try split) <;> omega
theorem either3_eq {t u : Nat} (ht : t < 3) (hu : u < 3) : either3 t u = not3 (both3 (not3 t) (not3 u)) := by
  match t, ht, u, hu with
  | 0, _, 0, _ => rfl
  | 0, _, 1, _ => rfl
  | 0, _, 2, _ => rfl
  | 1, _, 0, _ => rfl
  | 1, _, 1, _ => rfl
  | 1, _, 2, _ => rfl
  | 2, _, 0, _ => rfl
  | 2, _, 1, _ => rfl
  | 2, _, 2, _ => rfl
/-- the three ways of a value -/
theorem three_cases (k n : Int) : (threeN k n = 2 ∧ (k != 1) = true ∧ (k == 1) = false) ∨ (threeN k n = 1 ∧ k = 1 ∧ (n == 0) = false ∧ (n != 0) = true) ∨ (threeN k n = 0 ∧ k = 1 ∧ n = 0) := by
  by_cases h : k = 1
  · by_cases h2 : n = 0
    · exact .inr (.inr ⟨by simp [threeN, h, h2], h, h2⟩)
    · exact .inr (.inl ⟨by simp [threeN, h, h2], h, by simp [h2], by simp [h2]⟩)
  · exact .inl ⟨by simp [threeN, h], by simp [h], by simp [h]⟩

set_option maxHeartbeats 400000 in
theorem ref_three (k n : Int) (s : ByteArray) (w : World) : Calls Try.prog 84 #[.agg #[.int .i64 k, .int .i64 n, .string s]] w fun e w' => e = .returned (.int .i64 (threeN k n : Nat)) ∧ Below w.heap.size w w' := by
  rcases three_cases k n with ⟨e, h1, h2⟩ | ⟨e, rfl, h1, h2⟩ | ⟨e, rfl, rfl⟩
  all_goals
    have E := Lib.hid e; clear e
    go_enter Try.func84, Try.ntmps84
    go_wp2
    go_ret
    exact ⟨by rw [E.out]; rfl, (Below.refl _ _).alloc (Nat.le_refl _) _⟩

set_option maxHeartbeats 800000 in
theorem ref_told (t : Nat) (ht : t < 3) (w : World) : Calls Try.prog 83 #[.int .i64 t] w fun e w' => e = .returned (.agg #[.int .i64 (tK t), .int .i64 (tN t), .string ⟨#[]⟩]) ∧ Below w.heap.size w w' := by
  match t, ht with
  | 0, _ =>
    change Calls Try.prog _ #[.int .i64 0] w _
    go_enter Try.func83, Try.ntmps83
    go_wp2_with (first | (go_at_call 65; refine (relstoreref_truth _ _).mono ?_; rintro e w1 ⟨rfl, hb⟩; obtain ⟨hc, hf⟩ := bcell hb; have hz := hb.size; (try simp at hz); have hz0 : w.heap.size < w1.heap.size := (by omega)) | (go_at_call 68; refine (relstoreref_null _).mono ?_; rintro e w1 ⟨rfl, hb⟩; obtain ⟨hc, hf⟩ := bcell hb; have hz := hb.size; (try simp at hz); have hz0 : w.heap.size < w1.heap.size := (by omega)))
    refine bodyPost_ret (v := .agg #[.int .i64 1, .int .i64 (flagN false), .string ⟨#[]⟩]) (by simp [results, Try.results83, go_sem, *]) rfl ⟨?_, ?_⟩
    · rfl
    · (repeat (first | exact Below.refl _ _ | (refine Below.setCell ?_ (by first | omega | (simp <;> omega)) _) | refine Below.drew ?_ | (refine Below.alloc ?_ (by first | omega | (simp <;> omega)) _) | (refine bel_step ?_ (by assumption) (by first | omega | (simp <;> omega)))))
  | 1, _ =>
    change Calls Try.prog _ #[.int .i64 1] w _
    go_enter Try.func83, Try.ntmps83
    go_wp2_with (first | (go_at_call 65; refine (relstoreref_truth _ _).mono ?_; rintro e w1 ⟨rfl, hb⟩; obtain ⟨hc, hf⟩ := bcell hb; have hz := hb.size; (try simp at hz); have hz0 : w.heap.size < w1.heap.size := (by omega)) | (go_at_call 68; refine (relstoreref_null _).mono ?_; rintro e w1 ⟨rfl, hb⟩; obtain ⟨hc, hf⟩ := bcell hb; have hz := hb.size; (try simp at hz); have hz0 : w.heap.size < w1.heap.size := (by omega)))
    refine bodyPost_ret (v := .agg #[.int .i64 1, .int .i64 (flagN true), .string ⟨#[]⟩]) (by simp [results, Try.results83, go_sem, *]) rfl ⟨?_, ?_⟩
    · rfl
    · (repeat (first | exact Below.refl _ _ | (refine Below.setCell ?_ (by first | omega | (simp <;> omega)) _) | refine Below.drew ?_ | (refine Below.alloc ?_ (by first | omega | (simp <;> omega)) _) | (refine bel_step ?_ (by assumption) (by first | omega | (simp <;> omega)))))
  | 2, _ =>
    change Calls Try.prog _ #[.int .i64 2] w _
    go_enter Try.func83, Try.ntmps83
    go_wp2_with (first | (go_at_call 65; refine (relstoreref_truth _ _).mono ?_; rintro e w1 ⟨rfl, hb⟩; obtain ⟨hc, hf⟩ := bcell hb; have hz := hb.size; (try simp at hz); have hz0 : w.heap.size < w1.heap.size := (by omega)) | (go_at_call 68; refine (relstoreref_null _).mono ?_; rintro e w1 ⟨rfl, hb⟩; obtain ⟨hc, hf⟩ := bcell hb; have hz := hb.size; (try simp at hz); have hz0 : w.heap.size < w1.heap.size := (by omega)))
    refine bodyPost_ret (v := .agg #[.int .i64 0, .int .i64 0, .string ⟨#[]⟩]) (by simp [results, Try.results83, go_sem, *]) rfl ⟨?_, ?_⟩
    · rfl
    · (repeat (first | exact Below.refl _ _ | (refine Below.setCell ?_ (by first | omega | (simp <;> omega)) _) | refine Below.drew ?_ | (refine Below.alloc ?_ (by first | omega | (simp <;> omega)) _) | (refine bel_step ?_ (by assumption) (by first | omega | (simp <;> omega)))))

theorem tK_not (k n : Int) : tK (not3 (threeN k n)) = (if k = 1 then 1 else 0) ∧ tN (not3 (threeN k n)) = (if k = 1 then flagN (n == 0) else 0) := by
  rcases three_cases k n with ⟨e, h1, h2⟩ | ⟨e, rfl, h1, h2⟩ | ⟨e, rfl, rfl⟩
  · rw [e]
    have : k ≠ 1 := by simpa using h1
    simp [not3, tK, tN, this]
  · rw [e]
    simp [not3, tK, tN, h1, flagN]
  · rw [e]
    simp [not3, tK, tN, flagN]

set_option maxHeartbeats 400000 in
theorem value_Not (k n : Int) (s : ByteArray) (w : World) : Calls Try.prog 47 #[.agg #[.int .i64 k, .int .i64 n, .string s]] w fun e w' => e = .returned (.agg #[.int .i64 (tK (not3 (threeN k n))), .int .i64 (tN (not3 (threeN k n))), .string ⟨#[]⟩]) ∧ Below w.heap.size w w' := by
  rw [(tK_not k n).1, (tK_not k n).2]
  by_cases h : k = 1
  · subst h
    go_enter Try.func47, Try.ntmps47
    go_wp2_with (go_at_call 61; refine (value_Flag _ _).mono ?_; rintro e w1 ⟨rfl, hb⟩; obtain ⟨hc, hf⟩ := bcell hb; have hz := hb.size; (try simp at hz); have hz0 : w.heap.size < w1.heap.size := (by omega); have hz1 : w.heap.size + 1 < w1.heap.size := (by omega))
    refine bodyPost_ret (v := .agg #[.int .i64 1, .int .i64 (flagN (n == 0)), .string ⟨#[]⟩]) (by simp [results, Try.results47, go_sem, *]) rfl ⟨?_, ?_⟩
    · rfl
    · (repeat (first | exact Below.refl _ _ | (refine Below.setCell ?_ (by first | omega | (simp <;> omega)) _) | refine Below.drew ?_ | (refine Below.alloc ?_ (by first | omega | (simp <;> omega)) _) | (refine bel_step ?_ (by assumption) (by first | omega | (simp <;> omega)))))
  · have h1 : (k != 1) = true := by simp [h]
    rw [if_neg h, if_neg h]
    go_enter Try.func47, Try.ntmps47
    go_wp2_with (go_at_call 64; refine (value_None _).mono ?_; rintro e w1 ⟨rfl, hb⟩; obtain ⟨hc, hf⟩ := bcell hb; have hz := hb.size; (try simp at hz); have hz0 : w.heap.size < w1.heap.size := (by omega); have hz1 : w.heap.size + 1 < w1.heap.size := (by omega))
    refine bodyPost_ret (v := .agg #[.int .i64 0, .int .i64 0, .string ⟨#[]⟩]) (by simp [results, Try.results47, go_sem, *]) rfl ⟨?_, ?_⟩
    · rfl
    · (repeat (first | exact Below.refl _ _ | (refine Below.setCell ?_ (by first | omega | (simp <;> omega)) _) | refine Below.drew ?_ | (refine Below.alloc ?_ (by first | omega | (simp <;> omega)) _) | (refine bel_step ?_ (by assumption) (by first | omega | (simp <;> omega)))))

set_option maxHeartbeats 800000 in
theorem value_Both (k n : Int) (s : ByteArray) (k' n' : Int) (s' : ByteArray) (w : World) : Calls Try.prog 43 #[.agg #[.int .i64 k, .int .i64 n, .string s], .agg #[.int .i64 k', .int .i64 n', .string s']] w fun e w' => e = .returned (.agg #[.int .i64 (tK (both3 (threeN k n) (threeN k' n'))), .int .i64 (tN (both3 (threeN k n) (threeN k' n'))), .string ⟨#[]⟩]) ∧ Below w.heap.size w w' := by
  rcases three_cases k n with ⟨e, h1, h2⟩ | ⟨e, rfl, h1, h2⟩ | ⟨e, rfl, rfl⟩
  all_goals rcases three_cases k' n' with ⟨e', h1', h2'⟩ | ⟨e', rfl, h1', h2'⟩ | ⟨e', rfl, rfl⟩
  all_goals
    simp only [e, e']
    clear e e'
    go_enter Try.func43, Try.ntmps43
    go_wp2_with (first | (go_at_call 61; refine (value_Flag _ _).mono ?_; rintro e w1 ⟨rfl, hb⟩; obtain ⟨hc, hf⟩ := bcell hb; have hz := hb.size; (try simp at hz); have hz0 : w.heap.size < w1.heap.size := (by omega); have hz1 : w.heap.size + 1 < w1.heap.size := (by omega); have hz2 : w.heap.size + 2 < w1.heap.size := (by omega)) | (go_at_call 64; refine (value_None _).mono ?_; rintro e w1 ⟨rfl, hb⟩; obtain ⟨hc, hf⟩ := bcell hb; have hz := hb.size; (try simp at hz); have hz0 : w.heap.size < w1.heap.size := (by omega); have hz1 : w.heap.size + 1 < w1.heap.size := (by omega); have hz2 : w.heap.size + 2 < w1.heap.size := (by omega)))
    first
      | (refine bodyPost_ret (v := .agg #[.int .i64 1, .int .i64 (flagN false), .string ⟨#[]⟩]) (by simp [results, Try.results43, go_sem, *]) rfl ⟨?_, ?_⟩; (· rfl); (· (repeat (first | exact Below.refl _ _ | (refine Below.setCell ?_ (by first | omega | (simp <;> omega)) _) | refine Below.drew ?_ | (refine Below.alloc ?_ (by first | omega | (simp <;> omega)) _) | (refine bel_step ?_ (by assumption) (by first | omega | (simp <;> omega)))))); done)
      | (refine bodyPost_ret (v := .agg #[.int .i64 1, .int .i64 (flagN true), .string ⟨#[]⟩]) (by simp [results, Try.results43, go_sem, *]) rfl ⟨?_, ?_⟩; (· rfl); (· (repeat (first | exact Below.refl _ _ | (refine Below.setCell ?_ (by first | omega | (simp <;> omega)) _) | refine Below.drew ?_ | (refine Below.alloc ?_ (by first | omega | (simp <;> omega)) _) | (refine bel_step ?_ (by assumption) (by first | omega | (simp <;> omega)))))); done)
      | (refine bodyPost_ret (v := .agg #[.int .i64 0, .int .i64 0, .string ⟨#[]⟩]) (by simp [results, Try.results43, go_sem, *]) rfl ⟨?_, ?_⟩; (· rfl); (· (repeat (first | exact Below.refl _ _ | (refine Below.setCell ?_ (by first | omega | (simp <;> omega)) _) | refine Below.drew ?_ | (refine Below.alloc ?_ (by first | omega | (simp <;> omega)) _) | (refine bel_step ?_ (by assumption) (by first | omega | (simp <;> omega)))))); done)

set_option maxHeartbeats 800000 in
theorem ref_Not (k n : Int) (s : ByteArray) (w : World) : Calls Try.prog 48 #[.agg #[.int .i64 k, .int .i64 n, .string s]] w fun e w' => e = .returned (.agg #[.int .i64 (tK (not3 (threeN k n))), .int .i64 (tN (not3 (threeN k n))), .string ⟨#[]⟩]) ∧ Below w.heap.size w w' := by
  have ht := threeN_lt k n
  have c3 := ref_three k n s
  generalize threeN k n = t at *
  match t, ht, c3 with
  | 0, _, c3 =>
    have c3' : ∀ w, Calls Try.prog 84 #[.agg #[.int .i64 k, .int .i64 n, .string s]] w fun e w' => e = .returned (.int .i64 0) ∧ Below w.heap.size w w' := c3
    have C3 := Lib.hid c3'
    clear c3 c3'
    go_enter Try.func48, Try.ntmps48
    go_wp2_with (first | (go_at_call 84; refine (C3.out _).mono ?_; rintro e w1 ⟨rfl, hb⟩; obtain ⟨hc, hf⟩ := bcell hb; have hz := hb.size; (try simp at hz); have hz0 : w.heap.size < w1.heap.size := (by omega); have hz1 : w.heap.size + 1 < w1.heap.size := (by omega); have hz2 : w.heap.size + 2 < w1.heap.size := (by omega)) | (go_at_call 83; refine (ref_told 1 (by omega) _).mono ?_; rintro e w1 ⟨rfl, hb⟩; obtain ⟨hc, hf⟩ := bcell hb; have hz := hb.size; (try simp at hz); have hz0 : w.heap.size < w1.heap.size := (by omega); have hz1 : w.heap.size + 1 < w1.heap.size := (by omega); have hz2 : w.heap.size + 2 < w1.heap.size := (by omega)))
    refine bodyPost_ret (v := .agg #[.int .i64 (tK 1), .int .i64 (tN 1), .string ⟨#[]⟩]) (by simp [results, Try.results48, go_sem, *]) rfl ⟨?_, ?_⟩
    · rfl
    · (repeat (first | exact Below.refl _ _ | (refine Below.setCell ?_ (by first | omega | (simp <;> omega)) _) | refine Below.drew ?_ | (refine Below.alloc ?_ (by first | omega | (simp <;> omega)) _) | (refine bel_step ?_ (by assumption) (by first | omega | (simp <;> omega)))))
  | 1, _, c3 =>
    have c3' : ∀ w, Calls Try.prog 84 #[.agg #[.int .i64 k, .int .i64 n, .string s]] w fun e w' => e = .returned (.int .i64 1) ∧ Below w.heap.size w w' := c3
    have C3 := Lib.hid c3'
    clear c3 c3'
    go_enter Try.func48, Try.ntmps48
    go_wp2_with (first | (go_at_call 84; refine (C3.out _).mono ?_; rintro e w1 ⟨rfl, hb⟩; obtain ⟨hc, hf⟩ := bcell hb; have hz := hb.size; (try simp at hz); have hz0 : w.heap.size < w1.heap.size := (by omega); have hz1 : w.heap.size + 1 < w1.heap.size := (by omega); have hz2 : w.heap.size + 2 < w1.heap.size := (by omega)) | (go_at_call 83; refine (ref_told 0 (by omega) _).mono ?_; rintro e w1 ⟨rfl, hb⟩; obtain ⟨hc, hf⟩ := bcell hb; have hz := hb.size; (try simp at hz); have hz0 : w.heap.size < w1.heap.size := (by omega); have hz1 : w.heap.size + 1 < w1.heap.size := (by omega); have hz2 : w.heap.size + 2 < w1.heap.size := (by omega)))
    refine bodyPost_ret (v := .agg #[.int .i64 (tK 0), .int .i64 (tN 0), .string ⟨#[]⟩]) (by simp [results, Try.results48, go_sem, *]) rfl ⟨?_, ?_⟩
    · rfl
    · (repeat (first | exact Below.refl _ _ | (refine Below.setCell ?_ (by first | omega | (simp <;> omega)) _) | refine Below.drew ?_ | (refine Below.alloc ?_ (by first | omega | (simp <;> omega)) _) | (refine bel_step ?_ (by assumption) (by first | omega | (simp <;> omega)))))
  | 2, _, c3 =>
    have c3' : ∀ w, Calls Try.prog 84 #[.agg #[.int .i64 k, .int .i64 n, .string s]] w fun e w' => e = .returned (.int .i64 2) ∧ Below w.heap.size w w' := c3
    have C3 := Lib.hid c3'
    clear c3 c3'
    go_enter Try.func48, Try.ntmps48
    go_wp2_with (first | (go_at_call 84; refine (C3.out _).mono ?_; rintro e w1 ⟨rfl, hb⟩; obtain ⟨hc, hf⟩ := bcell hb; have hz := hb.size; (try simp at hz); have hz0 : w.heap.size < w1.heap.size := (by omega); have hz1 : w.heap.size + 1 < w1.heap.size := (by omega); have hz2 : w.heap.size + 2 < w1.heap.size := (by omega)) | (go_at_call 83; refine (ref_told 2 (by omega) _).mono ?_; rintro e w1 ⟨rfl, hb⟩; obtain ⟨hc, hf⟩ := bcell hb; have hz := hb.size; (try simp at hz); have hz0 : w.heap.size < w1.heap.size := (by omega); have hz1 : w.heap.size + 1 < w1.heap.size := (by omega); have hz2 : w.heap.size + 2 < w1.heap.size := (by omega)))
    refine bodyPost_ret (v := .agg #[.int .i64 (tK 2), .int .i64 (tN 2), .string ⟨#[]⟩]) (by simp [results, Try.results48, go_sem, *]) rfl ⟨?_, ?_⟩
    · rfl
    · (repeat (first | exact Below.refl _ _ | (refine Below.setCell ?_ (by first | omega | (simp <;> omega)) _) | refine Below.drew ?_ | (refine Below.alloc ?_ (by first | omega | (simp <;> omega)) _) | (refine bel_step ?_ (by assumption) (by first | omega | (simp <;> omega)))))

end Go.Proofs.Ytlkkpgdgnnknpaa
