/-
  Contracts of the small functions of package value (and their like in relstoreref): makers of values, Clean.
-/
import Derived.Test.YtlkkpgdgnnknpaaRows
import Derived.Test.YtlkkpgdgnnknpaaWords
import Derived.WalkKit
import Derived.WalkSpells
import Derived.WalkLawsBesides
namespace Go.Proofs.Ytlkkpgdgnnknpaa
open Go.RowKit

def flagN (b : Bool) : Int := if b then 1 else 0
def cleanK (k : Int) : Int := if k = 1 then 1 else if k = 2 then 2 else if k = 3 then 3 else 0
def cleanN (k n : Int) : Int := if k = 1 then flagN (n != 0) else if k = 2 then n else 0
def cleanS (k : Int) (s : ByteArray) : ByteArray := if k = 3 then s else ⟨#[]⟩

set_option maxHeartbeats 400000 in
theorem value_Of (n : Int) (w : World) :
    Calls Try.prog 62 #[.int .i64 n] w fun e w' => e = .returned (.agg #[.int .i64 2, .int .i64 n, .string ⟨#[]⟩]) ∧ Below w.heap.size w w' := by
  go_enter Try.func62, Try.ntmps62
  go_wp2
  refine bodyPost_ret (v := .agg #[.int .i64 2, .int .i64 n, .string ⟨#[]⟩]) (by simp [results, Try.results62, go_sem]) rfl ⟨?_, ?_⟩
  · rfl
  · (repeat (first | exact Below.refl _ _ | assumption | (refine Below.setCell ?_ (by first | omega | (simp <;> omega)) _) | refine Below.drew ?_ | (refine Below.alloc ?_ (by first | omega | (simp <;> omega)) _) | (refine bel_step ?_ (by assumption) (by first | omega | (simp <;> omega)))))

set_option maxHeartbeats 400000 in
theorem value_Str (s : ByteArray) (w : World) :
    Calls Try.prog 63 #[.string s] w fun e w' => e = .returned (.agg #[.int .i64 3, .int .i64 0, .string s]) ∧ Below w.heap.size w w' := by
  go_enter Try.func63, Try.ntmps63
  go_wp2
  refine bodyPost_ret (v := .agg #[.int .i64 3, .int .i64 0, .string s]) (by simp [results, Try.results63, go_sem]) rfl ⟨?_, ?_⟩
  · rfl
  · (repeat (first | exact Below.refl _ _ | assumption | (refine Below.setCell ?_ (by first | omega | (simp <;> omega)) _) | refine Below.drew ?_ | (refine Below.alloc ?_ (by first | omega | (simp <;> omega)) _) | (refine bel_step ?_ (by assumption) (by first | omega | (simp <;> omega)))))

set_option maxHeartbeats 400000 in
theorem value_None (w : World) :
    Calls Try.prog 64 #[] w fun e w' => e = .returned (.agg #[.int .i64 0, .int .i64 0, .string ⟨#[]⟩]) ∧ Below w.heap.size w w' := by
  go_enter Try.func64, Try.ntmps64
  go_wp2
  refine bodyPost_ret (v := .agg #[.int .i64 0, .int .i64 0, .string ⟨#[]⟩]) (by simp [results, Try.results64, go_sem]) rfl ⟨?_, ?_⟩
  · rfl
  · (repeat (first | exact Below.refl _ _ | assumption | (refine Below.setCell ?_ (by first | omega | (simp <;> omega)) _) | refine Below.drew ?_ | (refine Below.alloc ?_ (by first | omega | (simp <;> omega)) _) | (refine bel_step ?_ (by assumption) (by first | omega | (simp <;> omega)))))

set_option maxHeartbeats 400000 in
theorem value_Flag (b : Bool) (w : World) :
    Calls Try.prog 61 #[.bool b] w fun e w' => e = .returned (.agg #[.int .i64 1, .int .i64 (flagN b), .string ⟨#[]⟩]) ∧ Below w.heap.size w w' := by
  cases b
  all_goals
    go_enter Try.func61, Try.ntmps61
    go_wp2
  · refine bodyPost_ret (v := .agg #[.int .i64 1, .int .i64 0, .string ⟨#[]⟩]) (by simp [results, Try.results61, go_sem]) rfl ⟨?_, ?_⟩
    · rfl
    · (repeat (first | exact Below.refl _ _ | assumption | (refine Below.setCell ?_ (by first | omega | (simp <;> omega)) _) | refine Below.drew ?_ | (refine Below.alloc ?_ (by first | omega | (simp <;> omega)) _) | (refine bel_step ?_ (by assumption) (by first | omega | (simp <;> omega)))))
  · refine bodyPost_ret (v := .agg #[.int .i64 1, .int .i64 1, .string ⟨#[]⟩]) (by simp [results, Try.results61, go_sem]) rfl ⟨?_, ?_⟩
    · rfl
    · (repeat (first | exact Below.refl _ _ | assumption | (refine Below.setCell ?_ (by first | omega | (simp <;> omega)) _) | refine Below.drew ?_ | (refine Below.alloc ?_ (by first | omega | (simp <;> omega)) _) | (refine bel_step ?_ (by assumption) (by first | omega | (simp <;> omega)))))

set_option maxHeartbeats 400000 in
theorem value_Clean (k n : Int) (s : ByteArray) (w : World) :
    Calls Try.prog 24 #[.agg #[.int .i64 k, .int .i64 n, .string s]] w fun e w' => e = .returned (.agg #[.int .i64 (cleanK k), .int .i64 (cleanN k n), .string (cleanS k s)]) ∧ Below w.heap.size w w' := by
  by_cases h1 : k = 1
  · subst h1
    go_enter Try.func24, Try.ntmps24
    go_wp2_with (go_at_call 61; refine (value_Flag _ _).mono ?_; rintro e w1 ⟨rfl, hb⟩; obtain ⟨hc, hf⟩ := bcell hb; have hz := hb.size; (try simp at hz))
    refine bodyPost_ret (v := .agg #[.int .i64 1, .int .i64 (flagN (n != 0)), .string ⟨#[]⟩]) (by simp [results, Try.results24, go_sem, *]) rfl ⟨?_, ?_⟩
    · rfl
    · (repeat (first | exact Below.refl _ _ | assumption | (refine Below.setCell ?_ (by first | omega | (simp <;> omega)) _) | refine Below.drew ?_ | (refine Below.alloc ?_ (by first | omega | (simp <;> omega)) _) | (refine bel_step ?_ (by assumption) (by first | omega | (simp <;> omega)))))
  · by_cases h2 : k = 2
    · subst h2
      go_enter Try.func24, Try.ntmps24
      go_wp2_with (go_at_call 62; refine (value_Of _ _).mono ?_; rintro e w1 ⟨rfl, hb⟩; obtain ⟨hc, hf⟩ := bcell hb; have hz := hb.size; (try simp at hz))
      refine bodyPost_ret (v := .agg #[.int .i64 2, .int .i64 n, .string ⟨#[]⟩]) (by simp [results, Try.results24, go_sem, *]) rfl ⟨?_, ?_⟩
      · rfl
      · (repeat (first | exact Below.refl _ _ | assumption | (refine Below.setCell ?_ (by first | omega | (simp <;> omega)) _) | refine Below.drew ?_ | (refine Below.alloc ?_ (by first | omega | (simp <;> omega)) _) | (refine bel_step ?_ (by assumption) (by first | omega | (simp <;> omega)))))
    · by_cases h3 : k = 3
      · subst h3
        go_enter Try.func24, Try.ntmps24
        go_wp2_with (go_at_call 63; refine (value_Str _ _).mono ?_; rintro e w1 ⟨rfl, hb⟩; obtain ⟨hc, hf⟩ := bcell hb; have hz := hb.size; (try simp at hz))
        refine bodyPost_ret (v := .agg #[.int .i64 3, .int .i64 0, .string s]) (by simp [results, Try.results24, go_sem, *]) rfl ⟨?_, ?_⟩
        · rfl
        · (repeat (first | exact Below.refl _ _ | assumption | (refine Below.setCell ?_ (by first | omega | (simp <;> omega)) _) | refine Below.drew ?_ | (refine Below.alloc ?_ (by first | omega | (simp <;> omega)) _) | (refine bel_step ?_ (by assumption) (by first | omega | (simp <;> omega)))))
      · have e1 : (k == 1) = false := beq_eq_false_iff_ne.2 h1
        have e2 : (k == 2) = false := beq_eq_false_iff_ne.2 h2
        have e3 : (k == 3) = false := beq_eq_false_iff_ne.2 h3
        go_enter Try.func24, Try.ntmps24
        go_wp2_with (go_at_call 64; refine (value_None _).mono ?_; rintro e w1 ⟨rfl, hb⟩; obtain ⟨hc, hf⟩ := bcell hb; have hz := hb.size; (try simp at hz))
        refine bodyPost_ret (v := .agg #[.int .i64 0, .int .i64 0, .string ⟨#[]⟩]) (by simp [results, Try.results24, go_sem, *]) rfl ⟨?_, ?_⟩
        · simp [cleanK, cleanN, cleanS, h1, h2, h3]
        · (repeat (first | exact Below.refl _ _ | assumption | (refine Below.setCell ?_ (by first | omega | (simp <;> omega)) _) | refine Below.drew ?_ | (refine Below.alloc ?_ (by first | omega | (simp <;> omega)) _) | (refine bel_step ?_ (by assumption) (by first | omega | (simp <;> omega)))))

set_option maxHeartbeats 400000 in
theorem relstoreref_num (n : Int) (w : World) :
    Calls Try.prog 66 #[.int .i64 n] w fun e w' => e = .returned (.agg #[.int .i64 2, .int .i64 n, .string ⟨#[]⟩]) ∧ Below w.heap.size w w' := by
  go_enter Try.func66, Try.ntmps66
  go_wp2
  refine bodyPost_ret (v := .agg #[.int .i64 2, .int .i64 n, .string ⟨#[]⟩]) (by simp [results, Try.results66, go_sem]) rfl ⟨?_, ?_⟩
  · rfl
  · (repeat (first | exact Below.refl _ _ | assumption | (refine Below.setCell ?_ (by first | omega | (simp <;> omega)) _) | refine Below.drew ?_ | (refine Below.alloc ?_ (by first | omega | (simp <;> omega)) _) | (refine bel_step ?_ (by assumption) (by first | omega | (simp <;> omega)))))

set_option maxHeartbeats 400000 in
theorem relstoreref_str (s : ByteArray) (w : World) :
    Calls Try.prog 67 #[.string s] w fun e w' => e = .returned (.agg #[.int .i64 3, .int .i64 0, .string s]) ∧ Below w.heap.size w w' := by
  go_enter Try.func67, Try.ntmps67
  go_wp2
  refine bodyPost_ret (v := .agg #[.int .i64 3, .int .i64 0, .string s]) (by simp [results, Try.results67, go_sem]) rfl ⟨?_, ?_⟩
  · rfl
  · (repeat (first | exact Below.refl _ _ | assumption | (refine Below.setCell ?_ (by first | omega | (simp <;> omega)) _) | refine Below.drew ?_ | (refine Below.alloc ?_ (by first | omega | (simp <;> omega)) _) | (refine bel_step ?_ (by assumption) (by first | omega | (simp <;> omega)))))

set_option maxHeartbeats 400000 in
theorem relstoreref_null (w : World) :
    Calls Try.prog 68 #[] w fun e w' => e = .returned (.agg #[.int .i64 0, .int .i64 0, .string ⟨#[]⟩]) ∧ Below w.heap.size w w' := by
  go_enter Try.func68, Try.ntmps68
  go_wp2
  refine bodyPost_ret (v := .agg #[.int .i64 0, .int .i64 0, .string ⟨#[]⟩]) (by simp [results, Try.results68, go_sem]) rfl ⟨?_, ?_⟩
  · rfl
  · (repeat (first | exact Below.refl _ _ | assumption | (refine Below.setCell ?_ (by first | omega | (simp <;> omega)) _) | refine Below.drew ?_ | (refine Below.alloc ?_ (by first | omega | (simp <;> omega)) _) | (refine bel_step ?_ (by assumption) (by first | omega | (simp <;> omega)))))

set_option maxHeartbeats 400000 in
theorem relstoreref_truth (b : Bool) (w : World) :
    Calls Try.prog 65 #[.bool b] w fun e w' => e = .returned (.agg #[.int .i64 1, .int .i64 (flagN b), .string ⟨#[]⟩]) ∧ Below w.heap.size w w' := by
  cases b
  all_goals
    go_enter Try.func65, Try.ntmps65
    go_wp2
  · refine bodyPost_ret (v := .agg #[.int .i64 1, .int .i64 0, .string ⟨#[]⟩]) (by simp [results, Try.results65, go_sem]) rfl ⟨?_, ?_⟩
    · rfl
    · (repeat (first | exact Below.refl _ _ | assumption | (refine Below.setCell ?_ (by first | omega | (simp <;> omega)) _) | refine Below.drew ?_ | (refine Below.alloc ?_ (by first | omega | (simp <;> omega)) _) | (refine bel_step ?_ (by assumption) (by first | omega | (simp <;> omega)))))
  · refine bodyPost_ret (v := .agg #[.int .i64 1, .int .i64 1, .string ⟨#[]⟩]) (by simp [results, Try.results65, go_sem]) rfl ⟨?_, ?_⟩
    · rfl
    · (repeat (first | exact Below.refl _ _ | assumption | (refine Below.setCell ?_ (by first | omega | (simp <;> omega)) _) | refine Below.drew ?_ | (refine Below.alloc ?_ (by first | omega | (simp <;> omega)) _) | (refine bel_step ?_ (by assumption) (by first | omega | (simp <;> omega)))))

set_option maxHeartbeats 400000 in
theorem relstoreref_Clean (k n : Int) (s : ByteArray) (w : World) :
    Calls Try.prog 25 #[.agg #[.int .i64 k, .int .i64 n, .string s]] w fun e w' => e = .returned (.agg #[.int .i64 (cleanK k), .int .i64 (cleanN k n), .string (cleanS k s)]) ∧ Below w.heap.size w w' := by
  by_cases h1 : k = 1
  · subst h1
    go_enter Try.func25, Try.ntmps25
    go_wp2_with (go_at_call 65; refine (relstoreref_truth _ _).mono ?_; rintro e w1 ⟨rfl, hb⟩; obtain ⟨hc, hf⟩ := bcell hb; have hz := hb.size; (try simp at hz))
    refine bodyPost_ret (v := .agg #[.int .i64 1, .int .i64 (flagN (n != 0)), .string ⟨#[]⟩]) (by simp [results, Try.results25, go_sem, *]) rfl ⟨?_, ?_⟩
    · rfl
    · (repeat (first | exact Below.refl _ _ | assumption | (refine Below.setCell ?_ (by first | omega | (simp <;> omega)) _) | refine Below.drew ?_ | (refine Below.alloc ?_ (by first | omega | (simp <;> omega)) _) | (refine bel_step ?_ (by assumption) (by first | omega | (simp <;> omega)))))
  · by_cases h2 : k = 2
    · subst h2
      go_enter Try.func25, Try.ntmps25
      go_wp2_with (go_at_call 66; refine (relstoreref_num _ _).mono ?_; rintro e w1 ⟨rfl, hb⟩; obtain ⟨hc, hf⟩ := bcell hb; have hz := hb.size; (try simp at hz))
      refine bodyPost_ret (v := .agg #[.int .i64 2, .int .i64 n, .string ⟨#[]⟩]) (by simp [results, Try.results25, go_sem, *]) rfl ⟨?_, ?_⟩
      · rfl
      · (repeat (first | exact Below.refl _ _ | assumption | (refine Below.setCell ?_ (by first | omega | (simp <;> omega)) _) | refine Below.drew ?_ | (refine Below.alloc ?_ (by first | omega | (simp <;> omega)) _) | (refine bel_step ?_ (by assumption) (by first | omega | (simp <;> omega)))))
    · by_cases h3 : k = 3
      · subst h3
        go_enter Try.func25, Try.ntmps25
        go_wp2_with (go_at_call 67; refine (relstoreref_str _ _).mono ?_; rintro e w1 ⟨rfl, hb⟩; obtain ⟨hc, hf⟩ := bcell hb; have hz := hb.size; (try simp at hz))
        refine bodyPost_ret (v := .agg #[.int .i64 3, .int .i64 0, .string s]) (by simp [results, Try.results25, go_sem, *]) rfl ⟨?_, ?_⟩
        · rfl
        · (repeat (first | exact Below.refl _ _ | assumption | (refine Below.setCell ?_ (by first | omega | (simp <;> omega)) _) | refine Below.drew ?_ | (refine Below.alloc ?_ (by first | omega | (simp <;> omega)) _) | (refine bel_step ?_ (by assumption) (by first | omega | (simp <;> omega)))))
      · have e1 : (k == 1) = false := beq_eq_false_iff_ne.2 h1
        have e2 : (k == 2) = false := beq_eq_false_iff_ne.2 h2
        have e3 : (k == 3) = false := beq_eq_false_iff_ne.2 h3
        go_enter Try.func25, Try.ntmps25
        go_wp2_with (go_at_call 68; refine (relstoreref_null _).mono ?_; rintro e w1 ⟨rfl, hb⟩; obtain ⟨hc, hf⟩ := bcell hb; have hz := hb.size; (try simp at hz))
        refine bodyPost_ret (v := .agg #[.int .i64 0, .int .i64 0, .string ⟨#[]⟩]) (by simp [results, Try.results25, go_sem, *]) rfl ⟨?_, ?_⟩
        · simp [cleanK, cleanN, cleanS, h1, h2, h3]
        · (repeat (first | exact Below.refl _ _ | assumption | (refine Below.setCell ?_ (by first | omega | (simp <;> omega)) _) | refine Below.drew ?_ | (refine Below.alloc ?_ (by first | omega | (simp <;> omega)) _) | (refine bel_step ?_ (by assumption) (by first | omega | (simp <;> omega)))))


end Go.Proofs.Ytlkkpgdgnnknpaa
