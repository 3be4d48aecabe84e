/-
  Texts: Concat and Show of package value and of the reference; Like of values that are no texts.
-/
import Derived.Test.YtlkkpgdgnnknpaaDoorLike1
import Derived.Test.YtlkkpgdgnnknpaaDoorSame0
import Derived.Test.YtlkkpgdgnnknpaaDoorNum64
import Derived.Test.YtlkkpgdgnnknpaaDoorShelf
import Derived.Lib.Strings
namespace Go.Proofs.YtlkkpgdgnnknpaaDoor
open Go.RowKit
set_option linter.unusedVariables false
set_option linter.unusedSimpArgs false

def nullV : Val := ⟨0, 0, ⟨#[]⟩⟩
/-- two texts, joined -/
def concatV (k : Int) (s : ByteArray) (k' : Int) (s' : ByteArray) : Val := if k = 3 ∧ k' = 3 ∧ s.size + s'.size ≤ 1000 then ⟨3, 0, s ++ s'⟩ else nullV
def textV (s : ByteArray) : Val := if s.size ≤ 1000 then ⟨3, 0, s⟩ else nullV

set_option maxHeartbeats 400000 in
theorem value_text (s : ByteArray) (w : World) : Calls Tryd.prog 53 #[.string s] w fun e w' => e = .returned (.agg #[.int .i64 (textV s).k, .int .i64 (textV s).n, .string (textV s).s]) ∧ Below w.heap.size w w' := by
  by_cases h : s.size ≤ 1000
  · have e : textV s = ⟨3, 0, s⟩ := if_pos h
    have hn : ¬ 1000 < s.size := by omega
    have hi : ¬ (1000 : Int) < (s.size : Int) := by omega
    rw [e]
    clear e
    go_enter Tryd.func53, Tryd.ntmps53
    go_wp2_with (go_at_call 51; refine (value_Str _ _).mono ?_; rintro e w1 ⟨rfl, hb⟩; obtain ⟨hc, hf⟩ := bcell hb; have hz := hb.size; (try simp at hz); have hz0 : w.heap.size < w1.heap.size := (by omega))
    refine bodyPost_ret (v := .agg #[.int .i64 3, .int .i64 0, .string s]) (by simp [results, Tryd.results53, go_sem, *]) rfl ⟨?_, ?_⟩
    · rfl
    · (repeat (first | exact Below.refl _ _ | assumption | (refine Below.setCell ?_ (by first | omega | (simp <;> omega)) _) | refine Below.drew ?_ | (refine Below.alloc ?_ (by first | omega | (simp <;> omega)) _) | (refine bel_step ?_ (by assumption) (by first | omega | (simp <;> omega)))))
  · have e : textV s = nullV := if_neg h
    have hn : 1000 < s.size := by omega
    have hi : (1000 : Int) < (s.size : Int) := by omega
    rw [e]
    clear e
    go_enter Tryd.func53, Tryd.ntmps53
    go_wp2_with (go_at_call 47; refine (value_None _).mono ?_; rintro e w1 ⟨rfl, hb⟩; obtain ⟨hc, hf⟩ := bcell hb; have hz := hb.size; (try simp at hz); have hz0 : w.heap.size < w1.heap.size := (by omega))
    refine bodyPost_ret (v := .agg #[.int .i64 0, .int .i64 0, .string ⟨#[]⟩]) (by simp [results, Tryd.results53, go_sem, *]) rfl ⟨?_, ?_⟩
    · rfl
    · (repeat (first | exact Below.refl _ _ | assumption | (refine Below.setCell ?_ (by first | omega | (simp <;> omega)) _) | refine Below.drew ?_ | (refine Below.alloc ?_ (by first | omega | (simp <;> omega)) _) | (refine bel_step ?_ (by assumption) (by first | omega | (simp <;> omega)))))

set_option maxHeartbeats 1600000 in
theorem value_Concat (k n : Int) (s : ByteArray) (k' n' : Int) (s' : ByteArray) (w : World) (hs : s.size + s'.size ≤ 9223372036854775807) :
    Calls Tryd.prog 23 #[.agg #[.int .i64 k, .int .i64 n, .string s], .agg #[.int .i64 k', .int .i64 n', .string s']] w fun e w' => e = .returned (.agg #[.int .i64 (concatV k s k' s').k, .int .i64 (concatV k s k' s').n, .string (concatV k s k' s').s]) ∧ Below w.heap.size w w' := by
  by_cases h1 : k = 3
  · subst h1
    by_cases h2 : k' = 3
    · subst h2
      have e : concatV 3 s 3 s' = textV (s ++ s') := by
        unfold concatV textV
        rw [ByteArray.size_append]
        simp
      have hi : (s.size : Int) + (s'.size : Int) ≤ 9223372036854775807 := by omega
      obtain ⟨V, hV⟩ : ∃ V, textV (s ++ s') = V := ⟨_, rfl⟩
      have T := Lib.hid (fun w => value_text (s ++ s') w)
      rw [e, hV]
      rw [hV] at T
      clear e hV
      go_enter Tryd.func23, Tryd.ntmps23
      go_wp2_with (go_at_call 53; refine (T.out _).mono ?_; rintro e w1 ⟨rfl, hb⟩; obtain ⟨hc, hf⟩ := bcell hb; have hz := hb.size; (try simp at hz); have hz0 : w.heap.size < w1.heap.size := (by omega); have hz1 : w.heap.size + 1 < w1.heap.size := (by omega); have hz2 : w.heap.size + 2 < w1.heap.size := (by omega))
      refine bodyPost_ret (v := .agg #[.int .i64 V.k, .int .i64 V.n, .string V.s]) (by simp [results, Tryd.results23, go_sem, *]) rfl ⟨?_, ?_⟩
      · rfl
      · (repeat (first | exact Below.refl _ _ | assumption | (refine Below.setCell ?_ (by first | omega | (simp <;> omega)) _) | refine Below.drew ?_ | (refine Below.alloc ?_ (by first | omega | (simp <;> omega)) _) | (refine bel_step ?_ (by assumption) (by first | omega | (simp <;> omega)))))
    · have e : concatV 3 s k' s' = nullV := if_neg fun h => h2 h.2.1
      have e2 : (k' == 3) = false := beq_eq_false_iff_ne.2 h2
      have e3 : (k' != 3) = true := bne_iff_ne.2 h2
      rw [e]
      clear e hs h2
      go_enter Tryd.func23, Tryd.ntmps23
      go_wp2_with (go_at_call 47; refine (value_None _).mono ?_; rintro e w1 ⟨rfl, hb⟩; obtain ⟨hc, hf⟩ := bcell hb; have hz := hb.size; (try simp at hz); have hz0 : w.heap.size < w1.heap.size := (by omega); have hz1 : w.heap.size + 1 < w1.heap.size := (by omega); have hz2 : w.heap.size + 2 < w1.heap.size := (by omega))
      refine bodyPost_ret (v := .agg #[.int .i64 0, .int .i64 0, .string ⟨#[]⟩]) (by simp [results, Tryd.results23, go_sem, *]) rfl ⟨?_, ?_⟩
      · rfl
      · (repeat (first | exact Below.refl _ _ | assumption | (refine Below.setCell ?_ (by first | omega | (simp <;> omega)) _) | refine Below.drew ?_ | (refine Below.alloc ?_ (by first | omega | (simp <;> omega)) _) | (refine bel_step ?_ (by assumption) (by first | omega | (simp <;> omega)))))
  · have e : concatV k s k' s' = nullV := if_neg fun h => h1 h.1
    have e2 : (k == 3) = false := beq_eq_false_iff_ne.2 h1
    have e3 : (k != 3) = true := bne_iff_ne.2 h1
    rw [e]
    clear e hs h1
    go_enter Tryd.func23, Tryd.ntmps23
    go_wp2_with (go_at_call 47; refine (value_None _).mono ?_; rintro e w1 ⟨rfl, hb⟩; obtain ⟨hc, hf⟩ := bcell hb; have hz := hb.size; (try simp at hz); have hz0 : w.heap.size < w1.heap.size := (by omega); have hz1 : w.heap.size + 1 < w1.heap.size := (by omega); have hz2 : w.heap.size + 2 < w1.heap.size := (by omega))
    refine bodyPost_ret (v := .agg #[.int .i64 0, .int .i64 0, .string ⟨#[]⟩]) (by simp [results, Tryd.results23, go_sem, *]) rfl ⟨?_, ?_⟩
    · rfl
    · (repeat (first | exact Below.refl _ _ | assumption | (refine Below.setCell ?_ (by first | omega | (simp <;> omega)) _) | refine Below.drew ?_ | (refine Below.alloc ?_ (by first | omega | (simp <;> omega)) _) | (refine bel_step ?_ (by assumption) (by first | omega | (simp <;> omega)))))

set_option maxHeartbeats 1600000 in
theorem ref_Concat (k n : Int) (s : ByteArray) (k' n' : Int) (s' : ByteArray) (w : World) (hs : s.size + s'.size ≤ 9223372036854775807) :
    Calls Tryd.prog 24 #[.agg #[.int .i64 k, .int .i64 n, .string s], .agg #[.int .i64 k', .int .i64 n', .string s']] w fun e w' => e = .returned (.agg #[.int .i64 (concatV k s k' s').k, .int .i64 (concatV k s k' s').n, .string (concatV k s k' s').s]) ∧ Below w.heap.size w w' := by
  by_cases h1 : k = 3
  · subst h1
    by_cases h2 : k' = 3
    · subst h2
      have hi : (s.size : Int) + (s'.size : Int) ≤ 9223372036854775807 := by omega
      have hw : wrap64 ((s.size : Int) + (s'.size : Int)) = (s.size : Int) + (s'.size : Int) := by unfold wrap64; omega
      by_cases h3 : s.size + s'.size ≤ 1000
      · have e : concatV 3 s 3 s' = ⟨3, 0, s ++ s'⟩ := if_pos ⟨rfl, rfl, h3⟩
        have hj : ¬ (1000 : Int) < (s.size : Int) + (s'.size : Int) := by omega
        rw [e]
        clear e
        go_enter Tryd.func24, Tryd.ntmps24
        go_wp2_with (go_at_call 36; refine (relstoreref_str _ _).mono ?_; rintro e w1 ⟨rfl, hb⟩; obtain ⟨hc, hf⟩ := bcell hb; have hz := hb.size; (try simp at hz); have hz0 : w.heap.size < w1.heap.size := (by omega); have hz1 : w.heap.size + 1 < w1.heap.size := (by omega); have hz2 : w.heap.size + 2 < w1.heap.size := (by omega))
        refine bodyPost_ret (v := .agg #[.int .i64 3, .int .i64 0, .string (s ++ s')]) (by simp [results, Tryd.results24, go_sem, *]) rfl ⟨?_, ?_⟩
        · rfl
        · (repeat (first | exact Below.refl _ _ | assumption | (refine Below.setCell ?_ (by first | omega | (simp <;> omega)) _) | refine Below.drew ?_ | (refine Below.alloc ?_ (by first | omega | (simp <;> omega)) _) | (refine bel_step ?_ (by assumption) (by first | omega | (simp <;> omega)))))
      · have e : concatV 3 s 3 s' = nullV := if_neg fun h => h3 h.2.2
        have hj : (1000 : Int) < (s.size : Int) + (s'.size : Int) := by omega
        rw [e]
        clear e
        go_enter Tryd.func24, Tryd.ntmps24
        go_wp2_with (go_at_call 32; refine (relstoreref_null _).mono ?_; rintro e w1 ⟨rfl, hb⟩; obtain ⟨hc, hf⟩ := bcell hb; have hz := hb.size; (try simp at hz); have hz0 : w.heap.size < w1.heap.size := (by omega); have hz1 : w.heap.size + 1 < w1.heap.size := (by omega); have hz2 : w.heap.size + 2 < w1.heap.size := (by omega))
        refine bodyPost_ret (v := .agg #[.int .i64 0, .int .i64 0, .string ⟨#[]⟩]) (by simp [results, Tryd.results24, go_sem, *]) rfl ⟨?_, ?_⟩
        · rfl
        · (repeat (first | exact Below.refl _ _ | assumption | (refine Below.setCell ?_ (by first | omega | (simp <;> omega)) _) | refine Below.drew ?_ | (refine Below.alloc ?_ (by first | omega | (simp <;> omega)) _) | (refine bel_step ?_ (by assumption) (by first | omega | (simp <;> omega)))))
    · have e : concatV 3 s k' s' = nullV := if_neg fun h => h2 h.2.1
      have e2 : (k' == 3) = false := beq_eq_false_iff_ne.2 h2
      have e3 : (k' != 3) = true := bne_iff_ne.2 h2
      rw [e]
      clear e hs h2
      go_enter Tryd.func24, Tryd.ntmps24
      go_wp2_with (go_at_call 32; refine (relstoreref_null _).mono ?_; rintro e w1 ⟨rfl, hb⟩; obtain ⟨hc, hf⟩ := bcell hb; have hz := hb.size; (try simp at hz); have hz0 : w.heap.size < w1.heap.size := (by omega); have hz1 : w.heap.size + 1 < w1.heap.size := (by omega); have hz2 : w.heap.size + 2 < w1.heap.size := (by omega))
      refine bodyPost_ret (v := .agg #[.int .i64 0, .int .i64 0, .string ⟨#[]⟩]) (by simp [results, Tryd.results24, go_sem, *]) rfl ⟨?_, ?_⟩
      · rfl
      · (repeat (first | exact Below.refl _ _ | assumption | (refine Below.setCell ?_ (by first | omega | (simp <;> omega)) _) | refine Below.drew ?_ | (refine Below.alloc ?_ (by first | omega | (simp <;> omega)) _) | (refine bel_step ?_ (by assumption) (by first | omega | (simp <;> omega)))))
  · have e : concatV k s k' s' = nullV := if_neg fun h => h1 h.1
    have e2 : (k == 3) = false := beq_eq_false_iff_ne.2 h1
    have e3 : (k != 3) = true := bne_iff_ne.2 h1
    rw [e]
    clear e hs h1
    go_enter Tryd.func24, Tryd.ntmps24
    go_wp2_with (go_at_call 32; refine (relstoreref_null _).mono ?_; rintro e w1 ⟨rfl, hb⟩; obtain ⟨hc, hf⟩ := bcell hb; have hz := hb.size; (try simp at hz); have hz0 : w.heap.size < w1.heap.size := (by omega); have hz1 : w.heap.size + 1 < w1.heap.size := (by omega); have hz2 : w.heap.size + 2 < w1.heap.size := (by omega))
    refine bodyPost_ret (v := .agg #[.int .i64 0, .int .i64 0, .string ⟨#[]⟩]) (by simp [results, Tryd.results24, go_sem, *]) rfl ⟨?_, ?_⟩
    · rfl
    · (repeat (first | exact Below.refl _ _ | assumption | (refine Below.setCell ?_ (by first | omega | (simp <;> omega)) _) | refine Below.drew ?_ | (refine Below.alloc ?_ (by first | omega | (simp <;> omega)) _) | (refine bel_step ?_ (by assumption) (by first | omega | (simp <;> omega)))))

end Go.Proofs.YtlkkpgdgnnknpaaDoor
