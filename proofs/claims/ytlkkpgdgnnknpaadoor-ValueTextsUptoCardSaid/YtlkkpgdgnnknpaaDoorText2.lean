/-
  Show of package value and of the reference.
-/
import Derived.Test.YtlkkpgdgnnknpaaDoorText1
import Derived.Lib.LaidTab
import Derived.Lib.AppendIntMem
namespace Go.Proofs.YtlkkpgdgnnknpaaDoor
open Go.RowKit
set_option linter.unusedVariables false
set_option linter.unusedSimpArgs false

def trueS : ByteArray := ⟨#[116, 114, 117, 101]⟩
def falseS : ByteArray := ⟨#[102, 97, 108, 115, 101]⟩
def nullS : ByteArray := ⟨#[110, 117, 108, 108]⟩
/-- a value as a text -/
def showS (k n : Int) (s : ByteArray) : ByteArray :=
  if k = 1 then (if n = 0 then falseS else trueS) else if k = 2 then ⟨(Lib.itoa n).toArray⟩ else if k = 3 then s else nullS

/-- the table of the powers of ten -/
def HasPow (w : World) : Prop := Lib.TabIs Tryd.prog w "internal/strconv.uint64pow10" .u64 Lib.pow10Tab ∧ 3 < w.heap.size

theorem gPow : Tryd.prog.globalNamed "internal/strconv.uint64pow10" = some 3 := by kernel_rfl
theorem HasPow.below {w w' : World} (h : HasPow w) (hb : Below w.heap.size w w') : HasPow w' := by
  obtain ⟨h1, h2⟩ := h
  refine ⟨?_, Nat.lt_of_lt_of_le h2 hb.size⟩
  unfold Lib.TabIs World.var? at h1 ⊢
  rw [gPow] at h1 ⊢
  simp only [Option.bind_some] at h1 ⊢
  rw [hb.block _ h2]
  exact h1

set_option maxHeartbeats 400000 in
theorem text_format (n : Int) (hn : inI n) (w : World) (h : HasPow w) : Calls Tryd.prog 57 #[.int .i64 n, .int .i64 10] w fun e w' => e = .returned (.string ⟨(Lib.itoa n).toArray⟩) ∧ Below w.heap.size w w' :=
  (Tryd.strconv_FormatInt_10 n hn.1 hn.2 w h.1).mono fun e w' ⟨he, k, os, hw⟩ => ⟨he, by
    rw [hw]
    exact Lib.below_grow _ _ (Nat.le_refl _) _ _⟩

set_option maxHeartbeats 1600000 in
theorem value_Show (k n : Int) (s : ByteArray) (hn : inI n) (w : World) (h : HasPow w) : Calls Tryd.prog 29 #[.agg #[.int .i64 k, .int .i64 n, .string s]] w fun e w' => e = .returned (.string (showS k n s)) ∧ Below w.heap.size w w' := by
  have HP := Lib.hid h
  have HN := Lib.hid hn
  have HB0 := Lib.hid (((Below.refl w.heap.size w).alloc (Nat.le_refl _) (.cells #[.int .i64 k, .int .i64 n, .string s] 38)))
  have C := Lib.hid (fun w => value_Clean k n s w)
  clear h hn
  by_cases h1 : k = 1
  · subst h1
    by_cases h0 : n = 0
    · subst h0
      have C2 : Hid (∀ w, Calls Tryd.prog 37 #[.agg #[.int .i64 1, .int .i64 0, .string s]] w fun e w' => e = .returned (.agg #[.int .i64 1, .int .i64 0, .string ⟨#[]⟩]) ∧ Below w.heap.size w w') := C
      go_enter Tryd.func29, Tryd.ntmps29
      go_wp2_with (go_at_call 37; refine (C2.out _).mono ?_; rintro e w1 ⟨rfl, hb⟩; obtain ⟨hc, hf⟩ := bcell hb; have hz := hb.size; (try simp at hz); have hz0 : w.heap.size < w1.heap.size := (by omega))
      go_ret
      exact ⟨rfl, by (repeat (first | exact Below.refl _ _ | assumption | (refine Below.setCell ?_ (by first | omega | (simp <;> omega)) _) | refine Below.drew ?_ | (refine Below.alloc ?_ (by first | omega | (simp <;> omega)) _) | (refine bel_step ?_ (by assumption) (by first | omega | (simp <;> omega)))))⟩
    · have e1 : (n != 0) = true := by simp [bne, h0]
      have C2 : Hid (∀ w, Calls Tryd.prog 37 #[.agg #[.int .i64 1, .int .i64 n, .string s]] w fun e w' => e = .returned (.agg #[.int .i64 1, .int .i64 1, .string ⟨#[]⟩]) ∧ Below w.heap.size w w') := fun w => by
        have := C.out w
        simpa [cleanK, cleanN, cleanS, flagN, e1] using this
      have e : showS 1 n s = trueS := by simp [showS, h0]
      rw [e]
      go_enter Tryd.func29, Tryd.ntmps29
      go_wp2_with (go_at_call 37; refine (C2.out _).mono ?_; rintro e w1 ⟨rfl, hb⟩; obtain ⟨hc, hf⟩ := bcell hb; have hz := hb.size; (try simp at hz); have hz0 : w.heap.size < w1.heap.size := (by omega))
      go_ret
      exact ⟨rfl, by (repeat (first | exact Below.refl _ _ | assumption | (refine Below.setCell ?_ (by first | omega | (simp <;> omega)) _) | refine Below.drew ?_ | (refine Below.alloc ?_ (by first | omega | (simp <;> omega)) _) | (refine bel_step ?_ (by assumption) (by first | omega | (simp <;> omega)))))⟩
  · by_cases h2 : k = 2
    · subst h2
      have C2 : Hid (∀ w, Calls Tryd.prog 37 #[.agg #[.int .i64 2, .int .i64 n, .string s]] w fun e w' => e = .returned (.agg #[.int .i64 2, .int .i64 n, .string ⟨#[]⟩]) ∧ Below w.heap.size w w') := C
      obtain ⟨R, hR⟩ : ∃ R : ByteArray, showS 2 n s = R := ⟨_, rfl⟩
      have F := Lib.hid (fun w (h : HasPow w) => text_format n HN.out w h)
      have e : (⟨(Lib.itoa n).toArray⟩ : ByteArray) = R := hR
      rw [e] at F
      rw [hR]
      clear e hR
      go_enter Tryd.func29, Tryd.ntmps29
      go_wp2_with (first | (go_at_call 37; refine (C2.out _).mono ?_; rintro e w1 ⟨rfl, hb⟩; obtain ⟨hc, hf⟩ := bcell hb; have hz := hb.size; (try simp at hz); have hz0 : w.heap.size < w1.heap.size := (by omega)) | (go_at_call 57; go_loud (refine (F.out _ (HP.out.below (by (repeat (first | exact Below.refl _ _ | assumption | (refine Below.setCell ?_ (by first | omega | (simp <;> omega)) _) | refine Below.drew ?_ | (refine Below.alloc ?_ (by first | omega | (simp <;> omega)) _) | (refine bel_step ?_ (by assumption) (by first | omega | (simp <;> omega)))))))).mono ?_); rintro e w2 ⟨rfl, hb2⟩))
      go_ret
      exact ⟨rfl, by (repeat (first | exact Below.refl _ _ | assumption | (refine Below.setCell ?_ (by first | omega | (simp <;> omega)) _) | refine Below.drew ?_ | (refine Below.alloc ?_ (by first | omega | (simp <;> omega)) _) | (refine bel_step ?_ (by assumption) (by first | omega | (simp <;> omega)))))⟩
    · by_cases h3 : k = 3
      · subst h3
        have C2 : Hid (∀ w, Calls Tryd.prog 37 #[.agg #[.int .i64 3, .int .i64 n, .string s]] w fun e w' => e = .returned (.agg #[.int .i64 3, .int .i64 0, .string s]) ∧ Below w.heap.size w w') := C
        go_enter Tryd.func29, Tryd.ntmps29
        go_wp2_with (go_at_call 37; refine (C2.out _).mono ?_; rintro e w1 ⟨rfl, hb⟩; obtain ⟨hc, hf⟩ := bcell hb; have hz := hb.size; (try simp at hz); have hz0 : w.heap.size < w1.heap.size := (by omega))
        go_ret
        exact ⟨rfl, by (repeat (first | exact Below.refl _ _ | assumption | (refine Below.setCell ?_ (by first | omega | (simp <;> omega)) _) | refine Below.drew ?_ | (refine Below.alloc ?_ (by first | omega | (simp <;> omega)) _) | (refine bel_step ?_ (by assumption) (by first | omega | (simp <;> omega)))))⟩
      · have C2 : Hid (∀ w, Calls Tryd.prog 37 #[.agg #[.int .i64 k, .int .i64 n, .string s]] w fun e w' => e = .returned (.agg #[.int .i64 0, .int .i64 0, .string ⟨#[]⟩]) ∧ Below w.heap.size w w') := fun w => by
          have := C.out w
          simpa [cleanK, cleanN, cleanS, h1, h2, h3] using this
        have e : showS k n s = nullS := by simp [showS, h1, h2, h3]
        rw [e]
        go_enter Tryd.func29, Tryd.ntmps29
        go_wp2_with (go_at_call 37; refine (C2.out _).mono ?_; rintro e w1 ⟨rfl, hb⟩; obtain ⟨hc, hf⟩ := bcell hb; have hz := hb.size; (try simp at hz); have hz0 : w.heap.size < w1.heap.size := (by omega))
        go_ret
        exact ⟨rfl, by (repeat (first | exact Below.refl _ _ | assumption | (refine Below.setCell ?_ (by first | omega | (simp <;> omega)) _) | refine Below.drew ?_ | (refine Below.alloc ?_ (by first | omega | (simp <;> omega)) _) | (refine bel_step ?_ (by assumption) (by first | omega | (simp <;> omega)))))⟩

set_option maxHeartbeats 1600000 in
theorem ref_Show (k n : Int) (s : ByteArray) (hn : inI n) (w : World) (h : HasPow w) : Calls Tryd.prog 30 #[.agg #[.int .i64 k, .int .i64 n, .string s]] w fun e w' => e = .returned (.string (showS k n s)) ∧ Below w.heap.size w w' := by
  have HP := Lib.hid h
  have HN := Lib.hid hn
  have HB0 := Lib.hid (((Below.refl w.heap.size w).alloc (Nat.le_refl _) (.cells #[.int .i64 k, .int .i64 n, .string s] 38)))
  have C := Lib.hid (fun w => relstoreref_Clean k n s w)
  clear h hn
  by_cases h1 : k = 1
  · subst h1
    by_cases h0 : n = 0
    · subst h0
      have C2 : Hid (∀ w, Calls Tryd.prog 40 #[.agg #[.int .i64 1, .int .i64 0, .string s]] w fun e w' => e = .returned (.agg #[.int .i64 1, .int .i64 0, .string ⟨#[]⟩]) ∧ Below w.heap.size w w') := C
      go_enter Tryd.func30, Tryd.ntmps30
      go_wp2_with (go_at_call 40; refine (C2.out _).mono ?_; rintro e w1 ⟨rfl, hb⟩; obtain ⟨hc, hf⟩ := bcell hb; have hz := hb.size; (try simp at hz); have hz0 : w.heap.size < w1.heap.size := (by omega))
      go_ret
      exact ⟨rfl, by (repeat (first | exact Below.refl _ _ | assumption | (refine Below.setCell ?_ (by first | omega | (simp <;> omega)) _) | refine Below.drew ?_ | (refine Below.alloc ?_ (by first | omega | (simp <;> omega)) _) | (refine bel_step ?_ (by assumption) (by first | omega | (simp <;> omega)))))⟩
    · have e1 : (n != 0) = true := by simp [bne, h0]
      have C2 : Hid (∀ w, Calls Tryd.prog 40 #[.agg #[.int .i64 1, .int .i64 n, .string s]] w fun e w' => e = .returned (.agg #[.int .i64 1, .int .i64 1, .string ⟨#[]⟩]) ∧ Below w.heap.size w w') := fun w => by
        have := C.out w
        simpa [cleanK, cleanN, cleanS, flagN, e1] using this
      have e : showS 1 n s = trueS := by simp [showS, h0]
      rw [e]
      go_enter Tryd.func30, Tryd.ntmps30
      go_wp2_with (go_at_call 40; refine (C2.out _).mono ?_; rintro e w1 ⟨rfl, hb⟩; obtain ⟨hc, hf⟩ := bcell hb; have hz := hb.size; (try simp at hz); have hz0 : w.heap.size < w1.heap.size := (by omega))
      go_ret
      exact ⟨rfl, by (repeat (first | exact Below.refl _ _ | assumption | (refine Below.setCell ?_ (by first | omega | (simp <;> omega)) _) | refine Below.drew ?_ | (refine Below.alloc ?_ (by first | omega | (simp <;> omega)) _) | (refine bel_step ?_ (by assumption) (by first | omega | (simp <;> omega)))))⟩
  · by_cases h2 : k = 2
    · subst h2
      have C2 : Hid (∀ w, Calls Tryd.prog 40 #[.agg #[.int .i64 2, .int .i64 n, .string s]] w fun e w' => e = .returned (.agg #[.int .i64 2, .int .i64 n, .string ⟨#[]⟩]) ∧ Below w.heap.size w w') := C
      obtain ⟨R, hR⟩ : ∃ R : ByteArray, showS 2 n s = R := ⟨_, rfl⟩
      have F := Lib.hid (fun w (h : HasPow w) => text_format n HN.out w h)
      have e : (⟨(Lib.itoa n).toArray⟩ : ByteArray) = R := hR
      rw [e] at F
      rw [hR]
      clear e hR
      go_enter Tryd.func30, Tryd.ntmps30
      go_wp2_with (first | (go_at_call 40; refine (C2.out _).mono ?_; rintro e w1 ⟨rfl, hb⟩; obtain ⟨hc, hf⟩ := bcell hb; have hz := hb.size; (try simp at hz); have hz0 : w.heap.size < w1.heap.size := (by omega)) | (go_at_call 57; go_loud (refine (F.out _ (HP.out.below (by (repeat (first | exact Below.refl _ _ | assumption | (refine Below.setCell ?_ (by first | omega | (simp <;> omega)) _) | refine Below.drew ?_ | (refine Below.alloc ?_ (by first | omega | (simp <;> omega)) _) | (refine bel_step ?_ (by assumption) (by first | omega | (simp <;> omega)))))))).mono ?_); rintro e w2 ⟨rfl, hb2⟩))
      go_ret
      exact ⟨rfl, by (repeat (first | exact Below.refl _ _ | assumption | (refine Below.setCell ?_ (by first | omega | (simp <;> omega)) _) | refine Below.drew ?_ | (refine Below.alloc ?_ (by first | omega | (simp <;> omega)) _) | (refine bel_step ?_ (by assumption) (by first | omega | (simp <;> omega)))))⟩
    · by_cases h3 : k = 3
      · subst h3
        have C2 : Hid (∀ w, Calls Tryd.prog 40 #[.agg #[.int .i64 3, .int .i64 n, .string s]] w fun e w' => e = .returned (.agg #[.int .i64 3, .int .i64 0, .string s]) ∧ Below w.heap.size w w') := C
        go_enter Tryd.func30, Tryd.ntmps30
        go_wp2_with (go_at_call 40; refine (C2.out _).mono ?_; rintro e w1 ⟨rfl, hb⟩; obtain ⟨hc, hf⟩ := bcell hb; have hz := hb.size; (try simp at hz); have hz0 : w.heap.size < w1.heap.size := (by omega))
        go_ret
        exact ⟨rfl, by (repeat (first | exact Below.refl _ _ | assumption | (refine Below.setCell ?_ (by first | omega | (simp <;> omega)) _) | refine Below.drew ?_ | (refine Below.alloc ?_ (by first | omega | (simp <;> omega)) _) | (refine bel_step ?_ (by assumption) (by first | omega | (simp <;> omega)))))⟩
      · have C2 : Hid (∀ w, Calls Tryd.prog 40 #[.agg #[.int .i64 k, .int .i64 n, .string s]] w fun e w' => e = .returned (.agg #[.int .i64 0, .int .i64 0, .string ⟨#[]⟩]) ∧ Below w.heap.size w w') := fun w => by
          have := C.out w
          simpa [cleanK, cleanN, cleanS, h1, h2, h3] using this
        have e : showS k n s = nullS := by simp [showS, h1, h2, h3]
        rw [e]
        go_enter Tryd.func30, Tryd.ntmps30
        go_wp2_with (go_at_call 40; refine (C2.out _).mono ?_; rintro e w1 ⟨rfl, hb⟩; obtain ⟨hc, hf⟩ := bcell hb; have hz := hb.size; (try simp at hz); have hz0 : w.heap.size < w1.heap.size := (by omega))
        go_ret
        exact ⟨rfl, by (repeat (first | exact Below.refl _ _ | assumption | (refine Below.setCell ?_ (by first | omega | (simp <;> omega)) _) | refine Below.drew ?_ | (refine Below.alloc ?_ (by first | omega | (simp <;> omega)) _) | (refine bel_step ?_ (by assumption) (by first | omega | (simp <;> omega)))))⟩


end Go.Proofs.YtlkkpgdgnnknpaaDoor
