/-
  relstorekeep.ValueLikes returns true: what fits two patterns, one behind the other, fits both as one; a text without marks fits itself, and with % behind it what begins so. No condition.
-/
import Derived.Test.YtlkkpgdgnnknpaaOpen
import Derived.Test.YtlkkpgdgnnknpaaLike2
namespace Go.Proofs.Ytlkkpgdgnnknpaa
open Go.ChangeShapes Go.WideShapes Go.ChangeAt Go.RowKit
set_option linter.unusedVariables false

theorem keep_fits_to {s p : ByteArray} {r : Bool} (hr : r = true ↔ Fit s.data.toList p.data.toList) (hs : s.size ≤ 9223372036854775807) (hp : p.size ≤ 9223372036854775807) :
    Hid (∀ w, Calls Try.prog 14 #[.string s, .string p] w fun e w' => e = .returned (.bool r) ∧ Below w.heap.size w w') := fun w => keep_fits s p r hr w hs hp
theorem cat_data (a b : ByteArray) : (a ++ b).data.toList = a.data.toList ++ b.data.toList := by simp [ByteArray.data_append]
theorem cat_size (a b : ByteArray) : (a ++ b).size = a.size + b.size := by simp
theorem some_iff (l : Bs) : (!(l == [])) = true ↔ l ≠ [] := by cases l <;> simp
theorem fit_any_mid {s t g h : Bs} (h1 : Fit s g) (h2 : Fit t h) : Fit (s ++ t) (g ++ [pct] ++ h) := by
  have h3 : Fit t ([pct] ++ h) := by
    rw [List.singleton_append, fit_pct]
    exact ⟨0, Nat.zero_le _, by simpa using h2⟩
  rw [List.append_assoc]
  exact fit_append h1 h3
theorem empty_iff (a : ByteArray) : a.data.toList = [] ↔ a.toList = [] := by rw [Lib.toList_data]

set_option maxHeartbeats 6400000 in
theorem law_ValueLikes (a b p q : ByteArray) (w : World) (ha : a.size ≤ 140737488351232) (hb : b.size ≤ 140737488351232) (hp : p.size ≤ 140737488351232) (hq : q.size ≤ 140737488351232) :
    Calls Try.prog 4 #[.string a, .string b, .string p, .string q] w fun e w' => e = .returned (.bool true) ∧ Below w.heap.size w w' := by
  have F1 := keep_fits_to (s := a) (p := ⟨#[37]⟩) (r := true) (by simp; exact fit_any _) (by omega) (by decide)
  have F2 := keep_fits_to (s := ⟨#[]⟩) (p := ⟨#[95]⟩) (r := false) (by simp; exact fit_one) (by decide) (by decide)
  have F3 := keep_fits_to (s := a) (p := ⟨#[95, 37]⟩) (r := !(a.toList == [])) (by rw [Lib.toList_data]; exact (some_iff _).trans (fit_some _).symm) (by omega) (by decide)
  have u1 : a.size + b.size ≤ 9223372036854775807 := by omega
  have u2 : p.size + q.size ≤ 9223372036854775807 := by omega
  have u3 : p.size + 1 ≤ 9223372036854775807 := by omega
  have u4 : p.size + 1 + q.size ≤ 9223372036854775807 := by omega
  have M := fun w => keep_marked p w (by omega)
  have ST := Lib.hid (fun w => keep_starts a p w (by omega) (by omega))
  have u5 : a.size ≤ 9223372036854775807 := by omega
  have u6 : b.size ≤ 9223372036854775807 := by omega
  have u7 : p.size ≤ 9223372036854775807 := by omega
  have u8 : q.size ≤ 9223372036854775807 := by omega
  by_cases h5 : Fit a.data.toList p.data.toList
  · by_cases h6 : Fit b.data.toList q.data.toList
    · have F5 := keep_fits_to (r := true) (show true = true ↔ _ by simp [h5]) u5 u7
      have F6 := keep_fits_to (r := true) (show true = true ↔ _ by simp [h6]) u6 u8
      have F7 := keep_fits_to (s := a ++ b) (p := p ++ q) (r := true) (by simp only [cat_data, true_iff]; exact fit_append h5 h6) (by rw [cat_size]; exact u1) (by rw [cat_size]; exact u2)
      have F8 := keep_fits_to (s := a ++ b) (p := p ++ ⟨#[37]⟩ ++ q) (r := true) (by simp only [cat_data, true_iff]; exact fit_any_mid h5 h6) (by rw [cat_size]; exact u1) (by rw [cat_size, cat_size]; exact u4)
      by_cases hm : markB p.data.toList = true
      · rw [hm] at M
        have HM := Lib.hid M; clear M hm
        clear h5 h6
        go_enter Try.func4, Try.ntmps4
        go_wp2_with (first | (go_at_call 14; (with_reducible refine (F1.out _).mono ?_); rintro e w1 ⟨rfl, hb⟩; obtain ⟨hc, hf⟩ := bcell hb; have hz := hb.size; (try simp at hz)) | (go_at_call 14; (with_reducible refine (F2.out _).mono ?_); rintro e w1 ⟨rfl, hb⟩; obtain ⟨hc, hf⟩ := bcell hb; have hz := hb.size; (try simp at hz)) | (go_at_call 14; (with_reducible refine (F3.out _).mono ?_); rintro e w1 ⟨rfl, hb⟩; obtain ⟨hc, hf⟩ := bcell hb; have hz := hb.size; (try simp at hz)) | (go_at_call 14; (with_reducible refine (F5.out _).mono ?_); rintro e w1 ⟨rfl, hb⟩; obtain ⟨hc, hf⟩ := bcell hb; have hz := hb.size; (try simp at hz)) | (go_at_call 14; (with_reducible refine (F6.out _).mono ?_); rintro e w1 ⟨rfl, hb⟩; obtain ⟨hc, hf⟩ := bcell hb; have hz := hb.size; (try simp at hz)) | (go_at_call 14; (with_reducible refine (F7.out _).mono ?_); rintro e w1 ⟨rfl, hb⟩; obtain ⟨hc, hf⟩ := bcell hb; have hz := hb.size; (try simp at hz)) | (go_at_call 14; (with_reducible refine (F8.out _).mono ?_); rintro e w1 ⟨rfl, hb⟩; obtain ⟨hc, hf⟩ := bcell hb; have hz := hb.size; (try simp at hz)) | (go_at_call 15; refine (HM.out _).mono ?_; rintro e w1 ⟨rfl, rfl⟩) | (go_at_call 16; refine (ST.out _).mono ?_; rintro e w1 ⟨rfl, rfl⟩))
        go_ret
        exact ⟨rfl, by (repeat (first | exact Below.refl _ _ | (refine Below.setCell ?_ (by first | omega | (simp <;> omega)) _) | refine Below.drew ?_ | (refine Below.alloc ?_ (by first | omega | (simp <;> omega)) _) | (refine bel_step ?_ (by assumption) (by first | omega | (simp <;> omega)))))⟩
      · have hm' : markB p.data.toList = false := by simpa using hm
        rw [hm'] at M
        have HM := Lib.hid M; clear M
        have F4 := keep_fits_to (s := p) (p := p) (r := true) (by simp only [true_iff]; exact fit_self hm') u7 u7
        have F9 := keep_fits_to (s := a) (p := p ++ ⟨#[37]⟩) (r := decide (p.size ≤ a.size ∧ a.data.toList.take p.size = p.data.toList)) (by rw [decide_eq_true_eq, cat_data]; exact (fit_starts (p := p.data.toList) (s := a.data.toList) hm').symm) u5 (by rw [cat_size]; exact u3)
        have g5 : (a.toList == p.toList) = true := by rw [Lib.toList_data, Lib.toList_data, (fit_eq hm').1 h5]; simp
        clear hm hm' h5 h6
        go_enter Try.func4, Try.ntmps4
        go_wp2_with (first | (go_at_call 14; (with_reducible refine (F1.out _).mono ?_); rintro e w1 ⟨rfl, hb⟩; obtain ⟨hc, hf⟩ := bcell hb; have hz := hb.size; (try simp at hz)) | (go_at_call 14; (with_reducible refine (F2.out _).mono ?_); rintro e w1 ⟨rfl, hb⟩; obtain ⟨hc, hf⟩ := bcell hb; have hz := hb.size; (try simp at hz)) | (go_at_call 14; (with_reducible refine (F3.out _).mono ?_); rintro e w1 ⟨rfl, hb⟩; obtain ⟨hc, hf⟩ := bcell hb; have hz := hb.size; (try simp at hz)) | (go_at_call 14; (with_reducible refine (F5.out _).mono ?_); rintro e w1 ⟨rfl, hb⟩; obtain ⟨hc, hf⟩ := bcell hb; have hz := hb.size; (try simp at hz)) | (go_at_call 14; (with_reducible refine (F6.out _).mono ?_); rintro e w1 ⟨rfl, hb⟩; obtain ⟨hc, hf⟩ := bcell hb; have hz := hb.size; (try simp at hz)) | (go_at_call 14; (with_reducible refine (F7.out _).mono ?_); rintro e w1 ⟨rfl, hb⟩; obtain ⟨hc, hf⟩ := bcell hb; have hz := hb.size; (try simp at hz)) | (go_at_call 14; (with_reducible refine (F8.out _).mono ?_); rintro e w1 ⟨rfl, hb⟩; obtain ⟨hc, hf⟩ := bcell hb; have hz := hb.size; (try simp at hz)) | (go_at_call 14; (with_reducible refine (F4.out _).mono ?_); rintro e w1 ⟨rfl, hb⟩; obtain ⟨hc, hf⟩ := bcell hb; have hz := hb.size; (try simp at hz)) | (go_at_call 14; (with_reducible refine (F9.out _).mono ?_); rintro e w1 ⟨rfl, hb⟩; obtain ⟨hc, hf⟩ := bcell hb; have hz := hb.size; (try simp at hz)) | (go_at_call 15; refine (HM.out _).mono ?_; rintro e w1 ⟨rfl, rfl⟩) | (go_at_call 16; refine (ST.out _).mono ?_; rintro e w1 ⟨rfl, rfl⟩))
        go_ret
        exact ⟨rfl, by (repeat (first | exact Below.refl _ _ | (refine Below.setCell ?_ (by first | omega | (simp <;> omega)) _) | refine Below.drew ?_ | (refine Below.alloc ?_ (by first | omega | (simp <;> omega)) _) | (refine bel_step ?_ (by assumption) (by first | omega | (simp <;> omega)))))⟩
    · have F5 := keep_fits_to (r := true) (show true = true ↔ _ by simp [h5]) u5 u7
      have F6 := keep_fits_to (r := false) (show false = true ↔ _ by simp [h6]) u6 u8
      by_cases hm : markB p.data.toList = true
      · rw [hm] at M
        have HM := Lib.hid M; clear M hm
        clear h5 h6
        go_enter Try.func4, Try.ntmps4
        go_wp2_with (first | (go_at_call 14; (with_reducible refine (F1.out _).mono ?_); rintro e w1 ⟨rfl, hb⟩; obtain ⟨hc, hf⟩ := bcell hb; have hz := hb.size; (try simp at hz)) | (go_at_call 14; (with_reducible refine (F2.out _).mono ?_); rintro e w1 ⟨rfl, hb⟩; obtain ⟨hc, hf⟩ := bcell hb; have hz := hb.size; (try simp at hz)) | (go_at_call 14; (with_reducible refine (F3.out _).mono ?_); rintro e w1 ⟨rfl, hb⟩; obtain ⟨hc, hf⟩ := bcell hb; have hz := hb.size; (try simp at hz)) | (go_at_call 14; (with_reducible refine (F5.out _).mono ?_); rintro e w1 ⟨rfl, hb⟩; obtain ⟨hc, hf⟩ := bcell hb; have hz := hb.size; (try simp at hz)) | (go_at_call 14; (with_reducible refine (F6.out _).mono ?_); rintro e w1 ⟨rfl, hb⟩; obtain ⟨hc, hf⟩ := bcell hb; have hz := hb.size; (try simp at hz)) | (go_at_call 15; refine (HM.out _).mono ?_; rintro e w1 ⟨rfl, rfl⟩) | (go_at_call 16; refine (ST.out _).mono ?_; rintro e w1 ⟨rfl, rfl⟩))
        go_ret
        exact ⟨rfl, by (repeat (first | exact Below.refl _ _ | (refine Below.setCell ?_ (by first | omega | (simp <;> omega)) _) | refine Below.drew ?_ | (refine Below.alloc ?_ (by first | omega | (simp <;> omega)) _) | (refine bel_step ?_ (by assumption) (by first | omega | (simp <;> omega)))))⟩
      · have hm' : markB p.data.toList = false := by simpa using hm
        rw [hm'] at M
        have HM := Lib.hid M; clear M
        have F4 := keep_fits_to (s := p) (p := p) (r := true) (by simp only [true_iff]; exact fit_self hm') u7 u7
        have F9 := keep_fits_to (s := a) (p := p ++ ⟨#[37]⟩) (r := decide (p.size ≤ a.size ∧ a.data.toList.take p.size = p.data.toList)) (by rw [decide_eq_true_eq, cat_data]; exact (fit_starts (p := p.data.toList) (s := a.data.toList) hm').symm) u5 (by rw [cat_size]; exact u3)
        have g5 : (a.toList == p.toList) = true := by rw [Lib.toList_data, Lib.toList_data, (fit_eq hm').1 h5]; simp
        clear hm hm' h5 h6
        go_enter Try.func4, Try.ntmps4
        go_wp2_with (first | (go_at_call 14; (with_reducible refine (F1.out _).mono ?_); rintro e w1 ⟨rfl, hb⟩; obtain ⟨hc, hf⟩ := bcell hb; have hz := hb.size; (try simp at hz)) | (go_at_call 14; (with_reducible refine (F2.out _).mono ?_); rintro e w1 ⟨rfl, hb⟩; obtain ⟨hc, hf⟩ := bcell hb; have hz := hb.size; (try simp at hz)) | (go_at_call 14; (with_reducible refine (F3.out _).mono ?_); rintro e w1 ⟨rfl, hb⟩; obtain ⟨hc, hf⟩ := bcell hb; have hz := hb.size; (try simp at hz)) | (go_at_call 14; (with_reducible refine (F5.out _).mono ?_); rintro e w1 ⟨rfl, hb⟩; obtain ⟨hc, hf⟩ := bcell hb; have hz := hb.size; (try simp at hz)) | (go_at_call 14; (with_reducible refine (F6.out _).mono ?_); rintro e w1 ⟨rfl, hb⟩; obtain ⟨hc, hf⟩ := bcell hb; have hz := hb.size; (try simp at hz)) | (go_at_call 14; (with_reducible refine (F4.out _).mono ?_); rintro e w1 ⟨rfl, hb⟩; obtain ⟨hc, hf⟩ := bcell hb; have hz := hb.size; (try simp at hz)) | (go_at_call 14; (with_reducible refine (F9.out _).mono ?_); rintro e w1 ⟨rfl, hb⟩; obtain ⟨hc, hf⟩ := bcell hb; have hz := hb.size; (try simp at hz)) | (go_at_call 15; refine (HM.out _).mono ?_; rintro e w1 ⟨rfl, rfl⟩) | (go_at_call 16; refine (ST.out _).mono ?_; rintro e w1 ⟨rfl, rfl⟩))
        go_ret
        exact ⟨rfl, by (repeat (first | exact Below.refl _ _ | (refine Below.setCell ?_ (by first | omega | (simp <;> omega)) _) | refine Below.drew ?_ | (refine Below.alloc ?_ (by first | omega | (simp <;> omega)) _) | (refine bel_step ?_ (by assumption) (by first | omega | (simp <;> omega)))))⟩
  · have F5 := keep_fits_to (r := false) (show false = true ↔ _ by simp [h5]) u5 u7
    by_cases hm : markB p.data.toList = true
    · rw [hm] at M
      have HM := Lib.hid M; clear M hm
      clear h5
      go_enter Try.func4, Try.ntmps4
      go_wp2_with (first | (go_at_call 14; (with_reducible refine (F1.out _).mono ?_); rintro e w1 ⟨rfl, hb⟩; obtain ⟨hc, hf⟩ := bcell hb; have hz := hb.size; (try simp at hz)) | (go_at_call 14; (with_reducible refine (F2.out _).mono ?_); rintro e w1 ⟨rfl, hb⟩; obtain ⟨hc, hf⟩ := bcell hb; have hz := hb.size; (try simp at hz)) | (go_at_call 14; (with_reducible refine (F3.out _).mono ?_); rintro e w1 ⟨rfl, hb⟩; obtain ⟨hc, hf⟩ := bcell hb; have hz := hb.size; (try simp at hz)) | (go_at_call 14; (with_reducible refine (F5.out _).mono ?_); rintro e w1 ⟨rfl, hb⟩; obtain ⟨hc, hf⟩ := bcell hb; have hz := hb.size; (try simp at hz)) | (go_at_call 15; refine (HM.out _).mono ?_; rintro e w1 ⟨rfl, rfl⟩) | (go_at_call 16; refine (ST.out _).mono ?_; rintro e w1 ⟨rfl, rfl⟩))
      go_ret
      exact ⟨rfl, by (repeat (first | exact Below.refl _ _ | (refine Below.setCell ?_ (by first | omega | (simp <;> omega)) _) | refine Below.drew ?_ | (refine Below.alloc ?_ (by first | omega | (simp <;> omega)) _) | (refine bel_step ?_ (by assumption) (by first | omega | (simp <;> omega)))))⟩
    · have hm' : markB p.data.toList = false := by simpa using hm
      rw [hm'] at M
      have HM := Lib.hid M; clear M
      have F4 := keep_fits_to (s := p) (p := p) (r := true) (by simp only [true_iff]; exact fit_self hm') u7 u7
      have F9 := keep_fits_to (s := a) (p := p ++ ⟨#[37]⟩) (r := decide (p.size ≤ a.size ∧ a.data.toList.take p.size = p.data.toList)) (by rw [decide_eq_true_eq, cat_data]; exact (fit_starts (p := p.data.toList) (s := a.data.toList) hm').symm) u5 (by rw [cat_size]; exact u3)
      have g5 : (a.toList == p.toList) = false := by rw [Lib.toList_data, Lib.toList_data, beq_eq_false_iff_ne]; intro e; exact h5 ((fit_eq hm').2 e)
      clear hm hm' h5
      go_enter Try.func4, Try.ntmps4
      go_wp2_with (first | (go_at_call 14; (with_reducible refine (F1.out _).mono ?_); rintro e w1 ⟨rfl, hb⟩; obtain ⟨hc, hf⟩ := bcell hb; have hz := hb.size; (try simp at hz)) | (go_at_call 14; (with_reducible refine (F2.out _).mono ?_); rintro e w1 ⟨rfl, hb⟩; obtain ⟨hc, hf⟩ := bcell hb; have hz := hb.size; (try simp at hz)) | (go_at_call 14; (with_reducible refine (F3.out _).mono ?_); rintro e w1 ⟨rfl, hb⟩; obtain ⟨hc, hf⟩ := bcell hb; have hz := hb.size; (try simp at hz)) | (go_at_call 14; (with_reducible refine (F5.out _).mono ?_); rintro e w1 ⟨rfl, hb⟩; obtain ⟨hc, hf⟩ := bcell hb; have hz := hb.size; (try simp at hz)) | (go_at_call 14; (with_reducible refine (F4.out _).mono ?_); rintro e w1 ⟨rfl, hb⟩; obtain ⟨hc, hf⟩ := bcell hb; have hz := hb.size; (try simp at hz)) | (go_at_call 14; (with_reducible refine (F9.out _).mono ?_); rintro e w1 ⟨rfl, hb⟩; obtain ⟨hc, hf⟩ := bcell hb; have hz := hb.size; (try simp at hz)) | (go_at_call 15; refine (HM.out _).mono ?_; rintro e w1 ⟨rfl, rfl⟩) | (go_at_call 16; refine (ST.out _).mono ?_; rintro e w1 ⟨rfl, rfl⟩))
      go_ret
      exact ⟨rfl, by (repeat (first | exact Below.refl _ _ | (refine Below.setCell ?_ (by first | omega | (simp <;> omega)) _) | refine Below.drew ?_ | (refine Below.alloc ?_ (by first | omega | (simp <;> omega)) _) | (refine bel_step ?_ (by assumption) (by first | omega | (simp <;> omega)))))⟩

set_option maxRecDepth 100000 in
theorem liftedValueLikes (os : Os) (started : os.Started) (H : Type) (enc : TypeId × Value → H) :
    ReturnsInHanded {} Try.checked os 4 .any (Rows.valueLikesSpec.pre6 enc Try.prog Try.f4 Rows.valueLikesRow.domain false) (Rows.valueLikesSpec.post enc Try.prog Try.f4 false true false false) := by
  refine returnsInHanded_of_change_sized (C := Try.checked) own started (by kernel_rfl) Try.func4
    (ChangeSpec.witness6 (enc := enc) (C := Try.checked) false ⟨#[], #[.string ByteArray.empty, .string ByteArray.empty, .string ByteArray.empty, .string ByteArray.empty], []⟩ 8 (by kernel_rfl) (by kernel_rfl) (by kernel_rfl) (by kernel_rfl)) ?_
  intro W base args ds gs before hval0 hW hcnd hsz0 _
  have hval : ∀ (j : Nat) t v, Try.f4.params[j]? = some t → args[j]? = some v → Value.okWide Try.prog W .any base t v := hval0
  have hW' := hW
  obtain ⟨p, q, hA0, hV, rfl, hfz, hnd⟩ := hW
  have hA : DataW.TrodAll enc Try.prog W 0 (fun _ => true) true Try.f4.params.toList args.toList ds p := hA0
  have hsz : (DataW.weightsEach Try.prog (Try.f4.params.toList ++ Rows.valueLikesSpec.plain.varTypes Try.prog) (ds ++ gs)).all (· ≤ reachBytes) = true := hsz0
  rw [Try.params4] at hA hval hsz
  obtain ⟨v0, vs0, d0, ds0, p0, q0, hargs, rfl, rfl, h0, r0⟩ := trodAll_cons hA
  obtain ⟨v1, vs1, d1, ds1, p1, q1, rfl, rfl, rfl, h1, r1⟩ := trodAll_cons r0
  obtain ⟨v2, vs2, d2, ds2, p2, q2, rfl, rfl, rfl, h2, r2⟩ := trodAll_cons r1
  obtain ⟨v3, vs3, d3, ds3, p3, q3, rfl, rfl, rfl, h3, r3⟩ := trodAll_cons r2
  obtain ⟨rfl, rfl, rfl⟩ := trodAll_nil r3
  obtain rfl : args = #[v0, v1, v2, v3] := by cases args; simp_all
  obtain ⟨rfl, rfl⟩ := trodVars_none hV
  have lt0 : ∀ x ∈ p0, x.block < W.heap.size := by obtain ⟨m, hm⟩ := h0; exact DataW.trod_lt m _ _ _ hm
  have k0 := h0
  obtain ⟨a0, rfl, e0, _, w0⟩ := Go.ChangeMaps.open_string Try.underlying9 (hval 0 9 v0 rfl rfl) h0
  have z0 : a0.size ≤ 140737488351232 := by have := sized_string hsz (j := 0) (t := 9) (bytes := a0.data.toList) rfl (by rw [e0]; rfl); simpa [reachBytes] using this
  have lt1 : ∀ x ∈ p1, x.block < W.heap.size := by obtain ⟨m, hm⟩ := h1; exact DataW.trod_lt m _ _ _ hm
  have k1 := h1
  obtain ⟨a1, rfl, e1, _, w1⟩ := Go.ChangeMaps.open_string Try.underlying9 (hval 1 9 v1 rfl rfl) h1
  have z1 : a1.size ≤ 140737488351232 := by have := sized_string hsz (j := 1) (t := 9) (bytes := a1.data.toList) rfl (by rw [e1]; rfl); simpa [reachBytes] using this
  have lt2 : ∀ x ∈ p2, x.block < W.heap.size := by obtain ⟨m, hm⟩ := h2; exact DataW.trod_lt m _ _ _ hm
  have k2 := h2
  obtain ⟨a2, rfl, e2, _, w2⟩ := Go.ChangeMaps.open_string Try.underlying9 (hval 2 9 v2 rfl rfl) h2
  have z2 : a2.size ≤ 140737488351232 := by have := sized_string hsz (j := 2) (t := 9) (bytes := a2.data.toList) rfl (by rw [e2]; rfl); simpa [reachBytes] using this
  have lt3 : ∀ x ∈ p3, x.block < W.heap.size := by obtain ⟨m, hm⟩ := h3; exact DataW.trod_lt m _ _ _ hm
  have k3 := h3
  obtain ⟨a3, rfl, e3, _, w3⟩ := Go.ChangeMaps.open_string Try.underlying9 (hval 3 9 v3 rfl rfl) h3
  have z3 : a3.size ≤ 140737488351232 := by have := sized_string hsz (j := 3) (t := 9) (bytes := a3.data.toList) rfl (by rw [e3]; rfl); simpa [reachBytes] using this
  clear hA0 hval0 hsz0
  refine (law_ValueLikes a0 a1 a2 a3 W z0 z1 z2 z3).mono fun e W' ⟨he, bel⟩ => ?_
  subst he
  exact ⟨_, rfl, _, _, _, [], _, [], hW', trodAll_mk1 (shut_bool Try.underlying4 _), (trodAll_cons_mk (Below.trod laidOut (by kernel_rfl) (of_decide_eq_true (by kernel_rfl)) k0 bel lt0) (trodAll_cons_mk (Below.trod laidOut (by kernel_rfl) (of_decide_eq_true (by kernel_rfl)) k1 bel lt1) (trodAll_cons_mk (Below.trod laidOut (by kernel_rfl) (of_decide_eq_true (by kernel_rfl)) k2 bel lt2) (trodAll_cons_mk (Below.trod laidOut (by kernel_rfl) (of_decide_eq_true (by kernel_rfl)) k3 bel lt3) trodAll_mk0)))), rfl, bel.frame _, fun h => by cases h⟩

theorem overValueLikes : Rows.valueLikesRow.holds Try.pinned (OpenSpec.ofChange Rows.valueLikesSpec) :=
  OpenClaim.holds_of_wide 4 Try.f4 rfl rfl rfl rfl rfl rfl rfl ⟨rfl, rfl, rfl, rfl, rfl⟩ rfl rfl rfl rfl rfl (by kernel_rfl) Try.func4 (by kernel_rfl)
    (of_decide_eq_true (by kernel_rfl)) (by unfold Func.isWrapper; first | (rw [if_pos (by decide +kernel)]; kernel_rfl) | (rw [if_neg (by decide +kernel)]; exact ⟨rfl, rfl⟩))
    (fun os started H enc _ => liftedValueLikes os started H enc)

theorem valueLikes_holds : Rows.ValueLikesSaid := overValueLikes
#print axioms valueLikes_holds

end Go.Proofs.Ytlkkpgdgnnknpaa
