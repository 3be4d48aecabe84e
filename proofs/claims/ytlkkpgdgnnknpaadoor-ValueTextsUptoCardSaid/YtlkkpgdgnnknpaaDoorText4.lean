/-
  Cast of package value and of the reference.
-/
import Derived.Test.YtlkkpgdgnnknpaaDoorText2
import Derived.Test.YtlkkpgdgnnknpaaDoorText3
import Derived.Lib.AtoiErrMem
namespace Go.Proofs.YtlkkpgdgnnknpaaDoor
open Go.RowKit
set_option linter.unusedVariables false
set_option linter.unusedSimpArgs false

/-- a clean value as one of another kind -/
def castC (k n : Int) (s : ByteArray) (kind : Int) : Val :=
  if k = 0 then nullV
  else if kind = 3 then ⟨3, 0, showS k n s⟩
  else if kind = 2 then (if k = 3 then ⟨recK (wholeO s.data.toList), recN (wholeO s.data.toList), ⟨#[]⟩⟩ else ⟨2, n, ⟨#[]⟩⟩)
  else if kind = 1 then (if k = 3 then (if s.data.toList = trueS.data.toList then ⟨1, 1, ⟨#[]⟩⟩ else if s.data.toList = falseS.data.toList then ⟨1, 0, ⟨#[]⟩⟩ else nullV) else if k = 2 then ⟨1, flagN (n != 0), ⟨#[]⟩⟩ else ⟨1, n, ⟨#[]⟩⟩)
  else nullV

/-- a value as one of another kind -/
def castV (k n : Int) (s : ByteArray) (kind : Int) : Val := castC (cleanK k) (cleanN k n) (cleanS k s) kind
theorem zero_in : inI 0 := by unfold inI; omega
theorem flag_in {b : Bool} : inI (flagN b) := by unfold inI flagN; cases b <;> simp
/-- the two errors that ParseInt tells -/
def HasErrs (w : World) : Prop := (∃ te pe, w.cell? ⟨1, 0, none⟩ = some (.iface te pe)) ∧ (∃ te pe, w.cell? ⟨2, 0, none⟩ = some (.iface te pe))
theorem cell_lt {w : World} {g : Nat} {v : Value} (h : w.cell? ⟨g, 0, none⟩ = some v) : g < w.heap.size := by
  rcases Nat.lt_or_ge g w.heap.size with h1 | h1
  · exact h1
  · unfold World.cell? at h
    rw [Array.getElem?_eq_none h1] at h
    cases h
theorem HasErrs.below {w w' : World} (h : HasErrs w) (hb : Below w.heap.size w w') : HasErrs w' := by
  obtain ⟨⟨t, p, h1⟩, ⟨t2, p2, h2⟩⟩ := h
  exact ⟨⟨t, p, (hb.cell (cell_lt h1)).trans h1⟩, ⟨t2, p2, (hb.cell (cell_lt h2)).trans h2⟩⟩

theorem parse_ok (s : ByteArray) (hs : s.size ≤ 2000000) (w : World) (v : Int) (hp : Lib.parseIntB 64 s.data.toList = .ok v) :
    Calls Tryd.prog 55 #[.string s, .int .i64 10, .int .i64 64] w fun e w' => e = .returned (.tuple #[.int .i64 v, .nilIface]) ∧ Below w.heap.size w w' := by
  have h1 : s.size ≤ 9223372036854775806 := by omega
  refine (Tryd.strconv_ParseInt_10_at64_ok s h1 v hp w).mono ?_
  rintro e w' ⟨he, hw⟩
  refine ⟨he, ?_⟩
  rcases hw with rfl | ⟨t, rfl⟩
  · exact Below.refl _ _
  · exact Lib.bytesWorld_below w 5 t
theorem parse_bad (s : ByteArray) (hs : s.size ≤ 2000000) (w : World) (h : HasErrs w) (hp : okO (Lib.parseIntB 64 s.data.toList) = none) :
    Calls Tryd.prog 55 #[.string s, .int .i64 10, .int .i64 64] w fun e w' => ∃ n t N, e = .returned (.tuple #[.int .i64 n, .iface t (.pointer (some ⟨N, 0, none⟩))]) ∧ Below w.heap.size w w' := by
  have h1 : s.size ≤ 281474976710656 := by omega
  obtain ⟨⟨t, p, hc1⟩, ⟨t2, p2, hc2⟩⟩ := h
  cases hq : Lib.parseIntB 64 s.data.toList
  case ok v => rw [hq] at hp; cases hp
  case range =>
    refine (Tryd.strconv_ParseInt_10_at64_range s h1 hq _ w hc2 (.inr ⟨_, _, rfl⟩)).mono ?_
    rintro e w' ⟨N, he, _, _, hb⟩
    exact ⟨_, _, N, he, hb⟩
  · refine (Any.strconv_ParseInt_10_at64_syntax Tryd.laysC174 s h1 hq _ w hc1 (.inr ⟨_, _, rfl⟩)).mono ?_
    rintro e w' ⟨N, he, _, _, hb⟩
    exact ⟨_, _, N, he, hb⟩

theorem plus_ahead {s : ByteArray} (hw : wholeO s.data.toList = none) (hok : ¬ okO (Lib.parseIntB 64 s.data.toList) = none) : ∃ (v : Int) (h : 0 < s.size), ((s[0].toNat : Int) == 43) = true ∧ Lib.parseIntB 64 s.data.toList = .ok v := by
  have h1 := parse_whole s.data.toList
  rw [hw] at h1
  unfold parseO at h1
  by_cases h43 : s.data.toList.head?.map (·.toNat) = some 43
  · have h0 : 0 < s.size := by
      rcases Nat.eq_zero_or_pos s.size with h | h
      · rw [size_nil h] at h43; cases h43
      · exact h
    rw [List.head?_eq_getElem?, byte_at s 0 h0] at h43
    have h2 : s[0].toNat = 43 := Option.some.inj h43
    cases hp : Lib.parseIntB 64 s.data.toList
    case ok v => exact ⟨v, h0, by rw [h2]; rfl, rfl⟩
    all_goals (rw [hp] at hok; exact absurd rfl hok)
  · rw [if_neg h43] at h1; exact absurd h1 hok
theorem no_plus {s : ByteArray} {v : Int} (hw : wholeO s.data.toList = some v) : ∃ (h : 0 < s.size), ((s[0].toNat : Int) == 43) = false ∧ Lib.parseIntB 64 s.data.toList = .ok v := by
  have h0 : 0 < s.size := by
    rcases Nat.eq_zero_or_pos s.size with h | h
    · rw [size_nil h] at hw; cases hw
    · exact h
  have h1 := parse_whole s.data.toList
  rw [hw] at h1
  unfold parseO at h1
  by_cases h43 : s.data.toList.head?.map (·.toNat) = some 43
  · rw [if_pos h43] at h1; cases h1
  · rw [if_neg h43] at h1
    refine ⟨h0, ?_, ?_⟩
    · rw [beq_eq_false_iff_ne]
      intro e
      refine h43 ?_
      rw [List.head?_eq_getElem?, byte_at s 0 h0]
      exact congrArg some (show s[0].toNat = 43 by omega)
    · cases hp : Lib.parseIntB 64 s.data.toList
      case ok u => rw [hp] at h1; cases h1; rfl
      all_goals (rw [hp] at h1; cases h1)
theorem ref_whole (s : ByteArray) (w : World) (hs : s.size ≤ 2000000) :
    Calls Tryd.prog 56 #[.string s] w fun e w' => e = .returned (.agg #[.int .i64 (recK (wholeO s.data.toList)), .int .i64 (recN (wholeO s.data.toList)), .string ⟨#[]⟩]) ∧ Below w.heap.size w w' := by
  by_cases h45 : s.data.toList.head?.map (·.toNat) = some 45
  · have h0 : 0 < s.size := by
      rcases Nat.eq_zero_or_pos s.size with h | h
      · rw [size_nil h] at h45; cases h45
      · exact h
    have hz : (s.extract 1 s.size).size + 1 = s.size := by rw [ByteArray.size_extract]; omega
    have q := ref_whole_neg s (s.extract 1 s.size) w hs h45 h0 rfl hz
    exact q
  · have q := ref_whole_pos s w hs h45
    exact q

set_option maxRecDepth 100000 in
set_option maxHeartbeats 6400000 in
theorem value_Cast01 (k n : Int) (s : ByteArray) (n1 : Int) (hn1 : inI n1) (w : World) (h : HasPow w) (he : HasErrs w) (hs : s.size ≤ 2000000) (C : Hid (∀ w, Calls Tryd.prog 37 #[.agg #[.int .i64 k, .int .i64 n, .string s]] w fun e w' => e = .returned (.agg #[.int .i64 0, .int .i64 0, .string ⟨#[]⟩]) ∧ Below w.heap.size w w')) :
    Calls Tryd.prog 27 #[.agg #[.int .i64 k, .int .i64 n, .string s], .int .i64 1] w fun e w' => e = .returned (.agg #[.int .i64 (castC 0 0 ⟨#[]⟩ 1).k, .int .i64 (castC 0 0 ⟨#[]⟩ 1).n, .string (castC 0 0 ⟨#[]⟩ 1).s]) ∧ Below w.heap.size w w' := by
  have HP := Lib.hid h; have HE := Lib.hid he; have HN := Lib.hid hn1; have HS := Lib.hid hs
  have HX := Lib.hid ((Has.new w 38 #[.int .i64 k, .int .i64 n, .string s]).alloc (.cells #[.int .i64 0, .int .i64 0, .string ⟨#[]⟩] 38))
  clear h he hn1 hs
  have E : castC 0 0 ⟨#[]⟩ 1 = ⟨0, 0, ⟨#[]⟩⟩ := by simp [castC, showS, nullV]
  rw [E]; clear E
  go_enter Tryd.func27, Tryd.ntmps27
  go_wp2_with (first | (go_at_call 37; refine (C.out _).mono ?_; rintro e w1 ⟨rfl, hb⟩; have HX1 := HX.out.belowS hb; obtain ⟨x0, x1, x2⟩ := HX1.cells3; have xf := HX1.frozen; clear HX1; obtain ⟨hc, hf⟩ := bcell hb; have hz := hb.size; (try simp at hz); have hz0 : w.heap.size < w1.heap.size := (by omega); have hz1 : w.heap.size + 1 < w1.heap.size := (by omega)) | (go_at_call 47; refine (value_None _).mono ?_; rintro e w1 ⟨rfl, hb⟩; obtain ⟨hc, hf⟩ := bcell hb; have hz := hb.size; (try simp at hz); have hz0 : w.heap.size < w1.heap.size := (by omega); have hz1 : w.heap.size + 1 < w1.heap.size := (by omega)) | (go_at_call 51; refine (value_Str _ _).mono ?_; rintro e w1 ⟨rfl, hb⟩; obtain ⟨hc, hf⟩ := bcell hb; have hz := hb.size; (try simp at hz); have hz0 : w.heap.size < w1.heap.size := (by omega); have hz1 : w.heap.size + 1 < w1.heap.size := (by omega)) | (go_at_call 48; refine (value_Flag _ _).mono ?_; rintro e w1 ⟨rfl, hb⟩; obtain ⟨hc, hf⟩ := bcell hb; have hz := hb.size; (try simp at hz); have hz0 : w.heap.size < w1.heap.size := (by omega); have hz1 : w.heap.size + 1 < w1.heap.size := (by omega)) | (go_at_call 49; refine (value_Of _ _).mono ?_; rintro e w1 ⟨rfl, hb⟩; obtain ⟨hc, hf⟩ := bcell hb; have hz := hb.size; (try simp at hz); have hz0 : w.heap.size < w1.heap.size := (by omega); have hz1 : w.heap.size + 1 < w1.heap.size := (by omega)))
  refine bodyPost_ret (v := .agg #[.int .i64 0, .int .i64 0, .string ⟨#[]⟩]) (by simp [results, Tryd.results27, go_sem, flagN, *]) rfl ⟨?_, ?_⟩
  · rfl
  · (repeat (first | (with_reducible exact Below.refl _ _) | (with_reducible assumption) | (with_reducible refine Below.setCell ?_ (by first | omega | (simp <;> omega)) _) | (with_reducible refine Below.drew ?_) | (with_reducible refine Below.alloc ?_ (by first | omega | (simp <;> omega)) _) | (with_reducible refine bel_step ?_ (by assumption) (by first | omega | (simp <;> omega)))))

set_option maxRecDepth 100000 in
set_option maxHeartbeats 6400000 in
theorem value_Cast02 (k n : Int) (s : ByteArray) (n1 : Int) (hn1 : inI n1) (w : World) (h : HasPow w) (he : HasErrs w) (hs : s.size ≤ 2000000) (C : Hid (∀ w, Calls Tryd.prog 37 #[.agg #[.int .i64 k, .int .i64 n, .string s]] w fun e w' => e = .returned (.agg #[.int .i64 0, .int .i64 0, .string ⟨#[]⟩]) ∧ Below w.heap.size w w')) :
    Calls Tryd.prog 27 #[.agg #[.int .i64 k, .int .i64 n, .string s], .int .i64 2] w fun e w' => e = .returned (.agg #[.int .i64 (castC 0 0 ⟨#[]⟩ 2).k, .int .i64 (castC 0 0 ⟨#[]⟩ 2).n, .string (castC 0 0 ⟨#[]⟩ 2).s]) ∧ Below w.heap.size w w' := by
  have HP := Lib.hid h; have HE := Lib.hid he; have HN := Lib.hid hn1; have HS := Lib.hid hs
  have HX := Lib.hid ((Has.new w 38 #[.int .i64 k, .int .i64 n, .string s]).alloc (.cells #[.int .i64 0, .int .i64 0, .string ⟨#[]⟩] 38))
  clear h he hn1 hs
  have E : castC 0 0 ⟨#[]⟩ 2 = ⟨0, 0, ⟨#[]⟩⟩ := by simp [castC, showS, nullV]
  rw [E]; clear E
  go_enter Tryd.func27, Tryd.ntmps27
  go_wp2_with (first | (go_at_call 37; refine (C.out _).mono ?_; rintro e w1 ⟨rfl, hb⟩; have HX1 := HX.out.belowS hb; obtain ⟨x0, x1, x2⟩ := HX1.cells3; have xf := HX1.frozen; clear HX1; obtain ⟨hc, hf⟩ := bcell hb; have hz := hb.size; (try simp at hz); have hz0 : w.heap.size < w1.heap.size := (by omega); have hz1 : w.heap.size + 1 < w1.heap.size := (by omega)) | (go_at_call 47; refine (value_None _).mono ?_; rintro e w1 ⟨rfl, hb⟩; obtain ⟨hc, hf⟩ := bcell hb; have hz := hb.size; (try simp at hz); have hz0 : w.heap.size < w1.heap.size := (by omega); have hz1 : w.heap.size + 1 < w1.heap.size := (by omega)) | (go_at_call 51; refine (value_Str _ _).mono ?_; rintro e w1 ⟨rfl, hb⟩; obtain ⟨hc, hf⟩ := bcell hb; have hz := hb.size; (try simp at hz); have hz0 : w.heap.size < w1.heap.size := (by omega); have hz1 : w.heap.size + 1 < w1.heap.size := (by omega)) | (go_at_call 48; refine (value_Flag _ _).mono ?_; rintro e w1 ⟨rfl, hb⟩; obtain ⟨hc, hf⟩ := bcell hb; have hz := hb.size; (try simp at hz); have hz0 : w.heap.size < w1.heap.size := (by omega); have hz1 : w.heap.size + 1 < w1.heap.size := (by omega)) | (go_at_call 49; refine (value_Of _ _).mono ?_; rintro e w1 ⟨rfl, hb⟩; obtain ⟨hc, hf⟩ := bcell hb; have hz := hb.size; (try simp at hz); have hz0 : w.heap.size < w1.heap.size := (by omega); have hz1 : w.heap.size + 1 < w1.heap.size := (by omega)))
  refine bodyPost_ret (v := .agg #[.int .i64 0, .int .i64 0, .string ⟨#[]⟩]) (by simp [results, Tryd.results27, go_sem, flagN, *]) rfl ⟨?_, ?_⟩
  · rfl
  · (repeat (first | (with_reducible exact Below.refl _ _) | (with_reducible assumption) | (with_reducible refine Below.setCell ?_ (by first | omega | (simp <;> omega)) _) | (with_reducible refine Below.drew ?_) | (with_reducible refine Below.alloc ?_ (by first | omega | (simp <;> omega)) _) | (with_reducible refine bel_step ?_ (by assumption) (by first | omega | (simp <;> omega)))))

set_option maxRecDepth 100000 in
set_option maxHeartbeats 6400000 in
theorem value_Cast03 (k n : Int) (s : ByteArray) (n1 : Int) (hn1 : inI n1) (w : World) (h : HasPow w) (he : HasErrs w) (hs : s.size ≤ 2000000) (C : Hid (∀ w, Calls Tryd.prog 37 #[.agg #[.int .i64 k, .int .i64 n, .string s]] w fun e w' => e = .returned (.agg #[.int .i64 0, .int .i64 0, .string ⟨#[]⟩]) ∧ Below w.heap.size w w')) :
    Calls Tryd.prog 27 #[.agg #[.int .i64 k, .int .i64 n, .string s], .int .i64 3] w fun e w' => e = .returned (.agg #[.int .i64 (castC 0 0 ⟨#[]⟩ 3).k, .int .i64 (castC 0 0 ⟨#[]⟩ 3).n, .string (castC 0 0 ⟨#[]⟩ 3).s]) ∧ Below w.heap.size w w' := by
  have HP := Lib.hid h; have HE := Lib.hid he; have HN := Lib.hid hn1; have HS := Lib.hid hs
  have HX := Lib.hid ((Has.new w 38 #[.int .i64 k, .int .i64 n, .string s]).alloc (.cells #[.int .i64 0, .int .i64 0, .string ⟨#[]⟩] 38))
  clear h he hn1 hs
  have E : castC 0 0 ⟨#[]⟩ 3 = ⟨0, 0, ⟨#[]⟩⟩ := by simp [castC, showS, nullV]
  rw [E]; clear E
  go_enter Tryd.func27, Tryd.ntmps27
  go_wp2_with (first | (go_at_call 37; refine (C.out _).mono ?_; rintro e w1 ⟨rfl, hb⟩; have HX1 := HX.out.belowS hb; obtain ⟨x0, x1, x2⟩ := HX1.cells3; have xf := HX1.frozen; clear HX1; obtain ⟨hc, hf⟩ := bcell hb; have hz := hb.size; (try simp at hz); have hz0 : w.heap.size < w1.heap.size := (by omega); have hz1 : w.heap.size + 1 < w1.heap.size := (by omega)) | (go_at_call 47; refine (value_None _).mono ?_; rintro e w1 ⟨rfl, hb⟩; obtain ⟨hc, hf⟩ := bcell hb; have hz := hb.size; (try simp at hz); have hz0 : w.heap.size < w1.heap.size := (by omega); have hz1 : w.heap.size + 1 < w1.heap.size := (by omega)) | (go_at_call 51; refine (value_Str _ _).mono ?_; rintro e w1 ⟨rfl, hb⟩; obtain ⟨hc, hf⟩ := bcell hb; have hz := hb.size; (try simp at hz); have hz0 : w.heap.size < w1.heap.size := (by omega); have hz1 : w.heap.size + 1 < w1.heap.size := (by omega)) | (go_at_call 48; refine (value_Flag _ _).mono ?_; rintro e w1 ⟨rfl, hb⟩; obtain ⟨hc, hf⟩ := bcell hb; have hz := hb.size; (try simp at hz); have hz0 : w.heap.size < w1.heap.size := (by omega); have hz1 : w.heap.size + 1 < w1.heap.size := (by omega)) | (go_at_call 49; refine (value_Of _ _).mono ?_; rintro e w1 ⟨rfl, hb⟩; obtain ⟨hc, hf⟩ := bcell hb; have hz := hb.size; (try simp at hz); have hz0 : w.heap.size < w1.heap.size := (by omega); have hz1 : w.heap.size + 1 < w1.heap.size := (by omega)))
  refine bodyPost_ret (v := .agg #[.int .i64 0, .int .i64 0, .string ⟨#[]⟩]) (by simp [results, Tryd.results27, go_sem, flagN, *]) rfl ⟨?_, ?_⟩
  · rfl
  · (repeat (first | (with_reducible exact Below.refl _ _) | (with_reducible assumption) | (with_reducible refine Below.setCell ?_ (by first | omega | (simp <;> omega)) _) | (with_reducible refine Below.drew ?_) | (with_reducible refine Below.alloc ?_ (by first | omega | (simp <;> omega)) _) | (with_reducible refine bel_step ?_ (by assumption) (by first | omega | (simp <;> omega)))))

set_option maxRecDepth 100000 in
set_option maxHeartbeats 6400000 in
theorem value_Cast00 (k n : Int) (s : ByteArray) (n1 : Int) (kind : Int) (h1 : ¬ kind = 1) (h2 : ¬ kind = 2) (h3 : ¬ kind = 3) (hn1 : inI n1) (w : World) (h : HasPow w) (he : HasErrs w) (hs : s.size ≤ 2000000) (C : Hid (∀ w, Calls Tryd.prog 37 #[.agg #[.int .i64 k, .int .i64 n, .string s]] w fun e w' => e = .returned (.agg #[.int .i64 0, .int .i64 0, .string ⟨#[]⟩]) ∧ Below w.heap.size w w')) :
    Calls Tryd.prog 27 #[.agg #[.int .i64 k, .int .i64 n, .string s], .int .i64 kind] w fun e w' => e = .returned (.agg #[.int .i64 (castC 0 0 ⟨#[]⟩ kind).k, .int .i64 (castC 0 0 ⟨#[]⟩ kind).n, .string (castC 0 0 ⟨#[]⟩ kind).s]) ∧ Below w.heap.size w w' := by
  have HP := Lib.hid h; have HE := Lib.hid he; have HN := Lib.hid hn1; have HS := Lib.hid hs
  have HX := Lib.hid ((Has.new w 38 #[.int .i64 k, .int .i64 n, .string s]).alloc (.cells #[.int .i64 0, .int .i64 0, .string ⟨#[]⟩] 38))
  clear h he hn1 hs
  have E : castC 0 0 ⟨#[]⟩ kind = nullV := by unfold castC; rw [if_pos rfl]
  rw [E]; clear E
  have e1 : (kind == 1) = false := beq_eq_false_iff_ne.2 h1
  have e2 : (kind == 2) = false := beq_eq_false_iff_ne.2 h2
  have e3 : (kind == 3) = false := beq_eq_false_iff_ne.2 h3
  have d1 : ((1 : Int) == kind) = false := beq_eq_false_iff_ne.2 fun e => h1 e.symm
  have d2 : ((2 : Int) == kind) = false := beq_eq_false_iff_ne.2 fun e => h2 e.symm
  have d3 : ((3 : Int) == kind) = false := beq_eq_false_iff_ne.2 fun e => h3 e.symm
  clear h1 h2 h3
  by_cases g0 : kind = 0
  · subst g0
    go_enter Tryd.func27, Tryd.ntmps27
    go_wp2_with (first | (go_at_call 37; refine (C.out _).mono ?_; rintro e w1 ⟨rfl, hb⟩; have HX1 := HX.out.belowS hb; obtain ⟨x0, x1, x2⟩ := HX1.cells3; have xf := HX1.frozen; clear HX1; obtain ⟨hc, hf⟩ := bcell hb; have hz := hb.size; (try simp at hz); have hz0 : w.heap.size < w1.heap.size := (by omega); have hz1 : w.heap.size + 1 < w1.heap.size := (by omega)) | (go_at_call 47; refine (value_None _).mono ?_; rintro e w1 ⟨rfl, hb⟩; obtain ⟨hc, hf⟩ := bcell hb; have hz := hb.size; (try simp at hz); have hz0 : w.heap.size < w1.heap.size := (by omega); have hz1 : w.heap.size + 1 < w1.heap.size := (by omega)) | (go_at_call 51; refine (value_Str _ _).mono ?_; rintro e w1 ⟨rfl, hb⟩; obtain ⟨hc, hf⟩ := bcell hb; have hz := hb.size; (try simp at hz); have hz0 : w.heap.size < w1.heap.size := (by omega); have hz1 : w.heap.size + 1 < w1.heap.size := (by omega)) | (go_at_call 48; refine (value_Flag _ _).mono ?_; rintro e w1 ⟨rfl, hb⟩; obtain ⟨hc, hf⟩ := bcell hb; have hz := hb.size; (try simp at hz); have hz0 : w.heap.size < w1.heap.size := (by omega); have hz1 : w.heap.size + 1 < w1.heap.size := (by omega)) | (go_at_call 49; refine (value_Of _ _).mono ?_; rintro e w1 ⟨rfl, hb⟩; obtain ⟨hc, hf⟩ := bcell hb; have hz := hb.size; (try simp at hz); have hz0 : w.heap.size < w1.heap.size := (by omega); have hz1 : w.heap.size + 1 < w1.heap.size := (by omega)))
    refine bodyPost_ret (v := .agg #[.int .i64 0, .int .i64 0, .string ⟨#[]⟩]) (by simp [results, Tryd.results27, go_sem, flagN, *]) rfl ⟨?_, ?_⟩
    · rfl
    · (repeat (first | (with_reducible exact Below.refl _ _) | (with_reducible assumption) | (with_reducible refine Below.setCell ?_ (by first | omega | (simp <;> omega)) _) | (with_reducible refine Below.drew ?_) | (with_reducible refine Below.alloc ?_ (by first | omega | (simp <;> omega)) _) | (with_reducible refine bel_step ?_ (by assumption) (by first | omega | (simp <;> omega)))))
  · have g1 : ((0 : Int) == kind) = false := beq_eq_false_iff_ne.2 fun e => g0 e.symm
    clear g0
    go_enter Tryd.func27, Tryd.ntmps27
    go_wp2_with (first | (go_at_call 37; refine (C.out _).mono ?_; rintro e w1 ⟨rfl, hb⟩; have HX1 := HX.out.belowS hb; obtain ⟨x0, x1, x2⟩ := HX1.cells3; have xf := HX1.frozen; clear HX1; obtain ⟨hc, hf⟩ := bcell hb; have hz := hb.size; (try simp at hz); have hz0 : w.heap.size < w1.heap.size := (by omega); have hz1 : w.heap.size + 1 < w1.heap.size := (by omega)) | (go_at_call 47; refine (value_None _).mono ?_; rintro e w1 ⟨rfl, hb⟩; obtain ⟨hc, hf⟩ := bcell hb; have hz := hb.size; (try simp at hz); have hz0 : w.heap.size < w1.heap.size := (by omega); have hz1 : w.heap.size + 1 < w1.heap.size := (by omega)) | (go_at_call 51; refine (value_Str _ _).mono ?_; rintro e w1 ⟨rfl, hb⟩; obtain ⟨hc, hf⟩ := bcell hb; have hz := hb.size; (try simp at hz); have hz0 : w.heap.size < w1.heap.size := (by omega); have hz1 : w.heap.size + 1 < w1.heap.size := (by omega)) | (go_at_call 48; refine (value_Flag _ _).mono ?_; rintro e w1 ⟨rfl, hb⟩; obtain ⟨hc, hf⟩ := bcell hb; have hz := hb.size; (try simp at hz); have hz0 : w.heap.size < w1.heap.size := (by omega); have hz1 : w.heap.size + 1 < w1.heap.size := (by omega)) | (go_at_call 49; refine (value_Of _ _).mono ?_; rintro e w1 ⟨rfl, hb⟩; obtain ⟨hc, hf⟩ := bcell hb; have hz := hb.size; (try simp at hz); have hz0 : w.heap.size < w1.heap.size := (by omega); have hz1 : w.heap.size + 1 < w1.heap.size := (by omega)))
    refine bodyPost_ret (v := .agg #[.int .i64 0, .int .i64 0, .string ⟨#[]⟩]) (by simp [results, Tryd.results27, go_sem, flagN, *]) rfl ⟨?_, ?_⟩
    · rfl
    · (repeat (first | (with_reducible exact Below.refl _ _) | (with_reducible assumption) | (with_reducible refine Below.setCell ?_ (by first | omega | (simp <;> omega)) _) | (with_reducible refine Below.drew ?_) | (with_reducible refine Below.alloc ?_ (by first | omega | (simp <;> omega)) _) | (with_reducible refine bel_step ?_ (by assumption) (by first | omega | (simp <;> omega)))))

set_option maxRecDepth 100000 in
set_option maxHeartbeats 6400000 in
theorem value_Cast11 (k n : Int) (s : ByteArray) (n1 : Int) (hn1 : inI n1) (w : World) (h : HasPow w) (he : HasErrs w) (hs : s.size ≤ 2000000) (C : Hid (∀ w, Calls Tryd.prog 37 #[.agg #[.int .i64 k, .int .i64 n, .string s]] w fun e w' => e = .returned (.agg #[.int .i64 1, .int .i64 n1, .string ⟨#[]⟩]) ∧ Below w.heap.size w w')) :
    Calls Tryd.prog 27 #[.agg #[.int .i64 k, .int .i64 n, .string s], .int .i64 1] w fun e w' => e = .returned (.agg #[.int .i64 (castC 1 n1 ⟨#[]⟩ 1).k, .int .i64 (castC 1 n1 ⟨#[]⟩ 1).n, .string (castC 1 n1 ⟨#[]⟩ 1).s]) ∧ Below w.heap.size w w' := by
  have HP := Lib.hid h; have HE := Lib.hid he; have HN := Lib.hid hn1; have HS := Lib.hid hs
  have HX := Lib.hid ((Has.new w 38 #[.int .i64 k, .int .i64 n, .string s]).alloc (.cells #[.int .i64 0, .int .i64 0, .string ⟨#[]⟩] 38))
  clear h he hn1 hs
  have E : castC 1 n1 ⟨#[]⟩ 1 = ⟨1, n1, ⟨#[]⟩⟩ := by simp [castC, showS, nullV]
  rw [E]; clear E
  go_enter Tryd.func27, Tryd.ntmps27
  go_wp2_with (first | (go_at_call 37; refine (C.out _).mono ?_; rintro e w1 ⟨rfl, hb⟩; have HX1 := HX.out.belowS hb; obtain ⟨x0, x1, x2⟩ := HX1.cells3; have xf := HX1.frozen; clear HX1; obtain ⟨hc, hf⟩ := bcell hb; have hz := hb.size; (try simp at hz); have hz0 : w.heap.size < w1.heap.size := (by omega); have hz1 : w.heap.size + 1 < w1.heap.size := (by omega)) | (go_at_call 47; refine (value_None _).mono ?_; rintro e w1 ⟨rfl, hb⟩; obtain ⟨hc, hf⟩ := bcell hb; have hz := hb.size; (try simp at hz); have hz0 : w.heap.size < w1.heap.size := (by omega); have hz1 : w.heap.size + 1 < w1.heap.size := (by omega)) | (go_at_call 51; refine (value_Str _ _).mono ?_; rintro e w1 ⟨rfl, hb⟩; obtain ⟨hc, hf⟩ := bcell hb; have hz := hb.size; (try simp at hz); have hz0 : w.heap.size < w1.heap.size := (by omega); have hz1 : w.heap.size + 1 < w1.heap.size := (by omega)) | (go_at_call 48; refine (value_Flag _ _).mono ?_; rintro e w1 ⟨rfl, hb⟩; obtain ⟨hc, hf⟩ := bcell hb; have hz := hb.size; (try simp at hz); have hz0 : w.heap.size < w1.heap.size := (by omega); have hz1 : w.heap.size + 1 < w1.heap.size := (by omega)) | (go_at_call 49; refine (value_Of _ _).mono ?_; rintro e w1 ⟨rfl, hb⟩; obtain ⟨hc, hf⟩ := bcell hb; have hz := hb.size; (try simp at hz); have hz0 : w.heap.size < w1.heap.size := (by omega); have hz1 : w.heap.size + 1 < w1.heap.size := (by omega)))
  refine bodyPost_ret (v := .agg #[.int .i64 1, .int .i64 n1, .string ⟨#[]⟩]) (by simp [results, Tryd.results27, go_sem, flagN, *]) rfl ⟨?_, ?_⟩
  · rfl
  · (repeat (first | (with_reducible exact Below.refl _ _) | (with_reducible assumption) | (with_reducible refine Below.setCell ?_ (by first | omega | (simp <;> omega)) _) | (with_reducible refine Below.drew ?_) | (with_reducible refine Below.alloc ?_ (by first | omega | (simp <;> omega)) _) | (with_reducible refine bel_step ?_ (by assumption) (by first | omega | (simp <;> omega)))))

set_option maxRecDepth 100000 in
set_option maxHeartbeats 6400000 in
theorem value_Cast12 (k n : Int) (s : ByteArray) (n1 : Int) (hn1 : inI n1) (w : World) (h : HasPow w) (he : HasErrs w) (hs : s.size ≤ 2000000) (C : Hid (∀ w, Calls Tryd.prog 37 #[.agg #[.int .i64 k, .int .i64 n, .string s]] w fun e w' => e = .returned (.agg #[.int .i64 1, .int .i64 n1, .string ⟨#[]⟩]) ∧ Below w.heap.size w w')) :
    Calls Tryd.prog 27 #[.agg #[.int .i64 k, .int .i64 n, .string s], .int .i64 2] w fun e w' => e = .returned (.agg #[.int .i64 (castC 1 n1 ⟨#[]⟩ 2).k, .int .i64 (castC 1 n1 ⟨#[]⟩ 2).n, .string (castC 1 n1 ⟨#[]⟩ 2).s]) ∧ Below w.heap.size w w' := by
  have HP := Lib.hid h; have HE := Lib.hid he; have HN := Lib.hid hn1; have HS := Lib.hid hs
  have HX := Lib.hid ((Has.new w 38 #[.int .i64 k, .int .i64 n, .string s]).alloc (.cells #[.int .i64 0, .int .i64 0, .string ⟨#[]⟩] 38))
  clear h he hn1 hs
  have E : castC 1 n1 ⟨#[]⟩ 2 = ⟨2, n1, ⟨#[]⟩⟩ := by simp [castC, showS, nullV]
  rw [E]; clear E
  go_enter Tryd.func27, Tryd.ntmps27
  go_wp2_with (first | (go_at_call 37; refine (C.out _).mono ?_; rintro e w1 ⟨rfl, hb⟩; have HX1 := HX.out.belowS hb; obtain ⟨x0, x1, x2⟩ := HX1.cells3; have xf := HX1.frozen; clear HX1; obtain ⟨hc, hf⟩ := bcell hb; have hz := hb.size; (try simp at hz); have hz0 : w.heap.size < w1.heap.size := (by omega); have hz1 : w.heap.size + 1 < w1.heap.size := (by omega)) | (go_at_call 47; refine (value_None _).mono ?_; rintro e w1 ⟨rfl, hb⟩; obtain ⟨hc, hf⟩ := bcell hb; have hz := hb.size; (try simp at hz); have hz0 : w.heap.size < w1.heap.size := (by omega); have hz1 : w.heap.size + 1 < w1.heap.size := (by omega)) | (go_at_call 51; refine (value_Str _ _).mono ?_; rintro e w1 ⟨rfl, hb⟩; obtain ⟨hc, hf⟩ := bcell hb; have hz := hb.size; (try simp at hz); have hz0 : w.heap.size < w1.heap.size := (by omega); have hz1 : w.heap.size + 1 < w1.heap.size := (by omega)) | (go_at_call 48; refine (value_Flag _ _).mono ?_; rintro e w1 ⟨rfl, hb⟩; obtain ⟨hc, hf⟩ := bcell hb; have hz := hb.size; (try simp at hz); have hz0 : w.heap.size < w1.heap.size := (by omega); have hz1 : w.heap.size + 1 < w1.heap.size := (by omega)) | (go_at_call 49; refine (value_Of _ _).mono ?_; rintro e w1 ⟨rfl, hb⟩; obtain ⟨hc, hf⟩ := bcell hb; have hz := hb.size; (try simp at hz); have hz0 : w.heap.size < w1.heap.size := (by omega); have hz1 : w.heap.size + 1 < w1.heap.size := (by omega)))
  refine bodyPost_ret (v := .agg #[.int .i64 2, .int .i64 n1, .string ⟨#[]⟩]) (by simp [results, Tryd.results27, go_sem, flagN, *]) rfl ⟨?_, ?_⟩
  · rfl
  · (repeat (first | (with_reducible exact Below.refl _ _) | (with_reducible assumption) | (with_reducible refine Below.setCell ?_ (by first | omega | (simp <;> omega)) _) | (with_reducible refine Below.drew ?_) | (with_reducible refine Below.alloc ?_ (by first | omega | (simp <;> omega)) _) | (with_reducible refine bel_step ?_ (by assumption) (by first | omega | (simp <;> omega)))))

set_option maxRecDepth 100000 in
set_option maxHeartbeats 6400000 in
theorem value_Cast13 (k n : Int) (s : ByteArray) (n1 : Int) (hn1 : inI n1) (w : World) (h : HasPow w) (he : HasErrs w) (hs : s.size ≤ 2000000) (C : Hid (∀ w, Calls Tryd.prog 37 #[.agg #[.int .i64 k, .int .i64 n, .string s]] w fun e w' => e = .returned (.agg #[.int .i64 1, .int .i64 n1, .string ⟨#[]⟩]) ∧ Below w.heap.size w w')) :
    Calls Tryd.prog 27 #[.agg #[.int .i64 k, .int .i64 n, .string s], .int .i64 3] w fun e w' => e = .returned (.agg #[.int .i64 (castC 1 n1 ⟨#[]⟩ 3).k, .int .i64 (castC 1 n1 ⟨#[]⟩ 3).n, .string (castC 1 n1 ⟨#[]⟩ 3).s]) ∧ Below w.heap.size w w' := by
  have HP := Lib.hid h; have HE := Lib.hid he; have HN := Lib.hid hn1; have HS := Lib.hid hs
  have HX := Lib.hid ((Has.new w 38 #[.int .i64 k, .int .i64 n, .string s]).alloc (.cells #[.int .i64 0, .int .i64 0, .string ⟨#[]⟩] 38))
  clear h he hn1 hs
  obtain ⟨R, hR⟩ : ∃ R, showS 1 n1 ⟨#[]⟩ = R := ⟨_, rfl⟩
  have SH := Lib.hid (fun w h => value_Show 1 n1 ⟨#[]⟩ HN.out w h)
  have E : castC 1 n1 ⟨#[]⟩ 3 = ⟨3, 0, R⟩ := by rw [← hR]; simp [castC]
  rw [E]; rw [hR] at SH; clear E hR
  go_enter Tryd.func27, Tryd.ntmps27
  go_wp2_with (first | (go_at_call 37; refine (C.out _).mono ?_; rintro e w1 ⟨rfl, hb⟩; have HX1 := HX.out.belowS hb; obtain ⟨x0, x1, x2⟩ := HX1.cells3; have xf := HX1.frozen; clear HX1; obtain ⟨hc, hf⟩ := bcell hb; have hz := hb.size; (try simp at hz); have hz0 : w.heap.size < w1.heap.size := (by omega); have hz1 : w.heap.size + 1 < w1.heap.size := (by omega)) | (go_at_call 47; refine (value_None _).mono ?_; rintro e w1 ⟨rfl, hb⟩; obtain ⟨hc, hf⟩ := bcell hb; have hz := hb.size; (try simp at hz); have hz0 : w.heap.size < w1.heap.size := (by omega); have hz1 : w.heap.size + 1 < w1.heap.size := (by omega)) | (go_at_call 51; refine (value_Str _ _).mono ?_; rintro e w1 ⟨rfl, hb⟩; obtain ⟨hc, hf⟩ := bcell hb; have hz := hb.size; (try simp at hz); have hz0 : w.heap.size < w1.heap.size := (by omega); have hz1 : w.heap.size + 1 < w1.heap.size := (by omega)) | (go_at_call 48; refine (value_Flag _ _).mono ?_; rintro e w1 ⟨rfl, hb⟩; obtain ⟨hc, hf⟩ := bcell hb; have hz := hb.size; (try simp at hz); have hz0 : w.heap.size < w1.heap.size := (by omega); have hz1 : w.heap.size + 1 < w1.heap.size := (by omega)) | (go_at_call 49; refine (value_Of _ _).mono ?_; rintro e w1 ⟨rfl, hb⟩; obtain ⟨hc, hf⟩ := bcell hb; have hz := hb.size; (try simp at hz); have hz0 : w.heap.size < w1.heap.size := (by omega); have hz1 : w.heap.size + 1 < w1.heap.size := (by omega)) | (go_at_call 29; refine (SH.out _ (HP.out.below (by (repeat (first | (with_reducible exact Below.refl _ _) | (with_reducible assumption) | (with_reducible refine Below.setCell ?_ (by first | omega | (simp <;> omega)) _) | (with_reducible refine Below.drew ?_) | (with_reducible refine Below.alloc ?_ (by first | omega | (simp <;> omega)) _) | (with_reducible refine bel_step ?_ (by assumption) (by first | omega | (simp <;> omega)))))))).mono ?_; rintro e w1 ⟨rfl, hb⟩; obtain ⟨hc, hf⟩ := bcell hb; have hz := hb.size; (try simp at hz); have hz0 : w.heap.size < w1.heap.size := (by omega); have hz1 : w.heap.size + 1 < w1.heap.size := (by omega)))
  refine bodyPost_ret (v := .agg #[.int .i64 3, .int .i64 0, .string R]) (by simp [results, Tryd.results27, go_sem, flagN, *]) rfl ⟨?_, ?_⟩
  · rfl
  · (repeat (first | (with_reducible exact Below.refl _ _) | (with_reducible assumption) | (with_reducible refine Below.setCell ?_ (by first | omega | (simp <;> omega)) _) | (with_reducible refine Below.drew ?_) | (with_reducible refine Below.alloc ?_ (by first | omega | (simp <;> omega)) _) | (with_reducible refine bel_step ?_ (by assumption) (by first | omega | (simp <;> omega)))))

set_option maxRecDepth 100000 in
set_option maxHeartbeats 6400000 in
theorem value_Cast10 (k n : Int) (s : ByteArray) (n1 : Int) (kind : Int) (h1 : ¬ kind = 1) (h2 : ¬ kind = 2) (h3 : ¬ kind = 3) (hn1 : inI n1) (w : World) (h : HasPow w) (he : HasErrs w) (hs : s.size ≤ 2000000) (C : Hid (∀ w, Calls Tryd.prog 37 #[.agg #[.int .i64 k, .int .i64 n, .string s]] w fun e w' => e = .returned (.agg #[.int .i64 1, .int .i64 n1, .string ⟨#[]⟩]) ∧ Below w.heap.size w w')) :
    Calls Tryd.prog 27 #[.agg #[.int .i64 k, .int .i64 n, .string s], .int .i64 kind] w fun e w' => e = .returned (.agg #[.int .i64 (castC 1 n1 ⟨#[]⟩ kind).k, .int .i64 (castC 1 n1 ⟨#[]⟩ kind).n, .string (castC 1 n1 ⟨#[]⟩ kind).s]) ∧ Below w.heap.size w w' := by
  have HP := Lib.hid h; have HE := Lib.hid he; have HN := Lib.hid hn1; have HS := Lib.hid hs
  have HX := Lib.hid ((Has.new w 38 #[.int .i64 k, .int .i64 n, .string s]).alloc (.cells #[.int .i64 0, .int .i64 0, .string ⟨#[]⟩] 38))
  clear h he hn1 hs
  have E : castC 1 n1 ⟨#[]⟩ kind = nullV := by unfold castC; rw [if_neg (by decide), if_neg h3, if_neg h2, if_neg h1]
  rw [E]; clear E
  have e1 : (kind == 1) = false := beq_eq_false_iff_ne.2 h1
  have e2 : (kind == 2) = false := beq_eq_false_iff_ne.2 h2
  have e3 : (kind == 3) = false := beq_eq_false_iff_ne.2 h3
  have d1 : ((1 : Int) == kind) = false := beq_eq_false_iff_ne.2 fun e => h1 e.symm
  have d2 : ((2 : Int) == kind) = false := beq_eq_false_iff_ne.2 fun e => h2 e.symm
  have d3 : ((3 : Int) == kind) = false := beq_eq_false_iff_ne.2 fun e => h3 e.symm
  clear h1 h2 h3
  go_enter Tryd.func27, Tryd.ntmps27
  go_wp2_with (first | (go_at_call 37; refine (C.out _).mono ?_; rintro e w1 ⟨rfl, hb⟩; have HX1 := HX.out.belowS hb; obtain ⟨x0, x1, x2⟩ := HX1.cells3; have xf := HX1.frozen; clear HX1; obtain ⟨hc, hf⟩ := bcell hb; have hz := hb.size; (try simp at hz); have hz0 : w.heap.size < w1.heap.size := (by omega); have hz1 : w.heap.size + 1 < w1.heap.size := (by omega)) | (go_at_call 47; refine (value_None _).mono ?_; rintro e w1 ⟨rfl, hb⟩; obtain ⟨hc, hf⟩ := bcell hb; have hz := hb.size; (try simp at hz); have hz0 : w.heap.size < w1.heap.size := (by omega); have hz1 : w.heap.size + 1 < w1.heap.size := (by omega)) | (go_at_call 51; refine (value_Str _ _).mono ?_; rintro e w1 ⟨rfl, hb⟩; obtain ⟨hc, hf⟩ := bcell hb; have hz := hb.size; (try simp at hz); have hz0 : w.heap.size < w1.heap.size := (by omega); have hz1 : w.heap.size + 1 < w1.heap.size := (by omega)) | (go_at_call 48; refine (value_Flag _ _).mono ?_; rintro e w1 ⟨rfl, hb⟩; obtain ⟨hc, hf⟩ := bcell hb; have hz := hb.size; (try simp at hz); have hz0 : w.heap.size < w1.heap.size := (by omega); have hz1 : w.heap.size + 1 < w1.heap.size := (by omega)) | (go_at_call 49; refine (value_Of _ _).mono ?_; rintro e w1 ⟨rfl, hb⟩; obtain ⟨hc, hf⟩ := bcell hb; have hz := hb.size; (try simp at hz); have hz0 : w.heap.size < w1.heap.size := (by omega); have hz1 : w.heap.size + 1 < w1.heap.size := (by omega)))
  refine bodyPost_ret (v := .agg #[.int .i64 0, .int .i64 0, .string ⟨#[]⟩]) (by simp [results, Tryd.results27, go_sem, flagN, *]) rfl ⟨?_, ?_⟩
  · rfl
  · (repeat (first | (with_reducible exact Below.refl _ _) | (with_reducible assumption) | (with_reducible refine Below.setCell ?_ (by first | omega | (simp <;> omega)) _) | (with_reducible refine Below.drew ?_) | (with_reducible refine Below.alloc ?_ (by first | omega | (simp <;> omega)) _) | (with_reducible refine bel_step ?_ (by assumption) (by first | omega | (simp <;> omega)))))

set_option maxRecDepth 100000 in
set_option maxHeartbeats 6400000 in
theorem value_Cast21 (k n : Int) (s : ByteArray) (n1 : Int) (hn1 : inI n1) (w : World) (h : HasPow w) (he : HasErrs w) (hs : s.size ≤ 2000000) (C : Hid (∀ w, Calls Tryd.prog 37 #[.agg #[.int .i64 k, .int .i64 n, .string s]] w fun e w' => e = .returned (.agg #[.int .i64 2, .int .i64 n1, .string ⟨#[]⟩]) ∧ Below w.heap.size w w')) :
    Calls Tryd.prog 27 #[.agg #[.int .i64 k, .int .i64 n, .string s], .int .i64 1] w fun e w' => e = .returned (.agg #[.int .i64 (castC 2 n1 ⟨#[]⟩ 1).k, .int .i64 (castC 2 n1 ⟨#[]⟩ 1).n, .string (castC 2 n1 ⟨#[]⟩ 1).s]) ∧ Below w.heap.size w w' := by
  have HP := Lib.hid h; have HE := Lib.hid he; have HN := Lib.hid hn1; have HS := Lib.hid hs
  have HX := Lib.hid ((Has.new w 38 #[.int .i64 k, .int .i64 n, .string s]).alloc (.cells #[.int .i64 0, .int .i64 0, .string ⟨#[]⟩] 38))
  clear h he hn1 hs
  have E : castC 2 n1 ⟨#[]⟩ 1 = ⟨1, flagN (n1 != 0), ⟨#[]⟩⟩ := by simp [castC, showS, nullV]
  rw [E]; clear E
  go_enter Tryd.func27, Tryd.ntmps27
  go_wp2_with (first | (go_at_call 37; refine (C.out _).mono ?_; rintro e w1 ⟨rfl, hb⟩; have HX1 := HX.out.belowS hb; obtain ⟨x0, x1, x2⟩ := HX1.cells3; have xf := HX1.frozen; clear HX1; obtain ⟨hc, hf⟩ := bcell hb; have hz := hb.size; (try simp at hz); have hz0 : w.heap.size < w1.heap.size := (by omega); have hz1 : w.heap.size + 1 < w1.heap.size := (by omega)) | (go_at_call 47; refine (value_None _).mono ?_; rintro e w1 ⟨rfl, hb⟩; obtain ⟨hc, hf⟩ := bcell hb; have hz := hb.size; (try simp at hz); have hz0 : w.heap.size < w1.heap.size := (by omega); have hz1 : w.heap.size + 1 < w1.heap.size := (by omega)) | (go_at_call 51; refine (value_Str _ _).mono ?_; rintro e w1 ⟨rfl, hb⟩; obtain ⟨hc, hf⟩ := bcell hb; have hz := hb.size; (try simp at hz); have hz0 : w.heap.size < w1.heap.size := (by omega); have hz1 : w.heap.size + 1 < w1.heap.size := (by omega)) | (go_at_call 48; refine (value_Flag _ _).mono ?_; rintro e w1 ⟨rfl, hb⟩; obtain ⟨hc, hf⟩ := bcell hb; have hz := hb.size; (try simp at hz); have hz0 : w.heap.size < w1.heap.size := (by omega); have hz1 : w.heap.size + 1 < w1.heap.size := (by omega)) | (go_at_call 49; refine (value_Of _ _).mono ?_; rintro e w1 ⟨rfl, hb⟩; obtain ⟨hc, hf⟩ := bcell hb; have hz := hb.size; (try simp at hz); have hz0 : w.heap.size < w1.heap.size := (by omega); have hz1 : w.heap.size + 1 < w1.heap.size := (by omega)))
  refine bodyPost_ret (v := .agg #[.int .i64 1, .int .i64 (flagN (n1 != 0)), .string ⟨#[]⟩]) (by simp [results, Tryd.results27, go_sem, flagN, *]) rfl ⟨?_, ?_⟩
  · rfl
  · (repeat (first | (with_reducible exact Below.refl _ _) | (with_reducible assumption) | (with_reducible refine Below.setCell ?_ (by first | omega | (simp <;> omega)) _) | (with_reducible refine Below.drew ?_) | (with_reducible refine Below.alloc ?_ (by first | omega | (simp <;> omega)) _) | (with_reducible refine bel_step ?_ (by assumption) (by first | omega | (simp <;> omega)))))

set_option maxRecDepth 100000 in
set_option maxHeartbeats 6400000 in
theorem value_Cast22 (k n : Int) (s : ByteArray) (n1 : Int) (hn1 : inI n1) (w : World) (h : HasPow w) (he : HasErrs w) (hs : s.size ≤ 2000000) (C : Hid (∀ w, Calls Tryd.prog 37 #[.agg #[.int .i64 k, .int .i64 n, .string s]] w fun e w' => e = .returned (.agg #[.int .i64 2, .int .i64 n1, .string ⟨#[]⟩]) ∧ Below w.heap.size w w')) :
    Calls Tryd.prog 27 #[.agg #[.int .i64 k, .int .i64 n, .string s], .int .i64 2] w fun e w' => e = .returned (.agg #[.int .i64 (castC 2 n1 ⟨#[]⟩ 2).k, .int .i64 (castC 2 n1 ⟨#[]⟩ 2).n, .string (castC 2 n1 ⟨#[]⟩ 2).s]) ∧ Below w.heap.size w w' := by
  have HP := Lib.hid h; have HE := Lib.hid he; have HN := Lib.hid hn1; have HS := Lib.hid hs
  have HX := Lib.hid ((Has.new w 38 #[.int .i64 k, .int .i64 n, .string s]).alloc (.cells #[.int .i64 0, .int .i64 0, .string ⟨#[]⟩] 38))
  clear h he hn1 hs
  have E : castC 2 n1 ⟨#[]⟩ 2 = ⟨2, n1, ⟨#[]⟩⟩ := by simp [castC, showS, nullV]
  rw [E]; clear E
  go_enter Tryd.func27, Tryd.ntmps27
  go_wp2_with (first | (go_at_call 37; refine (C.out _).mono ?_; rintro e w1 ⟨rfl, hb⟩; have HX1 := HX.out.belowS hb; obtain ⟨x0, x1, x2⟩ := HX1.cells3; have xf := HX1.frozen; clear HX1; obtain ⟨hc, hf⟩ := bcell hb; have hz := hb.size; (try simp at hz); have hz0 : w.heap.size < w1.heap.size := (by omega); have hz1 : w.heap.size + 1 < w1.heap.size := (by omega)) | (go_at_call 47; refine (value_None _).mono ?_; rintro e w1 ⟨rfl, hb⟩; obtain ⟨hc, hf⟩ := bcell hb; have hz := hb.size; (try simp at hz); have hz0 : w.heap.size < w1.heap.size := (by omega); have hz1 : w.heap.size + 1 < w1.heap.size := (by omega)) | (go_at_call 51; refine (value_Str _ _).mono ?_; rintro e w1 ⟨rfl, hb⟩; obtain ⟨hc, hf⟩ := bcell hb; have hz := hb.size; (try simp at hz); have hz0 : w.heap.size < w1.heap.size := (by omega); have hz1 : w.heap.size + 1 < w1.heap.size := (by omega)) | (go_at_call 48; refine (value_Flag _ _).mono ?_; rintro e w1 ⟨rfl, hb⟩; obtain ⟨hc, hf⟩ := bcell hb; have hz := hb.size; (try simp at hz); have hz0 : w.heap.size < w1.heap.size := (by omega); have hz1 : w.heap.size + 1 < w1.heap.size := (by omega)) | (go_at_call 49; refine (value_Of _ _).mono ?_; rintro e w1 ⟨rfl, hb⟩; obtain ⟨hc, hf⟩ := bcell hb; have hz := hb.size; (try simp at hz); have hz0 : w.heap.size < w1.heap.size := (by omega); have hz1 : w.heap.size + 1 < w1.heap.size := (by omega)))
  refine bodyPost_ret (v := .agg #[.int .i64 2, .int .i64 n1, .string ⟨#[]⟩]) (by simp [results, Tryd.results27, go_sem, flagN, *]) rfl ⟨?_, ?_⟩
  · rfl
  · (repeat (first | (with_reducible exact Below.refl _ _) | (with_reducible assumption) | (with_reducible refine Below.setCell ?_ (by first | omega | (simp <;> omega)) _) | (with_reducible refine Below.drew ?_) | (with_reducible refine Below.alloc ?_ (by first | omega | (simp <;> omega)) _) | (with_reducible refine bel_step ?_ (by assumption) (by first | omega | (simp <;> omega)))))

set_option maxRecDepth 100000 in
set_option maxHeartbeats 6400000 in
theorem value_Cast23 (k n : Int) (s : ByteArray) (n1 : Int) (hn1 : inI n1) (w : World) (h : HasPow w) (he : HasErrs w) (hs : s.size ≤ 2000000) (C : Hid (∀ w, Calls Tryd.prog 37 #[.agg #[.int .i64 k, .int .i64 n, .string s]] w fun e w' => e = .returned (.agg #[.int .i64 2, .int .i64 n1, .string ⟨#[]⟩]) ∧ Below w.heap.size w w')) :
    Calls Tryd.prog 27 #[.agg #[.int .i64 k, .int .i64 n, .string s], .int .i64 3] w fun e w' => e = .returned (.agg #[.int .i64 (castC 2 n1 ⟨#[]⟩ 3).k, .int .i64 (castC 2 n1 ⟨#[]⟩ 3).n, .string (castC 2 n1 ⟨#[]⟩ 3).s]) ∧ Below w.heap.size w w' := by
  have HP := Lib.hid h; have HE := Lib.hid he; have HN := Lib.hid hn1; have HS := Lib.hid hs
  have HX := Lib.hid ((Has.new w 38 #[.int .i64 k, .int .i64 n, .string s]).alloc (.cells #[.int .i64 0, .int .i64 0, .string ⟨#[]⟩] 38))
  clear h he hn1 hs
  obtain ⟨R, hR⟩ : ∃ R, showS 2 n1 ⟨#[]⟩ = R := ⟨_, rfl⟩
  have SH := Lib.hid (fun w h => value_Show 2 n1 ⟨#[]⟩ HN.out w h)
  have E : castC 2 n1 ⟨#[]⟩ 3 = ⟨3, 0, R⟩ := by rw [← hR]; simp [castC]
  rw [E]; rw [hR] at SH; clear E hR
  go_enter Tryd.func27, Tryd.ntmps27
  go_wp2_with (first | (go_at_call 37; refine (C.out _).mono ?_; rintro e w1 ⟨rfl, hb⟩; have HX1 := HX.out.belowS hb; obtain ⟨x0, x1, x2⟩ := HX1.cells3; have xf := HX1.frozen; clear HX1; obtain ⟨hc, hf⟩ := bcell hb; have hz := hb.size; (try simp at hz); have hz0 : w.heap.size < w1.heap.size := (by omega); have hz1 : w.heap.size + 1 < w1.heap.size := (by omega)) | (go_at_call 47; refine (value_None _).mono ?_; rintro e w1 ⟨rfl, hb⟩; obtain ⟨hc, hf⟩ := bcell hb; have hz := hb.size; (try simp at hz); have hz0 : w.heap.size < w1.heap.size := (by omega); have hz1 : w.heap.size + 1 < w1.heap.size := (by omega)) | (go_at_call 51; refine (value_Str _ _).mono ?_; rintro e w1 ⟨rfl, hb⟩; obtain ⟨hc, hf⟩ := bcell hb; have hz := hb.size; (try simp at hz); have hz0 : w.heap.size < w1.heap.size := (by omega); have hz1 : w.heap.size + 1 < w1.heap.size := (by omega)) | (go_at_call 48; refine (value_Flag _ _).mono ?_; rintro e w1 ⟨rfl, hb⟩; obtain ⟨hc, hf⟩ := bcell hb; have hz := hb.size; (try simp at hz); have hz0 : w.heap.size < w1.heap.size := (by omega); have hz1 : w.heap.size + 1 < w1.heap.size := (by omega)) | (go_at_call 49; refine (value_Of _ _).mono ?_; rintro e w1 ⟨rfl, hb⟩; obtain ⟨hc, hf⟩ := bcell hb; have hz := hb.size; (try simp at hz); have hz0 : w.heap.size < w1.heap.size := (by omega); have hz1 : w.heap.size + 1 < w1.heap.size := (by omega)) | (go_at_call 29; refine (SH.out _ (HP.out.below (by (repeat (first | (with_reducible exact Below.refl _ _) | (with_reducible assumption) | (with_reducible refine Below.setCell ?_ (by first | omega | (simp <;> omega)) _) | (with_reducible refine Below.drew ?_) | (with_reducible refine Below.alloc ?_ (by first | omega | (simp <;> omega)) _) | (with_reducible refine bel_step ?_ (by assumption) (by first | omega | (simp <;> omega)))))))).mono ?_; rintro e w1 ⟨rfl, hb⟩; obtain ⟨hc, hf⟩ := bcell hb; have hz := hb.size; (try simp at hz); have hz0 : w.heap.size < w1.heap.size := (by omega); have hz1 : w.heap.size + 1 < w1.heap.size := (by omega)))
  refine bodyPost_ret (v := .agg #[.int .i64 3, .int .i64 0, .string R]) (by simp [results, Tryd.results27, go_sem, flagN, *]) rfl ⟨?_, ?_⟩
  · rfl
  · (repeat (first | (with_reducible exact Below.refl _ _) | (with_reducible assumption) | (with_reducible refine Below.setCell ?_ (by first | omega | (simp <;> omega)) _) | (with_reducible refine Below.drew ?_) | (with_reducible refine Below.alloc ?_ (by first | omega | (simp <;> omega)) _) | (with_reducible refine bel_step ?_ (by assumption) (by first | omega | (simp <;> omega)))))

set_option maxRecDepth 100000 in
set_option maxHeartbeats 6400000 in
theorem value_Cast20 (k n : Int) (s : ByteArray) (n1 : Int) (kind : Int) (h1 : ¬ kind = 1) (h2 : ¬ kind = 2) (h3 : ¬ kind = 3) (hn1 : inI n1) (w : World) (h : HasPow w) (he : HasErrs w) (hs : s.size ≤ 2000000) (C : Hid (∀ w, Calls Tryd.prog 37 #[.agg #[.int .i64 k, .int .i64 n, .string s]] w fun e w' => e = .returned (.agg #[.int .i64 2, .int .i64 n1, .string ⟨#[]⟩]) ∧ Below w.heap.size w w')) :
    Calls Tryd.prog 27 #[.agg #[.int .i64 k, .int .i64 n, .string s], .int .i64 kind] w fun e w' => e = .returned (.agg #[.int .i64 (castC 2 n1 ⟨#[]⟩ kind).k, .int .i64 (castC 2 n1 ⟨#[]⟩ kind).n, .string (castC 2 n1 ⟨#[]⟩ kind).s]) ∧ Below w.heap.size w w' := by
  have HP := Lib.hid h; have HE := Lib.hid he; have HN := Lib.hid hn1; have HS := Lib.hid hs
  have HX := Lib.hid ((Has.new w 38 #[.int .i64 k, .int .i64 n, .string s]).alloc (.cells #[.int .i64 0, .int .i64 0, .string ⟨#[]⟩] 38))
  clear h he hn1 hs
  have E : castC 2 n1 ⟨#[]⟩ kind = nullV := by unfold castC; rw [if_neg (by decide), if_neg h3, if_neg h2, if_neg h1]
  rw [E]; clear E
  have e1 : (kind == 1) = false := beq_eq_false_iff_ne.2 h1
  have e2 : (kind == 2) = false := beq_eq_false_iff_ne.2 h2
  have e3 : (kind == 3) = false := beq_eq_false_iff_ne.2 h3
  have d1 : ((1 : Int) == kind) = false := beq_eq_false_iff_ne.2 fun e => h1 e.symm
  have d2 : ((2 : Int) == kind) = false := beq_eq_false_iff_ne.2 fun e => h2 e.symm
  have d3 : ((3 : Int) == kind) = false := beq_eq_false_iff_ne.2 fun e => h3 e.symm
  clear h1 h2 h3
  go_enter Tryd.func27, Tryd.ntmps27
  go_wp2_with (first | (go_at_call 37; refine (C.out _).mono ?_; rintro e w1 ⟨rfl, hb⟩; have HX1 := HX.out.belowS hb; obtain ⟨x0, x1, x2⟩ := HX1.cells3; have xf := HX1.frozen; clear HX1; obtain ⟨hc, hf⟩ := bcell hb; have hz := hb.size; (try simp at hz); have hz0 : w.heap.size < w1.heap.size := (by omega); have hz1 : w.heap.size + 1 < w1.heap.size := (by omega)) | (go_at_call 47; refine (value_None _).mono ?_; rintro e w1 ⟨rfl, hb⟩; obtain ⟨hc, hf⟩ := bcell hb; have hz := hb.size; (try simp at hz); have hz0 : w.heap.size < w1.heap.size := (by omega); have hz1 : w.heap.size + 1 < w1.heap.size := (by omega)) | (go_at_call 51; refine (value_Str _ _).mono ?_; rintro e w1 ⟨rfl, hb⟩; obtain ⟨hc, hf⟩ := bcell hb; have hz := hb.size; (try simp at hz); have hz0 : w.heap.size < w1.heap.size := (by omega); have hz1 : w.heap.size + 1 < w1.heap.size := (by omega)) | (go_at_call 48; refine (value_Flag _ _).mono ?_; rintro e w1 ⟨rfl, hb⟩; obtain ⟨hc, hf⟩ := bcell hb; have hz := hb.size; (try simp at hz); have hz0 : w.heap.size < w1.heap.size := (by omega); have hz1 : w.heap.size + 1 < w1.heap.size := (by omega)) | (go_at_call 49; refine (value_Of _ _).mono ?_; rintro e w1 ⟨rfl, hb⟩; obtain ⟨hc, hf⟩ := bcell hb; have hz := hb.size; (try simp at hz); have hz0 : w.heap.size < w1.heap.size := (by omega); have hz1 : w.heap.size + 1 < w1.heap.size := (by omega)))
  refine bodyPost_ret (v := .agg #[.int .i64 0, .int .i64 0, .string ⟨#[]⟩]) (by simp [results, Tryd.results27, go_sem, flagN, *]) rfl ⟨?_, ?_⟩
  · rfl
  · (repeat (first | (with_reducible exact Below.refl _ _) | (with_reducible assumption) | (with_reducible refine Below.setCell ?_ (by first | omega | (simp <;> omega)) _) | (with_reducible refine Below.drew ?_) | (with_reducible refine Below.alloc ?_ (by first | omega | (simp <;> omega)) _) | (with_reducible refine bel_step ?_ (by assumption) (by first | omega | (simp <;> omega)))))

set_option maxRecDepth 100000 in
set_option maxHeartbeats 6400000 in
theorem value_Cast31 (k n : Int) (s : ByteArray) (n1 : Int) (hn1 : inI n1) (w : World) (h : HasPow w) (he : HasErrs w) (hs : s.size ≤ 2000000) (C : Hid (∀ w, Calls Tryd.prog 37 #[.agg #[.int .i64 k, .int .i64 n, .string s]] w fun e w' => e = .returned (.agg #[.int .i64 3, .int .i64 0, .string s]) ∧ Below w.heap.size w w')) :
    Calls Tryd.prog 27 #[.agg #[.int .i64 k, .int .i64 n, .string s], .int .i64 1] w fun e w' => e = .returned (.agg #[.int .i64 (castC 3 0 s 1).k, .int .i64 (castC 3 0 s 1).n, .string (castC 3 0 s 1).s]) ∧ Below w.heap.size w w' := by
  have HP := Lib.hid h; have HE := Lib.hid he; have HN := Lib.hid hn1; have HS := Lib.hid hs
  have HX := Lib.hid ((Has.new w 38 #[.int .i64 k, .int .i64 n, .string s]).alloc (.cells #[.int .i64 0, .int .i64 0, .string ⟨#[]⟩] 38))
  clear h he hn1 hs
  by_cases ht : s.data.toList = trueS.data.toList
  · have E : castC 3 0 s 1 = ⟨1, 1, ⟨#[]⟩⟩ := by unfold castC; rw [if_neg (by decide), if_neg (by decide), if_neg (by decide), if_pos rfl, if_pos rfl, if_pos ht]
    have q1 : s.toList = [116, 114, 117, 101] := by rw [Lib.toList_data]; exact ht
    have q2 : (s.toList == [116, 114, 117, 101]) = true := by rw [q1]; rfl
    rw [E]; clear E ht q1
    go_enter Tryd.func27, Tryd.ntmps27
    go_wp2_with (first | (go_at_call 37; refine (C.out _).mono ?_; rintro e w1 ⟨rfl, hb⟩; have HX1 := HX.out.belowS hb; obtain ⟨x0, x1, x2⟩ := HX1.cells3; have xf := HX1.frozen; clear HX1; obtain ⟨hc, hf⟩ := bcell hb; have hz := hb.size; (try simp at hz); have hz0 : w.heap.size < w1.heap.size := (by omega); have hz1 : w.heap.size + 1 < w1.heap.size := (by omega)) | (go_at_call 47; refine (value_None _).mono ?_; rintro e w1 ⟨rfl, hb⟩; obtain ⟨hc, hf⟩ := bcell hb; have hz := hb.size; (try simp at hz); have hz0 : w.heap.size < w1.heap.size := (by omega); have hz1 : w.heap.size + 1 < w1.heap.size := (by omega)) | (go_at_call 51; refine (value_Str _ _).mono ?_; rintro e w1 ⟨rfl, hb⟩; obtain ⟨hc, hf⟩ := bcell hb; have hz := hb.size; (try simp at hz); have hz0 : w.heap.size < w1.heap.size := (by omega); have hz1 : w.heap.size + 1 < w1.heap.size := (by omega)) | (go_at_call 48; refine (value_Flag _ _).mono ?_; rintro e w1 ⟨rfl, hb⟩; obtain ⟨hc, hf⟩ := bcell hb; have hz := hb.size; (try simp at hz); have hz0 : w.heap.size < w1.heap.size := (by omega); have hz1 : w.heap.size + 1 < w1.heap.size := (by omega)) | (go_at_call 49; refine (value_Of _ _).mono ?_; rintro e w1 ⟨rfl, hb⟩; obtain ⟨hc, hf⟩ := bcell hb; have hz := hb.size; (try simp at hz); have hz0 : w.heap.size < w1.heap.size := (by omega); have hz1 : w.heap.size + 1 < w1.heap.size := (by omega)))
    refine bodyPost_ret (v := .agg #[.int .i64 1, .int .i64 1, .string ⟨#[]⟩]) (by simp [results, Tryd.results27, go_sem, flagN, *]) rfl ⟨?_, ?_⟩
    · rfl
    · (repeat (first | (with_reducible exact Below.refl _ _) | (with_reducible assumption) | (with_reducible refine Below.setCell ?_ (by first | omega | (simp <;> omega)) _) | (with_reducible refine Below.drew ?_) | (with_reducible refine Below.alloc ?_ (by first | omega | (simp <;> omega)) _) | (with_reducible refine bel_step ?_ (by assumption) (by first | omega | (simp <;> omega)))))
  · by_cases hf : s.data.toList = falseS.data.toList
    · have E : castC 3 0 s 1 = ⟨1, 0, ⟨#[]⟩⟩ := by unfold castC; rw [if_neg (by decide), if_neg (by decide), if_neg (by decide), if_pos rfl, if_pos rfl, if_neg ht, if_pos hf]
      have q1 : s.toList = [102, 97, 108, 115, 101] := by rw [Lib.toList_data]; exact hf
      have q2 : (s.toList == [102, 97, 108, 115, 101]) = true := by rw [q1]; rfl
      have q3 : (s.toList == [116, 114, 117, 101]) = false := by rw [q1]; rfl
      rw [E]; clear E ht hf q1
      go_enter Tryd.func27, Tryd.ntmps27
      go_wp2_with (first | (go_at_call 37; refine (C.out _).mono ?_; rintro e w1 ⟨rfl, hb⟩; have HX1 := HX.out.belowS hb; obtain ⟨x0, x1, x2⟩ := HX1.cells3; have xf := HX1.frozen; clear HX1; obtain ⟨hc, hf⟩ := bcell hb; have hz := hb.size; (try simp at hz); have hz0 : w.heap.size < w1.heap.size := (by omega); have hz1 : w.heap.size + 1 < w1.heap.size := (by omega)) | (go_at_call 47; refine (value_None _).mono ?_; rintro e w1 ⟨rfl, hb⟩; obtain ⟨hc, hf⟩ := bcell hb; have hz := hb.size; (try simp at hz); have hz0 : w.heap.size < w1.heap.size := (by omega); have hz1 : w.heap.size + 1 < w1.heap.size := (by omega)) | (go_at_call 51; refine (value_Str _ _).mono ?_; rintro e w1 ⟨rfl, hb⟩; obtain ⟨hc, hf⟩ := bcell hb; have hz := hb.size; (try simp at hz); have hz0 : w.heap.size < w1.heap.size := (by omega); have hz1 : w.heap.size + 1 < w1.heap.size := (by omega)) | (go_at_call 48; refine (value_Flag _ _).mono ?_; rintro e w1 ⟨rfl, hb⟩; obtain ⟨hc, hf⟩ := bcell hb; have hz := hb.size; (try simp at hz); have hz0 : w.heap.size < w1.heap.size := (by omega); have hz1 : w.heap.size + 1 < w1.heap.size := (by omega)) | (go_at_call 49; refine (value_Of _ _).mono ?_; rintro e w1 ⟨rfl, hb⟩; obtain ⟨hc, hf⟩ := bcell hb; have hz := hb.size; (try simp at hz); have hz0 : w.heap.size < w1.heap.size := (by omega); have hz1 : w.heap.size + 1 < w1.heap.size := (by omega)))
      refine bodyPost_ret (v := .agg #[.int .i64 1, .int .i64 0, .string ⟨#[]⟩]) (by simp [results, Tryd.results27, go_sem, flagN, *]) rfl ⟨?_, ?_⟩
      · rfl
      · (repeat (first | (with_reducible exact Below.refl _ _) | (with_reducible assumption) | (with_reducible refine Below.setCell ?_ (by first | omega | (simp <;> omega)) _) | (with_reducible refine Below.drew ?_) | (with_reducible refine Below.alloc ?_ (by first | omega | (simp <;> omega)) _) | (with_reducible refine bel_step ?_ (by assumption) (by first | omega | (simp <;> omega)))))
    · have E : castC 3 0 s 1 = nullV := by unfold castC; rw [if_neg (by decide), if_neg (by decide), if_neg (by decide), if_pos rfl, if_pos rfl, if_neg ht, if_neg hf]
      have q2 : (s.toList == [102, 97, 108, 115, 101]) = false := by rw [beq_eq_false_iff_ne, Lib.toList_data]; exact hf
      have q3 : (s.toList == [116, 114, 117, 101]) = false := by rw [beq_eq_false_iff_ne, Lib.toList_data]; exact ht
      rw [E]; clear E ht hf
      go_enter Tryd.func27, Tryd.ntmps27
      go_wp2_with (first | (go_at_call 37; refine (C.out _).mono ?_; rintro e w1 ⟨rfl, hb⟩; have HX1 := HX.out.belowS hb; obtain ⟨x0, x1, x2⟩ := HX1.cells3; have xf := HX1.frozen; clear HX1; obtain ⟨hc, hf⟩ := bcell hb; have hz := hb.size; (try simp at hz); have hz0 : w.heap.size < w1.heap.size := (by omega); have hz1 : w.heap.size + 1 < w1.heap.size := (by omega)) | (go_at_call 47; refine (value_None _).mono ?_; rintro e w1 ⟨rfl, hb⟩; obtain ⟨hc, hf⟩ := bcell hb; have hz := hb.size; (try simp at hz); have hz0 : w.heap.size < w1.heap.size := (by omega); have hz1 : w.heap.size + 1 < w1.heap.size := (by omega)) | (go_at_call 51; refine (value_Str _ _).mono ?_; rintro e w1 ⟨rfl, hb⟩; obtain ⟨hc, hf⟩ := bcell hb; have hz := hb.size; (try simp at hz); have hz0 : w.heap.size < w1.heap.size := (by omega); have hz1 : w.heap.size + 1 < w1.heap.size := (by omega)) | (go_at_call 48; refine (value_Flag _ _).mono ?_; rintro e w1 ⟨rfl, hb⟩; obtain ⟨hc, hf⟩ := bcell hb; have hz := hb.size; (try simp at hz); have hz0 : w.heap.size < w1.heap.size := (by omega); have hz1 : w.heap.size + 1 < w1.heap.size := (by omega)) | (go_at_call 49; refine (value_Of _ _).mono ?_; rintro e w1 ⟨rfl, hb⟩; obtain ⟨hc, hf⟩ := bcell hb; have hz := hb.size; (try simp at hz); have hz0 : w.heap.size < w1.heap.size := (by omega); have hz1 : w.heap.size + 1 < w1.heap.size := (by omega)))
      refine bodyPost_ret (v := .agg #[.int .i64 0, .int .i64 0, .string ⟨#[]⟩]) (by simp [results, Tryd.results27, go_sem, flagN, *]) rfl ⟨?_, ?_⟩
      · rfl
      · (repeat (first | (with_reducible exact Below.refl _ _) | (with_reducible assumption) | (with_reducible refine Below.setCell ?_ (by first | omega | (simp <;> omega)) _) | (with_reducible refine Below.drew ?_) | (with_reducible refine Below.alloc ?_ (by first | omega | (simp <;> omega)) _) | (with_reducible refine bel_step ?_ (by assumption) (by first | omega | (simp <;> omega)))))

set_option maxRecDepth 100000 in
set_option maxHeartbeats 6400000 in
theorem value_Cast32 (k n : Int) (s : ByteArray) (n1 : Int) (hn1 : inI n1) (w : World) (h : HasPow w) (he : HasErrs w) (hs : s.size ≤ 2000000) (C : Hid (∀ w, Calls Tryd.prog 37 #[.agg #[.int .i64 k, .int .i64 n, .string s]] w fun e w' => e = .returned (.agg #[.int .i64 3, .int .i64 0, .string s]) ∧ Below w.heap.size w w')) :
    Calls Tryd.prog 27 #[.agg #[.int .i64 k, .int .i64 n, .string s], .int .i64 2] w fun e w' => e = .returned (.agg #[.int .i64 (castC 3 0 s 2).k, .int .i64 (castC 3 0 s 2).n, .string (castC 3 0 s 2).s]) ∧ Below w.heap.size w w' := by
  have HP := Lib.hid h; have HE := Lib.hid he; have HN := Lib.hid hn1; have HS := Lib.hid hs
  have HX := Lib.hid ((Has.new w 38 #[.int .i64 k, .int .i64 n, .string s]).alloc (.cells #[.int .i64 0, .int .i64 0, .string ⟨#[]⟩] 38))
  clear h he hn1 hs
  cases hw : wholeO s.data.toList with
  | none =>
    have E : castC 3 0 s 2 = nullV := by simp [castC, hw, recK, recN, nullV]
    rw [E]; clear E
    by_cases hok : okO (Lib.parseIntB 64 s.data.toList) = none
    · have PB := Lib.hid (fun w h => parse_bad s HS.out w h hok)
      clear hw hok
      go_enter Tryd.func27, Tryd.ntmps27
      go_wp2_with (first | (go_at_call 37; refine (C.out _).mono ?_; rintro e w1 ⟨rfl, hb⟩; have HX1 := HX.out.belowS hb; obtain ⟨x0, x1, x2⟩ := HX1.cells3; have xf := HX1.frozen; clear HX1; obtain ⟨hc, hf⟩ := bcell hb; have hz := hb.size; (try simp at hz); have hz0 : w.heap.size < w1.heap.size := (by omega); have hz1 : w.heap.size + 1 < w1.heap.size := (by omega)) | (go_at_call 47; refine (value_None _).mono ?_; rintro e w1 ⟨rfl, hb⟩; obtain ⟨hc, hf⟩ := bcell hb; have hz := hb.size; (try simp at hz); have hz0 : w.heap.size < w1.heap.size := (by omega); have hz1 : w.heap.size + 1 < w1.heap.size := (by omega)) | (go_at_call 51; refine (value_Str _ _).mono ?_; rintro e w1 ⟨rfl, hb⟩; obtain ⟨hc, hf⟩ := bcell hb; have hz := hb.size; (try simp at hz); have hz0 : w.heap.size < w1.heap.size := (by omega); have hz1 : w.heap.size + 1 < w1.heap.size := (by omega)) | (go_at_call 48; refine (value_Flag _ _).mono ?_; rintro e w1 ⟨rfl, hb⟩; obtain ⟨hc, hf⟩ := bcell hb; have hz := hb.size; (try simp at hz); have hz0 : w.heap.size < w1.heap.size := (by omega); have hz1 : w.heap.size + 1 < w1.heap.size := (by omega)) | (go_at_call 49; refine (value_Of _ _).mono ?_; rintro e w1 ⟨rfl, hb⟩; obtain ⟨hc, hf⟩ := bcell hb; have hz := hb.size; (try simp at hz); have hz0 : w.heap.size < w1.heap.size := (by omega); have hz1 : w.heap.size + 1 < w1.heap.size := (by omega)) | (go_at_call 55; refine (PB.out _ (HE.out.below (by (repeat (first | (with_reducible exact Below.refl _ _) | (with_reducible assumption) | (with_reducible refine Below.setCell ?_ (by first | omega | (simp <;> omega)) _) | (with_reducible refine Below.drew ?_) | (with_reducible refine Below.alloc ?_ (by first | omega | (simp <;> omega)) _) | (with_reducible refine bel_step ?_ (by assumption) (by first | omega | (simp <;> omega)))))))).mono ?_; rintro e w1 ⟨n2, t2, N2, rfl, hb⟩; obtain ⟨hc, hf⟩ := bcell hb; have hz := hb.size; (try simp at hz); have hz0 : w.heap.size < w1.heap.size := (by omega); have hz1 : w.heap.size + 1 < w1.heap.size := (by omega)))
      refine bodyPost_ret (v := .agg #[.int .i64 0, .int .i64 0, .string ⟨#[]⟩]) (by simp [results, Tryd.results27, go_sem, flagN, *]) rfl ⟨?_, ?_⟩
      · rfl
      · (repeat (first | (with_reducible exact Below.refl _ _) | (with_reducible assumption) | (with_reducible refine Below.setCell ?_ (by first | omega | (simp <;> omega)) _) | (with_reducible refine Below.drew ?_) | (with_reducible refine Below.alloc ?_ (by first | omega | (simp <;> omega)) _) | (with_reducible refine bel_step ?_ (by assumption) (by first | omega | (simp <;> omega)))))
    · obtain ⟨v, h0, hb, hv⟩ := plus_ahead hw hok
      have PO := Lib.hid (fun w => parse_ok s HS.out w v hv)
      clear hw hok hv
      go_enter Tryd.func27, Tryd.ntmps27
      go_wp2_with (first | (go_at_call 37; refine (C.out _).mono ?_; rintro e w1 ⟨rfl, hb⟩; have HX1 := HX.out.belowS hb; obtain ⟨x0, x1, x2⟩ := HX1.cells3; have xf := HX1.frozen; clear HX1; obtain ⟨hc, hf⟩ := bcell hb; have hz := hb.size; (try simp at hz); have hz0 : w.heap.size < w1.heap.size := (by omega); have hz1 : w.heap.size + 1 < w1.heap.size := (by omega)) | (go_at_call 47; refine (value_None _).mono ?_; rintro e w1 ⟨rfl, hb⟩; obtain ⟨hc, hf⟩ := bcell hb; have hz := hb.size; (try simp at hz); have hz0 : w.heap.size < w1.heap.size := (by omega); have hz1 : w.heap.size + 1 < w1.heap.size := (by omega)) | (go_at_call 51; refine (value_Str _ _).mono ?_; rintro e w1 ⟨rfl, hb⟩; obtain ⟨hc, hf⟩ := bcell hb; have hz := hb.size; (try simp at hz); have hz0 : w.heap.size < w1.heap.size := (by omega); have hz1 : w.heap.size + 1 < w1.heap.size := (by omega)) | (go_at_call 48; refine (value_Flag _ _).mono ?_; rintro e w1 ⟨rfl, hb⟩; obtain ⟨hc, hf⟩ := bcell hb; have hz := hb.size; (try simp at hz); have hz0 : w.heap.size < w1.heap.size := (by omega); have hz1 : w.heap.size + 1 < w1.heap.size := (by omega)) | (go_at_call 49; refine (value_Of _ _).mono ?_; rintro e w1 ⟨rfl, hb⟩; obtain ⟨hc, hf⟩ := bcell hb; have hz := hb.size; (try simp at hz); have hz0 : w.heap.size < w1.heap.size := (by omega); have hz1 : w.heap.size + 1 < w1.heap.size := (by omega)) | (go_at_call 55; refine (PO.out _).mono ?_; rintro e w1 ⟨rfl, hb⟩; obtain ⟨hc, hf⟩ := bcell hb; have hz := hb.size; (try simp at hz); have hz0 : w.heap.size < w1.heap.size := (by omega); have hz1 : w.heap.size + 1 < w1.heap.size := (by omega)))
      refine bodyPost_ret (v := .agg #[.int .i64 0, .int .i64 0, .string ⟨#[]⟩]) (by simp [results, Tryd.results27, go_sem, flagN, *]) rfl ⟨?_, ?_⟩
      · rfl
      · (repeat (first | (with_reducible exact Below.refl _ _) | (with_reducible assumption) | (with_reducible refine Below.setCell ?_ (by first | omega | (simp <;> omega)) _) | (with_reducible refine Below.drew ?_) | (with_reducible refine Below.alloc ?_ (by first | omega | (simp <;> omega)) _) | (with_reducible refine bel_step ?_ (by assumption) (by first | omega | (simp <;> omega)))))
  | some v =>
    have E : castC 3 0 s 2 = ⟨2, v, ⟨#[]⟩⟩ := by simp [castC, hw, recK, recN, nullV]
    rw [E]; clear E
    obtain ⟨h0, hb, hv⟩ := no_plus hw
    have PO := Lib.hid (fun w => parse_ok s HS.out w v hv)
    clear hw hv
    go_enter Tryd.func27, Tryd.ntmps27
    go_wp2_with (first | (go_at_call 37; refine (C.out _).mono ?_; rintro e w1 ⟨rfl, hb⟩; have HX1 := HX.out.belowS hb; obtain ⟨x0, x1, x2⟩ := HX1.cells3; have xf := HX1.frozen; clear HX1; obtain ⟨hc, hf⟩ := bcell hb; have hz := hb.size; (try simp at hz); have hz0 : w.heap.size < w1.heap.size := (by omega); have hz1 : w.heap.size + 1 < w1.heap.size := (by omega)) | (go_at_call 47; refine (value_None _).mono ?_; rintro e w1 ⟨rfl, hb⟩; obtain ⟨hc, hf⟩ := bcell hb; have hz := hb.size; (try simp at hz); have hz0 : w.heap.size < w1.heap.size := (by omega); have hz1 : w.heap.size + 1 < w1.heap.size := (by omega)) | (go_at_call 51; refine (value_Str _ _).mono ?_; rintro e w1 ⟨rfl, hb⟩; obtain ⟨hc, hf⟩ := bcell hb; have hz := hb.size; (try simp at hz); have hz0 : w.heap.size < w1.heap.size := (by omega); have hz1 : w.heap.size + 1 < w1.heap.size := (by omega)) | (go_at_call 48; refine (value_Flag _ _).mono ?_; rintro e w1 ⟨rfl, hb⟩; obtain ⟨hc, hf⟩ := bcell hb; have hz := hb.size; (try simp at hz); have hz0 : w.heap.size < w1.heap.size := (by omega); have hz1 : w.heap.size + 1 < w1.heap.size := (by omega)) | (go_at_call 49; refine (value_Of _ _).mono ?_; rintro e w1 ⟨rfl, hb⟩; obtain ⟨hc, hf⟩ := bcell hb; have hz := hb.size; (try simp at hz); have hz0 : w.heap.size < w1.heap.size := (by omega); have hz1 : w.heap.size + 1 < w1.heap.size := (by omega)) | (go_at_call 55; refine (PO.out _).mono ?_; rintro e w1 ⟨rfl, hb⟩; obtain ⟨hc, hf⟩ := bcell hb; have hz := hb.size; (try simp at hz); have hz0 : w.heap.size < w1.heap.size := (by omega); have hz1 : w.heap.size + 1 < w1.heap.size := (by omega)))
    refine bodyPost_ret (v := .agg #[.int .i64 2, .int .i64 v, .string ⟨#[]⟩]) (by simp [results, Tryd.results27, go_sem, flagN, *]) rfl ⟨?_, ?_⟩
    · rfl
    · (repeat (first | (with_reducible exact Below.refl _ _) | (with_reducible assumption) | (with_reducible refine Below.setCell ?_ (by first | omega | (simp <;> omega)) _) | (with_reducible refine Below.drew ?_) | (with_reducible refine Below.alloc ?_ (by first | omega | (simp <;> omega)) _) | (with_reducible refine bel_step ?_ (by assumption) (by first | omega | (simp <;> omega)))))

set_option maxRecDepth 100000 in
set_option maxHeartbeats 6400000 in
theorem value_Cast33 (k n : Int) (s : ByteArray) (n1 : Int) (hn1 : inI n1) (w : World) (h : HasPow w) (he : HasErrs w) (hs : s.size ≤ 2000000) (C : Hid (∀ w, Calls Tryd.prog 37 #[.agg #[.int .i64 k, .int .i64 n, .string s]] w fun e w' => e = .returned (.agg #[.int .i64 3, .int .i64 0, .string s]) ∧ Below w.heap.size w w')) :
    Calls Tryd.prog 27 #[.agg #[.int .i64 k, .int .i64 n, .string s], .int .i64 3] w fun e w' => e = .returned (.agg #[.int .i64 (castC 3 0 s 3).k, .int .i64 (castC 3 0 s 3).n, .string (castC 3 0 s 3).s]) ∧ Below w.heap.size w w' := by
  have HP := Lib.hid h; have HE := Lib.hid he; have HN := Lib.hid hn1; have HS := Lib.hid hs
  have HX := Lib.hid ((Has.new w 38 #[.int .i64 k, .int .i64 n, .string s]).alloc (.cells #[.int .i64 0, .int .i64 0, .string ⟨#[]⟩] 38))
  clear h he hn1 hs
  have E : castC 3 0 s 3 = ⟨3, 0, s⟩ := by simp [castC, showS, nullV]
  rw [E]; clear E
  go_enter Tryd.func27, Tryd.ntmps27
  go_wp2_with (first | (go_at_call 37; refine (C.out _).mono ?_; rintro e w1 ⟨rfl, hb⟩; have HX1 := HX.out.belowS hb; obtain ⟨x0, x1, x2⟩ := HX1.cells3; have xf := HX1.frozen; clear HX1; obtain ⟨hc, hf⟩ := bcell hb; have hz := hb.size; (try simp at hz); have hz0 : w.heap.size < w1.heap.size := (by omega); have hz1 : w.heap.size + 1 < w1.heap.size := (by omega)) | (go_at_call 47; refine (value_None _).mono ?_; rintro e w1 ⟨rfl, hb⟩; obtain ⟨hc, hf⟩ := bcell hb; have hz := hb.size; (try simp at hz); have hz0 : w.heap.size < w1.heap.size := (by omega); have hz1 : w.heap.size + 1 < w1.heap.size := (by omega)) | (go_at_call 51; refine (value_Str _ _).mono ?_; rintro e w1 ⟨rfl, hb⟩; obtain ⟨hc, hf⟩ := bcell hb; have hz := hb.size; (try simp at hz); have hz0 : w.heap.size < w1.heap.size := (by omega); have hz1 : w.heap.size + 1 < w1.heap.size := (by omega)) | (go_at_call 48; refine (value_Flag _ _).mono ?_; rintro e w1 ⟨rfl, hb⟩; obtain ⟨hc, hf⟩ := bcell hb; have hz := hb.size; (try simp at hz); have hz0 : w.heap.size < w1.heap.size := (by omega); have hz1 : w.heap.size + 1 < w1.heap.size := (by omega)) | (go_at_call 49; refine (value_Of _ _).mono ?_; rintro e w1 ⟨rfl, hb⟩; obtain ⟨hc, hf⟩ := bcell hb; have hz := hb.size; (try simp at hz); have hz0 : w.heap.size < w1.heap.size := (by omega); have hz1 : w.heap.size + 1 < w1.heap.size := (by omega)))
  refine bodyPost_ret (v := .agg #[.int .i64 3, .int .i64 0, .string s]) (by simp [results, Tryd.results27, go_sem, flagN, *]) rfl ⟨?_, ?_⟩
  · rfl
  · (repeat (first | (with_reducible exact Below.refl _ _) | (with_reducible assumption) | (with_reducible refine Below.setCell ?_ (by first | omega | (simp <;> omega)) _) | (with_reducible refine Below.drew ?_) | (with_reducible refine Below.alloc ?_ (by first | omega | (simp <;> omega)) _) | (with_reducible refine bel_step ?_ (by assumption) (by first | omega | (simp <;> omega)))))

set_option maxRecDepth 100000 in
set_option maxHeartbeats 6400000 in
theorem value_Cast30 (k n : Int) (s : ByteArray) (n1 : Int) (kind : Int) (h1 : ¬ kind = 1) (h2 : ¬ kind = 2) (h3 : ¬ kind = 3) (hn1 : inI n1) (w : World) (h : HasPow w) (he : HasErrs w) (hs : s.size ≤ 2000000) (C : Hid (∀ w, Calls Tryd.prog 37 #[.agg #[.int .i64 k, .int .i64 n, .string s]] w fun e w' => e = .returned (.agg #[.int .i64 3, .int .i64 0, .string s]) ∧ Below w.heap.size w w')) :
    Calls Tryd.prog 27 #[.agg #[.int .i64 k, .int .i64 n, .string s], .int .i64 kind] w fun e w' => e = .returned (.agg #[.int .i64 (castC 3 0 s kind).k, .int .i64 (castC 3 0 s kind).n, .string (castC 3 0 s kind).s]) ∧ Below w.heap.size w w' := by
  have HP := Lib.hid h; have HE := Lib.hid he; have HN := Lib.hid hn1; have HS := Lib.hid hs
  have HX := Lib.hid ((Has.new w 38 #[.int .i64 k, .int .i64 n, .string s]).alloc (.cells #[.int .i64 0, .int .i64 0, .string ⟨#[]⟩] 38))
  clear h he hn1 hs
  have E : castC 3 0 s kind = nullV := by unfold castC; rw [if_neg (by decide), if_neg h3, if_neg h2, if_neg h1]
  rw [E]; clear E
  have e1 : (kind == 1) = false := beq_eq_false_iff_ne.2 h1
  have e2 : (kind == 2) = false := beq_eq_false_iff_ne.2 h2
  have e3 : (kind == 3) = false := beq_eq_false_iff_ne.2 h3
  have d1 : ((1 : Int) == kind) = false := beq_eq_false_iff_ne.2 fun e => h1 e.symm
  have d2 : ((2 : Int) == kind) = false := beq_eq_false_iff_ne.2 fun e => h2 e.symm
  have d3 : ((3 : Int) == kind) = false := beq_eq_false_iff_ne.2 fun e => h3 e.symm
  clear h1 h2 h3
  go_enter Tryd.func27, Tryd.ntmps27
  go_wp2_with (first | (go_at_call 37; refine (C.out _).mono ?_; rintro e w1 ⟨rfl, hb⟩; have HX1 := HX.out.belowS hb; obtain ⟨x0, x1, x2⟩ := HX1.cells3; have xf := HX1.frozen; clear HX1; obtain ⟨hc, hf⟩ := bcell hb; have hz := hb.size; (try simp at hz); have hz0 : w.heap.size < w1.heap.size := (by omega); have hz1 : w.heap.size + 1 < w1.heap.size := (by omega)) | (go_at_call 47; refine (value_None _).mono ?_; rintro e w1 ⟨rfl, hb⟩; obtain ⟨hc, hf⟩ := bcell hb; have hz := hb.size; (try simp at hz); have hz0 : w.heap.size < w1.heap.size := (by omega); have hz1 : w.heap.size + 1 < w1.heap.size := (by omega)) | (go_at_call 51; refine (value_Str _ _).mono ?_; rintro e w1 ⟨rfl, hb⟩; obtain ⟨hc, hf⟩ := bcell hb; have hz := hb.size; (try simp at hz); have hz0 : w.heap.size < w1.heap.size := (by omega); have hz1 : w.heap.size + 1 < w1.heap.size := (by omega)) | (go_at_call 48; refine (value_Flag _ _).mono ?_; rintro e w1 ⟨rfl, hb⟩; obtain ⟨hc, hf⟩ := bcell hb; have hz := hb.size; (try simp at hz); have hz0 : w.heap.size < w1.heap.size := (by omega); have hz1 : w.heap.size + 1 < w1.heap.size := (by omega)) | (go_at_call 49; refine (value_Of _ _).mono ?_; rintro e w1 ⟨rfl, hb⟩; obtain ⟨hc, hf⟩ := bcell hb; have hz := hb.size; (try simp at hz); have hz0 : w.heap.size < w1.heap.size := (by omega); have hz1 : w.heap.size + 1 < w1.heap.size := (by omega)))
  refine bodyPost_ret (v := .agg #[.int .i64 0, .int .i64 0, .string ⟨#[]⟩]) (by simp [results, Tryd.results27, go_sem, flagN, *]) rfl ⟨?_, ?_⟩
  · rfl
  · (repeat (first | (with_reducible exact Below.refl _ _) | (with_reducible assumption) | (with_reducible refine Below.setCell ?_ (by first | omega | (simp <;> omega)) _) | (with_reducible refine Below.drew ?_) | (with_reducible refine Below.alloc ?_ (by first | omega | (simp <;> omega)) _) | (with_reducible refine bel_step ?_ (by assumption) (by first | omega | (simp <;> omega)))))

set_option maxHeartbeats 1600000 in
theorem value_Cast (k n : Int) (s : ByteArray) (kind : Int) (hn : inI n) (w : World) (h : HasPow w) (he : HasErrs w) (hs : s.size ≤ 2000000) :
    Calls Tryd.prog 27 #[.agg #[.int .i64 k, .int .i64 n, .string s], .int .i64 kind] w fun e w' => e = .returned (.agg #[.int .i64 (castV k n s kind).k, .int .i64 (castV k n s kind).n, .string (castV k n s kind).s]) ∧ Below w.heap.size w w' := by
  by_cases k1 : k = 1
  · have E : castV k n s kind = castC 1 (flagN (n != 0)) ⟨#[]⟩ kind := by simp [castV, cleanK, cleanN, cleanS, k1]
    rw [E]
    have C : Hid (∀ w, Calls Tryd.prog 37 #[.agg #[.int .i64 k, .int .i64 n, .string s]] w fun e w' => e = .returned (.agg #[.int .i64 1, .int .i64 (flagN (n != 0)), .string ⟨#[]⟩]) ∧ Below w.heap.size w w') := fun w => by have := value_Clean k n s w; simpa [cleanK, cleanN, cleanS, *] using this
    rcases Decidable.em (kind = 1) with rfl | h1
    · exact value_Cast11 k n s (flagN (n != 0)) flag_in w h he hs C
    rcases Decidable.em (kind = 2) with rfl | h2
    · exact value_Cast12 k n s (flagN (n != 0)) flag_in w h he hs C
    rcases Decidable.em (kind = 3) with rfl | h3
    · exact value_Cast13 k n s (flagN (n != 0)) flag_in w h he hs C
    exact value_Cast10 k n s (flagN (n != 0)) kind h1 h2 h3 flag_in w h he hs C
  by_cases k2 : k = 2
  · have E : castV k n s kind = castC 2 n ⟨#[]⟩ kind := by simp [castV, cleanK, cleanN, cleanS, k2]
    rw [E]
    have C : Hid (∀ w, Calls Tryd.prog 37 #[.agg #[.int .i64 k, .int .i64 n, .string s]] w fun e w' => e = .returned (.agg #[.int .i64 2, .int .i64 (n), .string ⟨#[]⟩]) ∧ Below w.heap.size w w') := fun w => by have := value_Clean k n s w; simpa [cleanK, cleanN, cleanS, *] using this
    rcases Decidable.em (kind = 1) with rfl | h1
    · exact value_Cast21 k n s (n) hn w h he hs C
    rcases Decidable.em (kind = 2) with rfl | h2
    · exact value_Cast22 k n s (n) hn w h he hs C
    rcases Decidable.em (kind = 3) with rfl | h3
    · exact value_Cast23 k n s (n) hn w h he hs C
    exact value_Cast20 k n s (n) kind h1 h2 h3 hn w h he hs C
  by_cases k3 : k = 3
  · have E : castV k n s kind = castC 3 0 s kind := by simp [castV, cleanK, cleanN, cleanS, k3]
    rw [E]
    have C : Hid (∀ w, Calls Tryd.prog 37 #[.agg #[.int .i64 k, .int .i64 n, .string s]] w fun e w' => e = .returned (.agg #[.int .i64 3, .int .i64 (0), .string s]) ∧ Below w.heap.size w w') := fun w => by have := value_Clean k n s w; simpa [cleanK, cleanN, cleanS, *] using this
    rcases Decidable.em (kind = 1) with rfl | h1
    · exact value_Cast31 k n s (0) zero_in w h he hs C
    rcases Decidable.em (kind = 2) with rfl | h2
    · exact value_Cast32 k n s (0) zero_in w h he hs C
    rcases Decidable.em (kind = 3) with rfl | h3
    · exact value_Cast33 k n s (0) zero_in w h he hs C
    exact value_Cast30 k n s (0) kind h1 h2 h3 zero_in w h he hs C
  have E : castV k n s kind = castC 0 0 ⟨#[]⟩ kind := by simp [castV, cleanK, cleanN, cleanS, k1, k2, k3]
  rw [E]
  have C : Hid (∀ w, Calls Tryd.prog 37 #[.agg #[.int .i64 k, .int .i64 n, .string s]] w fun e w' => e = .returned (.agg #[.int .i64 0, .int .i64 (0), .string ⟨#[]⟩]) ∧ Below w.heap.size w w') := fun w => by have := value_Clean k n s w; simpa [cleanK, cleanN, cleanS, *] using this
  rcases Decidable.em (kind = 1) with rfl | h1
  · exact value_Cast01 k n s (0) zero_in w h he hs C
  rcases Decidable.em (kind = 2) with rfl | h2
  · exact value_Cast02 k n s (0) zero_in w h he hs C
  rcases Decidable.em (kind = 3) with rfl | h3
  · exact value_Cast03 k n s (0) zero_in w h he hs C
  exact value_Cast00 k n s (0) kind h1 h2 h3 zero_in w h he hs C

set_option maxRecDepth 100000 in
set_option maxHeartbeats 6400000 in
theorem ref_Cast01 (k n : Int) (s : ByteArray) (n1 : Int) (hn1 : inI n1) (w : World) (h : HasPow w) (he : HasErrs w) (hs : s.size ≤ 2000000) (C : Hid (∀ w, Calls Tryd.prog 40 #[.agg #[.int .i64 k, .int .i64 n, .string s]] w fun e w' => e = .returned (.agg #[.int .i64 0, .int .i64 0, .string ⟨#[]⟩]) ∧ Below w.heap.size w w')) :
    Calls Tryd.prog 28 #[.agg #[.int .i64 k, .int .i64 n, .string s], .int .i64 1] w fun e w' => e = .returned (.agg #[.int .i64 (castC 0 0 ⟨#[]⟩ 1).k, .int .i64 (castC 0 0 ⟨#[]⟩ 1).n, .string (castC 0 0 ⟨#[]⟩ 1).s]) ∧ Below w.heap.size w w' := by
  have HP := Lib.hid h; have HE := Lib.hid he; have HN := Lib.hid hn1; have HS := Lib.hid hs
  have HX := Lib.hid ((Has.new w 38 #[.int .i64 k, .int .i64 n, .string s]).alloc (.cells #[.int .i64 0, .int .i64 0, .string ⟨#[]⟩] 38))
  clear h he hn1 hs
  have E : castC 0 0 ⟨#[]⟩ 1 = ⟨0, 0, ⟨#[]⟩⟩ := by simp [castC, showS, nullV]
  rw [E]; clear E
  go_enter Tryd.func28, Tryd.ntmps28
  go_wp2_with (first | (go_at_call 40; refine (C.out _).mono ?_; rintro e w1 ⟨rfl, hb⟩; have HX1 := HX.out.belowS hb; obtain ⟨x0, x1, x2⟩ := HX1.cells3; have xf := HX1.frozen; clear HX1; obtain ⟨hc, hf⟩ := bcell hb; have hz := hb.size; (try simp at hz); have hz0 : w.heap.size < w1.heap.size := (by omega); have hz1 : w.heap.size + 1 < w1.heap.size := (by omega)) | (go_at_call 32; refine (relstoreref_null _).mono ?_; rintro e w1 ⟨rfl, hb⟩; obtain ⟨hc, hf⟩ := bcell hb; have hz := hb.size; (try simp at hz); have hz0 : w.heap.size < w1.heap.size := (by omega); have hz1 : w.heap.size + 1 < w1.heap.size := (by omega)) | (go_at_call 36; refine (relstoreref_str _ _).mono ?_; rintro e w1 ⟨rfl, hb⟩; obtain ⟨hc, hf⟩ := bcell hb; have hz := hb.size; (try simp at hz); have hz0 : w.heap.size < w1.heap.size := (by omega); have hz1 : w.heap.size + 1 < w1.heap.size := (by omega)) | (go_at_call 33; refine (relstoreref_truth _ _).mono ?_; rintro e w1 ⟨rfl, hb⟩; obtain ⟨hc, hf⟩ := bcell hb; have hz := hb.size; (try simp at hz); have hz0 : w.heap.size < w1.heap.size := (by omega); have hz1 : w.heap.size + 1 < w1.heap.size := (by omega)) | (go_at_call 34; refine (relstoreref_num _ _).mono ?_; rintro e w1 ⟨rfl, hb⟩; obtain ⟨hc, hf⟩ := bcell hb; have hz := hb.size; (try simp at hz); have hz0 : w.heap.size < w1.heap.size := (by omega); have hz1 : w.heap.size + 1 < w1.heap.size := (by omega)))
  refine bodyPost_ret (v := .agg #[.int .i64 0, .int .i64 0, .string ⟨#[]⟩]) (by simp [results, Tryd.results28, go_sem, flagN, *]) rfl ⟨?_, ?_⟩
  · rfl
  · (repeat (first | (with_reducible exact Below.refl _ _) | (with_reducible assumption) | (with_reducible refine Below.setCell ?_ (by first | omega | (simp <;> omega)) _) | (with_reducible refine Below.drew ?_) | (with_reducible refine Below.alloc ?_ (by first | omega | (simp <;> omega)) _) | (with_reducible refine bel_step ?_ (by assumption) (by first | omega | (simp <;> omega)))))

set_option maxRecDepth 100000 in
set_option maxHeartbeats 6400000 in
theorem ref_Cast02 (k n : Int) (s : ByteArray) (n1 : Int) (hn1 : inI n1) (w : World) (h : HasPow w) (he : HasErrs w) (hs : s.size ≤ 2000000) (C : Hid (∀ w, Calls Tryd.prog 40 #[.agg #[.int .i64 k, .int .i64 n, .string s]] w fun e w' => e = .returned (.agg #[.int .i64 0, .int .i64 0, .string ⟨#[]⟩]) ∧ Below w.heap.size w w')) :
    Calls Tryd.prog 28 #[.agg #[.int .i64 k, .int .i64 n, .string s], .int .i64 2] w fun e w' => e = .returned (.agg #[.int .i64 (castC 0 0 ⟨#[]⟩ 2).k, .int .i64 (castC 0 0 ⟨#[]⟩ 2).n, .string (castC 0 0 ⟨#[]⟩ 2).s]) ∧ Below w.heap.size w w' := by
  have HP := Lib.hid h; have HE := Lib.hid he; have HN := Lib.hid hn1; have HS := Lib.hid hs
  have HX := Lib.hid ((Has.new w 38 #[.int .i64 k, .int .i64 n, .string s]).alloc (.cells #[.int .i64 0, .int .i64 0, .string ⟨#[]⟩] 38))
  clear h he hn1 hs
  have E : castC 0 0 ⟨#[]⟩ 2 = ⟨0, 0, ⟨#[]⟩⟩ := by simp [castC, showS, nullV]
  rw [E]; clear E
  go_enter Tryd.func28, Tryd.ntmps28
  go_wp2_with (first | (go_at_call 40; refine (C.out _).mono ?_; rintro e w1 ⟨rfl, hb⟩; have HX1 := HX.out.belowS hb; obtain ⟨x0, x1, x2⟩ := HX1.cells3; have xf := HX1.frozen; clear HX1; obtain ⟨hc, hf⟩ := bcell hb; have hz := hb.size; (try simp at hz); have hz0 : w.heap.size < w1.heap.size := (by omega); have hz1 : w.heap.size + 1 < w1.heap.size := (by omega)) | (go_at_call 32; refine (relstoreref_null _).mono ?_; rintro e w1 ⟨rfl, hb⟩; obtain ⟨hc, hf⟩ := bcell hb; have hz := hb.size; (try simp at hz); have hz0 : w.heap.size < w1.heap.size := (by omega); have hz1 : w.heap.size + 1 < w1.heap.size := (by omega)) | (go_at_call 36; refine (relstoreref_str _ _).mono ?_; rintro e w1 ⟨rfl, hb⟩; obtain ⟨hc, hf⟩ := bcell hb; have hz := hb.size; (try simp at hz); have hz0 : w.heap.size < w1.heap.size := (by omega); have hz1 : w.heap.size + 1 < w1.heap.size := (by omega)) | (go_at_call 33; refine (relstoreref_truth _ _).mono ?_; rintro e w1 ⟨rfl, hb⟩; obtain ⟨hc, hf⟩ := bcell hb; have hz := hb.size; (try simp at hz); have hz0 : w.heap.size < w1.heap.size := (by omega); have hz1 : w.heap.size + 1 < w1.heap.size := (by omega)) | (go_at_call 34; refine (relstoreref_num _ _).mono ?_; rintro e w1 ⟨rfl, hb⟩; obtain ⟨hc, hf⟩ := bcell hb; have hz := hb.size; (try simp at hz); have hz0 : w.heap.size < w1.heap.size := (by omega); have hz1 : w.heap.size + 1 < w1.heap.size := (by omega)))
  refine bodyPost_ret (v := .agg #[.int .i64 0, .int .i64 0, .string ⟨#[]⟩]) (by simp [results, Tryd.results28, go_sem, flagN, *]) rfl ⟨?_, ?_⟩
  · rfl
  · (repeat (first | (with_reducible exact Below.refl _ _) | (with_reducible assumption) | (with_reducible refine Below.setCell ?_ (by first | omega | (simp <;> omega)) _) | (with_reducible refine Below.drew ?_) | (with_reducible refine Below.alloc ?_ (by first | omega | (simp <;> omega)) _) | (with_reducible refine bel_step ?_ (by assumption) (by first | omega | (simp <;> omega)))))

set_option maxRecDepth 100000 in
set_option maxHeartbeats 6400000 in
theorem ref_Cast03 (k n : Int) (s : ByteArray) (n1 : Int) (hn1 : inI n1) (w : World) (h : HasPow w) (he : HasErrs w) (hs : s.size ≤ 2000000) (C : Hid (∀ w, Calls Tryd.prog 40 #[.agg #[.int .i64 k, .int .i64 n, .string s]] w fun e w' => e = .returned (.agg #[.int .i64 0, .int .i64 0, .string ⟨#[]⟩]) ∧ Below w.heap.size w w')) :
    Calls Tryd.prog 28 #[.agg #[.int .i64 k, .int .i64 n, .string s], .int .i64 3] w fun e w' => e = .returned (.agg #[.int .i64 (castC 0 0 ⟨#[]⟩ 3).k, .int .i64 (castC 0 0 ⟨#[]⟩ 3).n, .string (castC 0 0 ⟨#[]⟩ 3).s]) ∧ Below w.heap.size w w' := by
  have HP := Lib.hid h; have HE := Lib.hid he; have HN := Lib.hid hn1; have HS := Lib.hid hs
  have HX := Lib.hid ((Has.new w 38 #[.int .i64 k, .int .i64 n, .string s]).alloc (.cells #[.int .i64 0, .int .i64 0, .string ⟨#[]⟩] 38))
  clear h he hn1 hs
  have E : castC 0 0 ⟨#[]⟩ 3 = ⟨0, 0, ⟨#[]⟩⟩ := by simp [castC, showS, nullV]
  rw [E]; clear E
  go_enter Tryd.func28, Tryd.ntmps28
  go_wp2_with (first | (go_at_call 40; refine (C.out _).mono ?_; rintro e w1 ⟨rfl, hb⟩; have HX1 := HX.out.belowS hb; obtain ⟨x0, x1, x2⟩ := HX1.cells3; have xf := HX1.frozen; clear HX1; obtain ⟨hc, hf⟩ := bcell hb; have hz := hb.size; (try simp at hz); have hz0 : w.heap.size < w1.heap.size := (by omega); have hz1 : w.heap.size + 1 < w1.heap.size := (by omega)) | (go_at_call 32; refine (relstoreref_null _).mono ?_; rintro e w1 ⟨rfl, hb⟩; obtain ⟨hc, hf⟩ := bcell hb; have hz := hb.size; (try simp at hz); have hz0 : w.heap.size < w1.heap.size := (by omega); have hz1 : w.heap.size + 1 < w1.heap.size := (by omega)) | (go_at_call 36; refine (relstoreref_str _ _).mono ?_; rintro e w1 ⟨rfl, hb⟩; obtain ⟨hc, hf⟩ := bcell hb; have hz := hb.size; (try simp at hz); have hz0 : w.heap.size < w1.heap.size := (by omega); have hz1 : w.heap.size + 1 < w1.heap.size := (by omega)) | (go_at_call 33; refine (relstoreref_truth _ _).mono ?_; rintro e w1 ⟨rfl, hb⟩; obtain ⟨hc, hf⟩ := bcell hb; have hz := hb.size; (try simp at hz); have hz0 : w.heap.size < w1.heap.size := (by omega); have hz1 : w.heap.size + 1 < w1.heap.size := (by omega)) | (go_at_call 34; refine (relstoreref_num _ _).mono ?_; rintro e w1 ⟨rfl, hb⟩; obtain ⟨hc, hf⟩ := bcell hb; have hz := hb.size; (try simp at hz); have hz0 : w.heap.size < w1.heap.size := (by omega); have hz1 : w.heap.size + 1 < w1.heap.size := (by omega)))
  refine bodyPost_ret (v := .agg #[.int .i64 0, .int .i64 0, .string ⟨#[]⟩]) (by simp [results, Tryd.results28, go_sem, flagN, *]) rfl ⟨?_, ?_⟩
  · rfl
  · (repeat (first | (with_reducible exact Below.refl _ _) | (with_reducible assumption) | (with_reducible refine Below.setCell ?_ (by first | omega | (simp <;> omega)) _) | (with_reducible refine Below.drew ?_) | (with_reducible refine Below.alloc ?_ (by first | omega | (simp <;> omega)) _) | (with_reducible refine bel_step ?_ (by assumption) (by first | omega | (simp <;> omega)))))

set_option maxRecDepth 100000 in
set_option maxHeartbeats 6400000 in
theorem ref_Cast00 (k n : Int) (s : ByteArray) (n1 : Int) (kind : Int) (h1 : ¬ kind = 1) (h2 : ¬ kind = 2) (h3 : ¬ kind = 3) (hn1 : inI n1) (w : World) (h : HasPow w) (he : HasErrs w) (hs : s.size ≤ 2000000) (C : Hid (∀ w, Calls Tryd.prog 40 #[.agg #[.int .i64 k, .int .i64 n, .string s]] w fun e w' => e = .returned (.agg #[.int .i64 0, .int .i64 0, .string ⟨#[]⟩]) ∧ Below w.heap.size w w')) :
    Calls Tryd.prog 28 #[.agg #[.int .i64 k, .int .i64 n, .string s], .int .i64 kind] w fun e w' => e = .returned (.agg #[.int .i64 (castC 0 0 ⟨#[]⟩ kind).k, .int .i64 (castC 0 0 ⟨#[]⟩ kind).n, .string (castC 0 0 ⟨#[]⟩ kind).s]) ∧ Below w.heap.size w w' := by
  have HP := Lib.hid h; have HE := Lib.hid he; have HN := Lib.hid hn1; have HS := Lib.hid hs
  have HX := Lib.hid ((Has.new w 38 #[.int .i64 k, .int .i64 n, .string s]).alloc (.cells #[.int .i64 0, .int .i64 0, .string ⟨#[]⟩] 38))
  clear h he hn1 hs
  have E : castC 0 0 ⟨#[]⟩ kind = nullV := by unfold castC; rw [if_pos rfl]
  rw [E]; clear E
  have e1 : (kind == 1) = false := beq_eq_false_iff_ne.2 h1
  have e2 : (kind == 2) = false := beq_eq_false_iff_ne.2 h2
  have e3 : (kind == 3) = false := beq_eq_false_iff_ne.2 h3
  have d1 : ((1 : Int) == kind) = false := beq_eq_false_iff_ne.2 fun e => h1 e.symm
  have d2 : ((2 : Int) == kind) = false := beq_eq_false_iff_ne.2 fun e => h2 e.symm
  have d3 : ((3 : Int) == kind) = false := beq_eq_false_iff_ne.2 fun e => h3 e.symm
  by_cases g1 : kind < 1
  · clear h1 h2 h3
    go_enter Tryd.func28, Tryd.ntmps28
    go_wp2_with (first | (go_at_call 40; refine (C.out _).mono ?_; rintro e w1 ⟨rfl, hb⟩; have HX1 := HX.out.belowS hb; obtain ⟨x0, x1, x2⟩ := HX1.cells3; have xf := HX1.frozen; clear HX1; obtain ⟨hc, hf⟩ := bcell hb; have hz := hb.size; (try simp at hz); have hz0 : w.heap.size < w1.heap.size := (by omega); have hz1 : w.heap.size + 1 < w1.heap.size := (by omega)) | (go_at_call 32; refine (relstoreref_null _).mono ?_; rintro e w1 ⟨rfl, hb⟩; obtain ⟨hc, hf⟩ := bcell hb; have hz := hb.size; (try simp at hz); have hz0 : w.heap.size < w1.heap.size := (by omega); have hz1 : w.heap.size + 1 < w1.heap.size := (by omega)) | (go_at_call 36; refine (relstoreref_str _ _).mono ?_; rintro e w1 ⟨rfl, hb⟩; obtain ⟨hc, hf⟩ := bcell hb; have hz := hb.size; (try simp at hz); have hz0 : w.heap.size < w1.heap.size := (by omega); have hz1 : w.heap.size + 1 < w1.heap.size := (by omega)) | (go_at_call 33; refine (relstoreref_truth _ _).mono ?_; rintro e w1 ⟨rfl, hb⟩; obtain ⟨hc, hf⟩ := bcell hb; have hz := hb.size; (try simp at hz); have hz0 : w.heap.size < w1.heap.size := (by omega); have hz1 : w.heap.size + 1 < w1.heap.size := (by omega)) | (go_at_call 34; refine (relstoreref_num _ _).mono ?_; rintro e w1 ⟨rfl, hb⟩; obtain ⟨hc, hf⟩ := bcell hb; have hz := hb.size; (try simp at hz); have hz0 : w.heap.size < w1.heap.size := (by omega); have hz1 : w.heap.size + 1 < w1.heap.size := (by omega)))
    refine bodyPost_ret (v := .agg #[.int .i64 0, .int .i64 0, .string ⟨#[]⟩]) (by simp [results, Tryd.results28, go_sem, flagN, *]) rfl ⟨?_, ?_⟩
    · rfl
    · (repeat (first | (with_reducible exact Below.refl _ _) | (with_reducible assumption) | (with_reducible refine Below.setCell ?_ (by first | omega | (simp <;> omega)) _) | (with_reducible refine Below.drew ?_) | (with_reducible refine Below.alloc ?_ (by first | omega | (simp <;> omega)) _) | (with_reducible refine bel_step ?_ (by assumption) (by first | omega | (simp <;> omega)))))
  · have g3 : 3 < kind := by omega
    clear h1 h2 h3
    go_enter Tryd.func28, Tryd.ntmps28
    go_wp2_with (first | (go_at_call 40; refine (C.out _).mono ?_; rintro e w1 ⟨rfl, hb⟩; have HX1 := HX.out.belowS hb; obtain ⟨x0, x1, x2⟩ := HX1.cells3; have xf := HX1.frozen; clear HX1; obtain ⟨hc, hf⟩ := bcell hb; have hz := hb.size; (try simp at hz); have hz0 : w.heap.size < w1.heap.size := (by omega); have hz1 : w.heap.size + 1 < w1.heap.size := (by omega)) | (go_at_call 32; refine (relstoreref_null _).mono ?_; rintro e w1 ⟨rfl, hb⟩; obtain ⟨hc, hf⟩ := bcell hb; have hz := hb.size; (try simp at hz); have hz0 : w.heap.size < w1.heap.size := (by omega); have hz1 : w.heap.size + 1 < w1.heap.size := (by omega)) | (go_at_call 36; refine (relstoreref_str _ _).mono ?_; rintro e w1 ⟨rfl, hb⟩; obtain ⟨hc, hf⟩ := bcell hb; have hz := hb.size; (try simp at hz); have hz0 : w.heap.size < w1.heap.size := (by omega); have hz1 : w.heap.size + 1 < w1.heap.size := (by omega)) | (go_at_call 33; refine (relstoreref_truth _ _).mono ?_; rintro e w1 ⟨rfl, hb⟩; obtain ⟨hc, hf⟩ := bcell hb; have hz := hb.size; (try simp at hz); have hz0 : w.heap.size < w1.heap.size := (by omega); have hz1 : w.heap.size + 1 < w1.heap.size := (by omega)) | (go_at_call 34; refine (relstoreref_num _ _).mono ?_; rintro e w1 ⟨rfl, hb⟩; obtain ⟨hc, hf⟩ := bcell hb; have hz := hb.size; (try simp at hz); have hz0 : w.heap.size < w1.heap.size := (by omega); have hz1 : w.heap.size + 1 < w1.heap.size := (by omega)))
    refine bodyPost_ret (v := .agg #[.int .i64 0, .int .i64 0, .string ⟨#[]⟩]) (by simp [results, Tryd.results28, go_sem, flagN, *]) rfl ⟨?_, ?_⟩
    · rfl
    · (repeat (first | (with_reducible exact Below.refl _ _) | (with_reducible assumption) | (with_reducible refine Below.setCell ?_ (by first | omega | (simp <;> omega)) _) | (with_reducible refine Below.drew ?_) | (with_reducible refine Below.alloc ?_ (by first | omega | (simp <;> omega)) _) | (with_reducible refine bel_step ?_ (by assumption) (by first | omega | (simp <;> omega)))))

set_option maxRecDepth 100000 in
set_option maxHeartbeats 6400000 in
theorem ref_Cast11 (k n : Int) (s : ByteArray) (n1 : Int) (hn1 : inI n1) (w : World) (h : HasPow w) (he : HasErrs w) (hs : s.size ≤ 2000000) (C : Hid (∀ w, Calls Tryd.prog 40 #[.agg #[.int .i64 k, .int .i64 n, .string s]] w fun e w' => e = .returned (.agg #[.int .i64 1, .int .i64 n1, .string ⟨#[]⟩]) ∧ Below w.heap.size w w')) :
    Calls Tryd.prog 28 #[.agg #[.int .i64 k, .int .i64 n, .string s], .int .i64 1] w fun e w' => e = .returned (.agg #[.int .i64 (castC 1 n1 ⟨#[]⟩ 1).k, .int .i64 (castC 1 n1 ⟨#[]⟩ 1).n, .string (castC 1 n1 ⟨#[]⟩ 1).s]) ∧ Below w.heap.size w w' := by
  have HP := Lib.hid h; have HE := Lib.hid he; have HN := Lib.hid hn1; have HS := Lib.hid hs
  have HX := Lib.hid ((Has.new w 38 #[.int .i64 k, .int .i64 n, .string s]).alloc (.cells #[.int .i64 0, .int .i64 0, .string ⟨#[]⟩] 38))
  clear h he hn1 hs
  have E : castC 1 n1 ⟨#[]⟩ 1 = ⟨1, n1, ⟨#[]⟩⟩ := by simp [castC, showS, nullV]
  rw [E]; clear E
  go_enter Tryd.func28, Tryd.ntmps28
  go_wp2_with (first | (go_at_call 40; refine (C.out _).mono ?_; rintro e w1 ⟨rfl, hb⟩; have HX1 := HX.out.belowS hb; obtain ⟨x0, x1, x2⟩ := HX1.cells3; have xf := HX1.frozen; clear HX1; obtain ⟨hc, hf⟩ := bcell hb; have hz := hb.size; (try simp at hz); have hz0 : w.heap.size < w1.heap.size := (by omega); have hz1 : w.heap.size + 1 < w1.heap.size := (by omega)) | (go_at_call 32; refine (relstoreref_null _).mono ?_; rintro e w1 ⟨rfl, hb⟩; obtain ⟨hc, hf⟩ := bcell hb; have hz := hb.size; (try simp at hz); have hz0 : w.heap.size < w1.heap.size := (by omega); have hz1 : w.heap.size + 1 < w1.heap.size := (by omega)) | (go_at_call 36; refine (relstoreref_str _ _).mono ?_; rintro e w1 ⟨rfl, hb⟩; obtain ⟨hc, hf⟩ := bcell hb; have hz := hb.size; (try simp at hz); have hz0 : w.heap.size < w1.heap.size := (by omega); have hz1 : w.heap.size + 1 < w1.heap.size := (by omega)) | (go_at_call 33; refine (relstoreref_truth _ _).mono ?_; rintro e w1 ⟨rfl, hb⟩; obtain ⟨hc, hf⟩ := bcell hb; have hz := hb.size; (try simp at hz); have hz0 : w.heap.size < w1.heap.size := (by omega); have hz1 : w.heap.size + 1 < w1.heap.size := (by omega)) | (go_at_call 34; refine (relstoreref_num _ _).mono ?_; rintro e w1 ⟨rfl, hb⟩; obtain ⟨hc, hf⟩ := bcell hb; have hz := hb.size; (try simp at hz); have hz0 : w.heap.size < w1.heap.size := (by omega); have hz1 : w.heap.size + 1 < w1.heap.size := (by omega)))
  refine bodyPost_ret (v := .agg #[.int .i64 1, .int .i64 n1, .string ⟨#[]⟩]) (by simp [results, Tryd.results28, go_sem, flagN, *]) rfl ⟨?_, ?_⟩
  · rfl
  · (repeat (first | (with_reducible exact Below.refl _ _) | (with_reducible assumption) | (with_reducible refine Below.setCell ?_ (by first | omega | (simp <;> omega)) _) | (with_reducible refine Below.drew ?_) | (with_reducible refine Below.alloc ?_ (by first | omega | (simp <;> omega)) _) | (with_reducible refine bel_step ?_ (by assumption) (by first | omega | (simp <;> omega)))))

set_option maxRecDepth 100000 in
set_option maxHeartbeats 6400000 in
theorem ref_Cast12 (k n : Int) (s : ByteArray) (n1 : Int) (hn1 : inI n1) (w : World) (h : HasPow w) (he : HasErrs w) (hs : s.size ≤ 2000000) (C : Hid (∀ w, Calls Tryd.prog 40 #[.agg #[.int .i64 k, .int .i64 n, .string s]] w fun e w' => e = .returned (.agg #[.int .i64 1, .int .i64 n1, .string ⟨#[]⟩]) ∧ Below w.heap.size w w')) :
    Calls Tryd.prog 28 #[.agg #[.int .i64 k, .int .i64 n, .string s], .int .i64 2] w fun e w' => e = .returned (.agg #[.int .i64 (castC 1 n1 ⟨#[]⟩ 2).k, .int .i64 (castC 1 n1 ⟨#[]⟩ 2).n, .string (castC 1 n1 ⟨#[]⟩ 2).s]) ∧ Below w.heap.size w w' := by
  have HP := Lib.hid h; have HE := Lib.hid he; have HN := Lib.hid hn1; have HS := Lib.hid hs
  have HX := Lib.hid ((Has.new w 38 #[.int .i64 k, .int .i64 n, .string s]).alloc (.cells #[.int .i64 0, .int .i64 0, .string ⟨#[]⟩] 38))
  clear h he hn1 hs
  have E : castC 1 n1 ⟨#[]⟩ 2 = ⟨2, n1, ⟨#[]⟩⟩ := by simp [castC, showS, nullV]
  rw [E]; clear E
  go_enter Tryd.func28, Tryd.ntmps28
  go_wp2_with (first | (go_at_call 40; refine (C.out _).mono ?_; rintro e w1 ⟨rfl, hb⟩; have HX1 := HX.out.belowS hb; obtain ⟨x0, x1, x2⟩ := HX1.cells3; have xf := HX1.frozen; clear HX1; obtain ⟨hc, hf⟩ := bcell hb; have hz := hb.size; (try simp at hz); have hz0 : w.heap.size < w1.heap.size := (by omega); have hz1 : w.heap.size + 1 < w1.heap.size := (by omega)) | (go_at_call 32; refine (relstoreref_null _).mono ?_; rintro e w1 ⟨rfl, hb⟩; obtain ⟨hc, hf⟩ := bcell hb; have hz := hb.size; (try simp at hz); have hz0 : w.heap.size < w1.heap.size := (by omega); have hz1 : w.heap.size + 1 < w1.heap.size := (by omega)) | (go_at_call 36; refine (relstoreref_str _ _).mono ?_; rintro e w1 ⟨rfl, hb⟩; obtain ⟨hc, hf⟩ := bcell hb; have hz := hb.size; (try simp at hz); have hz0 : w.heap.size < w1.heap.size := (by omega); have hz1 : w.heap.size + 1 < w1.heap.size := (by omega)) | (go_at_call 33; refine (relstoreref_truth _ _).mono ?_; rintro e w1 ⟨rfl, hb⟩; obtain ⟨hc, hf⟩ := bcell hb; have hz := hb.size; (try simp at hz); have hz0 : w.heap.size < w1.heap.size := (by omega); have hz1 : w.heap.size + 1 < w1.heap.size := (by omega)) | (go_at_call 34; refine (relstoreref_num _ _).mono ?_; rintro e w1 ⟨rfl, hb⟩; obtain ⟨hc, hf⟩ := bcell hb; have hz := hb.size; (try simp at hz); have hz0 : w.heap.size < w1.heap.size := (by omega); have hz1 : w.heap.size + 1 < w1.heap.size := (by omega)))
  refine bodyPost_ret (v := .agg #[.int .i64 2, .int .i64 n1, .string ⟨#[]⟩]) (by simp [results, Tryd.results28, go_sem, flagN, *]) rfl ⟨?_, ?_⟩
  · rfl
  · (repeat (first | (with_reducible exact Below.refl _ _) | (with_reducible assumption) | (with_reducible refine Below.setCell ?_ (by first | omega | (simp <;> omega)) _) | (with_reducible refine Below.drew ?_) | (with_reducible refine Below.alloc ?_ (by first | omega | (simp <;> omega)) _) | (with_reducible refine bel_step ?_ (by assumption) (by first | omega | (simp <;> omega)))))

set_option maxRecDepth 100000 in
set_option maxHeartbeats 6400000 in
theorem ref_Cast13 (k n : Int) (s : ByteArray) (n1 : Int) (hn1 : inI n1) (w : World) (h : HasPow w) (he : HasErrs w) (hs : s.size ≤ 2000000) (C : Hid (∀ w, Calls Tryd.prog 40 #[.agg #[.int .i64 k, .int .i64 n, .string s]] w fun e w' => e = .returned (.agg #[.int .i64 1, .int .i64 n1, .string ⟨#[]⟩]) ∧ Below w.heap.size w w')) :
    Calls Tryd.prog 28 #[.agg #[.int .i64 k, .int .i64 n, .string s], .int .i64 3] w fun e w' => e = .returned (.agg #[.int .i64 (castC 1 n1 ⟨#[]⟩ 3).k, .int .i64 (castC 1 n1 ⟨#[]⟩ 3).n, .string (castC 1 n1 ⟨#[]⟩ 3).s]) ∧ Below w.heap.size w w' := by
  have HP := Lib.hid h; have HE := Lib.hid he; have HN := Lib.hid hn1; have HS := Lib.hid hs
  have HX := Lib.hid ((Has.new w 38 #[.int .i64 k, .int .i64 n, .string s]).alloc (.cells #[.int .i64 0, .int .i64 0, .string ⟨#[]⟩] 38))
  clear h he hn1 hs
  obtain ⟨R, hR⟩ : ∃ R, showS 1 n1 ⟨#[]⟩ = R := ⟨_, rfl⟩
  have SH := Lib.hid (fun w h => ref_Show 1 n1 ⟨#[]⟩ HN.out w h)
  have E : castC 1 n1 ⟨#[]⟩ 3 = ⟨3, 0, R⟩ := by rw [← hR]; simp [castC]
  rw [E]; rw [hR] at SH; clear E hR
  go_enter Tryd.func28, Tryd.ntmps28
  go_wp2_with (first | (go_at_call 40; refine (C.out _).mono ?_; rintro e w1 ⟨rfl, hb⟩; have HX1 := HX.out.belowS hb; obtain ⟨x0, x1, x2⟩ := HX1.cells3; have xf := HX1.frozen; clear HX1; obtain ⟨hc, hf⟩ := bcell hb; have hz := hb.size; (try simp at hz); have hz0 : w.heap.size < w1.heap.size := (by omega); have hz1 : w.heap.size + 1 < w1.heap.size := (by omega)) | (go_at_call 32; refine (relstoreref_null _).mono ?_; rintro e w1 ⟨rfl, hb⟩; obtain ⟨hc, hf⟩ := bcell hb; have hz := hb.size; (try simp at hz); have hz0 : w.heap.size < w1.heap.size := (by omega); have hz1 : w.heap.size + 1 < w1.heap.size := (by omega)) | (go_at_call 36; refine (relstoreref_str _ _).mono ?_; rintro e w1 ⟨rfl, hb⟩; obtain ⟨hc, hf⟩ := bcell hb; have hz := hb.size; (try simp at hz); have hz0 : w.heap.size < w1.heap.size := (by omega); have hz1 : w.heap.size + 1 < w1.heap.size := (by omega)) | (go_at_call 33; refine (relstoreref_truth _ _).mono ?_; rintro e w1 ⟨rfl, hb⟩; obtain ⟨hc, hf⟩ := bcell hb; have hz := hb.size; (try simp at hz); have hz0 : w.heap.size < w1.heap.size := (by omega); have hz1 : w.heap.size + 1 < w1.heap.size := (by omega)) | (go_at_call 34; refine (relstoreref_num _ _).mono ?_; rintro e w1 ⟨rfl, hb⟩; obtain ⟨hc, hf⟩ := bcell hb; have hz := hb.size; (try simp at hz); have hz0 : w.heap.size < w1.heap.size := (by omega); have hz1 : w.heap.size + 1 < w1.heap.size := (by omega)) | (go_at_call 30; refine (SH.out _ (HP.out.below (by (repeat (first | (with_reducible exact Below.refl _ _) | (with_reducible assumption) | (with_reducible refine Below.setCell ?_ (by first | omega | (simp <;> omega)) _) | (with_reducible refine Below.drew ?_) | (with_reducible refine Below.alloc ?_ (by first | omega | (simp <;> omega)) _) | (with_reducible refine bel_step ?_ (by assumption) (by first | omega | (simp <;> omega)))))))).mono ?_; rintro e w1 ⟨rfl, hb⟩; obtain ⟨hc, hf⟩ := bcell hb; have hz := hb.size; (try simp at hz); have hz0 : w.heap.size < w1.heap.size := (by omega); have hz1 : w.heap.size + 1 < w1.heap.size := (by omega)))
  refine bodyPost_ret (v := .agg #[.int .i64 3, .int .i64 0, .string R]) (by simp [results, Tryd.results28, go_sem, flagN, *]) rfl ⟨?_, ?_⟩
  · rfl
  · (repeat (first | (with_reducible exact Below.refl _ _) | (with_reducible assumption) | (with_reducible refine Below.setCell ?_ (by first | omega | (simp <;> omega)) _) | (with_reducible refine Below.drew ?_) | (with_reducible refine Below.alloc ?_ (by first | omega | (simp <;> omega)) _) | (with_reducible refine bel_step ?_ (by assumption) (by first | omega | (simp <;> omega)))))

set_option maxRecDepth 100000 in
set_option maxHeartbeats 6400000 in
theorem ref_Cast10 (k n : Int) (s : ByteArray) (n1 : Int) (kind : Int) (h1 : ¬ kind = 1) (h2 : ¬ kind = 2) (h3 : ¬ kind = 3) (hn1 : inI n1) (w : World) (h : HasPow w) (he : HasErrs w) (hs : s.size ≤ 2000000) (C : Hid (∀ w, Calls Tryd.prog 40 #[.agg #[.int .i64 k, .int .i64 n, .string s]] w fun e w' => e = .returned (.agg #[.int .i64 1, .int .i64 n1, .string ⟨#[]⟩]) ∧ Below w.heap.size w w')) :
    Calls Tryd.prog 28 #[.agg #[.int .i64 k, .int .i64 n, .string s], .int .i64 kind] w fun e w' => e = .returned (.agg #[.int .i64 (castC 1 n1 ⟨#[]⟩ kind).k, .int .i64 (castC 1 n1 ⟨#[]⟩ kind).n, .string (castC 1 n1 ⟨#[]⟩ kind).s]) ∧ Below w.heap.size w w' := by
  have HP := Lib.hid h; have HE := Lib.hid he; have HN := Lib.hid hn1; have HS := Lib.hid hs
  have HX := Lib.hid ((Has.new w 38 #[.int .i64 k, .int .i64 n, .string s]).alloc (.cells #[.int .i64 0, .int .i64 0, .string ⟨#[]⟩] 38))
  clear h he hn1 hs
  have E : castC 1 n1 ⟨#[]⟩ kind = nullV := by unfold castC; rw [if_neg (by decide), if_neg h3, if_neg h2, if_neg h1]
  rw [E]; clear E
  have e1 : (kind == 1) = false := beq_eq_false_iff_ne.2 h1
  have e2 : (kind == 2) = false := beq_eq_false_iff_ne.2 h2
  have e3 : (kind == 3) = false := beq_eq_false_iff_ne.2 h3
  have d1 : ((1 : Int) == kind) = false := beq_eq_false_iff_ne.2 fun e => h1 e.symm
  have d2 : ((2 : Int) == kind) = false := beq_eq_false_iff_ne.2 fun e => h2 e.symm
  have d3 : ((3 : Int) == kind) = false := beq_eq_false_iff_ne.2 fun e => h3 e.symm
  by_cases g1 : kind < 1
  · clear h1 h2 h3
    go_enter Tryd.func28, Tryd.ntmps28
    go_wp2_with (first | (go_at_call 40; refine (C.out _).mono ?_; rintro e w1 ⟨rfl, hb⟩; have HX1 := HX.out.belowS hb; obtain ⟨x0, x1, x2⟩ := HX1.cells3; have xf := HX1.frozen; clear HX1; obtain ⟨hc, hf⟩ := bcell hb; have hz := hb.size; (try simp at hz); have hz0 : w.heap.size < w1.heap.size := (by omega); have hz1 : w.heap.size + 1 < w1.heap.size := (by omega)) | (go_at_call 32; refine (relstoreref_null _).mono ?_; rintro e w1 ⟨rfl, hb⟩; obtain ⟨hc, hf⟩ := bcell hb; have hz := hb.size; (try simp at hz); have hz0 : w.heap.size < w1.heap.size := (by omega); have hz1 : w.heap.size + 1 < w1.heap.size := (by omega)) | (go_at_call 36; refine (relstoreref_str _ _).mono ?_; rintro e w1 ⟨rfl, hb⟩; obtain ⟨hc, hf⟩ := bcell hb; have hz := hb.size; (try simp at hz); have hz0 : w.heap.size < w1.heap.size := (by omega); have hz1 : w.heap.size + 1 < w1.heap.size := (by omega)) | (go_at_call 33; refine (relstoreref_truth _ _).mono ?_; rintro e w1 ⟨rfl, hb⟩; obtain ⟨hc, hf⟩ := bcell hb; have hz := hb.size; (try simp at hz); have hz0 : w.heap.size < w1.heap.size := (by omega); have hz1 : w.heap.size + 1 < w1.heap.size := (by omega)) | (go_at_call 34; refine (relstoreref_num _ _).mono ?_; rintro e w1 ⟨rfl, hb⟩; obtain ⟨hc, hf⟩ := bcell hb; have hz := hb.size; (try simp at hz); have hz0 : w.heap.size < w1.heap.size := (by omega); have hz1 : w.heap.size + 1 < w1.heap.size := (by omega)))
    refine bodyPost_ret (v := .agg #[.int .i64 0, .int .i64 0, .string ⟨#[]⟩]) (by simp [results, Tryd.results28, go_sem, flagN, *]) rfl ⟨?_, ?_⟩
    · rfl
    · (repeat (first | (with_reducible exact Below.refl _ _) | (with_reducible assumption) | (with_reducible refine Below.setCell ?_ (by first | omega | (simp <;> omega)) _) | (with_reducible refine Below.drew ?_) | (with_reducible refine Below.alloc ?_ (by first | omega | (simp <;> omega)) _) | (with_reducible refine bel_step ?_ (by assumption) (by first | omega | (simp <;> omega)))))
  · have g3 : 3 < kind := by omega
    clear h1 h2 h3
    go_enter Tryd.func28, Tryd.ntmps28
    go_wp2_with (first | (go_at_call 40; refine (C.out _).mono ?_; rintro e w1 ⟨rfl, hb⟩; have HX1 := HX.out.belowS hb; obtain ⟨x0, x1, x2⟩ := HX1.cells3; have xf := HX1.frozen; clear HX1; obtain ⟨hc, hf⟩ := bcell hb; have hz := hb.size; (try simp at hz); have hz0 : w.heap.size < w1.heap.size := (by omega); have hz1 : w.heap.size + 1 < w1.heap.size := (by omega)) | (go_at_call 32; refine (relstoreref_null _).mono ?_; rintro e w1 ⟨rfl, hb⟩; obtain ⟨hc, hf⟩ := bcell hb; have hz := hb.size; (try simp at hz); have hz0 : w.heap.size < w1.heap.size := (by omega); have hz1 : w.heap.size + 1 < w1.heap.size := (by omega)) | (go_at_call 36; refine (relstoreref_str _ _).mono ?_; rintro e w1 ⟨rfl, hb⟩; obtain ⟨hc, hf⟩ := bcell hb; have hz := hb.size; (try simp at hz); have hz0 : w.heap.size < w1.heap.size := (by omega); have hz1 : w.heap.size + 1 < w1.heap.size := (by omega)) | (go_at_call 33; refine (relstoreref_truth _ _).mono ?_; rintro e w1 ⟨rfl, hb⟩; obtain ⟨hc, hf⟩ := bcell hb; have hz := hb.size; (try simp at hz); have hz0 : w.heap.size < w1.heap.size := (by omega); have hz1 : w.heap.size + 1 < w1.heap.size := (by omega)) | (go_at_call 34; refine (relstoreref_num _ _).mono ?_; rintro e w1 ⟨rfl, hb⟩; obtain ⟨hc, hf⟩ := bcell hb; have hz := hb.size; (try simp at hz); have hz0 : w.heap.size < w1.heap.size := (by omega); have hz1 : w.heap.size + 1 < w1.heap.size := (by omega)))
    refine bodyPost_ret (v := .agg #[.int .i64 0, .int .i64 0, .string ⟨#[]⟩]) (by simp [results, Tryd.results28, go_sem, flagN, *]) rfl ⟨?_, ?_⟩
    · rfl
    · (repeat (first | (with_reducible exact Below.refl _ _) | (with_reducible assumption) | (with_reducible refine Below.setCell ?_ (by first | omega | (simp <;> omega)) _) | (with_reducible refine Below.drew ?_) | (with_reducible refine Below.alloc ?_ (by first | omega | (simp <;> omega)) _) | (with_reducible refine bel_step ?_ (by assumption) (by first | omega | (simp <;> omega)))))

set_option maxRecDepth 100000 in
set_option maxHeartbeats 6400000 in
theorem ref_Cast21 (k n : Int) (s : ByteArray) (n1 : Int) (hn1 : inI n1) (w : World) (h : HasPow w) (he : HasErrs w) (hs : s.size ≤ 2000000) (C : Hid (∀ w, Calls Tryd.prog 40 #[.agg #[.int .i64 k, .int .i64 n, .string s]] w fun e w' => e = .returned (.agg #[.int .i64 2, .int .i64 n1, .string ⟨#[]⟩]) ∧ Below w.heap.size w w')) :
    Calls Tryd.prog 28 #[.agg #[.int .i64 k, .int .i64 n, .string s], .int .i64 1] w fun e w' => e = .returned (.agg #[.int .i64 (castC 2 n1 ⟨#[]⟩ 1).k, .int .i64 (castC 2 n1 ⟨#[]⟩ 1).n, .string (castC 2 n1 ⟨#[]⟩ 1).s]) ∧ Below w.heap.size w w' := by
  have HP := Lib.hid h; have HE := Lib.hid he; have HN := Lib.hid hn1; have HS := Lib.hid hs
  have HX := Lib.hid ((Has.new w 38 #[.int .i64 k, .int .i64 n, .string s]).alloc (.cells #[.int .i64 0, .int .i64 0, .string ⟨#[]⟩] 38))
  clear h he hn1 hs
  have E : castC 2 n1 ⟨#[]⟩ 1 = ⟨1, flagN (n1 != 0), ⟨#[]⟩⟩ := by simp [castC, showS, nullV]
  rw [E]; clear E
  go_enter Tryd.func28, Tryd.ntmps28
  go_wp2_with (first | (go_at_call 40; refine (C.out _).mono ?_; rintro e w1 ⟨rfl, hb⟩; have HX1 := HX.out.belowS hb; obtain ⟨x0, x1, x2⟩ := HX1.cells3; have xf := HX1.frozen; clear HX1; obtain ⟨hc, hf⟩ := bcell hb; have hz := hb.size; (try simp at hz); have hz0 : w.heap.size < w1.heap.size := (by omega); have hz1 : w.heap.size + 1 < w1.heap.size := (by omega)) | (go_at_call 32; refine (relstoreref_null _).mono ?_; rintro e w1 ⟨rfl, hb⟩; obtain ⟨hc, hf⟩ := bcell hb; have hz := hb.size; (try simp at hz); have hz0 : w.heap.size < w1.heap.size := (by omega); have hz1 : w.heap.size + 1 < w1.heap.size := (by omega)) | (go_at_call 36; refine (relstoreref_str _ _).mono ?_; rintro e w1 ⟨rfl, hb⟩; obtain ⟨hc, hf⟩ := bcell hb; have hz := hb.size; (try simp at hz); have hz0 : w.heap.size < w1.heap.size := (by omega); have hz1 : w.heap.size + 1 < w1.heap.size := (by omega)) | (go_at_call 33; refine (relstoreref_truth _ _).mono ?_; rintro e w1 ⟨rfl, hb⟩; obtain ⟨hc, hf⟩ := bcell hb; have hz := hb.size; (try simp at hz); have hz0 : w.heap.size < w1.heap.size := (by omega); have hz1 : w.heap.size + 1 < w1.heap.size := (by omega)) | (go_at_call 34; refine (relstoreref_num _ _).mono ?_; rintro e w1 ⟨rfl, hb⟩; obtain ⟨hc, hf⟩ := bcell hb; have hz := hb.size; (try simp at hz); have hz0 : w.heap.size < w1.heap.size := (by omega); have hz1 : w.heap.size + 1 < w1.heap.size := (by omega)))
  refine bodyPost_ret (v := .agg #[.int .i64 1, .int .i64 (flagN (n1 != 0)), .string ⟨#[]⟩]) (by simp [results, Tryd.results28, go_sem, flagN, *]) rfl ⟨?_, ?_⟩
  · rfl
  · (repeat (first | (with_reducible exact Below.refl _ _) | (with_reducible assumption) | (with_reducible refine Below.setCell ?_ (by first | omega | (simp <;> omega)) _) | (with_reducible refine Below.drew ?_) | (with_reducible refine Below.alloc ?_ (by first | omega | (simp <;> omega)) _) | (with_reducible refine bel_step ?_ (by assumption) (by first | omega | (simp <;> omega)))))

set_option maxRecDepth 100000 in
set_option maxHeartbeats 6400000 in
theorem ref_Cast22 (k n : Int) (s : ByteArray) (n1 : Int) (hn1 : inI n1) (w : World) (h : HasPow w) (he : HasErrs w) (hs : s.size ≤ 2000000) (C : Hid (∀ w, Calls Tryd.prog 40 #[.agg #[.int .i64 k, .int .i64 n, .string s]] w fun e w' => e = .returned (.agg #[.int .i64 2, .int .i64 n1, .string ⟨#[]⟩]) ∧ Below w.heap.size w w')) :
    Calls Tryd.prog 28 #[.agg #[.int .i64 k, .int .i64 n, .string s], .int .i64 2] w fun e w' => e = .returned (.agg #[.int .i64 (castC 2 n1 ⟨#[]⟩ 2).k, .int .i64 (castC 2 n1 ⟨#[]⟩ 2).n, .string (castC 2 n1 ⟨#[]⟩ 2).s]) ∧ Below w.heap.size w w' := by
  have HP := Lib.hid h; have HE := Lib.hid he; have HN := Lib.hid hn1; have HS := Lib.hid hs
  have HX := Lib.hid ((Has.new w 38 #[.int .i64 k, .int .i64 n, .string s]).alloc (.cells #[.int .i64 0, .int .i64 0, .string ⟨#[]⟩] 38))
  clear h he hn1 hs
  have E : castC 2 n1 ⟨#[]⟩ 2 = ⟨2, n1, ⟨#[]⟩⟩ := by simp [castC, showS, nullV]
  rw [E]; clear E
  go_enter Tryd.func28, Tryd.ntmps28
  go_wp2_with (first | (go_at_call 40; refine (C.out _).mono ?_; rintro e w1 ⟨rfl, hb⟩; have HX1 := HX.out.belowS hb; obtain ⟨x0, x1, x2⟩ := HX1.cells3; have xf := HX1.frozen; clear HX1; obtain ⟨hc, hf⟩ := bcell hb; have hz := hb.size; (try simp at hz); have hz0 : w.heap.size < w1.heap.size := (by omega); have hz1 : w.heap.size + 1 < w1.heap.size := (by omega)) | (go_at_call 32; refine (relstoreref_null _).mono ?_; rintro e w1 ⟨rfl, hb⟩; obtain ⟨hc, hf⟩ := bcell hb; have hz := hb.size; (try simp at hz); have hz0 : w.heap.size < w1.heap.size := (by omega); have hz1 : w.heap.size + 1 < w1.heap.size := (by omega)) | (go_at_call 36; refine (relstoreref_str _ _).mono ?_; rintro e w1 ⟨rfl, hb⟩; obtain ⟨hc, hf⟩ := bcell hb; have hz := hb.size; (try simp at hz); have hz0 : w.heap.size < w1.heap.size := (by omega); have hz1 : w.heap.size + 1 < w1.heap.size := (by omega)) | (go_at_call 33; refine (relstoreref_truth _ _).mono ?_; rintro e w1 ⟨rfl, hb⟩; obtain ⟨hc, hf⟩ := bcell hb; have hz := hb.size; (try simp at hz); have hz0 : w.heap.size < w1.heap.size := (by omega); have hz1 : w.heap.size + 1 < w1.heap.size := (by omega)) | (go_at_call 34; refine (relstoreref_num _ _).mono ?_; rintro e w1 ⟨rfl, hb⟩; obtain ⟨hc, hf⟩ := bcell hb; have hz := hb.size; (try simp at hz); have hz0 : w.heap.size < w1.heap.size := (by omega); have hz1 : w.heap.size + 1 < w1.heap.size := (by omega)))
  refine bodyPost_ret (v := .agg #[.int .i64 2, .int .i64 n1, .string ⟨#[]⟩]) (by simp [results, Tryd.results28, go_sem, flagN, *]) rfl ⟨?_, ?_⟩
  · rfl
  · (repeat (first | (with_reducible exact Below.refl _ _) | (with_reducible assumption) | (with_reducible refine Below.setCell ?_ (by first | omega | (simp <;> omega)) _) | (with_reducible refine Below.drew ?_) | (with_reducible refine Below.alloc ?_ (by first | omega | (simp <;> omega)) _) | (with_reducible refine bel_step ?_ (by assumption) (by first | omega | (simp <;> omega)))))

set_option maxRecDepth 100000 in
set_option maxHeartbeats 6400000 in
theorem ref_Cast23 (k n : Int) (s : ByteArray) (n1 : Int) (hn1 : inI n1) (w : World) (h : HasPow w) (he : HasErrs w) (hs : s.size ≤ 2000000) (C : Hid (∀ w, Calls Tryd.prog 40 #[.agg #[.int .i64 k, .int .i64 n, .string s]] w fun e w' => e = .returned (.agg #[.int .i64 2, .int .i64 n1, .string ⟨#[]⟩]) ∧ Below w.heap.size w w')) :
    Calls Tryd.prog 28 #[.agg #[.int .i64 k, .int .i64 n, .string s], .int .i64 3] w fun e w' => e = .returned (.agg #[.int .i64 (castC 2 n1 ⟨#[]⟩ 3).k, .int .i64 (castC 2 n1 ⟨#[]⟩ 3).n, .string (castC 2 n1 ⟨#[]⟩ 3).s]) ∧ Below w.heap.size w w' := by
  have HP := Lib.hid h; have HE := Lib.hid he; have HN := Lib.hid hn1; have HS := Lib.hid hs
  have HX := Lib.hid ((Has.new w 38 #[.int .i64 k, .int .i64 n, .string s]).alloc (.cells #[.int .i64 0, .int .i64 0, .string ⟨#[]⟩] 38))
  clear h he hn1 hs
  obtain ⟨R, hR⟩ : ∃ R, showS 2 n1 ⟨#[]⟩ = R := ⟨_, rfl⟩
  have SH := Lib.hid (fun w h => ref_Show 2 n1 ⟨#[]⟩ HN.out w h)
  have E : castC 2 n1 ⟨#[]⟩ 3 = ⟨3, 0, R⟩ := by rw [← hR]; simp [castC]
  rw [E]; rw [hR] at SH; clear E hR
  go_enter Tryd.func28, Tryd.ntmps28
  go_wp2_with (first | (go_at_call 40; refine (C.out _).mono ?_; rintro e w1 ⟨rfl, hb⟩; have HX1 := HX.out.belowS hb; obtain ⟨x0, x1, x2⟩ := HX1.cells3; have xf := HX1.frozen; clear HX1; obtain ⟨hc, hf⟩ := bcell hb; have hz := hb.size; (try simp at hz); have hz0 : w.heap.size < w1.heap.size := (by omega); have hz1 : w.heap.size + 1 < w1.heap.size := (by omega)) | (go_at_call 32; refine (relstoreref_null _).mono ?_; rintro e w1 ⟨rfl, hb⟩; obtain ⟨hc, hf⟩ := bcell hb; have hz := hb.size; (try simp at hz); have hz0 : w.heap.size < w1.heap.size := (by omega); have hz1 : w.heap.size + 1 < w1.heap.size := (by omega)) | (go_at_call 36; refine (relstoreref_str _ _).mono ?_; rintro e w1 ⟨rfl, hb⟩; obtain ⟨hc, hf⟩ := bcell hb; have hz := hb.size; (try simp at hz); have hz0 : w.heap.size < w1.heap.size := (by omega); have hz1 : w.heap.size + 1 < w1.heap.size := (by omega)) | (go_at_call 33; refine (relstoreref_truth _ _).mono ?_; rintro e w1 ⟨rfl, hb⟩; obtain ⟨hc, hf⟩ := bcell hb; have hz := hb.size; (try simp at hz); have hz0 : w.heap.size < w1.heap.size := (by omega); have hz1 : w.heap.size + 1 < w1.heap.size := (by omega)) | (go_at_call 34; refine (relstoreref_num _ _).mono ?_; rintro e w1 ⟨rfl, hb⟩; obtain ⟨hc, hf⟩ := bcell hb; have hz := hb.size; (try simp at hz); have hz0 : w.heap.size < w1.heap.size := (by omega); have hz1 : w.heap.size + 1 < w1.heap.size := (by omega)) | (go_at_call 30; refine (SH.out _ (HP.out.below (by (repeat (first | (with_reducible exact Below.refl _ _) | (with_reducible assumption) | (with_reducible refine Below.setCell ?_ (by first | omega | (simp <;> omega)) _) | (with_reducible refine Below.drew ?_) | (with_reducible refine Below.alloc ?_ (by first | omega | (simp <;> omega)) _) | (with_reducible refine bel_step ?_ (by assumption) (by first | omega | (simp <;> omega)))))))).mono ?_; rintro e w1 ⟨rfl, hb⟩; obtain ⟨hc, hf⟩ := bcell hb; have hz := hb.size; (try simp at hz); have hz0 : w.heap.size < w1.heap.size := (by omega); have hz1 : w.heap.size + 1 < w1.heap.size := (by omega)))
  refine bodyPost_ret (v := .agg #[.int .i64 3, .int .i64 0, .string R]) (by simp [results, Tryd.results28, go_sem, flagN, *]) rfl ⟨?_, ?_⟩
  · rfl
  · (repeat (first | (with_reducible exact Below.refl _ _) | (with_reducible assumption) | (with_reducible refine Below.setCell ?_ (by first | omega | (simp <;> omega)) _) | (with_reducible refine Below.drew ?_) | (with_reducible refine Below.alloc ?_ (by first | omega | (simp <;> omega)) _) | (with_reducible refine bel_step ?_ (by assumption) (by first | omega | (simp <;> omega)))))

set_option maxRecDepth 100000 in
set_option maxHeartbeats 6400000 in
theorem ref_Cast20 (k n : Int) (s : ByteArray) (n1 : Int) (kind : Int) (h1 : ¬ kind = 1) (h2 : ¬ kind = 2) (h3 : ¬ kind = 3) (hn1 : inI n1) (w : World) (h : HasPow w) (he : HasErrs w) (hs : s.size ≤ 2000000) (C : Hid (∀ w, Calls Tryd.prog 40 #[.agg #[.int .i64 k, .int .i64 n, .string s]] w fun e w' => e = .returned (.agg #[.int .i64 2, .int .i64 n1, .string ⟨#[]⟩]) ∧ Below w.heap.size w w')) :
    Calls Tryd.prog 28 #[.agg #[.int .i64 k, .int .i64 n, .string s], .int .i64 kind] w fun e w' => e = .returned (.agg #[.int .i64 (castC 2 n1 ⟨#[]⟩ kind).k, .int .i64 (castC 2 n1 ⟨#[]⟩ kind).n, .string (castC 2 n1 ⟨#[]⟩ kind).s]) ∧ Below w.heap.size w w' := by
  have HP := Lib.hid h; have HE := Lib.hid he; have HN := Lib.hid hn1; have HS := Lib.hid hs
  have HX := Lib.hid ((Has.new w 38 #[.int .i64 k, .int .i64 n, .string s]).alloc (.cells #[.int .i64 0, .int .i64 0, .string ⟨#[]⟩] 38))
  clear h he hn1 hs
  have E : castC 2 n1 ⟨#[]⟩ kind = nullV := by unfold castC; rw [if_neg (by decide), if_neg h3, if_neg h2, if_neg h1]
  rw [E]; clear E
  have e1 : (kind == 1) = false := beq_eq_false_iff_ne.2 h1
  have e2 : (kind == 2) = false := beq_eq_false_iff_ne.2 h2
  have e3 : (kind == 3) = false := beq_eq_false_iff_ne.2 h3
  have d1 : ((1 : Int) == kind) = false := beq_eq_false_iff_ne.2 fun e => h1 e.symm
  have d2 : ((2 : Int) == kind) = false := beq_eq_false_iff_ne.2 fun e => h2 e.symm
  have d3 : ((3 : Int) == kind) = false := beq_eq_false_iff_ne.2 fun e => h3 e.symm
  by_cases g1 : kind < 1
  · clear h1 h2 h3
    go_enter Tryd.func28, Tryd.ntmps28
    go_wp2_with (first | (go_at_call 40; refine (C.out _).mono ?_; rintro e w1 ⟨rfl, hb⟩; have HX1 := HX.out.belowS hb; obtain ⟨x0, x1, x2⟩ := HX1.cells3; have xf := HX1.frozen; clear HX1; obtain ⟨hc, hf⟩ := bcell hb; have hz := hb.size; (try simp at hz); have hz0 : w.heap.size < w1.heap.size := (by omega); have hz1 : w.heap.size + 1 < w1.heap.size := (by omega)) | (go_at_call 32; refine (relstoreref_null _).mono ?_; rintro e w1 ⟨rfl, hb⟩; obtain ⟨hc, hf⟩ := bcell hb; have hz := hb.size; (try simp at hz); have hz0 : w.heap.size < w1.heap.size := (by omega); have hz1 : w.heap.size + 1 < w1.heap.size := (by omega)) | (go_at_call 36; refine (relstoreref_str _ _).mono ?_; rintro e w1 ⟨rfl, hb⟩; obtain ⟨hc, hf⟩ := bcell hb; have hz := hb.size; (try simp at hz); have hz0 : w.heap.size < w1.heap.size := (by omega); have hz1 : w.heap.size + 1 < w1.heap.size := (by omega)) | (go_at_call 33; refine (relstoreref_truth _ _).mono ?_; rintro e w1 ⟨rfl, hb⟩; obtain ⟨hc, hf⟩ := bcell hb; have hz := hb.size; (try simp at hz); have hz0 : w.heap.size < w1.heap.size := (by omega); have hz1 : w.heap.size + 1 < w1.heap.size := (by omega)) | (go_at_call 34; refine (relstoreref_num _ _).mono ?_; rintro e w1 ⟨rfl, hb⟩; obtain ⟨hc, hf⟩ := bcell hb; have hz := hb.size; (try simp at hz); have hz0 : w.heap.size < w1.heap.size := (by omega); have hz1 : w.heap.size + 1 < w1.heap.size := (by omega)))
    refine bodyPost_ret (v := .agg #[.int .i64 0, .int .i64 0, .string ⟨#[]⟩]) (by simp [results, Tryd.results28, go_sem, flagN, *]) rfl ⟨?_, ?_⟩
    · rfl
    · (repeat (first | (with_reducible exact Below.refl _ _) | (with_reducible assumption) | (with_reducible refine Below.setCell ?_ (by first | omega | (simp <;> omega)) _) | (with_reducible refine Below.drew ?_) | (with_reducible refine Below.alloc ?_ (by first | omega | (simp <;> omega)) _) | (with_reducible refine bel_step ?_ (by assumption) (by first | omega | (simp <;> omega)))))
  · have g3 : 3 < kind := by omega
    clear h1 h2 h3
    go_enter Tryd.func28, Tryd.ntmps28
    go_wp2_with (first | (go_at_call 40; refine (C.out _).mono ?_; rintro e w1 ⟨rfl, hb⟩; have HX1 := HX.out.belowS hb; obtain ⟨x0, x1, x2⟩ := HX1.cells3; have xf := HX1.frozen; clear HX1; obtain ⟨hc, hf⟩ := bcell hb; have hz := hb.size; (try simp at hz); have hz0 : w.heap.size < w1.heap.size := (by omega); have hz1 : w.heap.size + 1 < w1.heap.size := (by omega)) | (go_at_call 32; refine (relstoreref_null _).mono ?_; rintro e w1 ⟨rfl, hb⟩; obtain ⟨hc, hf⟩ := bcell hb; have hz := hb.size; (try simp at hz); have hz0 : w.heap.size < w1.heap.size := (by omega); have hz1 : w.heap.size + 1 < w1.heap.size := (by omega)) | (go_at_call 36; refine (relstoreref_str _ _).mono ?_; rintro e w1 ⟨rfl, hb⟩; obtain ⟨hc, hf⟩ := bcell hb; have hz := hb.size; (try simp at hz); have hz0 : w.heap.size < w1.heap.size := (by omega); have hz1 : w.heap.size + 1 < w1.heap.size := (by omega)) | (go_at_call 33; refine (relstoreref_truth _ _).mono ?_; rintro e w1 ⟨rfl, hb⟩; obtain ⟨hc, hf⟩ := bcell hb; have hz := hb.size; (try simp at hz); have hz0 : w.heap.size < w1.heap.size := (by omega); have hz1 : w.heap.size + 1 < w1.heap.size := (by omega)) | (go_at_call 34; refine (relstoreref_num _ _).mono ?_; rintro e w1 ⟨rfl, hb⟩; obtain ⟨hc, hf⟩ := bcell hb; have hz := hb.size; (try simp at hz); have hz0 : w.heap.size < w1.heap.size := (by omega); have hz1 : w.heap.size + 1 < w1.heap.size := (by omega)))
    refine bodyPost_ret (v := .agg #[.int .i64 0, .int .i64 0, .string ⟨#[]⟩]) (by simp [results, Tryd.results28, go_sem, flagN, *]) rfl ⟨?_, ?_⟩
    · rfl
    · (repeat (first | (with_reducible exact Below.refl _ _) | (with_reducible assumption) | (with_reducible refine Below.setCell ?_ (by first | omega | (simp <;> omega)) _) | (with_reducible refine Below.drew ?_) | (with_reducible refine Below.alloc ?_ (by first | omega | (simp <;> omega)) _) | (with_reducible refine bel_step ?_ (by assumption) (by first | omega | (simp <;> omega)))))

set_option maxRecDepth 100000 in
set_option maxHeartbeats 6400000 in
theorem ref_Cast31 (k n : Int) (s : ByteArray) (n1 : Int) (hn1 : inI n1) (w : World) (h : HasPow w) (he : HasErrs w) (hs : s.size ≤ 2000000) (C : Hid (∀ w, Calls Tryd.prog 40 #[.agg #[.int .i64 k, .int .i64 n, .string s]] w fun e w' => e = .returned (.agg #[.int .i64 3, .int .i64 0, .string s]) ∧ Below w.heap.size w w')) :
    Calls Tryd.prog 28 #[.agg #[.int .i64 k, .int .i64 n, .string s], .int .i64 1] w fun e w' => e = .returned (.agg #[.int .i64 (castC 3 0 s 1).k, .int .i64 (castC 3 0 s 1).n, .string (castC 3 0 s 1).s]) ∧ Below w.heap.size w w' := by
  have HP := Lib.hid h; have HE := Lib.hid he; have HN := Lib.hid hn1; have HS := Lib.hid hs
  have HX := Lib.hid ((Has.new w 38 #[.int .i64 k, .int .i64 n, .string s]).alloc (.cells #[.int .i64 0, .int .i64 0, .string ⟨#[]⟩] 38))
  clear h he hn1 hs
  by_cases ht : s.data.toList = trueS.data.toList
  · have E : castC 3 0 s 1 = ⟨1, 1, ⟨#[]⟩⟩ := by unfold castC; rw [if_neg (by decide), if_neg (by decide), if_neg (by decide), if_pos rfl, if_pos rfl, if_pos ht]
    have q1 : s.toList = [116, 114, 117, 101] := by rw [Lib.toList_data]; exact ht
    have q2 : (s.toList == [116, 114, 117, 101]) = true := by rw [q1]; rfl
    rw [E]; clear E ht q1
    go_enter Tryd.func28, Tryd.ntmps28
    go_wp2_with (first | (go_at_call 40; refine (C.out _).mono ?_; rintro e w1 ⟨rfl, hb⟩; have HX1 := HX.out.belowS hb; obtain ⟨x0, x1, x2⟩ := HX1.cells3; have xf := HX1.frozen; clear HX1; obtain ⟨hc, hf⟩ := bcell hb; have hz := hb.size; (try simp at hz); have hz0 : w.heap.size < w1.heap.size := (by omega); have hz1 : w.heap.size + 1 < w1.heap.size := (by omega)) | (go_at_call 32; refine (relstoreref_null _).mono ?_; rintro e w1 ⟨rfl, hb⟩; obtain ⟨hc, hf⟩ := bcell hb; have hz := hb.size; (try simp at hz); have hz0 : w.heap.size < w1.heap.size := (by omega); have hz1 : w.heap.size + 1 < w1.heap.size := (by omega)) | (go_at_call 36; refine (relstoreref_str _ _).mono ?_; rintro e w1 ⟨rfl, hb⟩; obtain ⟨hc, hf⟩ := bcell hb; have hz := hb.size; (try simp at hz); have hz0 : w.heap.size < w1.heap.size := (by omega); have hz1 : w.heap.size + 1 < w1.heap.size := (by omega)) | (go_at_call 33; refine (relstoreref_truth _ _).mono ?_; rintro e w1 ⟨rfl, hb⟩; obtain ⟨hc, hf⟩ := bcell hb; have hz := hb.size; (try simp at hz); have hz0 : w.heap.size < w1.heap.size := (by omega); have hz1 : w.heap.size + 1 < w1.heap.size := (by omega)) | (go_at_call 34; refine (relstoreref_num _ _).mono ?_; rintro e w1 ⟨rfl, hb⟩; obtain ⟨hc, hf⟩ := bcell hb; have hz := hb.size; (try simp at hz); have hz0 : w.heap.size < w1.heap.size := (by omega); have hz1 : w.heap.size + 1 < w1.heap.size := (by omega)))
    refine bodyPost_ret (v := .agg #[.int .i64 1, .int .i64 1, .string ⟨#[]⟩]) (by simp [results, Tryd.results28, go_sem, flagN, *]) rfl ⟨?_, ?_⟩
    · rfl
    · (repeat (first | (with_reducible exact Below.refl _ _) | (with_reducible assumption) | (with_reducible refine Below.setCell ?_ (by first | omega | (simp <;> omega)) _) | (with_reducible refine Below.drew ?_) | (with_reducible refine Below.alloc ?_ (by first | omega | (simp <;> omega)) _) | (with_reducible refine bel_step ?_ (by assumption) (by first | omega | (simp <;> omega)))))
  · by_cases hf : s.data.toList = falseS.data.toList
    · have E : castC 3 0 s 1 = ⟨1, 0, ⟨#[]⟩⟩ := by unfold castC; rw [if_neg (by decide), if_neg (by decide), if_neg (by decide), if_pos rfl, if_pos rfl, if_neg ht, if_pos hf]
      have q1 : s.toList = [102, 97, 108, 115, 101] := by rw [Lib.toList_data]; exact hf
      have q2 : (s.toList == [102, 97, 108, 115, 101]) = true := by rw [q1]; rfl
      have q3 : (s.toList == [116, 114, 117, 101]) = false := by rw [q1]; rfl
      rw [E]; clear E ht hf q1
      go_enter Tryd.func28, Tryd.ntmps28
      go_wp2_with (first | (go_at_call 40; refine (C.out _).mono ?_; rintro e w1 ⟨rfl, hb⟩; have HX1 := HX.out.belowS hb; obtain ⟨x0, x1, x2⟩ := HX1.cells3; have xf := HX1.frozen; clear HX1; obtain ⟨hc, hf⟩ := bcell hb; have hz := hb.size; (try simp at hz); have hz0 : w.heap.size < w1.heap.size := (by omega); have hz1 : w.heap.size + 1 < w1.heap.size := (by omega)) | (go_at_call 32; refine (relstoreref_null _).mono ?_; rintro e w1 ⟨rfl, hb⟩; obtain ⟨hc, hf⟩ := bcell hb; have hz := hb.size; (try simp at hz); have hz0 : w.heap.size < w1.heap.size := (by omega); have hz1 : w.heap.size + 1 < w1.heap.size := (by omega)) | (go_at_call 36; refine (relstoreref_str _ _).mono ?_; rintro e w1 ⟨rfl, hb⟩; obtain ⟨hc, hf⟩ := bcell hb; have hz := hb.size; (try simp at hz); have hz0 : w.heap.size < w1.heap.size := (by omega); have hz1 : w.heap.size + 1 < w1.heap.size := (by omega)) | (go_at_call 33; refine (relstoreref_truth _ _).mono ?_; rintro e w1 ⟨rfl, hb⟩; obtain ⟨hc, hf⟩ := bcell hb; have hz := hb.size; (try simp at hz); have hz0 : w.heap.size < w1.heap.size := (by omega); have hz1 : w.heap.size + 1 < w1.heap.size := (by omega)) | (go_at_call 34; refine (relstoreref_num _ _).mono ?_; rintro e w1 ⟨rfl, hb⟩; obtain ⟨hc, hf⟩ := bcell hb; have hz := hb.size; (try simp at hz); have hz0 : w.heap.size < w1.heap.size := (by omega); have hz1 : w.heap.size + 1 < w1.heap.size := (by omega)))
      refine bodyPost_ret (v := .agg #[.int .i64 1, .int .i64 0, .string ⟨#[]⟩]) (by simp [results, Tryd.results28, go_sem, flagN, *]) rfl ⟨?_, ?_⟩
      · rfl
      · (repeat (first | (with_reducible exact Below.refl _ _) | (with_reducible assumption) | (with_reducible refine Below.setCell ?_ (by first | omega | (simp <;> omega)) _) | (with_reducible refine Below.drew ?_) | (with_reducible refine Below.alloc ?_ (by first | omega | (simp <;> omega)) _) | (with_reducible refine bel_step ?_ (by assumption) (by first | omega | (simp <;> omega)))))
    · have E : castC 3 0 s 1 = nullV := by unfold castC; rw [if_neg (by decide), if_neg (by decide), if_neg (by decide), if_pos rfl, if_pos rfl, if_neg ht, if_neg hf]
      have q2 : (s.toList == [102, 97, 108, 115, 101]) = false := by rw [beq_eq_false_iff_ne, Lib.toList_data]; exact hf
      have q3 : (s.toList == [116, 114, 117, 101]) = false := by rw [beq_eq_false_iff_ne, Lib.toList_data]; exact ht
      rw [E]; clear E ht hf
      go_enter Tryd.func28, Tryd.ntmps28
      go_wp2_with (first | (go_at_call 40; refine (C.out _).mono ?_; rintro e w1 ⟨rfl, hb⟩; have HX1 := HX.out.belowS hb; obtain ⟨x0, x1, x2⟩ := HX1.cells3; have xf := HX1.frozen; clear HX1; obtain ⟨hc, hf⟩ := bcell hb; have hz := hb.size; (try simp at hz); have hz0 : w.heap.size < w1.heap.size := (by omega); have hz1 : w.heap.size + 1 < w1.heap.size := (by omega)) | (go_at_call 32; refine (relstoreref_null _).mono ?_; rintro e w1 ⟨rfl, hb⟩; obtain ⟨hc, hf⟩ := bcell hb; have hz := hb.size; (try simp at hz); have hz0 : w.heap.size < w1.heap.size := (by omega); have hz1 : w.heap.size + 1 < w1.heap.size := (by omega)) | (go_at_call 36; refine (relstoreref_str _ _).mono ?_; rintro e w1 ⟨rfl, hb⟩; obtain ⟨hc, hf⟩ := bcell hb; have hz := hb.size; (try simp at hz); have hz0 : w.heap.size < w1.heap.size := (by omega); have hz1 : w.heap.size + 1 < w1.heap.size := (by omega)) | (go_at_call 33; refine (relstoreref_truth _ _).mono ?_; rintro e w1 ⟨rfl, hb⟩; obtain ⟨hc, hf⟩ := bcell hb; have hz := hb.size; (try simp at hz); have hz0 : w.heap.size < w1.heap.size := (by omega); have hz1 : w.heap.size + 1 < w1.heap.size := (by omega)) | (go_at_call 34; refine (relstoreref_num _ _).mono ?_; rintro e w1 ⟨rfl, hb⟩; obtain ⟨hc, hf⟩ := bcell hb; have hz := hb.size; (try simp at hz); have hz0 : w.heap.size < w1.heap.size := (by omega); have hz1 : w.heap.size + 1 < w1.heap.size := (by omega)))
      refine bodyPost_ret (v := .agg #[.int .i64 0, .int .i64 0, .string ⟨#[]⟩]) (by simp [results, Tryd.results28, go_sem, flagN, *]) rfl ⟨?_, ?_⟩
      · rfl
      · (repeat (first | (with_reducible exact Below.refl _ _) | (with_reducible assumption) | (with_reducible refine Below.setCell ?_ (by first | omega | (simp <;> omega)) _) | (with_reducible refine Below.drew ?_) | (with_reducible refine Below.alloc ?_ (by first | omega | (simp <;> omega)) _) | (with_reducible refine bel_step ?_ (by assumption) (by first | omega | (simp <;> omega)))))

set_option maxRecDepth 100000 in
set_option maxHeartbeats 6400000 in
theorem ref_Cast32 (k n : Int) (s : ByteArray) (n1 : Int) (hn1 : inI n1) (w : World) (h : HasPow w) (he : HasErrs w) (hs : s.size ≤ 2000000) (C : Hid (∀ w, Calls Tryd.prog 40 #[.agg #[.int .i64 k, .int .i64 n, .string s]] w fun e w' => e = .returned (.agg #[.int .i64 3, .int .i64 0, .string s]) ∧ Below w.heap.size w w')) :
    Calls Tryd.prog 28 #[.agg #[.int .i64 k, .int .i64 n, .string s], .int .i64 2] w fun e w' => e = .returned (.agg #[.int .i64 (castC 3 0 s 2).k, .int .i64 (castC 3 0 s 2).n, .string (castC 3 0 s 2).s]) ∧ Below w.heap.size w w' := by
  have HP := Lib.hid h; have HE := Lib.hid he; have HN := Lib.hid hn1; have HS := Lib.hid hs
  have HX := Lib.hid ((Has.new w 38 #[.int .i64 k, .int .i64 n, .string s]).alloc (.cells #[.int .i64 0, .int .i64 0, .string ⟨#[]⟩] 38))
  clear h he hn1 hs
  have WH : Hid (∀ w, Calls Tryd.prog 56 #[.string s] w fun e w' => e = .returned (.agg #[.int .i64 (recK (wholeO s.data.toList)), .int .i64 (recN (wholeO s.data.toList)), .string ⟨#[]⟩]) ∧ Below w.heap.size w w') := fun w => ref_whole s w HS.out
  obtain ⟨K, hK⟩ : ∃ K, recK (wholeO s.data.toList) = K := ⟨_, rfl⟩
  obtain ⟨N, hN⟩ : ∃ N, recN (wholeO s.data.toList) = N := ⟨_, rfl⟩
  have E : castC 3 0 s 2 = ⟨K, N, ⟨#[]⟩⟩ := by rw [← hK, ← hN]; simp [castC]
  rw [E]; rw [hK, hN] at WH; clear E hK hN
  go_enter Tryd.func28, Tryd.ntmps28
  go_wp2_with (first | (go_at_call 40; refine (C.out _).mono ?_; rintro e w1 ⟨rfl, hb⟩; have HX1 := HX.out.belowS hb; obtain ⟨x0, x1, x2⟩ := HX1.cells3; have xf := HX1.frozen; clear HX1; obtain ⟨hc, hf⟩ := bcell hb; have hz := hb.size; (try simp at hz); have hz0 : w.heap.size < w1.heap.size := (by omega); have hz1 : w.heap.size + 1 < w1.heap.size := (by omega)) | (go_at_call 32; refine (relstoreref_null _).mono ?_; rintro e w1 ⟨rfl, hb⟩; obtain ⟨hc, hf⟩ := bcell hb; have hz := hb.size; (try simp at hz); have hz0 : w.heap.size < w1.heap.size := (by omega); have hz1 : w.heap.size + 1 < w1.heap.size := (by omega)) | (go_at_call 36; refine (relstoreref_str _ _).mono ?_; rintro e w1 ⟨rfl, hb⟩; obtain ⟨hc, hf⟩ := bcell hb; have hz := hb.size; (try simp at hz); have hz0 : w.heap.size < w1.heap.size := (by omega); have hz1 : w.heap.size + 1 < w1.heap.size := (by omega)) | (go_at_call 33; refine (relstoreref_truth _ _).mono ?_; rintro e w1 ⟨rfl, hb⟩; obtain ⟨hc, hf⟩ := bcell hb; have hz := hb.size; (try simp at hz); have hz0 : w.heap.size < w1.heap.size := (by omega); have hz1 : w.heap.size + 1 < w1.heap.size := (by omega)) | (go_at_call 34; refine (relstoreref_num _ _).mono ?_; rintro e w1 ⟨rfl, hb⟩; obtain ⟨hc, hf⟩ := bcell hb; have hz := hb.size; (try simp at hz); have hz0 : w.heap.size < w1.heap.size := (by omega); have hz1 : w.heap.size + 1 < w1.heap.size := (by omega)) | (go_at_call 56; refine (WH.out _).mono ?_; rintro e w1 ⟨rfl, hb⟩; obtain ⟨hc, hf⟩ := bcell hb; have hz := hb.size; (try simp at hz); have hz0 : w.heap.size < w1.heap.size := (by omega); have hz1 : w.heap.size + 1 < w1.heap.size := (by omega)))
  refine bodyPost_ret (v := .agg #[.int .i64 K, .int .i64 N, .string ⟨#[]⟩]) (by simp [results, Tryd.results28, go_sem, flagN, *]) rfl ⟨?_, ?_⟩
  · rfl
  · (repeat (first | (with_reducible exact Below.refl _ _) | (with_reducible assumption) | (with_reducible refine Below.setCell ?_ (by first | omega | (simp <;> omega)) _) | (with_reducible refine Below.drew ?_) | (with_reducible refine Below.alloc ?_ (by first | omega | (simp <;> omega)) _) | (with_reducible refine bel_step ?_ (by assumption) (by first | omega | (simp <;> omega)))))

set_option maxRecDepth 100000 in
set_option maxHeartbeats 6400000 in
theorem ref_Cast33 (k n : Int) (s : ByteArray) (n1 : Int) (hn1 : inI n1) (w : World) (h : HasPow w) (he : HasErrs w) (hs : s.size ≤ 2000000) (C : Hid (∀ w, Calls Tryd.prog 40 #[.agg #[.int .i64 k, .int .i64 n, .string s]] w fun e w' => e = .returned (.agg #[.int .i64 3, .int .i64 0, .string s]) ∧ Below w.heap.size w w')) :
    Calls Tryd.prog 28 #[.agg #[.int .i64 k, .int .i64 n, .string s], .int .i64 3] w fun e w' => e = .returned (.agg #[.int .i64 (castC 3 0 s 3).k, .int .i64 (castC 3 0 s 3).n, .string (castC 3 0 s 3).s]) ∧ Below w.heap.size w w' := by
  have HP := Lib.hid h; have HE := Lib.hid he; have HN := Lib.hid hn1; have HS := Lib.hid hs
  have HX := Lib.hid ((Has.new w 38 #[.int .i64 k, .int .i64 n, .string s]).alloc (.cells #[.int .i64 0, .int .i64 0, .string ⟨#[]⟩] 38))
  clear h he hn1 hs
  have E : castC 3 0 s 3 = ⟨3, 0, s⟩ := by simp [castC, showS, nullV]
  rw [E]; clear E
  go_enter Tryd.func28, Tryd.ntmps28
  go_wp2_with (first | (go_at_call 40; refine (C.out _).mono ?_; rintro e w1 ⟨rfl, hb⟩; have HX1 := HX.out.belowS hb; obtain ⟨x0, x1, x2⟩ := HX1.cells3; have xf := HX1.frozen; clear HX1; obtain ⟨hc, hf⟩ := bcell hb; have hz := hb.size; (try simp at hz); have hz0 : w.heap.size < w1.heap.size := (by omega); have hz1 : w.heap.size + 1 < w1.heap.size := (by omega)) | (go_at_call 32; refine (relstoreref_null _).mono ?_; rintro e w1 ⟨rfl, hb⟩; obtain ⟨hc, hf⟩ := bcell hb; have hz := hb.size; (try simp at hz); have hz0 : w.heap.size < w1.heap.size := (by omega); have hz1 : w.heap.size + 1 < w1.heap.size := (by omega)) | (go_at_call 36; refine (relstoreref_str _ _).mono ?_; rintro e w1 ⟨rfl, hb⟩; obtain ⟨hc, hf⟩ := bcell hb; have hz := hb.size; (try simp at hz); have hz0 : w.heap.size < w1.heap.size := (by omega); have hz1 : w.heap.size + 1 < w1.heap.size := (by omega)) | (go_at_call 33; refine (relstoreref_truth _ _).mono ?_; rintro e w1 ⟨rfl, hb⟩; obtain ⟨hc, hf⟩ := bcell hb; have hz := hb.size; (try simp at hz); have hz0 : w.heap.size < w1.heap.size := (by omega); have hz1 : w.heap.size + 1 < w1.heap.size := (by omega)) | (go_at_call 34; refine (relstoreref_num _ _).mono ?_; rintro e w1 ⟨rfl, hb⟩; obtain ⟨hc, hf⟩ := bcell hb; have hz := hb.size; (try simp at hz); have hz0 : w.heap.size < w1.heap.size := (by omega); have hz1 : w.heap.size + 1 < w1.heap.size := (by omega)))
  refine bodyPost_ret (v := .agg #[.int .i64 3, .int .i64 0, .string s]) (by simp [results, Tryd.results28, go_sem, flagN, *]) rfl ⟨?_, ?_⟩
  · rfl
  · (repeat (first | (with_reducible exact Below.refl _ _) | (with_reducible assumption) | (with_reducible refine Below.setCell ?_ (by first | omega | (simp <;> omega)) _) | (with_reducible refine Below.drew ?_) | (with_reducible refine Below.alloc ?_ (by first | omega | (simp <;> omega)) _) | (with_reducible refine bel_step ?_ (by assumption) (by first | omega | (simp <;> omega)))))

set_option maxRecDepth 100000 in
set_option maxHeartbeats 6400000 in
theorem ref_Cast30 (k n : Int) (s : ByteArray) (n1 : Int) (kind : Int) (h1 : ¬ kind = 1) (h2 : ¬ kind = 2) (h3 : ¬ kind = 3) (hn1 : inI n1) (w : World) (h : HasPow w) (he : HasErrs w) (hs : s.size ≤ 2000000) (C : Hid (∀ w, Calls Tryd.prog 40 #[.agg #[.int .i64 k, .int .i64 n, .string s]] w fun e w' => e = .returned (.agg #[.int .i64 3, .int .i64 0, .string s]) ∧ Below w.heap.size w w')) :
    Calls Tryd.prog 28 #[.agg #[.int .i64 k, .int .i64 n, .string s], .int .i64 kind] w fun e w' => e = .returned (.agg #[.int .i64 (castC 3 0 s kind).k, .int .i64 (castC 3 0 s kind).n, .string (castC 3 0 s kind).s]) ∧ Below w.heap.size w w' := by
  have HP := Lib.hid h; have HE := Lib.hid he; have HN := Lib.hid hn1; have HS := Lib.hid hs
  have HX := Lib.hid ((Has.new w 38 #[.int .i64 k, .int .i64 n, .string s]).alloc (.cells #[.int .i64 0, .int .i64 0, .string ⟨#[]⟩] 38))
  clear h he hn1 hs
  have E : castC 3 0 s kind = nullV := by unfold castC; rw [if_neg (by decide), if_neg h3, if_neg h2, if_neg h1]
  rw [E]; clear E
  have e1 : (kind == 1) = false := beq_eq_false_iff_ne.2 h1
  have e2 : (kind == 2) = false := beq_eq_false_iff_ne.2 h2
  have e3 : (kind == 3) = false := beq_eq_false_iff_ne.2 h3
  have d1 : ((1 : Int) == kind) = false := beq_eq_false_iff_ne.2 fun e => h1 e.symm
  have d2 : ((2 : Int) == kind) = false := beq_eq_false_iff_ne.2 fun e => h2 e.symm
  have d3 : ((3 : Int) == kind) = false := beq_eq_false_iff_ne.2 fun e => h3 e.symm
  by_cases g1 : kind < 1
  · clear h1 h2 h3
    go_enter Tryd.func28, Tryd.ntmps28
    go_wp2_with (first | (go_at_call 40; refine (C.out _).mono ?_; rintro e w1 ⟨rfl, hb⟩; have HX1 := HX.out.belowS hb; obtain ⟨x0, x1, x2⟩ := HX1.cells3; have xf := HX1.frozen; clear HX1; obtain ⟨hc, hf⟩ := bcell hb; have hz := hb.size; (try simp at hz); have hz0 : w.heap.size < w1.heap.size := (by omega); have hz1 : w.heap.size + 1 < w1.heap.size := (by omega)) | (go_at_call 32; refine (relstoreref_null _).mono ?_; rintro e w1 ⟨rfl, hb⟩; obtain ⟨hc, hf⟩ := bcell hb; have hz := hb.size; (try simp at hz); have hz0 : w.heap.size < w1.heap.size := (by omega); have hz1 : w.heap.size + 1 < w1.heap.size := (by omega)) | (go_at_call 36; refine (relstoreref_str _ _).mono ?_; rintro e w1 ⟨rfl, hb⟩; obtain ⟨hc, hf⟩ := bcell hb; have hz := hb.size; (try simp at hz); have hz0 : w.heap.size < w1.heap.size := (by omega); have hz1 : w.heap.size + 1 < w1.heap.size := (by omega)) | (go_at_call 33; refine (relstoreref_truth _ _).mono ?_; rintro e w1 ⟨rfl, hb⟩; obtain ⟨hc, hf⟩ := bcell hb; have hz := hb.size; (try simp at hz); have hz0 : w.heap.size < w1.heap.size := (by omega); have hz1 : w.heap.size + 1 < w1.heap.size := (by omega)) | (go_at_call 34; refine (relstoreref_num _ _).mono ?_; rintro e w1 ⟨rfl, hb⟩; obtain ⟨hc, hf⟩ := bcell hb; have hz := hb.size; (try simp at hz); have hz0 : w.heap.size < w1.heap.size := (by omega); have hz1 : w.heap.size + 1 < w1.heap.size := (by omega)))
    refine bodyPost_ret (v := .agg #[.int .i64 0, .int .i64 0, .string ⟨#[]⟩]) (by simp [results, Tryd.results28, go_sem, flagN, *]) rfl ⟨?_, ?_⟩
    · rfl
    · (repeat (first | (with_reducible exact Below.refl _ _) | (with_reducible assumption) | (with_reducible refine Below.setCell ?_ (by first | omega | (simp <;> omega)) _) | (with_reducible refine Below.drew ?_) | (with_reducible refine Below.alloc ?_ (by first | omega | (simp <;> omega)) _) | (with_reducible refine bel_step ?_ (by assumption) (by first | omega | (simp <;> omega)))))
  · have g3 : 3 < kind := by omega
    clear h1 h2 h3
    go_enter Tryd.func28, Tryd.ntmps28
    go_wp2_with (first | (go_at_call 40; refine (C.out _).mono ?_; rintro e w1 ⟨rfl, hb⟩; have HX1 := HX.out.belowS hb; obtain ⟨x0, x1, x2⟩ := HX1.cells3; have xf := HX1.frozen; clear HX1; obtain ⟨hc, hf⟩ := bcell hb; have hz := hb.size; (try simp at hz); have hz0 : w.heap.size < w1.heap.size := (by omega); have hz1 : w.heap.size + 1 < w1.heap.size := (by omega)) | (go_at_call 32; refine (relstoreref_null _).mono ?_; rintro e w1 ⟨rfl, hb⟩; obtain ⟨hc, hf⟩ := bcell hb; have hz := hb.size; (try simp at hz); have hz0 : w.heap.size < w1.heap.size := (by omega); have hz1 : w.heap.size + 1 < w1.heap.size := (by omega)) | (go_at_call 36; refine (relstoreref_str _ _).mono ?_; rintro e w1 ⟨rfl, hb⟩; obtain ⟨hc, hf⟩ := bcell hb; have hz := hb.size; (try simp at hz); have hz0 : w.heap.size < w1.heap.size := (by omega); have hz1 : w.heap.size + 1 < w1.heap.size := (by omega)) | (go_at_call 33; refine (relstoreref_truth _ _).mono ?_; rintro e w1 ⟨rfl, hb⟩; obtain ⟨hc, hf⟩ := bcell hb; have hz := hb.size; (try simp at hz); have hz0 : w.heap.size < w1.heap.size := (by omega); have hz1 : w.heap.size + 1 < w1.heap.size := (by omega)) | (go_at_call 34; refine (relstoreref_num _ _).mono ?_; rintro e w1 ⟨rfl, hb⟩; obtain ⟨hc, hf⟩ := bcell hb; have hz := hb.size; (try simp at hz); have hz0 : w.heap.size < w1.heap.size := (by omega); have hz1 : w.heap.size + 1 < w1.heap.size := (by omega)))
    refine bodyPost_ret (v := .agg #[.int .i64 0, .int .i64 0, .string ⟨#[]⟩]) (by simp [results, Tryd.results28, go_sem, flagN, *]) rfl ⟨?_, ?_⟩
    · rfl
    · (repeat (first | (with_reducible exact Below.refl _ _) | (with_reducible assumption) | (with_reducible refine Below.setCell ?_ (by first | omega | (simp <;> omega)) _) | (with_reducible refine Below.drew ?_) | (with_reducible refine Below.alloc ?_ (by first | omega | (simp <;> omega)) _) | (with_reducible refine bel_step ?_ (by assumption) (by first | omega | (simp <;> omega)))))

set_option maxHeartbeats 1600000 in
theorem ref_Cast (k n : Int) (s : ByteArray) (kind : Int) (hn : inI n) (w : World) (h : HasPow w) (he : HasErrs w) (hs : s.size ≤ 2000000) :
    Calls Tryd.prog 28 #[.agg #[.int .i64 k, .int .i64 n, .string s], .int .i64 kind] w fun e w' => e = .returned (.agg #[.int .i64 (castV k n s kind).k, .int .i64 (castV k n s kind).n, .string (castV k n s kind).s]) ∧ Below w.heap.size w w' := by
  by_cases k1 : k = 1
  · have E : castV k n s kind = castC 1 (flagN (n != 0)) ⟨#[]⟩ kind := by simp [castV, cleanK, cleanN, cleanS, k1]
    rw [E]
    have C : Hid (∀ w, Calls Tryd.prog 40 #[.agg #[.int .i64 k, .int .i64 n, .string s]] w fun e w' => e = .returned (.agg #[.int .i64 1, .int .i64 (flagN (n != 0)), .string ⟨#[]⟩]) ∧ Below w.heap.size w w') := fun w => by have := relstoreref_Clean k n s w; simpa [cleanK, cleanN, cleanS, *] using this
    rcases Decidable.em (kind = 1) with rfl | h1
    · exact ref_Cast11 k n s (flagN (n != 0)) flag_in w h he hs C
    rcases Decidable.em (kind = 2) with rfl | h2
    · exact ref_Cast12 k n s (flagN (n != 0)) flag_in w h he hs C
    rcases Decidable.em (kind = 3) with rfl | h3
    · exact ref_Cast13 k n s (flagN (n != 0)) flag_in w h he hs C
    exact ref_Cast10 k n s (flagN (n != 0)) kind h1 h2 h3 flag_in w h he hs C
  by_cases k2 : k = 2
  · have E : castV k n s kind = castC 2 n ⟨#[]⟩ kind := by simp [castV, cleanK, cleanN, cleanS, k2]
    rw [E]
    have C : Hid (∀ w, Calls Tryd.prog 40 #[.agg #[.int .i64 k, .int .i64 n, .string s]] w fun e w' => e = .returned (.agg #[.int .i64 2, .int .i64 (n), .string ⟨#[]⟩]) ∧ Below w.heap.size w w') := fun w => by have := relstoreref_Clean k n s w; simpa [cleanK, cleanN, cleanS, *] using this
    rcases Decidable.em (kind = 1) with rfl | h1
    · exact ref_Cast21 k n s (n) hn w h he hs C
    rcases Decidable.em (kind = 2) with rfl | h2
    · exact ref_Cast22 k n s (n) hn w h he hs C
    rcases Decidable.em (kind = 3) with rfl | h3
    · exact ref_Cast23 k n s (n) hn w h he hs C
    exact ref_Cast20 k n s (n) kind h1 h2 h3 hn w h he hs C
  by_cases k3 : k = 3
  · have E : castV k n s kind = castC 3 0 s kind := by simp [castV, cleanK, cleanN, cleanS, k3]
    rw [E]
    have C : Hid (∀ w, Calls Tryd.prog 40 #[.agg #[.int .i64 k, .int .i64 n, .string s]] w fun e w' => e = .returned (.agg #[.int .i64 3, .int .i64 (0), .string s]) ∧ Below w.heap.size w w') := fun w => by have := relstoreref_Clean k n s w; simpa [cleanK, cleanN, cleanS, *] using this
    rcases Decidable.em (kind = 1) with rfl | h1
    · exact ref_Cast31 k n s (0) zero_in w h he hs C
    rcases Decidable.em (kind = 2) with rfl | h2
    · exact ref_Cast32 k n s (0) zero_in w h he hs C
    rcases Decidable.em (kind = 3) with rfl | h3
    · exact ref_Cast33 k n s (0) zero_in w h he hs C
    exact ref_Cast30 k n s (0) kind h1 h2 h3 zero_in w h he hs C
  have E : castV k n s kind = castC 0 0 ⟨#[]⟩ kind := by simp [castV, cleanK, cleanN, cleanS, k1, k2, k3]
  rw [E]
  have C : Hid (∀ w, Calls Tryd.prog 40 #[.agg #[.int .i64 k, .int .i64 n, .string s]] w fun e w' => e = .returned (.agg #[.int .i64 0, .int .i64 (0), .string ⟨#[]⟩]) ∧ Below w.heap.size w w') := fun w => by have := relstoreref_Clean k n s w; simpa [cleanK, cleanN, cleanS, *] using this
  rcases Decidable.em (kind = 1) with rfl | h1
  · exact ref_Cast01 k n s (0) zero_in w h he hs C
  rcases Decidable.em (kind = 2) with rfl | h2
  · exact ref_Cast02 k n s (0) zero_in w h he hs C
  rcases Decidable.em (kind = 3) with rfl | h3
  · exact ref_Cast03 k n s (0) zero_in w h he hs C
  exact ref_Cast00 k n s (0) kind h1 h2 h3 zero_in w h he hs C


end Go.Proofs.YtlkkpgdgnnknpaaDoor
