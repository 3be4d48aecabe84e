/-
  small, value, divided, Neg; times of the reference's long numbers.
-/
import Derived.Test.YtlkkpgdgnnknpaaDoorLong4
import Derived.Test.YtlkkpgdgnnknpaaDoorFull
namespace Go.Proofs.YtlkkpgdgnnknpaaDoor
open Go.RowKit
set_option linter.unusedVariables false
set_option linter.unusedSimpArgs false
open Go.BigFrame
attribute [local go_sem] OpGood goodUpon fillA Act.put

/-- the number that digits are, if it is one of 64 bits -/
theorem edge_val : valD (digsOf (-9223372036854775808 : Int).natAbs) = 9223372036854775808 := by rw [digsOf_val]; rfl
theorem edge_above {l : List Int} (hd : Digs l) (hc : Canon l) : aboveD l (digsOf (-9223372036854775808 : Int).natAbs) = decide (9223372036854775808 < valD l) ∧ aboveD (digsOf (-9223372036854775808 : Int).natAbs) l = decide (valD l < 9223372036854775808) := by
  have h := aboveD_val hd (digsOf_digs (-9223372036854775808 : Int).natAbs) hc (digsOf_canon _)
  have h' := aboveD_val (digsOf_digs (-9223372036854775808 : Int).natAbs) hd (digsOf_canon _) hc
  rw [edge_val] at h h'
  exact ⟨h, h'⟩
def SmallPost (w : World) (x : Int) (e : Ending) (w' : World) : Prop := e = .returned (.tuple #[.int .i64 (if inI x then x else 0), .bool (decide (inI x))]) ∧ Below w.heap.size w w'

theorem below_mk (w : World) (o : Obj) : Below w.heap.size w (w.alloc o) := (Below.refl _ _).alloc (Nat.le_refl _) _
theorem small_no {x : Int} (h : ¬ inI x) : Ending.returned (.tuple #[.int .i64 0, .bool false]) = .returned (.tuple #[.int .i64 (if inI x then x else 0), .bool (decide (inI x))]) := by rw [if_neg h, decide_eq_false h]
theorem small_yes {x y : Int} (h : inI x) (e : y = x) : Ending.returned (.tuple #[.int .i64 y, .bool true]) = .returned (.tuple #[.int .i64 (if inI x then x else 0), .bool (decide (inI x))]) := by rw [if_pos h, decide_eq_true h, e]
theorem field_long1 (b : Bool) (A : Option Addr) (k d : Nat) (w : World) : (Instr.field 82 (.agg #[.bool b, .slice A k d]) 1).run Tryd.prog w = .ok (.slice A k d) w := by kernel_rfl

set_option maxRecDepth 100000 in
set_option maxHeartbeats 6400000 in
theorem ref_small (m : Bool) (A : Option Addr) (n c : Nat) (l : List Int) (w : World) (h : IS w A n l) (hd : Digs l) (hcn : Canon l) (hn : n ≤ 9223372036854775807) :
    Calls Tryd.prog 85 #[.agg #[.bool m, .slice A n c]] w (SmallPost w (sval m l)) := by
  obtain ⟨ed1, ed2⟩ := edge_above hd hcn
  have LO := Lib.hid (fun w1 => ref_longOf (-9223372036854775808) (by unfold inI; omega) w1)
  have EL : (digsOf (-9223372036854775808 : Int).natAbs).length ≤ 5 := digs_len (by unfold inI; omega)
  obtain ⟨ed, hed⟩ : ∃ ed, digsOf (-9223372036854775808 : Int).natAbs = ed := ⟨_, rfl⟩
  rw [hed] at ed1 ed2 EL
  have LO : Hid (∀ w1, Calls Tryd.prog 66 #[.int .i64 (-9223372036854775808)] w1 (LongPost w1 true ed)) := fun w1 => by
    have := LO.out w1
    rw [hed] at this
    exact this
  have HI := Lib.hid h
  have hv0 := valD_nonneg hd
  have HD := Lib.hid hd
  have HB0 := Lib.hid (below_mk w (.cells #[.bool m, .slice A n c] 82))
  have HX0 := Lib.hid (Has.new w 82 #[.bool m, .slice A n c])
  have hfd := field_long1
  by_cases g1 : 9223372036854775808 < valD l
  · rw [decide_eq_true g1] at ed1
    have NO := Lib.hid (show ¬ inI (sval m l) by unfold inI sval; cases m <;> simp <;> omega)
    have A1 : Hid (∀ w1 B k d (hw : Below w.heap.size w w1) (h2 : IS w1 B k ed), Calls Tryd.prog 84 #[.slice A n c, .slice B k d] w1 fun e w' => e = .returned (.bool true) ∧ Below w1.heap.size w1 w') := fun w1 B k d hw h2 => by
      have := ref_above A B n k c d l ed w1 (h.keep hw) h2 hn (by have := h2.1; omega)
      rw [ed1] at this; exact this
    clear h hd hcn EL hed ed1 ed2 g1 hv0
    go_enter Tryd.func85, Tryd.ntmps85
    go_wp2_with (first | (go_at_call 66; refine (LO.out _).mono ?_; rintro e w1 ⟨B, k, d, rfl, q1, q2, q3, q4, hb⟩; have HB1 := Lib.hid (bel_step HB0.out hb HB0.out.size); have HX1 := Lib.hid (HX0.out.belowS hb); have HQ := Lib.hid q3; obtain ⟨x0, x1⟩ := HX1.out.cells2; have xz := HX1.out.lt; clear q3 q4 hb) | (go_at_call 84; (with_reducible refine (A1.out _ _ _ _ HB1.out HQ.out).mono ?_); rintro e w2 ⟨rfl, hb⟩; have HB2 := Lib.hid (bel_step HB1.out hb HB1.out.size); have HX2 := Lib.hid (HX1.out.belowS hb); have HQ2 := Lib.hid (HQ.out.keep hb); obtain ⟨y0, y1⟩ := HX2.out.cells2; have yz := HX2.out.lt; clear hb))
    go_ret2
    exact ⟨small_no NO.out, HB2.out⟩
  · rw [decide_eq_false g1] at ed1
    have A1 : Hid (∀ w1 B k d (hw : Below w.heap.size w w1) (h2 : IS w1 B k ed), Calls Tryd.prog 84 #[.slice A n c, .slice B k d] w1 fun e w' => e = .returned (.bool false) ∧ Below w1.heap.size w1 w') := fun w1 B k d hw h2 => by
      have := ref_above A B n k c d l ed w1 (h.keep hw) h2 hn (by have := h2.1; omega)
      rw [ed1] at this; exact this
    cases m
    · by_cases g2 : valD l < 9223372036854775808
      · rw [decide_eq_true g2] at ed2
        have A2 : Hid (∀ w1 B k d (hw : Below w.heap.size w w1) (h2 : IS w1 B k ed), Calls Tryd.prog 84 #[.slice B k d, .slice A n c] w1 fun e w' => e = .returned (.bool true) ∧ Below w1.heap.size w1 w') := fun w1 B k d hw h2 => by
          have := ref_above B A k n d c ed l w1 h2 (h.keep hw) (by have := h2.1; omega) hn
          rw [ed2] at this; exact this
        have YES := Lib.hid (show inI (sval false l) by unfold inI sval; simp; omega)
        clear h hcn EL hed ed1 ed2 g1
        go_enter Tryd.func85, Tryd.ntmps85
        go_wp2_with (first | (go_at_call 66; refine (LO.out _).mono ?_; rintro e w1 ⟨B, k, d, rfl, q1, q2, q3, q4, hb⟩; have HB1 := Lib.hid (bel_step HB0.out hb HB0.out.size); have HX1 := Lib.hid (HX0.out.belowS hb); have HQ := Lib.hid q3; obtain ⟨x0, x1⟩ := HX1.out.cells2; have xz := HX1.out.lt; clear q3 q4 hb) | (go_at_call 84; (with_reducible refine (A1.out _ _ _ _ HB1.out HQ.out).mono ?_); rintro e w2 ⟨rfl, hb⟩; have HB2 := Lib.hid (bel_step HB1.out hb HB1.out.size); have HX2 := Lib.hid (HX1.out.belowS hb); have HQ2 := Lib.hid (HQ.out.keep hb); obtain ⟨y0, y1⟩ := HX2.out.cells2; have yz := HX2.out.lt; clear hb) | (go_at_call 84; (with_reducible refine (A2.out _ _ _ _ HB2.out HQ2.out).mono ?_); rintro e w3 ⟨rfl, hb⟩; have HB3 := Lib.hid (bel_step HB2.out hb HB2.out.size); have HX3 := Lib.hid (HX2.out.belowS hb); obtain ⟨v0, v1⟩ := HX3.out.cells2; have vz := HX3.out.lt; clear hb))
        have HIL := Lib.hid (HI.out.keep HB3.out)
        go_loop [5, 6] (fun v5 v6 => ∃ (k : Nat) (x z : Int), k ≤ n ∧ z = k - 1 ∧ v6 = .int .i64 z ∧ v5 = .int .i64 x ∧ x = - valD (l.drop k)) (fun _ v6 => (intOf v6 + 1).toNat)
        case atStart => exact ⟨n, _, _, Nat.le_refl _, rfl, rfl, rfl, by rw [List.drop_of_length_le (by rw [HI.out.1]; exact Nat.le_refl _)]; rfl⟩
        case round =>
          obtain ⟨k, x, z, hk, hz, rfl, rfl, hx⟩ := hrel
          cases k with
          | zero =>
            obtain rfl : z = -1 := by omega
            rw [List.drop_zero] at hx
            clear hz
            have hx1 : x = - valD l := hx
            clear hx
            have xb1 : -9223372036854775807 ≤ x := by omega
            have xb2 : x ≤ 0 := by omega
            have XE := Lib.hid hx1
            clear hx1
            go_wp2_with fail
            go_ret2
            exact ⟨small_yes YES.out (by rw [XE.out]; simp [sval]), HB3.out⟩
          | succ j =>
            obtain rfl : z = (j : Int) := by omega
            have hl : j < l.length := by rw [HI.out.1]; omega
            obtain ⟨b, off, rfl, hb, hc⟩ := HIL.out.2 (by omega)
            have c0 := hc j l[j] (by simp [hl])
            have dg := HD.out l[j] (List.getElem_mem hl)
            obtain ⟨dg0, dg1⟩ := dg
            have dd := valD_drop hl
            rw [show l.getD j 0 = l[j] by simp [hl]] at dd
            have dle := valD_drop_le HD.out j
            have dn := valD_nonneg (HD.out.drop (j + 1))
            have xb1 : -922337203685478 ≤ x := by omega
            have xb2 : x ≤ 0 := by omega
            have XE : Hid (10000 * x - l[j] = - valD (l.drop j)) := by
              have : 10000 * x - l[j] = - valD (l.drop j) := by omega
              exact this
            have xb3 : -9223372036854775808 ≤ 10000 * x - l[j] := by omega
            have i1 : (j : Int) < (n : Int) := by omega
            clear hc hz hx dd dle dn
            go_wp2_with fail
            go_round
            case rel => exact ⟨j, _, _, by omega, rfl, rfl, rfl, XE.out⟩
            case measure => simp [intOf]
      · rw [decide_eq_false g2] at ed2
        have A2 : Hid (∀ w1 B k d (hw : Below w.heap.size w w1) (h2 : IS w1 B k ed), Calls Tryd.prog 84 #[.slice B k d, .slice A n c] w1 fun e w' => e = .returned (.bool false) ∧ Below w1.heap.size w1 w') := fun w1 B k d hw h2 => by
          have := ref_above B A k n d c ed l w1 h2 (h.keep hw) (by have := h2.1; omega) hn
          rw [ed2] at this; exact this
        have NO := Lib.hid (show ¬ inI (sval false l) by unfold inI sval; simp; omega)
        clear h hd hcn EL hed ed1 ed2 g1 hv0
        go_enter Tryd.func85, Tryd.ntmps85
        go_wp2_with (first | (go_at_call 66; refine (LO.out _).mono ?_; rintro e w1 ⟨B, k, d, rfl, q1, q2, q3, q4, hb⟩; have HB1 := Lib.hid (bel_step HB0.out hb HB0.out.size); have HX1 := Lib.hid (HX0.out.belowS hb); have HQ := Lib.hid q3; obtain ⟨x0, x1⟩ := HX1.out.cells2; have xz := HX1.out.lt; clear q3 q4 hb) | (go_at_call 84; (with_reducible refine (A1.out _ _ _ _ HB1.out HQ.out).mono ?_); rintro e w2 ⟨rfl, hb⟩; have HB2 := Lib.hid (bel_step HB1.out hb HB1.out.size); have HX2 := Lib.hid (HX1.out.belowS hb); have HQ2 := Lib.hid (HQ.out.keep hb); obtain ⟨y0, y1⟩ := HX2.out.cells2; have yz := HX2.out.lt; clear hb) | (go_at_call 84; (with_reducible refine (A2.out _ _ _ _ HB2.out HQ2.out).mono ?_); rintro e w3 ⟨rfl, hb⟩; have HB3 := Lib.hid (bel_step HB2.out hb HB2.out.size); have HX3 := Lib.hid (HX2.out.belowS hb); obtain ⟨v0, v1⟩ := HX3.out.cells2; have vz := HX3.out.lt; clear hb))
        go_ret2
        exact ⟨small_no NO.out, HB3.out⟩
    · have YES := Lib.hid (show inI (sval true l) by unfold inI sval; simp; omega)
      clear h hcn EL hed ed1 ed2
      go_enter Tryd.func85, Tryd.ntmps85
      go_wp2_with (first | (go_at_call 66; refine (LO.out _).mono ?_; rintro e w1 ⟨B, k, d, rfl, q1, q2, q3, q4, hb⟩; have HB1 := Lib.hid (bel_step HB0.out hb HB0.out.size); have HX1 := Lib.hid (HX0.out.belowS hb); have HQ := Lib.hid q3; obtain ⟨x0, x1⟩ := HX1.out.cells2; have xz := HX1.out.lt; clear q3 q4 hb) | (go_at_call 84; (with_reducible refine (A1.out _ _ _ _ HB1.out HQ.out).mono ?_); rintro e w2 ⟨rfl, hb⟩; have HB2 := Lib.hid (bel_step HB1.out hb HB1.out.size); have HX2 := Lib.hid (HX1.out.belowS hb); have HQ2 := Lib.hid (HQ.out.keep hb); obtain ⟨y0, y1⟩ := HX2.out.cells2; have yz := HX2.out.lt; clear hb))
      have HIL := Lib.hid (HI.out.keep HB2.out)
      go_loop [5, 6] (fun v5 v6 => ∃ (k : Nat) (x z : Int), k ≤ n ∧ z = k - 1 ∧ v6 = .int .i64 z ∧ v5 = .int .i64 x ∧ x = - valD (l.drop k)) (fun _ v6 => (intOf v6 + 1).toNat)
      case atStart => exact ⟨n, _, _, Nat.le_refl _, rfl, rfl, rfl, by rw [List.drop_of_length_le (by rw [HI.out.1]; exact Nat.le_refl _)]; rfl⟩
      case round =>
        obtain ⟨k, x, z, hk, hz, rfl, rfl, hx⟩ := hrel
        cases k with
        | zero =>
          obtain rfl : z = -1 := by omega
          rw [List.drop_zero] at hx
          clear hz
          have hx1 : x = - valD l := hx
          clear hx
          have xb1 : -9223372036854775808 ≤ x := by omega
          have xb2 : x ≤ 0 := by omega
          have XE := Lib.hid hx1
          clear hx1
          go_wp2_with fail
          go_ret2
          exact ⟨small_yes YES.out (by rw [XE.out]; simp [sval]), HB2.out⟩
        | succ j =>
          obtain rfl : z = (j : Int) := by omega
          have hl : j < l.length := by rw [HI.out.1]; omega
          obtain ⟨b, off, rfl, hb, hc⟩ := HIL.out.2 (by omega)
          have c0 := hc j l[j] (by simp [hl])
          have dg := HD.out l[j] (List.getElem_mem hl)
          obtain ⟨dg0, dg1⟩ := dg
          have dd := valD_drop hl
          rw [show l.getD j 0 = l[j] by simp [hl]] at dd
          have dle := valD_drop_le HD.out j
          have dn := valD_nonneg (HD.out.drop (j + 1))
          have xb1 : -922337203685478 ≤ x := by omega
          have xb2 : x ≤ 0 := by omega
          have XE : Hid (10000 * x - l[j] = - valD (l.drop j)) := by
            have : 10000 * x - l[j] = - valD (l.drop j) := by omega
            exact this
          have xb3 : -9223372036854775808 ≤ 10000 * x - l[j] := by omega
          have i1 : (j : Int) < (n : Int) := by omega
          clear hc hz hx dd dle dn
          go_wp2_with fail
          go_round
          case rel => exact ⟨j, _, _, by omega, rfl, rfl, rfl, XE.out⟩
          case measure => simp [intOf]


set_option maxRecDepth 100000 in
set_option maxHeartbeats 1600000 in
theorem ref_value (m : Bool) (A : Option Addr) (n c : Nat) (l : List Int) (w : World) (h : IS w A n l) (hd : Digs l) (hcn : Canon l) (hn : n ≤ 9223372036854775807) :
    Calls Tryd.prog 68 #[.agg #[.bool m, .slice A n c]] w fun e w' => e = .returned (.agg #[.int .i64 (recK (fitO (sval m l))), .int .i64 (recN (fitO (sval m l))), .string ⟨#[]⟩]) ∧ Below w.heap.size w w' := by
  have S := Lib.hid (fun w1 (hw : Below w.heap.size w w1) => ref_small m A n c l w1 (h.keep hw) hd hcn hn)
  have HB0 := Lib.hid (((Below.refl w.heap.size w).alloc (Nat.le_refl _) (.cells #[.bool m, .slice A n c] 82)).alloc (by simp) (.cells #[.int .i64 0, .int .i64 0, .string ⟨#[]⟩] 38))
  clear h hd hcn
  by_cases hi : inI (sval m l)
  · have E := Lib.hid (show fitO (sval m l) = some (sval m l) from fit_yes hi)
    have S2 : Hid (∀ w1 (hw : Below w.heap.size w w1), Calls Tryd.prog 85 #[.agg #[.bool m, .slice A n c]] w1 fun e w' => e = .returned (.tuple #[.int .i64 (sval m l), .bool true]) ∧ Below w1.heap.size w1 w') := fun w1 hw => (S.out w1 hw).mono fun e w' ⟨he, hb⟩ => ⟨by rw [he, if_pos hi, decide_eq_true hi], hb⟩
    rw [E.out]
    obtain ⟨x, hx⟩ : ∃ x, sval m l = x := ⟨_, rfl⟩
    rw [hx] at S2
    rw [hx]
    clear hi S E hx
    go_enter Tryd.func68, Tryd.ntmps68
    go_wp2_with (first | (go_at_call 85; (refine (S2.out _ HB0.out).mono ?_; rintro e w1 ⟨rfl, hb⟩; have HB1 := Lib.hid (bel_step HB0.out hb HB0.out.size); obtain ⟨hc, hf⟩ := bcell hb; have hz := hb.size; simp at hz; have hz0 : w.heap.size < w1.heap.size := (by omega); have hz1 : w.heap.size + 1 < w1.heap.size := (by omega))) | (go_at_call 34; refine (relstoreref_num _ _).mono ?_; rintro e w1 ⟨rfl, hb⟩; obtain ⟨hc, hf⟩ := bcell hb; have hz := hb.size; (try simp at hz); have hz0 : w.heap.size < w1.heap.size := (by omega); have hz1 : w.heap.size + 1 < w1.heap.size := (by omega)))
    refine bodyPost_ret (v := .agg #[.int .i64 2, .int .i64 x, .string ⟨#[]⟩]) (by simp [results, Tryd.results68, go_sem, *]) rfl ⟨?_, ?_⟩
    · rfl
    · (repeat (first | exact Below.refl _ _ | assumption | (refine Below.setCell ?_ (by first | omega | (simp <;> omega)) _) | refine Below.drew ?_ | (refine Below.alloc ?_ (by first | omega | (simp <;> omega)) _) | (refine bel_step ?_ (by assumption) (by first | omega | (simp <;> omega)))))
  · have E := Lib.hid (show fitO (sval m l) = none from fit_no hi)
    have S2 : Hid (∀ w1 (hw : Below w.heap.size w w1), Calls Tryd.prog 85 #[.agg #[.bool m, .slice A n c]] w1 fun e w' => e = .returned (.tuple #[.int .i64 0, .bool false]) ∧ Below w1.heap.size w1 w') := fun w1 hw => (S.out w1 hw).mono fun e w' ⟨he, hb⟩ => ⟨by rw [he, if_neg hi, decide_eq_false hi], hb⟩
    rw [E.out]
    clear hi S E
    go_enter Tryd.func68, Tryd.ntmps68
    go_wp2_with (first | (go_at_call 85; (refine (S2.out _ HB0.out).mono ?_; rintro e w1 ⟨rfl, hb⟩; have HB1 := Lib.hid (bel_step HB0.out hb HB0.out.size); obtain ⟨hc, hf⟩ := bcell hb; have hz := hb.size; simp at hz; have hz0 : w.heap.size < w1.heap.size := (by omega); have hz1 : w.heap.size + 1 < w1.heap.size := (by omega))) | (go_at_call 32; refine (relstoreref_null _).mono ?_; rintro e w1 ⟨rfl, hb⟩; obtain ⟨hc, hf⟩ := bcell hb; have hz := hb.size; (try simp at hz); have hz0 : w.heap.size < w1.heap.size := (by omega); have hz1 : w.heap.size + 1 < w1.heap.size := (by omega)))
    refine bodyPost_ret (v := .agg #[.int .i64 0, .int .i64 0, .string ⟨#[]⟩]) (by simp [results, Tryd.results68, go_sem, *]) rfl ⟨?_, ?_⟩
    · rfl
    · (repeat (first | exact Below.refl _ _ | assumption | (refine Below.setCell ?_ (by first | omega | (simp <;> omega)) _) | refine Below.drew ?_ | (refine Below.alloc ?_ (by first | omega | (simp <;> omega)) _) | (refine bel_step ?_ (by assumption) (by first | omega | (simp <;> omega)))))

end Go.Proofs.YtlkkpgdgnnknpaaDoor
