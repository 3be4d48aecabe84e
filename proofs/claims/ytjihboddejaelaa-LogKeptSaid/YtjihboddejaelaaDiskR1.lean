/-
  The reference's disk (1): filled, on, fits; plain texts.
-/
import Derived.Test.YtjihboddejaelaaDisk0
import Derived.Test.YtjihboddejaelaaObj
import Derived.Laws.MakeOwn
import Derived.Deep.RegionLaw
import Derived.Deep.AppendLies
import Derived.IntWalk
import Derived.Laws.IdiomStrings
import Derived.Lib.Strings
namespace Go.Proofs.Ytjihboddejaelaa
open Go.RowKit
open Go.BigFrame
set_option linter.unusedVariables false
set_option linter.unusedSimpArgs false

theorem made_zeroN (n : Nat) (w : World) : BS (w.alloc (.cells (madeCells #[.int .u8 0] n) 5)) (some ⟨w.heap.size, 0, none⟩) n (List.replicate n 0) := by
  have e : madeCells #[Value.int .u8 0] n = (u8s (List.replicate n 0)).toArray := by
    apply Array.toList_inj.1
    rw [show (u8s (List.replicate n 0)).toArray.toList = List.replicate n (Value.int .u8 0) by simp [u8s, u8v]]
    refine List.eq_replicate_iff.2 ⟨by simp [size_madeCells], fun b hb => ?_⟩
    simp only [madeCells, Array.toList_map, List.mem_map] at hb
    obtain ⟨a, _, rfl⟩ := hb
    show (#[Value.int .u8 0] : Array Value)[a % 1]! = _
    rw [Nat.mod_one]; rfl
  rw [e]
  have := BS.of_has (Has.new w 5 (u8s (List.replicate n 0)).toArray)
  rwa [List.length_replicate] at this
theorem make_bytesN (i : Nat) (hi : i ≤ 67108864) (w : World) : (Instr.makeSlice 81 (.int .i64 i) (.int .i64 i)).run Try.prog w = .ok (.slice (some ⟨w.heap.size, 0, none⟩) i i) (w.alloc (.cells (madeCells #[.int .u8 0] i) 5)) := by
  obtain ⟨i0, hi0, hz0, hz1, hz2⟩ := info_parts infoByte
  have := run_make (P := Try.prog) w 81 5 i0 _ Try.underlying81 hi0 hz0 .i64 .i64 (i : Int) (i : Int) (by omega) (by omega) (by rw [hz2]; omega) (by omega)
  rw [hz1, show (Value.int .u8 0).cells = #[.int .u8 0] from rfl] at this
  simpa using this

set_option maxRecDepth 100000 in
set_option maxHeartbeats 1600000 in
theorem ref_filled (l : List UInt8) (n : Nat) (hl : l.length ≤ 67108864) (hn : n ≤ 67108864) (w : World) :
    Calls Try.prog 112 #[.string (bsOf l), .int .i64 n] w fun e w' => e = .returned (.string (bsOf (zerosTo l n))) ∧ Below w.heap.size w w' := by
  obtain ⟨S, hS⟩ : ∃ S, bsOf l = S := ⟨_, rfl⟩
  have hs : S.size = l.length := by rw [← hS, bsOf_size]
  by_cases h : n ≤ l.length
  · have E := Lib.hid (show bsOf (zerosTo l n) = S by rw [zerosTo_big h, hS])
    rw [E.out, hS]
    have h2 : n ≤ S.size := by omega
    have h3 : S.size ≤ 67108864 := by omega
    clear hs hl h hS
    go_enter Try.func112, Try.ntmps112
    go_wp2_with fail
    go_ret
    exact ⟨rfl, Below.refl _ _⟩
  · obtain ⟨k, hk⟩ : ∃ k, n - l.length = k := ⟨_, rfl⟩
    have hmk := make_bytesN k (by omega) w
    obtain ⟨Z, hZ⟩ : ∃ s, bsOf (List.replicate k 0) = s := ⟨_, rfl⟩
    have hcv := conv_BS (c := k) (made_zeroN k w)
    rw [hZ] at hcv
    have E := Lib.hid (show S ++ Z = bsOf (zerosTo l n) by rw [← hS, ← hZ, bsOf_append]; unfold zerosTo; rw [hk])
    have lz : Z.size = k := by rw [← hZ, bsOf_size, List.length_replicate]
    have h2 : ¬ n ≤ S.size := by omega
    have h3 : S.size ≤ 67108864 := by omega
    have h4 : (n : Int) - (S.size : Int) = (k : Int) := by omega
    rw [hS, ← E.out]
    have h5 : Z.size ≤ 67108864 := by omega
    clear hs hl h hS hZ hk lz
    go_enter Try.func112, Try.ntmps112
    go_wp2_with fail
    go_ret
    exact ⟨rfl, (Below.refl _ _).alloc (Nat.le_refl _) _⟩

theorem extr_take (l : List UInt8) (n : Nat) : (bsOf l).extract 0 n = bsOf (l.take n) := by
  apply ByteArray.ext; apply Array.toList_inj.1
  rw [Lib.extract_data, bsOf_data, bsOf_data]; simp
theorem extr_drop (l : List UInt8) (n : Nat) : (bsOf l).extract n (bsOf l).size = bsOf (l.drop n) := by
  apply ByteArray.ext; apply Array.toList_inj.1
  rw [Lib.extract_data, bsOf_data, bsOf_data, bsOf_size, List.take_of_length_le (by simp)]
def actVal (c : Ch) : Value := .agg #[.int .i64 c.file, .int .i64 c.at_, .string c.text, .bool c.cut]
theorem Has.cells4r {w : World} {g : Nat} {t : TypeId} {a0 a1 a2 a3 : Value} (h : Has w g t #[a0, a1, a2, a3]) : w.cell? ⟨g, 0, none⟩ = some a0 ∧ w.cell? ⟨g, 1, none⟩ = some a1 ∧ w.cell? ⟨g, 2, none⟩ = some a2 ∧ w.cell? ⟨g, 3, none⟩ = some a3 :=
  ⟨h.cell 0, h.cell 1, h.cell 2, h.cell 3⟩
set_option maxRecDepth 100000 in
set_option maxHeartbeats 1600000 in
theorem ref_on (c : Ch) (l : List UInt8) (hl : l.length ≤ 67108864) (hc : c.fits) (w : World) :
    Calls Try.prog 83 #[actVal c, .string (bsOf l)] w fun e w' => e = .returned (.string (bsOf (c.done l))) ∧ Below w.heap.size w w' := by
  obtain ⟨f, a, t, b⟩ := c
  obtain ⟨hf, ha, hat, hct⟩ := hc
  simp only at hf ha hat hct
  show Calls Try.prog 83 #[.agg #[.int .i64 f, .int .i64 a, .string t, .bool b], .string (bsOf l)] w fun e w' => e = .returned (.string (bsOf (Ch.done ⟨f, a, t, b⟩ l))) ∧ Below w.heap.size w w'
  have HX := Lib.hid (Has.new w 124 #[.int .i64 f, .int .i64 a, .string t, .bool b])
  have HB := Lib.hid ((Below.refl w.heap.size w).alloc (Nat.le_refl _) (.cells #[.int .i64 f, .int .i64 a, .string t, .bool b] 124))
  cases b with
  | true =>
    have T := Lib.hid (fun w1 => ref_filled l a hl ha w1)
    have hz := zerosTo_len l a
    have ex := extr_take (zerosTo l a) a
    have E := Lib.hid (show Ch.done ⟨f, a, t, true⟩ l = (zerosTo l a).take a from rfl)
    rw [E.out]
    obtain ⟨F, hF⟩ : ∃ F, bsOf (zerosTo l a) = F := ⟨_, rfl⟩
    obtain ⟨R, hR⟩ : ∃ F, bsOf ((zerosTo l a).take a) = F := ⟨_, rfl⟩
    obtain ⟨S, hS⟩ : ∃ F, bsOf l = F := ⟨_, rfl⟩
    have lF : F.size = max l.length a := by rw [← hF, bsOf_size, hz]
    have lF2 : a ≤ F.size := by omega
    have lF3 : F.size ≤ 67108864 := by omega
    rw [hF, hS] at T
    rw [hF, hR] at ex
    rw [hR, hS]
    have i1 : (0 : Int) ≤ (a : Int) := by omega
    have i2 : (a : Int) ≤ (F.size : Int) := by omega
    clear hz hF hR hS lF hl hat hct hf
    go_enter Try.func83, Try.ntmps83
    go_wp2_with fail
    generalize w.alloc (.cells #[.int .i64 f, .int .i64 a, .string t, .bool true] 124) = W at *
    obtain ⟨x0, x1, x2, x3⟩ := HX.out.cells4r
    have xz := HX.out.lt
    refine wp_region_cls (W) (by kernel_rfl) (by kernel_rfl) (Cls.start _) ?_
    repeat
      first
        | go_big_quiet_skip
        | (go_big_quiet_want; (first | go_big_quiet_op | go_simp); first | go_big_quiet_on | (apply Exists.intro; refine ⟨fun w' hw' => ?_, ?_⟩; (· (first | (with_reducible exact rfl) | ((go_at_call 112; refine (T.out _).mono ?_; rintro e w1 ⟨rfl, hb⟩; exact ⟨rfl, Cls.step hw' hb⟩)) | (obtain ⟨hc, hf⟩ := hw'.facts; go_simp; first | done | (with_reducible exact rfl) | (with_reducible exact ⟨rfl, rfl⟩)))); go_big_quiet_on))
    refine wpQuiet_nil ?_
    intro wq hq
    have HQ := Lib.hid hq
    clear hq
    go_wp2_with fail
    go_ret
    exact ⟨rfl, bel_step HB.out HQ.out HB.out.size⟩
  | false =>
    obtain ⟨N, hN⟩ : ∃ N, a + t.size = N := ⟨_, rfl⟩
    have hN2 : (a : Int) + (t.size : Int) = (N : Int) := by omega
    have T := Lib.hid (fun w1 => ref_filled l N hl (by omega) w1)
    have hz := zerosTo_len l N
    have ex := extr_take (zerosTo l N) a
    have ex2 := extr_drop (zerosTo l N) N
    have ht : t.data.toList.length = t.size := by simp
    obtain ⟨R, hR⟩ : ∃ F, bsOf (Ch.done ⟨f, a, t, false⟩ l) = F := ⟨_, rfl⟩
    have E := Lib.hid (show (bsOf ((zerosTo l N).take a) ++ t) ++ bsOf ((zerosTo l N).drop N) = R by
      rw [← hR, ← bsOf_of t, bsOf_append, bsOf_append]
      unfold Ch.done putL
      simp only [ht, hN, bsOf_of]
      rfl)
    obtain ⟨F, hF⟩ : ∃ F, bsOf (zerosTo l N) = F := ⟨_, rfl⟩
    obtain ⟨S, hS⟩ : ∃ F, bsOf l = F := ⟨_, rfl⟩
    obtain ⟨P1, hP1⟩ : ∃ F, bsOf ((zerosTo l N).take a) = F := ⟨_, rfl⟩
    obtain ⟨P2, hP2⟩ : ∃ F, bsOf ((zerosTo l N).drop N) = F := ⟨_, rfl⟩
    have lF : F.size = max l.length N := by rw [← hF, bsOf_size, hz]
    have lF2 : N ≤ F.size := by omega
    have lF4 : a ≤ F.size := by omega
    have lF3 : F.size ≤ 67108864 := by omega
    have lP1 : P1.size ≤ 67108864 := by rw [← hP1, bsOf_size, List.length_take]; omega
    have lP2 : P2.size ≤ 67108864 := by rw [← hP2, bsOf_size, List.length_drop]; omega
    rw [hF, hS] at T
    rw [hF, hP1] at ex
    rw [hF, hP2] at ex2
    rw [hP1, hP2] at E
    rw [hR, hS, ← E.out]
    have i1 : (0 : Int) ≤ (a : Int) := by omega
    have i2 : (a : Int) ≤ (F.size : Int) := by omega
    have i3 : (0 : Int) ≤ (N : Int) := by omega
    have i4 : (N : Int) ≤ (F.size : Int) := by omega
    have lt : t.size ≤ 67108864 := by omega
    clear hz hF hR hS lF hl hct hf hP1 hP2 ht hat hN
    go_enter Try.func83, Try.ntmps83
    go_upto_region 4 with (go_at_call 112; (with_reducible refine (T.out _).mono ?_); rintro e w1 ⟨rfl, hb1⟩)
    have HX1 := Lib.hid (HX.out.belowS hb1)
    have HB1 := Lib.hid (bel_step HB.out hb1 HB.out.size)
    clear hb1
    obtain ⟨x0, x1, x2, x3⟩ := HX1.out.cells4r
    have xz := HX1.out.lt
    have w1e : IntKind.i64.wrap ((a : Int) + (t.size : Int)) = (N : Int) := by rw [hN2]; exact IntWalk.i64_in _ ⟨by omega, by omega⟩
    have s1 : P1.size + t.size ≤ 9223372036854775807 := by omega
    have s2 : (P1 ++ t).size + P2.size ≤ 9223372036854775807 := by rw [ByteArray.size_append]; omega
    refine wp_region_cls (w1) (by kernel_rfl) (by kernel_rfl) (Cls.start _) ?_
    repeat
      first
        | go_big_quiet_skip
        | (go_big_quiet_want; (first | go_big_quiet_op | go_simp); first | go_big_quiet_on | (apply Exists.intro; refine ⟨fun w' hw' => ?_, ?_⟩; (· (first | (with_reducible exact rfl) | (fail) | (obtain ⟨hc, hf⟩ := hw'.facts; go_simp; first | done | (with_reducible exact rfl) | (with_reducible exact ⟨rfl, rfl⟩)))); go_big_quiet_on))
    refine wpQuiet_nil ?_
    intro wq hq
    have HQ := Lib.hid hq
    clear hq
    go_wp2_with fail
    go_ret
    exact ⟨rfl, bel_step HB1.out HQ.out HB1.out.size⟩

def inB (a b c : Int) : Bool := decide (b ≤ a) && decide (a ≤ c)
theorem inB_yes {a b c : Int} (h1 : b ≤ a) (h2 : a ≤ c) : inB a b c = true := by simp [inB, h1, h2]
theorem inB_no {a b c : Int} (h : ¬ (b ≤ a ∧ a ≤ c)) : inB a b c = false := by
  unfold inB; rw [Bool.and_eq_false_iff]; simp only [decide_eq_false_iff_not]; omega
theorem ref_inB (a b c : Int) (w : World) : Calls Try.prog 80 #[.int .i64 a, .int .i64 b, .int .i64 c] w fun e w' => e = .returned (.bool (inB a b c)) ∧ w = w' := ref_in a b c w
def fitsR (f a n : Int) : Bool := decide (fitsF f a n)
set_option maxHeartbeats 3200000 in
theorem ref_fits (f a n : Int) (w : World) : Calls Try.prog 97 #[.int .i64 f, .int .i64 a, .int .i64 n] w fun e w' => e = .returned (.bool (fitsR f a n)) ∧ w = w' := by
  have I1 := Lib.hid (fun w1 => ref_inB f 0 1 w1)
  have I2 := Lib.hid (fun w1 => ref_inB a 0 67108864 w1)
  have I3 := Lib.hid (fun w1 => ref_inB n 0 (67108864 - a) w1)
  by_cases h1 : 0 ≤ f ∧ f ≤ 1
  · rw [inB_yes h1.1 h1.2] at I1
    by_cases h2 : 0 ≤ a ∧ a ≤ 67108864
    · rw [inB_yes h2.1 h2.2] at I2
      obtain ⟨a1, a2⟩ := h2
      by_cases h3 : 0 ≤ n ∧ n ≤ 67108864 - a
      · rw [inB_yes h3.1 h3.2] at I3
        have E := Lib.hid (show fitsR f a n = true from decide_eq_true (by unfold fitsF; omega))
        clear h1 h3
        go_enter Try.func97, Try.ntmps97
        go_wp2_with (first | (go_at_call 80; (with_reducible refine (I1.out _).mono ?_); rintro e w1 ⟨rfl, rfl⟩) | (go_at_call 80; (with_reducible refine (I2.out _).mono ?_); rintro e w1 ⟨rfl, rfl⟩) | (go_at_call 80; (with_reducible refine (I3.out _).mono ?_); rintro e w1 ⟨rfl, rfl⟩))
        go_ret
        exact ⟨ret_bool (by rw [E.out]), rfl⟩
      · rw [inB_no h3] at I3
        have E := Lib.hid (show fitsR f a n = false from decide_eq_false (by unfold fitsF; omega))
        clear h1 h3
        go_enter Try.func97, Try.ntmps97
        go_wp2_with (first | (go_at_call 80; (with_reducible refine (I1.out _).mono ?_); rintro e w1 ⟨rfl, rfl⟩) | (go_at_call 80; (with_reducible refine (I2.out _).mono ?_); rintro e w1 ⟨rfl, rfl⟩) | (go_at_call 80; (with_reducible refine (I3.out _).mono ?_); rintro e w1 ⟨rfl, rfl⟩))
        go_ret
        exact ⟨ret_bool (by rw [E.out]), rfl⟩
    · rw [inB_no h2] at I2
      have E := Lib.hid (show fitsR f a n = false from decide_eq_false (by unfold fitsF; omega))
      clear h1 h2
      go_enter Try.func97, Try.ntmps97
      go_wp2_with (first | (go_at_call 80; (with_reducible refine (I1.out _).mono ?_); rintro e w1 ⟨rfl, rfl⟩) | (go_at_call 80; (with_reducible refine (I2.out _).mono ?_); rintro e w1 ⟨rfl, rfl⟩))
      go_ret
      exact ⟨ret_bool (by rw [E.out]), rfl⟩
  · rw [inB_no h1] at I1
    have E := Lib.hid (show fitsR f a n = false from decide_eq_false (by unfold fitsF; omega))
    clear h1
    go_enter Try.func97, Try.ntmps97
    go_wp2_with (go_at_call 80; (with_reducible refine (I1.out _).mono ?_); rintro e w1 ⟨rfl, rfl⟩)
    go_ret
    exact ⟨ret_bool (by rw [E.out]), rfl⟩

end Go.Proofs.Ytjihboddejaelaa
