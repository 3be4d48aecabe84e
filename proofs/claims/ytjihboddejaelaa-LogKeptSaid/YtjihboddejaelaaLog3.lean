/-
  slotOf of the reference.
-/
import Derived.Test.YtjihboddejaelaaLog2
namespace Go.Proofs.Ytjihboddejaelaa
open Go.RowKit
open Go.BigFrame
set_option linter.unusedVariables false
set_option linter.unusedSimpArgs false

def SlotVal (x : Nat × Nat × Nat) : Value := .tuple #[.int .i64 x.1, .int .i64 x.2.1, .int .i64 x.2.2]
theorem slotVal_zero : SlotVal (0, 0, 0) = .tuple #[.int .i64 0, .int .i64 0, .int .i64 0] := rfl

set_option maxRecDepth 100000 in
set_option maxHeartbeats 1600000 in
theorem ref_slotOf (s : ByteArray) (k : Nat) (hk : k < 2) (hs : s.size ≤ 67108864) (w : World) :
    Calls Try.prog 77 #[.string s, .int .i64 k] w fun e w' => e = .returned (SlotVal (slotOf s.data.toList k)) ∧ Below w.heap.size w w' := by
  by_cases h1 : s.size < 40 + 24 * k
  · have E := Lib.hid (slotOf_far (l := s.data.toList) (k := k) (by simpa using h1))
    rw [E.out, slotVal_zero]
    go_enter Try.func77, Try.ntmps77
    go_wp2_with fail
    go_ret3
    exact ⟨rfl, Below.refl _ _⟩
  · obtain ⟨T, hT⟩ : ∃ T, s.extract (16 + 24 * k) (40 + 24 * k) = T := ⟨_, rfl⟩
    have hz : T.size = 24 := by rw [← hT, ByteArray.size_extract]; omega
    obtain ⟨T0, hT0⟩ : ∃ U, T.extract 0 4 = U := ⟨_, rfl⟩
    obtain ⟨T4, hT4⟩ : ∃ U, T.extract 4 8 = U := ⟨_, rfl⟩
    obtain ⟨T8, hT8⟩ : ∃ U, T.extract 8 12 = U := ⟨_, rfl⟩
    obtain ⟨U, hU⟩ : ∃ U, T.extract 0 12 = U := ⟨_, rfl⟩
    obtain ⟨V, hV⟩ : ∃ U, T.extract 12 24 = U := ⟨_, rfl⟩
    have hz0 : T0.size = 4 := by rw [← hT0, ByteArray.size_extract]; omega
    have hz4 : T4.size = 4 := by rw [← hT4, ByteArray.size_extract]; omega
    have hz8 : T8.size = 4 := by rw [← hT8, ByteArray.size_extract]; omega
    have N0 := Lib.hid (ref_unbytes T0 (by omega))
    have N4 := Lib.hid (ref_unbytes T4 (by omega))
    have N8 := Lib.hid (ref_unbytes T8 (by omega))
    obtain ⟨n, hn⟩ : ∃ n, unK T0.data.toList = n := ⟨_, rfl⟩
    obtain ⟨f, hf⟩ : ∃ n, unK T4.data.toList = n := ⟨_, rfl⟩
    obtain ⟨p, hp⟩ : ∃ n, unK T8.data.toList = n := ⟨_, rfl⟩
    have ln : n < 4294967296 := by rw [← hn]; exact unK_lt 4 _ (by simp; omega)
    have lf : f < 4294967296 := by rw [← hf]; exact unK_lt 4 _ (by simp; omega)
    have lp : p < 4294967296 := by rw [← hp]; exact unK_lt 4 _ (by simp; omega)
    rw [hn] at N0; rw [hf] at N4; rw [hp] at N8
    have E := Lib.hid (show slotOf s.data.toList k = if ¬ U.toList = V.toList ∨ ¬ (1 ≤ n ∧ n ≤ 3) ∨ 0 < f ∧ s.size < 64 + 1028 * f then (0, 0, 0) else (n, f, p) by
      have hT2 : partL s.data.toList (16 + 24 * k) 24 = T.data.toList := by rw [← hT, extr_part, bsOf_data]; congr 1; omega
      unfold slotOf
      rw [if_neg (by simpa using h1)]
      simp only [hT2]
      have e0 : unK (T.data.toList.take 4) = n := by rw [← hn, ← hT0, extr_part, bsOf_data, partL_zero]
      have e4 : unK (partL T.data.toList 4 4) = f := by rw [← hf, ← hT4, extr_part, bsOf_data]
      have e8 : unK (partL T.data.toList 8 4) = p := by rw [← hp, ← hT8, extr_part, bsOf_data]
      have eU : U.toList = T.data.toList.take 12 := by rw [← hU, Lib.toList_data, extr_part, bsOf_data, partL_zero]
      have eV : V.toList = T.data.toList.drop 12 := by
        rw [← hV, Lib.toList_data, extr_part, bsOf_data]; unfold partL; exact List.take_of_length_le (by rw [List.length_drop, Array.length_toList]; show T.size - 12 ≤ _; omega)
      rw [e0, e4, e8, eU, eV, Array.length_toList]
      rfl)
    have HN := Lib.hid hn; have HF := Lib.hid hf; have HP := Lib.hid hp
    have IN := Lib.hid (fun w => ref_in n 1 3 w)
    clear hn hf hp
    obtain rfl | rfl : k = 0 ∨ k = 1 := by omega
    · rw [show ((0 : Nat) : Int) = 0 from rfl]
      by_cases q1 : U.toList = V.toList
      · by_cases q2 : 1 ≤ n ∧ n ≤ 3
        · by_cases q3 : 0 < f
          · by_cases q4 : s.size < 64 + 1028 * f
            · skip
              have b1 : (U.toList == V.toList) = true := by simpa using q1
              have b2 : (decide ((1 : Int) ≤ (n : Int)) && decide ((n : Int) ≤ (3 : Int))) = true := by simp; omega
              rw [b2] at IN
              have b3 : decide ((0 : Int) < (f : Int)) = true := by simp; omega
              have b4 : decide ((s.size : Int) < 64 + (f : Int) * 1028) = true := by simp; omega
              have E := Lib.hid (E.out.trans (if_pos (.inr (.inr ⟨q3, q4⟩))))
              rw [E.out, slotVal_zero]
              go_enter Try.func77, Try.ntmps77
              go_wp2_with fail
              refine wp_region_cls (w) (by kernel_rfl) (by kernel_rfl) (Cls.start _) ?_
              repeat
                first
                  | go_big_quiet_skip
                  | (go_big_quiet_want; (first | go_big_quiet_op | go_simp); first | go_big_quiet_on | (apply Exists.intro; refine ⟨fun w' hw' => ?_, ?_⟩; (· (first | (with_reducible exact rfl) | (first | (go_at_call 79; (with_reducible refine (N0.out _).mono ?_); rintro e w1 ⟨rfl, rfl⟩; exact ⟨rfl, hw'⟩) | (go_at_call 79; (with_reducible refine (N4.out _).mono ?_); rintro e w1 ⟨rfl, rfl⟩; exact ⟨rfl, hw'⟩) | (go_at_call 79; (with_reducible refine (N8.out _).mono ?_); rintro e w1 ⟨rfl, rfl⟩; exact ⟨rfl, hw'⟩)) | (obtain ⟨hc, hf⟩ := hw'.facts; go_simp; first | done | (with_reducible exact rfl) | (with_reducible exact ⟨rfl, rfl⟩)))); go_big_quiet_on))
              refine wpQuiet_nil ?_
              intro wq hq
              have hq1 := hq.bel
              clear hq
              go_wp2_with fail
              refine wp_region_cls (wq) (by kernel_rfl) (by kernel_rfl) (Cls.start _) ?_
              repeat
                first
                  | go_big_quiet_skip
                  | (go_big_quiet_want; (first | go_big_quiet_op | go_simp); first | go_big_quiet_on | (apply Exists.intro; refine ⟨fun w' hw' => ?_, ?_⟩; (· (first | (with_reducible exact rfl) | ((go_at_call 80; refine (IN.out _).mono ?_; rintro e w1 ⟨rfl, rfl⟩; exact ⟨rfl, hw'⟩)) | (obtain ⟨hc, hf⟩ := hw'.facts; go_simp; first | done | (with_reducible exact rfl) | (with_reducible exact ⟨rfl, rfl⟩)))); go_big_quiet_on))
              refine wpQuiet_nil ?_
              intro wq hq
              go_wp2_with fail
              go_ret3
              exact ⟨rfl, bel_step hq1 hq.bel hq1.size⟩
            · skip
              have b1 : (U.toList == V.toList) = true := by simpa using q1
              have b2 : (decide ((1 : Int) ≤ (n : Int)) && decide ((n : Int) ≤ (3 : Int))) = true := by simp; omega
              rw [b2] at IN
              have b3 : decide ((0 : Int) < (f : Int)) = true := by simp; omega
              have b4 : decide ((s.size : Int) < 64 + (f : Int) * 1028) = false := by simp; omega
              have E := Lib.hid (E.out.trans (if_neg (fun h => h.elim (fun h => h q1) (fun h => h.elim (fun h => h q2) (fun h => q4 h.2)))))
              rw [E.out, show SlotVal (n, f, p) = .tuple #[.int .i64 n, .int .i64 f, .int .i64 p] from rfl]
              go_enter Try.func77, Try.ntmps77
              go_wp2_with fail
              refine wp_region_cls (w) (by kernel_rfl) (by kernel_rfl) (Cls.start _) ?_
              repeat
                first
                  | go_big_quiet_skip
                  | (go_big_quiet_want; (first | go_big_quiet_op | go_simp); first | go_big_quiet_on | (apply Exists.intro; refine ⟨fun w' hw' => ?_, ?_⟩; (· (first | (with_reducible exact rfl) | (first | (go_at_call 79; (with_reducible refine (N0.out _).mono ?_); rintro e w1 ⟨rfl, rfl⟩; exact ⟨rfl, hw'⟩) | (go_at_call 79; (with_reducible refine (N4.out _).mono ?_); rintro e w1 ⟨rfl, rfl⟩; exact ⟨rfl, hw'⟩) | (go_at_call 79; (with_reducible refine (N8.out _).mono ?_); rintro e w1 ⟨rfl, rfl⟩; exact ⟨rfl, hw'⟩)) | (obtain ⟨hc, hf⟩ := hw'.facts; go_simp; first | done | (with_reducible exact rfl) | (with_reducible exact ⟨rfl, rfl⟩)))); go_big_quiet_on))
              refine wpQuiet_nil ?_
              intro wq hq
              have hq1 := hq.bel
              clear hq
              go_wp2_with fail
              refine wp_region_cls (wq) (by kernel_rfl) (by kernel_rfl) (Cls.start _) ?_
              repeat
                first
                  | go_big_quiet_skip
                  | (go_big_quiet_want; (first | go_big_quiet_op | go_simp); first | go_big_quiet_on | (apply Exists.intro; refine ⟨fun w' hw' => ?_, ?_⟩; (· (first | (with_reducible exact rfl) | ((go_at_call 80; refine (IN.out _).mono ?_; rintro e w1 ⟨rfl, rfl⟩; exact ⟨rfl, hw'⟩)) | (obtain ⟨hc, hf⟩ := hw'.facts; go_simp; first | done | (with_reducible exact rfl) | (with_reducible exact ⟨rfl, rfl⟩)))); go_big_quiet_on))
              refine wpQuiet_nil ?_
              intro wq hq
              go_wp2_with fail
              go_ret3
              exact ⟨rfl, bel_step hq1 hq.bel hq1.size⟩
          · skip
            have b1 : (U.toList == V.toList) = true := by simpa using q1
            have b2 : (decide ((1 : Int) ≤ (n : Int)) && decide ((n : Int) ≤ (3 : Int))) = true := by simp; omega
            rw [b2] at IN
            have b3 : decide ((0 : Int) < (f : Int)) = false := by simp; omega
            have E := Lib.hid (E.out.trans (if_neg (fun h => h.elim (fun h => h q1) (fun h => h.elim (fun h => h q2) (fun h => q3 h.1)))))
            rw [E.out, show SlotVal (n, f, p) = .tuple #[.int .i64 n, .int .i64 f, .int .i64 p] from rfl]
            go_enter Try.func77, Try.ntmps77
            go_wp2_with fail
            refine wp_region_cls (w) (by kernel_rfl) (by kernel_rfl) (Cls.start _) ?_
            repeat
              first
                | go_big_quiet_skip
                | (go_big_quiet_want; (first | go_big_quiet_op | go_simp); first | go_big_quiet_on | (apply Exists.intro; refine ⟨fun w' hw' => ?_, ?_⟩; (· (first | (with_reducible exact rfl) | (first | (go_at_call 79; (with_reducible refine (N0.out _).mono ?_); rintro e w1 ⟨rfl, rfl⟩; exact ⟨rfl, hw'⟩) | (go_at_call 79; (with_reducible refine (N4.out _).mono ?_); rintro e w1 ⟨rfl, rfl⟩; exact ⟨rfl, hw'⟩) | (go_at_call 79; (with_reducible refine (N8.out _).mono ?_); rintro e w1 ⟨rfl, rfl⟩; exact ⟨rfl, hw'⟩)) | (obtain ⟨hc, hf⟩ := hw'.facts; go_simp; first | done | (with_reducible exact rfl) | (with_reducible exact ⟨rfl, rfl⟩)))); go_big_quiet_on))
            refine wpQuiet_nil ?_
            intro wq hq
            have hq1 := hq.bel
            clear hq
            go_wp2_with fail
            refine wp_region_cls (wq) (by kernel_rfl) (by kernel_rfl) (Cls.start _) ?_
            repeat
              first
                | go_big_quiet_skip
                | (go_big_quiet_want; (first | go_big_quiet_op | go_simp); first | go_big_quiet_on | (apply Exists.intro; refine ⟨fun w' hw' => ?_, ?_⟩; (· (first | (with_reducible exact rfl) | ((go_at_call 80; refine (IN.out _).mono ?_; rintro e w1 ⟨rfl, rfl⟩; exact ⟨rfl, hw'⟩)) | (obtain ⟨hc, hf⟩ := hw'.facts; go_simp; first | done | (with_reducible exact rfl) | (with_reducible exact ⟨rfl, rfl⟩)))); go_big_quiet_on))
            refine wpQuiet_nil ?_
            intro wq hq
            go_wp2_with fail
            go_ret3
            exact ⟨rfl, bel_step hq1 hq.bel hq1.size⟩
        · skip
          have b1 : (U.toList == V.toList) = true := by simpa using q1
          have b2 : (decide ((1 : Int) ≤ (n : Int)) && decide ((n : Int) ≤ (3 : Int))) = false := by simp; omega
          rw [b2] at IN
          have E := Lib.hid (E.out.trans (if_pos (.inr (.inl q2))))
          rw [E.out, slotVal_zero]
          go_enter Try.func77, Try.ntmps77
          go_wp2_with fail
          refine wp_region_cls (w) (by kernel_rfl) (by kernel_rfl) (Cls.start _) ?_
          repeat
            first
              | go_big_quiet_skip
              | (go_big_quiet_want; (first | go_big_quiet_op | go_simp); first | go_big_quiet_on | (apply Exists.intro; refine ⟨fun w' hw' => ?_, ?_⟩; (· (first | (with_reducible exact rfl) | (first | (go_at_call 79; (with_reducible refine (N0.out _).mono ?_); rintro e w1 ⟨rfl, rfl⟩; exact ⟨rfl, hw'⟩) | (go_at_call 79; (with_reducible refine (N4.out _).mono ?_); rintro e w1 ⟨rfl, rfl⟩; exact ⟨rfl, hw'⟩) | (go_at_call 79; (with_reducible refine (N8.out _).mono ?_); rintro e w1 ⟨rfl, rfl⟩; exact ⟨rfl, hw'⟩)) | (obtain ⟨hc, hf⟩ := hw'.facts; go_simp; first | done | (with_reducible exact rfl) | (with_reducible exact ⟨rfl, rfl⟩)))); go_big_quiet_on))
          refine wpQuiet_nil ?_
          intro wq hq
          have hq1 := hq.bel
          clear hq
          go_wp2_with fail
          refine wp_region_cls (wq) (by kernel_rfl) (by kernel_rfl) (Cls.start _) ?_
          repeat
            first
              | go_big_quiet_skip
              | (go_big_quiet_want; (first | go_big_quiet_op | go_simp); first | go_big_quiet_on | (apply Exists.intro; refine ⟨fun w' hw' => ?_, ?_⟩; (· (first | (with_reducible exact rfl) | ((go_at_call 80; refine (IN.out _).mono ?_; rintro e w1 ⟨rfl, rfl⟩; exact ⟨rfl, hw'⟩)) | (obtain ⟨hc, hf⟩ := hw'.facts; go_simp; first | done | (with_reducible exact rfl) | (with_reducible exact ⟨rfl, rfl⟩)))); go_big_quiet_on))
          refine wpQuiet_nil ?_
          intro wq hq
          go_wp2_with fail
          go_ret3
          exact ⟨rfl, bel_step hq1 hq.bel hq1.size⟩
      · skip
        have b1 : (U.toList == V.toList) = false := by simpa using q1
        have E := Lib.hid (E.out.trans (if_pos (.inl q1)))
        rw [E.out, slotVal_zero]
        go_enter Try.func77, Try.ntmps77
        go_wp2_with fail
        refine wp_region_cls (w) (by kernel_rfl) (by kernel_rfl) (Cls.start _) ?_
        repeat
          first
            | go_big_quiet_skip
            | (go_big_quiet_want; (first | go_big_quiet_op | go_simp); first | go_big_quiet_on | (apply Exists.intro; refine ⟨fun w' hw' => ?_, ?_⟩; (· (first | (with_reducible exact rfl) | (first | (go_at_call 79; (with_reducible refine (N0.out _).mono ?_); rintro e w1 ⟨rfl, rfl⟩; exact ⟨rfl, hw'⟩) | (go_at_call 79; (with_reducible refine (N4.out _).mono ?_); rintro e w1 ⟨rfl, rfl⟩; exact ⟨rfl, hw'⟩) | (go_at_call 79; (with_reducible refine (N8.out _).mono ?_); rintro e w1 ⟨rfl, rfl⟩; exact ⟨rfl, hw'⟩)) | (obtain ⟨hc, hf⟩ := hw'.facts; go_simp; first | done | (with_reducible exact rfl) | (with_reducible exact ⟨rfl, rfl⟩)))); go_big_quiet_on))
        refine wpQuiet_nil ?_
        intro wq hq
        have hq1 := hq.bel
        clear hq
        go_wp2_with fail
        refine wp_region_cls (wq) (by kernel_rfl) (by kernel_rfl) (Cls.start _) ?_
        repeat
          first
            | go_big_quiet_skip
            | (go_big_quiet_want; (first | go_big_quiet_op | go_simp); first | go_big_quiet_on | (apply Exists.intro; refine ⟨fun w' hw' => ?_, ?_⟩; (· (first | (with_reducible exact rfl) | ((go_at_call 80; refine (IN.out _).mono ?_; rintro e w1 ⟨rfl, rfl⟩; exact ⟨rfl, hw'⟩)) | (obtain ⟨hc, hf⟩ := hw'.facts; go_simp; first | done | (with_reducible exact rfl) | (with_reducible exact ⟨rfl, rfl⟩)))); go_big_quiet_on))
        refine wpQuiet_nil ?_
        intro wq hq
        go_wp2_with fail
        go_ret3
        exact ⟨rfl, bel_step hq1 hq.bel hq1.size⟩
    · rw [show ((1 : Nat) : Int) = 1 from rfl]
      by_cases q1 : U.toList = V.toList
      · by_cases q2 : 1 ≤ n ∧ n ≤ 3
        · by_cases q3 : 0 < f
          · by_cases q4 : s.size < 64 + 1028 * f
            · skip
              have b1 : (U.toList == V.toList) = true := by simpa using q1
              have b2 : (decide ((1 : Int) ≤ (n : Int)) && decide ((n : Int) ≤ (3 : Int))) = true := by simp; omega
              rw [b2] at IN
              have b3 : decide ((0 : Int) < (f : Int)) = true := by simp; omega
              have b4 : decide ((s.size : Int) < 64 + (f : Int) * 1028) = true := by simp; omega
              have E := Lib.hid (E.out.trans (if_pos (.inr (.inr ⟨q3, q4⟩))))
              rw [E.out, slotVal_zero]
              go_enter Try.func77, Try.ntmps77
              go_wp2_with fail
              refine wp_region_cls (w) (by kernel_rfl) (by kernel_rfl) (Cls.start _) ?_
              repeat
                first
                  | go_big_quiet_skip
                  | (go_big_quiet_want; (first | go_big_quiet_op | go_simp); first | go_big_quiet_on | (apply Exists.intro; refine ⟨fun w' hw' => ?_, ?_⟩; (· (first | (with_reducible exact rfl) | (first | (go_at_call 79; (with_reducible refine (N0.out _).mono ?_); rintro e w1 ⟨rfl, rfl⟩; exact ⟨rfl, hw'⟩) | (go_at_call 79; (with_reducible refine (N4.out _).mono ?_); rintro e w1 ⟨rfl, rfl⟩; exact ⟨rfl, hw'⟩) | (go_at_call 79; (with_reducible refine (N8.out _).mono ?_); rintro e w1 ⟨rfl, rfl⟩; exact ⟨rfl, hw'⟩)) | (obtain ⟨hc, hf⟩ := hw'.facts; go_simp; first | done | (with_reducible exact rfl) | (with_reducible exact ⟨rfl, rfl⟩)))); go_big_quiet_on))
              refine wpQuiet_nil ?_
              intro wq hq
              have hq1 := hq.bel
              clear hq
              go_wp2_with fail
              refine wp_region_cls (wq) (by kernel_rfl) (by kernel_rfl) (Cls.start _) ?_
              repeat
                first
                  | go_big_quiet_skip
                  | (go_big_quiet_want; (first | go_big_quiet_op | go_simp); first | go_big_quiet_on | (apply Exists.intro; refine ⟨fun w' hw' => ?_, ?_⟩; (· (first | (with_reducible exact rfl) | ((go_at_call 80; refine (IN.out _).mono ?_; rintro e w1 ⟨rfl, rfl⟩; exact ⟨rfl, hw'⟩)) | (obtain ⟨hc, hf⟩ := hw'.facts; go_simp; first | done | (with_reducible exact rfl) | (with_reducible exact ⟨rfl, rfl⟩)))); go_big_quiet_on))
              refine wpQuiet_nil ?_
              intro wq hq
              go_wp2_with fail
              go_ret3
              exact ⟨rfl, bel_step hq1 hq.bel hq1.size⟩
            · skip
              have b1 : (U.toList == V.toList) = true := by simpa using q1
              have b2 : (decide ((1 : Int) ≤ (n : Int)) && decide ((n : Int) ≤ (3 : Int))) = true := by simp; omega
              rw [b2] at IN
              have b3 : decide ((0 : Int) < (f : Int)) = true := by simp; omega
              have b4 : decide ((s.size : Int) < 64 + (f : Int) * 1028) = false := by simp; omega
              have E := Lib.hid (E.out.trans (if_neg (fun h => h.elim (fun h => h q1) (fun h => h.elim (fun h => h q2) (fun h => q4 h.2)))))
              rw [E.out, show SlotVal (n, f, p) = .tuple #[.int .i64 n, .int .i64 f, .int .i64 p] from rfl]
              go_enter Try.func77, Try.ntmps77
              go_wp2_with fail
              refine wp_region_cls (w) (by kernel_rfl) (by kernel_rfl) (Cls.start _) ?_
              repeat
                first
                  | go_big_quiet_skip
                  | (go_big_quiet_want; (first | go_big_quiet_op | go_simp); first | go_big_quiet_on | (apply Exists.intro; refine ⟨fun w' hw' => ?_, ?_⟩; (· (first | (with_reducible exact rfl) | (first | (go_at_call 79; (with_reducible refine (N0.out _).mono ?_); rintro e w1 ⟨rfl, rfl⟩; exact ⟨rfl, hw'⟩) | (go_at_call 79; (with_reducible refine (N4.out _).mono ?_); rintro e w1 ⟨rfl, rfl⟩; exact ⟨rfl, hw'⟩) | (go_at_call 79; (with_reducible refine (N8.out _).mono ?_); rintro e w1 ⟨rfl, rfl⟩; exact ⟨rfl, hw'⟩)) | (obtain ⟨hc, hf⟩ := hw'.facts; go_simp; first | done | (with_reducible exact rfl) | (with_reducible exact ⟨rfl, rfl⟩)))); go_big_quiet_on))
              refine wpQuiet_nil ?_
              intro wq hq
              have hq1 := hq.bel
              clear hq
              go_wp2_with fail
              refine wp_region_cls (wq) (by kernel_rfl) (by kernel_rfl) (Cls.start _) ?_
              repeat
                first
                  | go_big_quiet_skip
                  | (go_big_quiet_want; (first | go_big_quiet_op | go_simp); first | go_big_quiet_on | (apply Exists.intro; refine ⟨fun w' hw' => ?_, ?_⟩; (· (first | (with_reducible exact rfl) | ((go_at_call 80; refine (IN.out _).mono ?_; rintro e w1 ⟨rfl, rfl⟩; exact ⟨rfl, hw'⟩)) | (obtain ⟨hc, hf⟩ := hw'.facts; go_simp; first | done | (with_reducible exact rfl) | (with_reducible exact ⟨rfl, rfl⟩)))); go_big_quiet_on))
              refine wpQuiet_nil ?_
              intro wq hq
              go_wp2_with fail
              go_ret3
              exact ⟨rfl, bel_step hq1 hq.bel hq1.size⟩
          · skip
            have b1 : (U.toList == V.toList) = true := by simpa using q1
            have b2 : (decide ((1 : Int) ≤ (n : Int)) && decide ((n : Int) ≤ (3 : Int))) = true := by simp; omega
            rw [b2] at IN
            have b3 : decide ((0 : Int) < (f : Int)) = false := by simp; omega
            have E := Lib.hid (E.out.trans (if_neg (fun h => h.elim (fun h => h q1) (fun h => h.elim (fun h => h q2) (fun h => q3 h.1)))))
            rw [E.out, show SlotVal (n, f, p) = .tuple #[.int .i64 n, .int .i64 f, .int .i64 p] from rfl]
            go_enter Try.func77, Try.ntmps77
            go_wp2_with fail
            refine wp_region_cls (w) (by kernel_rfl) (by kernel_rfl) (Cls.start _) ?_
            repeat
              first
                | go_big_quiet_skip
                | (go_big_quiet_want; (first | go_big_quiet_op | go_simp); first | go_big_quiet_on | (apply Exists.intro; refine ⟨fun w' hw' => ?_, ?_⟩; (· (first | (with_reducible exact rfl) | (first | (go_at_call 79; (with_reducible refine (N0.out _).mono ?_); rintro e w1 ⟨rfl, rfl⟩; exact ⟨rfl, hw'⟩) | (go_at_call 79; (with_reducible refine (N4.out _).mono ?_); rintro e w1 ⟨rfl, rfl⟩; exact ⟨rfl, hw'⟩) | (go_at_call 79; (with_reducible refine (N8.out _).mono ?_); rintro e w1 ⟨rfl, rfl⟩; exact ⟨rfl, hw'⟩)) | (obtain ⟨hc, hf⟩ := hw'.facts; go_simp; first | done | (with_reducible exact rfl) | (with_reducible exact ⟨rfl, rfl⟩)))); go_big_quiet_on))
            refine wpQuiet_nil ?_
            intro wq hq
            have hq1 := hq.bel
            clear hq
            go_wp2_with fail
            refine wp_region_cls (wq) (by kernel_rfl) (by kernel_rfl) (Cls.start _) ?_
            repeat
              first
                | go_big_quiet_skip
                | (go_big_quiet_want; (first | go_big_quiet_op | go_simp); first | go_big_quiet_on | (apply Exists.intro; refine ⟨fun w' hw' => ?_, ?_⟩; (· (first | (with_reducible exact rfl) | ((go_at_call 80; refine (IN.out _).mono ?_; rintro e w1 ⟨rfl, rfl⟩; exact ⟨rfl, hw'⟩)) | (obtain ⟨hc, hf⟩ := hw'.facts; go_simp; first | done | (with_reducible exact rfl) | (with_reducible exact ⟨rfl, rfl⟩)))); go_big_quiet_on))
            refine wpQuiet_nil ?_
            intro wq hq
            go_wp2_with fail
            go_ret3
            exact ⟨rfl, bel_step hq1 hq.bel hq1.size⟩
        · skip
          have b1 : (U.toList == V.toList) = true := by simpa using q1
          have b2 : (decide ((1 : Int) ≤ (n : Int)) && decide ((n : Int) ≤ (3 : Int))) = false := by simp; omega
          rw [b2] at IN
          have E := Lib.hid (E.out.trans (if_pos (.inr (.inl q2))))
          rw [E.out, slotVal_zero]
          go_enter Try.func77, Try.ntmps77
          go_wp2_with fail
          refine wp_region_cls (w) (by kernel_rfl) (by kernel_rfl) (Cls.start _) ?_
          repeat
            first
              | go_big_quiet_skip
              | (go_big_quiet_want; (first | go_big_quiet_op | go_simp); first | go_big_quiet_on | (apply Exists.intro; refine ⟨fun w' hw' => ?_, ?_⟩; (· (first | (with_reducible exact rfl) | (first | (go_at_call 79; (with_reducible refine (N0.out _).mono ?_); rintro e w1 ⟨rfl, rfl⟩; exact ⟨rfl, hw'⟩) | (go_at_call 79; (with_reducible refine (N4.out _).mono ?_); rintro e w1 ⟨rfl, rfl⟩; exact ⟨rfl, hw'⟩) | (go_at_call 79; (with_reducible refine (N8.out _).mono ?_); rintro e w1 ⟨rfl, rfl⟩; exact ⟨rfl, hw'⟩)) | (obtain ⟨hc, hf⟩ := hw'.facts; go_simp; first | done | (with_reducible exact rfl) | (with_reducible exact ⟨rfl, rfl⟩)))); go_big_quiet_on))
          refine wpQuiet_nil ?_
          intro wq hq
          have hq1 := hq.bel
          clear hq
          go_wp2_with fail
          refine wp_region_cls (wq) (by kernel_rfl) (by kernel_rfl) (Cls.start _) ?_
          repeat
            first
              | go_big_quiet_skip
              | (go_big_quiet_want; (first | go_big_quiet_op | go_simp); first | go_big_quiet_on | (apply Exists.intro; refine ⟨fun w' hw' => ?_, ?_⟩; (· (first | (with_reducible exact rfl) | ((go_at_call 80; refine (IN.out _).mono ?_; rintro e w1 ⟨rfl, rfl⟩; exact ⟨rfl, hw'⟩)) | (obtain ⟨hc, hf⟩ := hw'.facts; go_simp; first | done | (with_reducible exact rfl) | (with_reducible exact ⟨rfl, rfl⟩)))); go_big_quiet_on))
          refine wpQuiet_nil ?_
          intro wq hq
          go_wp2_with fail
          go_ret3
          exact ⟨rfl, bel_step hq1 hq.bel hq1.size⟩
      · skip
        have b1 : (U.toList == V.toList) = false := by simpa using q1
        have E := Lib.hid (E.out.trans (if_pos (.inl q1)))
        rw [E.out, slotVal_zero]
        go_enter Try.func77, Try.ntmps77
        go_wp2_with fail
        refine wp_region_cls (w) (by kernel_rfl) (by kernel_rfl) (Cls.start _) ?_
        repeat
          first
            | go_big_quiet_skip
            | (go_big_quiet_want; (first | go_big_quiet_op | go_simp); first | go_big_quiet_on | (apply Exists.intro; refine ⟨fun w' hw' => ?_, ?_⟩; (· (first | (with_reducible exact rfl) | (first | (go_at_call 79; (with_reducible refine (N0.out _).mono ?_); rintro e w1 ⟨rfl, rfl⟩; exact ⟨rfl, hw'⟩) | (go_at_call 79; (with_reducible refine (N4.out _).mono ?_); rintro e w1 ⟨rfl, rfl⟩; exact ⟨rfl, hw'⟩) | (go_at_call 79; (with_reducible refine (N8.out _).mono ?_); rintro e w1 ⟨rfl, rfl⟩; exact ⟨rfl, hw'⟩)) | (obtain ⟨hc, hf⟩ := hw'.facts; go_simp; first | done | (with_reducible exact rfl) | (with_reducible exact ⟨rfl, rfl⟩)))); go_big_quiet_on))
        refine wpQuiet_nil ?_
        intro wq hq
        have hq1 := hq.bel
        clear hq
        go_wp2_with fail
        refine wp_region_cls (wq) (by kernel_rfl) (by kernel_rfl) (Cls.start _) ?_
        repeat
          first
            | go_big_quiet_skip
            | (go_big_quiet_want; (first | go_big_quiet_op | go_simp); first | go_big_quiet_on | (apply Exists.intro; refine ⟨fun w' hw' => ?_, ?_⟩; (· (first | (with_reducible exact rfl) | ((go_at_call 80; refine (IN.out _).mono ?_; rintro e w1 ⟨rfl, rfl⟩; exact ⟨rfl, hw'⟩)) | (obtain ⟨hc, hf⟩ := hw'.facts; go_simp; first | done | (with_reducible exact rfl) | (with_reducible exact ⟨rfl, rfl⟩)))); go_big_quiet_on))
        refine wpQuiet_nil ?_
        intro wq hq
        go_wp2_with fail
        go_ret3
        exact ⟨rfl, bel_step hq1 hq.bel hq1.size⟩

end Go.Proofs.Ytjihboddejaelaa
