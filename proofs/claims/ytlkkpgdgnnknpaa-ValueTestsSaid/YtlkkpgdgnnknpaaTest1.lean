/-
  Test of the reference.
-/
import Derived.Test.YtlkkpgdgnnknpaaTest0
namespace Go.Proofs.Ytlkkpgdgnnknpaa
open Go.RowKit
attribute [local go_sem] OpGood goodUpon

set_option maxHeartbeats 400000 in
theorem ref_in_yes (n lo hi : Int) (h : lo ≤ n) (h' : n ≤ hi) (w : World) : Calls Try.prog 71 #[.int .i64 n, .int .i64 lo, .int .i64 hi] w fun e w' => e = .returned (.bool true) ∧ w = w' := by
  go_enter Try.func71, Try.ntmps71
  go_wp2
  go_ret
  exact ⟨rfl, rfl⟩
set_option maxHeartbeats 400000 in
theorem ref_in_no (n lo hi : Int) (h : n < lo ∨ hi < n) (w : World) : Calls Try.prog 71 #[.int .i64 n, .int .i64 lo, .int .i64 hi] w fun e w' => e = .returned (.bool false) ∧ w = w' := by
  by_cases h1 : n < lo
  · go_enter Try.func71, Try.ntmps71
    go_wp2
    go_ret
    exact ⟨rfl, rfl⟩
  · have h2 : decide (n ≤ hi) = false := by simp; omega
    go_enter Try.func71, Try.ntmps71
    go_wp2
    go_ret
    exact ⟨by simp at h2; first | rfl | (simp; omega), rfl⟩

set_option maxRecDepth 100000 in
set_option maxHeartbeats 3200000 in
theorem ref_Test (op k n : Int) (s : ByteArray) (k' n' : Int) (s' : ByteArray) (w : World) :
    Calls Try.prog 42 #[.int .i64 op, .agg #[.int .i64 k, .int .i64 n, .string s], .agg #[.int .i64 k', .int .i64 n', .string s']] w fun e w' => e = .returned (.agg #[.int .i64 (tK (testT op k n s k' n' s')), .int .i64 (tN (testT op k n s k' n' s')), .string ⟨#[]⟩]) ∧ Below w.heap.size w w' := by
  go_enter Try.func42, Try.ntmps42
  go_upto_region 1 with fail
  go_cut [4, 5, 6] (fun s4 s5 s6 wx => s4 = .pointer (some ⟨w.heap.size, 0, none⟩) ∧ s5 = .pointer (some ⟨w.heap.size + 1, 0, none⟩) ∧ s6 = .pointer (some ⟨w.heap.size + 1 + 1, 0, none⟩) ∧ Below w.heap.size w wx ∧
    Has wx w.heap.size 29 #[.int .i64 (cleanK k), .int .i64 (cleanN k n), .string (cleanS k s)] ∧ Has wx (w.heap.size + 1) 29 #[.int .i64 (cleanK k'), .int .i64 (cleanN k' n'), .string (cleanS k' s')] ∧
    Has wx (w.heap.size + 1 + 1) 29 #[.int .i64 0, .int .i64 0, .string ⟨#[]⟩])
  case first =>
    go_region_with (go_at_call 25; refine (relstoreref_Clean _ _ _ _).mono ?_; rintro e w1 ⟨rfl, hb⟩; obtain ⟨hc, hf⟩ := bcell hb; have hz := hb.size; (try simp at hz); have hz0 : w.heap.size < w1.heap.size := (by omega); have hz1 : w.heap.size + 1 < w1.heap.size := (by omega); have hz2 : w.heap.size + 2 < w1.heap.size := (by omega))
    all_goals
      go_wp2_with fail
      go_meet
      exact ⟨rfl, rfl, rfl, three_stores (three_boxes (by first | (exact bel_step (by assumption) (by assumption) (by omega)) | (repeat (first | exact Below.refl _ _ | (refine Below.setCell ?_ (by first | omega | (simp <;> omega)) _) | refine Below.drew ?_ | (refine Below.alloc ?_ (by first | omega | (simp <;> omega)) _) | (refine bel_step ?_ (by assumption) (by first | omega | (simp <;> omega)))))))⟩
  case rest =>
    obtain ⟨rfl, rfl, rfl, hbel, hA, hB, hR⟩ := hcut
    obtain ⟨c0, c1, c2⟩ := hA.cells3
    obtain ⟨c3, c4, c5⟩ := hB.cells3
    obtain ⟨r0, r1, r2⟩ := hR.cells3
    have r3 := hR.frozen
    have z1 := hA.lt
    have z2 := hB.lt
    have z3 := hR.lt
    by_cases e : cleanK k ≠ cleanK k' ∨ cleanK k = 0
    · have ht : testT op k n s k' n' s' = 2 := by unfold testT; rw [if_pos e]
      have HT := Lib.hid ht; clear ht
      by_cases e2 : cleanK k = 0
      · have g2 : (cleanK k == 0) = true := by rw [e2]; rfl
        clear e e2
        go_wp2_with (go_at_call 68; refine (relstoreref_null _).mono ?_; rintro e w1 ⟨rfl, hb⟩; obtain ⟨hc, hf⟩ := bcell hb; have hz := hb.size; (try simp at hz); have hz0 : w.heap.size < w1.heap.size := (by omega); have hz1 : w.heap.size + 1 < w1.heap.size := (by omega); have hz2 : w.heap.size + 2 < w1.heap.size := (by omega))
        refine bodyPost_ret (v := .agg #[.int .i64 0, .int .i64 0, .string ⟨#[]⟩]) (by simp [results, Try.results42, go_sem, *]) rfl ⟨?_, ?_⟩
        · rw [HT.out]; rfl
        · (repeat (first | exact Below.refl _ _ | (refine Below.setCell ?_ (by first | omega | (simp <;> omega)) _) | refine Below.drew ?_ | (refine Below.alloc ?_ (by first | omega | (simp <;> omega)) _) | (refine bel_step ?_ (by assumption) (by first | omega | (simp <;> omega)))))
      · have e1 : cleanK k ≠ cleanK k' := by rcases e with h | h; exact h; exact absurd h e2
        have g2 : (cleanK k == 0) = false := beq_eq_false_iff_ne.2 e2
        have g1 : (cleanK k != cleanK k') = true := bne_iff_ne.2 e1
        clear e e1 e2
        go_wp2_with (go_at_call 68; refine (relstoreref_null _).mono ?_; rintro e w1 ⟨rfl, hb⟩; obtain ⟨hc, hf⟩ := bcell hb; have hz := hb.size; (try simp at hz); have hz0 : w.heap.size < w1.heap.size := (by omega); have hz1 : w.heap.size + 1 < w1.heap.size := (by omega); have hz2 : w.heap.size + 2 < w1.heap.size := (by omega))
        refine bodyPost_ret (v := .agg #[.int .i64 0, .int .i64 0, .string ⟨#[]⟩]) (by simp [results, Try.results42, go_sem, *]) rfl ⟨?_, ?_⟩
        · rw [HT.out]; rfl
        · (repeat (first | exact Below.refl _ _ | (refine Below.setCell ?_ (by first | omega | (simp <;> omega)) _) | refine Below.drew ?_ | (refine Below.alloc ?_ (by first | omega | (simp <;> omega)) _) | (refine bel_step ?_ (by assumption) (by first | omega | (simp <;> omega)))))
    · have ht : testT op k n s k' n' s' = testC op (orderV k n s k' n' s') := by unfold testT; rw [if_neg e]
      have HT := Lib.hid ht; clear ht
      have e1 : cleanK k = cleanK k' := Classical.byContradiction fun h => e (.inl h)
      have e2 : ¬ cleanK k = 0 := fun h => e (.inr h)
      have g1 : (cleanK k != cleanK k') = false := by rw [e1]; simp
      have g2 : (cleanK k == 0) = false := beq_eq_false_iff_ne.2 e2
      have ho := fun w => ref_less (cleanK k) (cleanN k n) (cleanS k s) (cleanK k') (cleanN k' n') (cleanS k' s') w
      have ho' := fun w => ref_less (cleanK k') (cleanN k' n') (cleanS k' s') (cleanK k) (cleanN k n) (cleanS k s) w
      rw [lessV_clean, less_order.1] at ho
      rw [lessV_clean, less_order.2] at ho'
      have HO := Lib.hid ho
      have HO' := Lib.hid ho'
      clear e e1 e2 ho ho'
      generalize orderV k n s k' n' s' = c at *
      by_cases o11 : op = 11
      · subst o11
        go_wp2_with (go_at_call 71; refine (ref_in_yes _ _ _ (by omega) (by omega) _).mono ?_; rintro e w1 ⟨rfl, rfl⟩)
        refine wp_region_cls (wc) (by kernel_rfl) (by kernel_rfl) (Cls.start _) ?_
        repeat
          refine wpQuiet_step (fun K hK => ?_)
          go_simp
          first
            | (refine hK _ ?_; clear hK K)
            | (apply Exists.intro; refine ⟨fun w' hw' => ?_, hK _ ?_⟩; (· (first | (exact rfl) | (first | (go_at_call 60; (with_reducible refine (HO.out _).mono ?_); rintro e w1 ⟨rfl, hb⟩; exact ⟨rfl, Cls.step hw' hb⟩) | (go_at_call 60; (with_reducible refine (HO'.out _).mono ?_); rintro e w1 ⟨rfl, hb⟩; exact ⟨rfl, Cls.step hw' hb⟩)) | (obtain ⟨hc, hf⟩ := hw'.facts; go_simp; done) | (obtain ⟨hc, hf⟩ := hw'.facts; go_simp; first | exact rfl | exact ⟨rfl, rfl⟩))); clear hK K)
        refine wpQuiet_nil ?_
        intro wq hq
        clear HO HO'
        have hbel := bel_step hbel hq hbel.size
        have hR := hR.belowS hq.bel
        clear hA hB hq c0 c1 c2 c3 c4 c5 r0 r1 r2 r3 z1 z2 z3
        obtain ⟨r0, r1, r2⟩ := hR.cells3
        have r3 := hR.frozen
        have z3 := hR.lt
        have z1 : w.heap.size < wq.heap.size := by omega
        have z2 : w.heap.size + 1 < wq.heap.size := by omega
        by_cases y1 : c < 0
        · have y2 : ¬ (0 < c) := by omega
          have y3 : decide (c < 0) = true := by simpa using y1
          have y4 : decide (0 < c) = false := by simpa using y2
          rw [y3, y4]
          go_wp2_with (go_at_call 65; refine (relstoreref_truth _ _).mono ?_; rintro e w1 ⟨rfl, hb⟩; obtain ⟨hc, hf⟩ := bcell hb; have hz := hb.size; (try simp at hz); have hz0 : w.heap.size < w1.heap.size := (by omega); have hz1 : w.heap.size + 1 < w1.heap.size := (by omega); have hz2 : w.heap.size + 2 < w1.heap.size := (by omega))
          refine bodyPost_ret (v := .agg #[.int .i64 1, .int .i64 (flagN false), .string ⟨#[]⟩]) (by simp [results, Try.results42, go_sem, *]) rfl ⟨?_, ?_⟩
          · rw [HT.out, show testC 11 c = bn (c == 0) from rfl, tK_bn, tN_bn, show (c == 0) = false by simp; try omega]
          · (repeat (first | exact Below.refl _ _ | (refine Below.setCell ?_ (by first | omega | (simp <;> omega)) _) | refine Below.drew ?_ | (refine Below.alloc ?_ (by first | omega | (simp <;> omega)) _) | (refine bel_step ?_ (by assumption) (by first | omega | (simp <;> omega)))))
        · by_cases y2 : 0 < c
          · have y3 : decide (c < 0) = false := by simpa using y1
            have y4 : decide (0 < c) = true := by simpa using y2
            rw [y3, y4]
            go_wp2_with (go_at_call 65; refine (relstoreref_truth _ _).mono ?_; rintro e w1 ⟨rfl, hb⟩; obtain ⟨hc, hf⟩ := bcell hb; have hz := hb.size; (try simp at hz); have hz0 : w.heap.size < w1.heap.size := (by omega); have hz1 : w.heap.size + 1 < w1.heap.size := (by omega); have hz2 : w.heap.size + 2 < w1.heap.size := (by omega))
            refine bodyPost_ret (v := .agg #[.int .i64 1, .int .i64 (flagN false), .string ⟨#[]⟩]) (by simp [results, Try.results42, go_sem, *]) rfl ⟨?_, ?_⟩
            · rw [HT.out, show testC 11 c = bn (c == 0) from rfl, tK_bn, tN_bn, show (c == 0) = false by simp; try omega]
            · (repeat (first | exact Below.refl _ _ | (refine Below.setCell ?_ (by first | omega | (simp <;> omega)) _) | refine Below.drew ?_ | (refine Below.alloc ?_ (by first | omega | (simp <;> omega)) _) | (refine bel_step ?_ (by assumption) (by first | omega | (simp <;> omega)))))
          · have y3 : decide (c < 0) = false := by simpa using y1
            have y4 : decide (0 < c) = false := by simpa using y2
            rw [y3, y4]
            go_wp2_with (go_at_call 65; refine (relstoreref_truth _ _).mono ?_; rintro e w1 ⟨rfl, hb⟩; obtain ⟨hc, hf⟩ := bcell hb; have hz := hb.size; (try simp at hz); have hz0 : w.heap.size < w1.heap.size := (by omega); have hz1 : w.heap.size + 1 < w1.heap.size := (by omega); have hz2 : w.heap.size + 2 < w1.heap.size := (by omega))
            refine bodyPost_ret (v := .agg #[.int .i64 1, .int .i64 (flagN true), .string ⟨#[]⟩]) (by simp [results, Try.results42, go_sem, *]) rfl ⟨?_, ?_⟩
            · rw [HT.out, show testC 11 c = bn (c == 0) from rfl, tK_bn, tN_bn, show (c == 0) = true by simp; try omega]
            · (repeat (first | exact Below.refl _ _ | (refine Below.setCell ?_ (by first | omega | (simp <;> omega)) _) | refine Below.drew ?_ | (refine Below.alloc ?_ (by first | omega | (simp <;> omega)) _) | (refine bel_step ?_ (by assumption) (by first | omega | (simp <;> omega)))))
      have p11 : (op == 11) = false := beq_eq_false_iff_ne.2 o11
      by_cases o12 : op = 12
      · subst o12
        go_wp2_with (go_at_call 71; refine (ref_in_yes _ _ _ (by omega) (by omega) _).mono ?_; rintro e w1 ⟨rfl, rfl⟩)
        refine wp_region_cls (wc) (by kernel_rfl) (by kernel_rfl) (Cls.start _) ?_
        repeat
          refine wpQuiet_step (fun K hK => ?_)
          go_simp
          first
            | (refine hK _ ?_; clear hK K)
            | (apply Exists.intro; refine ⟨fun w' hw' => ?_, hK _ ?_⟩; (· (first | (exact rfl) | (first | (go_at_call 60; (with_reducible refine (HO.out _).mono ?_); rintro e w1 ⟨rfl, hb⟩; exact ⟨rfl, Cls.step hw' hb⟩) | (go_at_call 60; (with_reducible refine (HO'.out _).mono ?_); rintro e w1 ⟨rfl, hb⟩; exact ⟨rfl, Cls.step hw' hb⟩)) | (obtain ⟨hc, hf⟩ := hw'.facts; go_simp; done) | (obtain ⟨hc, hf⟩ := hw'.facts; go_simp; first | exact rfl | exact ⟨rfl, rfl⟩))); clear hK K)
        refine wpQuiet_nil ?_
        intro wq hq
        clear HO HO'
        have hbel := bel_step hbel hq hbel.size
        have hR := hR.belowS hq.bel
        clear hA hB hq c0 c1 c2 c3 c4 c5 r0 r1 r2 r3 z1 z2 z3
        obtain ⟨r0, r1, r2⟩ := hR.cells3
        have r3 := hR.frozen
        have z3 := hR.lt
        have z1 : w.heap.size < wq.heap.size := by omega
        have z2 : w.heap.size + 1 < wq.heap.size := by omega
        by_cases y1 : c < 0
        · have y2 : ¬ (0 < c) := by omega
          have y3 : decide (c < 0) = true := by simpa using y1
          have y4 : decide (0 < c) = false := by simpa using y2
          rw [y3, y4]
          go_wp2_with (go_at_call 65; refine (relstoreref_truth _ _).mono ?_; rintro e w1 ⟨rfl, hb⟩; obtain ⟨hc, hf⟩ := bcell hb; have hz := hb.size; (try simp at hz); have hz0 : w.heap.size < w1.heap.size := (by omega); have hz1 : w.heap.size + 1 < w1.heap.size := (by omega); have hz2 : w.heap.size + 2 < w1.heap.size := (by omega))
          refine bodyPost_ret (v := .agg #[.int .i64 1, .int .i64 (flagN true), .string ⟨#[]⟩]) (by simp [results, Try.results42, go_sem, *]) rfl ⟨?_, ?_⟩
          · rw [HT.out, show testC 12 c = bn (c != 0) from rfl, tK_bn, tN_bn, show (c != 0) = true by simp; try omega]
          · (repeat (first | exact Below.refl _ _ | (refine Below.setCell ?_ (by first | omega | (simp <;> omega)) _) | refine Below.drew ?_ | (refine Below.alloc ?_ (by first | omega | (simp <;> omega)) _) | (refine bel_step ?_ (by assumption) (by first | omega | (simp <;> omega)))))
        · by_cases y2 : 0 < c
          · have y3 : decide (c < 0) = false := by simpa using y1
            have y4 : decide (0 < c) = true := by simpa using y2
            rw [y3, y4]
            go_wp2_with (go_at_call 65; refine (relstoreref_truth _ _).mono ?_; rintro e w1 ⟨rfl, hb⟩; obtain ⟨hc, hf⟩ := bcell hb; have hz := hb.size; (try simp at hz); have hz0 : w.heap.size < w1.heap.size := (by omega); have hz1 : w.heap.size + 1 < w1.heap.size := (by omega); have hz2 : w.heap.size + 2 < w1.heap.size := (by omega))
            refine bodyPost_ret (v := .agg #[.int .i64 1, .int .i64 (flagN true), .string ⟨#[]⟩]) (by simp [results, Try.results42, go_sem, *]) rfl ⟨?_, ?_⟩
            · rw [HT.out, show testC 12 c = bn (c != 0) from rfl, tK_bn, tN_bn, show (c != 0) = true by simp; try omega]
            · (repeat (first | exact Below.refl _ _ | (refine Below.setCell ?_ (by first | omega | (simp <;> omega)) _) | refine Below.drew ?_ | (refine Below.alloc ?_ (by first | omega | (simp <;> omega)) _) | (refine bel_step ?_ (by assumption) (by first | omega | (simp <;> omega)))))
          · have y3 : decide (c < 0) = false := by simpa using y1
            have y4 : decide (0 < c) = false := by simpa using y2
            rw [y3, y4]
            go_wp2_with (go_at_call 65; refine (relstoreref_truth _ _).mono ?_; rintro e w1 ⟨rfl, hb⟩; obtain ⟨hc, hf⟩ := bcell hb; have hz := hb.size; (try simp at hz); have hz0 : w.heap.size < w1.heap.size := (by omega); have hz1 : w.heap.size + 1 < w1.heap.size := (by omega); have hz2 : w.heap.size + 2 < w1.heap.size := (by omega))
            refine bodyPost_ret (v := .agg #[.int .i64 1, .int .i64 (flagN false), .string ⟨#[]⟩]) (by simp [results, Try.results42, go_sem, *]) rfl ⟨?_, ?_⟩
            · rw [HT.out, show testC 12 c = bn (c != 0) from rfl, tK_bn, tN_bn, show (c != 0) = false by simp; try omega]
            · (repeat (first | exact Below.refl _ _ | (refine Below.setCell ?_ (by first | omega | (simp <;> omega)) _) | refine Below.drew ?_ | (refine Below.alloc ?_ (by first | omega | (simp <;> omega)) _) | (refine bel_step ?_ (by assumption) (by first | omega | (simp <;> omega)))))
      have p12 : (op == 12) = false := beq_eq_false_iff_ne.2 o12
      by_cases o13 : op = 13
      · subst o13
        go_wp2_with (go_at_call 71; refine (ref_in_yes _ _ _ (by omega) (by omega) _).mono ?_; rintro e w1 ⟨rfl, rfl⟩)
        refine wp_region_cls (wc) (by kernel_rfl) (by kernel_rfl) (Cls.start _) ?_
        repeat
          refine wpQuiet_step (fun K hK => ?_)
          go_simp
          first
            | (refine hK _ ?_; clear hK K)
            | (apply Exists.intro; refine ⟨fun w' hw' => ?_, hK _ ?_⟩; (· (first | (exact rfl) | (first | (go_at_call 60; (with_reducible refine (HO.out _).mono ?_); rintro e w1 ⟨rfl, hb⟩; exact ⟨rfl, Cls.step hw' hb⟩) | (go_at_call 60; (with_reducible refine (HO'.out _).mono ?_); rintro e w1 ⟨rfl, hb⟩; exact ⟨rfl, Cls.step hw' hb⟩)) | (obtain ⟨hc, hf⟩ := hw'.facts; go_simp; done) | (obtain ⟨hc, hf⟩ := hw'.facts; go_simp; first | exact rfl | exact ⟨rfl, rfl⟩))); clear hK K)
        refine wpQuiet_nil ?_
        intro wq hq
        clear HO HO'
        have hbel := bel_step hbel hq hbel.size
        have hR := hR.belowS hq.bel
        clear hA hB hq c0 c1 c2 c3 c4 c5 r0 r1 r2 r3 z1 z2 z3
        obtain ⟨r0, r1, r2⟩ := hR.cells3
        have r3 := hR.frozen
        have z3 := hR.lt
        have z1 : w.heap.size < wq.heap.size := by omega
        have z2 : w.heap.size + 1 < wq.heap.size := by omega
        by_cases y1 : c < 0
        · have y2 : ¬ (0 < c) := by omega
          have y3 : decide (c < 0) = true := by simpa using y1
          have y4 : decide (0 < c) = false := by simpa using y2
          rw [y3, y4]
          go_wp2_with (go_at_call 65; refine (relstoreref_truth _ _).mono ?_; rintro e w1 ⟨rfl, hb⟩; obtain ⟨hc, hf⟩ := bcell hb; have hz := hb.size; (try simp at hz); have hz0 : w.heap.size < w1.heap.size := (by omega); have hz1 : w.heap.size + 1 < w1.heap.size := (by omega); have hz2 : w.heap.size + 2 < w1.heap.size := (by omega))
          refine bodyPost_ret (v := .agg #[.int .i64 1, .int .i64 (flagN true), .string ⟨#[]⟩]) (by simp [results, Try.results42, go_sem, *]) rfl ⟨?_, ?_⟩
          · rw [HT.out, show testC 13 c = bn (decide (c < 0)) from rfl, tK_bn, tN_bn, show (decide (c < 0)) = true by simp; try omega]
          · (repeat (first | exact Below.refl _ _ | (refine Below.setCell ?_ (by first | omega | (simp <;> omega)) _) | refine Below.drew ?_ | (refine Below.alloc ?_ (by first | omega | (simp <;> omega)) _) | (refine bel_step ?_ (by assumption) (by first | omega | (simp <;> omega)))))
        · by_cases y2 : 0 < c
          · have y3 : decide (c < 0) = false := by simpa using y1
            have y4 : decide (0 < c) = true := by simpa using y2
            rw [y3, y4]
            go_wp2_with (go_at_call 65; refine (relstoreref_truth _ _).mono ?_; rintro e w1 ⟨rfl, hb⟩; obtain ⟨hc, hf⟩ := bcell hb; have hz := hb.size; (try simp at hz); have hz0 : w.heap.size < w1.heap.size := (by omega); have hz1 : w.heap.size + 1 < w1.heap.size := (by omega); have hz2 : w.heap.size + 2 < w1.heap.size := (by omega))
            refine bodyPost_ret (v := .agg #[.int .i64 1, .int .i64 (flagN false), .string ⟨#[]⟩]) (by simp [results, Try.results42, go_sem, *]) rfl ⟨?_, ?_⟩
            · rw [HT.out, show testC 13 c = bn (decide (c < 0)) from rfl, tK_bn, tN_bn, show (decide (c < 0)) = false by simp; try omega]
            · (repeat (first | exact Below.refl _ _ | (refine Below.setCell ?_ (by first | omega | (simp <;> omega)) _) | refine Below.drew ?_ | (refine Below.alloc ?_ (by first | omega | (simp <;> omega)) _) | (refine bel_step ?_ (by assumption) (by first | omega | (simp <;> omega)))))
          · have y3 : decide (c < 0) = false := by simpa using y1
            have y4 : decide (0 < c) = false := by simpa using y2
            rw [y3, y4]
            go_wp2_with (go_at_call 65; refine (relstoreref_truth _ _).mono ?_; rintro e w1 ⟨rfl, hb⟩; obtain ⟨hc, hf⟩ := bcell hb; have hz := hb.size; (try simp at hz); have hz0 : w.heap.size < w1.heap.size := (by omega); have hz1 : w.heap.size + 1 < w1.heap.size := (by omega); have hz2 : w.heap.size + 2 < w1.heap.size := (by omega))
            refine bodyPost_ret (v := .agg #[.int .i64 1, .int .i64 (flagN false), .string ⟨#[]⟩]) (by simp [results, Try.results42, go_sem, *]) rfl ⟨?_, ?_⟩
            · rw [HT.out, show testC 13 c = bn (decide (c < 0)) from rfl, tK_bn, tN_bn, show (decide (c < 0)) = false by simp; try omega]
            · (repeat (first | exact Below.refl _ _ | (refine Below.setCell ?_ (by first | omega | (simp <;> omega)) _) | refine Below.drew ?_ | (refine Below.alloc ?_ (by first | omega | (simp <;> omega)) _) | (refine bel_step ?_ (by assumption) (by first | omega | (simp <;> omega)))))
      have p13 : (op == 13) = false := beq_eq_false_iff_ne.2 o13
      by_cases o14 : op = 14
      · subst o14
        go_wp2_with (go_at_call 71; refine (ref_in_yes _ _ _ (by omega) (by omega) _).mono ?_; rintro e w1 ⟨rfl, rfl⟩)
        refine wp_region_cls (wc) (by kernel_rfl) (by kernel_rfl) (Cls.start _) ?_
        repeat
          refine wpQuiet_step (fun K hK => ?_)
          go_simp
          first
            | (refine hK _ ?_; clear hK K)
            | (apply Exists.intro; refine ⟨fun w' hw' => ?_, hK _ ?_⟩; (· (first | (exact rfl) | (first | (go_at_call 60; (with_reducible refine (HO.out _).mono ?_); rintro e w1 ⟨rfl, hb⟩; exact ⟨rfl, Cls.step hw' hb⟩) | (go_at_call 60; (with_reducible refine (HO'.out _).mono ?_); rintro e w1 ⟨rfl, hb⟩; exact ⟨rfl, Cls.step hw' hb⟩)) | (obtain ⟨hc, hf⟩ := hw'.facts; go_simp; done) | (obtain ⟨hc, hf⟩ := hw'.facts; go_simp; first | exact rfl | exact ⟨rfl, rfl⟩))); clear hK K)
        refine wpQuiet_nil ?_
        intro wq hq
        clear HO HO'
        have hbel := bel_step hbel hq hbel.size
        have hR := hR.belowS hq.bel
        clear hA hB hq c0 c1 c2 c3 c4 c5 r0 r1 r2 r3 z1 z2 z3
        obtain ⟨r0, r1, r2⟩ := hR.cells3
        have r3 := hR.frozen
        have z3 := hR.lt
        have z1 : w.heap.size < wq.heap.size := by omega
        have z2 : w.heap.size + 1 < wq.heap.size := by omega
        by_cases y1 : c < 0
        · have y2 : ¬ (0 < c) := by omega
          have y3 : decide (c < 0) = true := by simpa using y1
          have y4 : decide (0 < c) = false := by simpa using y2
          rw [y3, y4]
          go_wp2_with (go_at_call 65; refine (relstoreref_truth _ _).mono ?_; rintro e w1 ⟨rfl, hb⟩; obtain ⟨hc, hf⟩ := bcell hb; have hz := hb.size; (try simp at hz); have hz0 : w.heap.size < w1.heap.size := (by omega); have hz1 : w.heap.size + 1 < w1.heap.size := (by omega); have hz2 : w.heap.size + 2 < w1.heap.size := (by omega))
          refine bodyPost_ret (v := .agg #[.int .i64 1, .int .i64 (flagN true), .string ⟨#[]⟩]) (by simp [results, Try.results42, go_sem, *]) rfl ⟨?_, ?_⟩
          · rw [HT.out, show testC 14 c = bn (decide (c ≤ 0)) from rfl, tK_bn, tN_bn, show (decide (c ≤ 0)) = true by simp; try omega]
          · (repeat (first | exact Below.refl _ _ | (refine Below.setCell ?_ (by first | omega | (simp <;> omega)) _) | refine Below.drew ?_ | (refine Below.alloc ?_ (by first | omega | (simp <;> omega)) _) | (refine bel_step ?_ (by assumption) (by first | omega | (simp <;> omega)))))
        · by_cases y2 : 0 < c
          · have y3 : decide (c < 0) = false := by simpa using y1
            have y4 : decide (0 < c) = true := by simpa using y2
            rw [y3, y4]
            go_wp2_with (go_at_call 65; refine (relstoreref_truth _ _).mono ?_; rintro e w1 ⟨rfl, hb⟩; obtain ⟨hc, hf⟩ := bcell hb; have hz := hb.size; (try simp at hz); have hz0 : w.heap.size < w1.heap.size := (by omega); have hz1 : w.heap.size + 1 < w1.heap.size := (by omega); have hz2 : w.heap.size + 2 < w1.heap.size := (by omega))
            refine bodyPost_ret (v := .agg #[.int .i64 1, .int .i64 (flagN false), .string ⟨#[]⟩]) (by simp [results, Try.results42, go_sem, *]) rfl ⟨?_, ?_⟩
            · rw [HT.out, show testC 14 c = bn (decide (c ≤ 0)) from rfl, tK_bn, tN_bn, show (decide (c ≤ 0)) = false by simp; try omega]
            · (repeat (first | exact Below.refl _ _ | (refine Below.setCell ?_ (by first | omega | (simp <;> omega)) _) | refine Below.drew ?_ | (refine Below.alloc ?_ (by first | omega | (simp <;> omega)) _) | (refine bel_step ?_ (by assumption) (by first | omega | (simp <;> omega)))))
          · have y3 : decide (c < 0) = false := by simpa using y1
            have y4 : decide (0 < c) = false := by simpa using y2
            rw [y3, y4]
            go_wp2_with (go_at_call 65; refine (relstoreref_truth _ _).mono ?_; rintro e w1 ⟨rfl, hb⟩; obtain ⟨hc, hf⟩ := bcell hb; have hz := hb.size; (try simp at hz); have hz0 : w.heap.size < w1.heap.size := (by omega); have hz1 : w.heap.size + 1 < w1.heap.size := (by omega); have hz2 : w.heap.size + 2 < w1.heap.size := (by omega))
            refine bodyPost_ret (v := .agg #[.int .i64 1, .int .i64 (flagN true), .string ⟨#[]⟩]) (by simp [results, Try.results42, go_sem, *]) rfl ⟨?_, ?_⟩
            · rw [HT.out, show testC 14 c = bn (decide (c ≤ 0)) from rfl, tK_bn, tN_bn, show (decide (c ≤ 0)) = true by simp; try omega]
            · (repeat (first | exact Below.refl _ _ | (refine Below.setCell ?_ (by first | omega | (simp <;> omega)) _) | refine Below.drew ?_ | (refine Below.alloc ?_ (by first | omega | (simp <;> omega)) _) | (refine bel_step ?_ (by assumption) (by first | omega | (simp <;> omega)))))
      have p14 : (op == 14) = false := beq_eq_false_iff_ne.2 o14
      by_cases o15 : op = 15
      · subst o15
        go_wp2_with (go_at_call 71; refine (ref_in_yes _ _ _ (by omega) (by omega) _).mono ?_; rintro e w1 ⟨rfl, rfl⟩)
        refine wp_region_cls (wc) (by kernel_rfl) (by kernel_rfl) (Cls.start _) ?_
        repeat
          refine wpQuiet_step (fun K hK => ?_)
          go_simp
          first
            | (refine hK _ ?_; clear hK K)
            | (apply Exists.intro; refine ⟨fun w' hw' => ?_, hK _ ?_⟩; (· (first | (exact rfl) | (first | (go_at_call 60; (with_reducible refine (HO.out _).mono ?_); rintro e w1 ⟨rfl, hb⟩; exact ⟨rfl, Cls.step hw' hb⟩) | (go_at_call 60; (with_reducible refine (HO'.out _).mono ?_); rintro e w1 ⟨rfl, hb⟩; exact ⟨rfl, Cls.step hw' hb⟩)) | (obtain ⟨hc, hf⟩ := hw'.facts; go_simp; done) | (obtain ⟨hc, hf⟩ := hw'.facts; go_simp; first | exact rfl | exact ⟨rfl, rfl⟩))); clear hK K)
        refine wpQuiet_nil ?_
        intro wq hq
        clear HO HO'
        have hbel := bel_step hbel hq hbel.size
        have hR := hR.belowS hq.bel
        clear hA hB hq c0 c1 c2 c3 c4 c5 r0 r1 r2 r3 z1 z2 z3
        obtain ⟨r0, r1, r2⟩ := hR.cells3
        have r3 := hR.frozen
        have z3 := hR.lt
        have z1 : w.heap.size < wq.heap.size := by omega
        have z2 : w.heap.size + 1 < wq.heap.size := by omega
        by_cases y1 : c < 0
        · have y2 : ¬ (0 < c) := by omega
          have y3 : decide (c < 0) = true := by simpa using y1
          have y4 : decide (0 < c) = false := by simpa using y2
          rw [y3, y4]
          go_wp2_with (go_at_call 65; refine (relstoreref_truth _ _).mono ?_; rintro e w1 ⟨rfl, hb⟩; obtain ⟨hc, hf⟩ := bcell hb; have hz := hb.size; (try simp at hz); have hz0 : w.heap.size < w1.heap.size := (by omega); have hz1 : w.heap.size + 1 < w1.heap.size := (by omega); have hz2 : w.heap.size + 2 < w1.heap.size := (by omega))
          refine bodyPost_ret (v := .agg #[.int .i64 1, .int .i64 (flagN false), .string ⟨#[]⟩]) (by simp [results, Try.results42, go_sem, *]) rfl ⟨?_, ?_⟩
          · rw [HT.out, show testC 15 c = bn (decide (0 < c)) from rfl, tK_bn, tN_bn, show (decide (0 < c)) = false by simp; try omega]
          · (repeat (first | exact Below.refl _ _ | (refine Below.setCell ?_ (by first | omega | (simp <;> omega)) _) | refine Below.drew ?_ | (refine Below.alloc ?_ (by first | omega | (simp <;> omega)) _) | (refine bel_step ?_ (by assumption) (by first | omega | (simp <;> omega)))))
        · by_cases y2 : 0 < c
          · have y3 : decide (c < 0) = false := by simpa using y1
            have y4 : decide (0 < c) = true := by simpa using y2
            rw [y3, y4]
            go_wp2_with (go_at_call 65; refine (relstoreref_truth _ _).mono ?_; rintro e w1 ⟨rfl, hb⟩; obtain ⟨hc, hf⟩ := bcell hb; have hz := hb.size; (try simp at hz); have hz0 : w.heap.size < w1.heap.size := (by omega); have hz1 : w.heap.size + 1 < w1.heap.size := (by omega); have hz2 : w.heap.size + 2 < w1.heap.size := (by omega))
            refine bodyPost_ret (v := .agg #[.int .i64 1, .int .i64 (flagN true), .string ⟨#[]⟩]) (by simp [results, Try.results42, go_sem, *]) rfl ⟨?_, ?_⟩
            · rw [HT.out, show testC 15 c = bn (decide (0 < c)) from rfl, tK_bn, tN_bn, show (decide (0 < c)) = true by simp; try omega]
            · (repeat (first | exact Below.refl _ _ | (refine Below.setCell ?_ (by first | omega | (simp <;> omega)) _) | refine Below.drew ?_ | (refine Below.alloc ?_ (by first | omega | (simp <;> omega)) _) | (refine bel_step ?_ (by assumption) (by first | omega | (simp <;> omega)))))
          · have y3 : decide (c < 0) = false := by simpa using y1
            have y4 : decide (0 < c) = false := by simpa using y2
            rw [y3, y4]
            go_wp2_with (go_at_call 65; refine (relstoreref_truth _ _).mono ?_; rintro e w1 ⟨rfl, hb⟩; obtain ⟨hc, hf⟩ := bcell hb; have hz := hb.size; (try simp at hz); have hz0 : w.heap.size < w1.heap.size := (by omega); have hz1 : w.heap.size + 1 < w1.heap.size := (by omega); have hz2 : w.heap.size + 2 < w1.heap.size := (by omega))
            refine bodyPost_ret (v := .agg #[.int .i64 1, .int .i64 (flagN false), .string ⟨#[]⟩]) (by simp [results, Try.results42, go_sem, *]) rfl ⟨?_, ?_⟩
            · rw [HT.out, show testC 15 c = bn (decide (0 < c)) from rfl, tK_bn, tN_bn, show (decide (0 < c)) = false by simp; try omega]
            · (repeat (first | exact Below.refl _ _ | (refine Below.setCell ?_ (by first | omega | (simp <;> omega)) _) | refine Below.drew ?_ | (refine Below.alloc ?_ (by first | omega | (simp <;> omega)) _) | (refine bel_step ?_ (by assumption) (by first | omega | (simp <;> omega)))))
      have p15 : (op == 15) = false := beq_eq_false_iff_ne.2 o15
      by_cases o16 : op = 16
      · subst o16
        go_wp2_with (go_at_call 71; refine (ref_in_yes _ _ _ (by omega) (by omega) _).mono ?_; rintro e w1 ⟨rfl, rfl⟩)
        refine wp_region_cls (wc) (by kernel_rfl) (by kernel_rfl) (Cls.start _) ?_
        repeat
          refine wpQuiet_step (fun K hK => ?_)
          go_simp
          first
            | (refine hK _ ?_; clear hK K)
            | (apply Exists.intro; refine ⟨fun w' hw' => ?_, hK _ ?_⟩; (· (first | (exact rfl) | (first | (go_at_call 60; (with_reducible refine (HO.out _).mono ?_); rintro e w1 ⟨rfl, hb⟩; exact ⟨rfl, Cls.step hw' hb⟩) | (go_at_call 60; (with_reducible refine (HO'.out _).mono ?_); rintro e w1 ⟨rfl, hb⟩; exact ⟨rfl, Cls.step hw' hb⟩)) | (obtain ⟨hc, hf⟩ := hw'.facts; go_simp; done) | (obtain ⟨hc, hf⟩ := hw'.facts; go_simp; first | exact rfl | exact ⟨rfl, rfl⟩))); clear hK K)
        refine wpQuiet_nil ?_
        intro wq hq
        clear HO HO'
        have hbel := bel_step hbel hq hbel.size
        have hR := hR.belowS hq.bel
        clear hA hB hq c0 c1 c2 c3 c4 c5 r0 r1 r2 r3 z1 z2 z3
        obtain ⟨r0, r1, r2⟩ := hR.cells3
        have r3 := hR.frozen
        have z3 := hR.lt
        have z1 : w.heap.size < wq.heap.size := by omega
        have z2 : w.heap.size + 1 < wq.heap.size := by omega
        by_cases y1 : c < 0
        · have y2 : ¬ (0 < c) := by omega
          have y3 : decide (c < 0) = true := by simpa using y1
          have y4 : decide (0 < c) = false := by simpa using y2
          rw [y3, y4]
          go_wp2_with (go_at_call 65; refine (relstoreref_truth _ _).mono ?_; rintro e w1 ⟨rfl, hb⟩; obtain ⟨hc, hf⟩ := bcell hb; have hz := hb.size; (try simp at hz); have hz0 : w.heap.size < w1.heap.size := (by omega); have hz1 : w.heap.size + 1 < w1.heap.size := (by omega); have hz2 : w.heap.size + 2 < w1.heap.size := (by omega))
          refine bodyPost_ret (v := .agg #[.int .i64 1, .int .i64 (flagN false), .string ⟨#[]⟩]) (by simp [results, Try.results42, go_sem, *]) rfl ⟨?_, ?_⟩
          · rw [HT.out, show testC 16 c = bn (decide (0 ≤ c)) from rfl, tK_bn, tN_bn, show (decide (0 ≤ c)) = false by simp; try omega]
          · (repeat (first | exact Below.refl _ _ | (refine Below.setCell ?_ (by first | omega | (simp <;> omega)) _) | refine Below.drew ?_ | (refine Below.alloc ?_ (by first | omega | (simp <;> omega)) _) | (refine bel_step ?_ (by assumption) (by first | omega | (simp <;> omega)))))
        · by_cases y2 : 0 < c
          · have y3 : decide (c < 0) = false := by simpa using y1
            have y4 : decide (0 < c) = true := by simpa using y2
            rw [y3, y4]
            go_wp2_with (go_at_call 65; refine (relstoreref_truth _ _).mono ?_; rintro e w1 ⟨rfl, hb⟩; obtain ⟨hc, hf⟩ := bcell hb; have hz := hb.size; (try simp at hz); have hz0 : w.heap.size < w1.heap.size := (by omega); have hz1 : w.heap.size + 1 < w1.heap.size := (by omega); have hz2 : w.heap.size + 2 < w1.heap.size := (by omega))
            refine bodyPost_ret (v := .agg #[.int .i64 1, .int .i64 (flagN true), .string ⟨#[]⟩]) (by simp [results, Try.results42, go_sem, *]) rfl ⟨?_, ?_⟩
            · rw [HT.out, show testC 16 c = bn (decide (0 ≤ c)) from rfl, tK_bn, tN_bn, show (decide (0 ≤ c)) = true by simp; try omega]
            · (repeat (first | exact Below.refl _ _ | (refine Below.setCell ?_ (by first | omega | (simp <;> omega)) _) | refine Below.drew ?_ | (refine Below.alloc ?_ (by first | omega | (simp <;> omega)) _) | (refine bel_step ?_ (by assumption) (by first | omega | (simp <;> omega)))))
          · have y3 : decide (c < 0) = false := by simpa using y1
            have y4 : decide (0 < c) = false := by simpa using y2
            rw [y3, y4]
            go_wp2_with (go_at_call 65; refine (relstoreref_truth _ _).mono ?_; rintro e w1 ⟨rfl, hb⟩; obtain ⟨hc, hf⟩ := bcell hb; have hz := hb.size; (try simp at hz); have hz0 : w.heap.size < w1.heap.size := (by omega); have hz1 : w.heap.size + 1 < w1.heap.size := (by omega); have hz2 : w.heap.size + 2 < w1.heap.size := (by omega))
            refine bodyPost_ret (v := .agg #[.int .i64 1, .int .i64 (flagN true), .string ⟨#[]⟩]) (by simp [results, Try.results42, go_sem, *]) rfl ⟨?_, ?_⟩
            · rw [HT.out, show testC 16 c = bn (decide (0 ≤ c)) from rfl, tK_bn, tN_bn, show (decide (0 ≤ c)) = true by simp; try omega]
            · (repeat (first | exact Below.refl _ _ | (refine Below.setCell ?_ (by first | omega | (simp <;> omega)) _) | refine Below.drew ?_ | (refine Below.alloc ?_ (by first | omega | (simp <;> omega)) _) | (refine bel_step ?_ (by assumption) (by first | omega | (simp <;> omega)))))
      have p16 : (op == 16) = false := beq_eq_false_iff_ne.2 o16
      have htc : testC op c = 2 := by simp [testC, o11, o12, o13, o14, o15, o16]
      have HC := Lib.hid htc; clear htc
      have hio : op < 11 ∨ 16 < op := by omega
      have HIO := Lib.hid hio; clear hio o11 o12 o13 o14 o15 o16
      go_wp2_with (first | (go_at_call 71; refine (ref_in_no _ _ _ HIO.out _).mono ?_; rintro e w1 ⟨rfl, rfl⟩) | (go_at_call 68; refine (relstoreref_null _).mono ?_; rintro e w1 ⟨rfl, hb⟩; obtain ⟨hc, hf⟩ := bcell hb; have hz := hb.size; (try simp at hz); have hz0 : w.heap.size < w1.heap.size := (by omega); have hz1 : w.heap.size + 1 < w1.heap.size := (by omega); have hz2 : w.heap.size + 2 < w1.heap.size := (by omega)))
      refine bodyPost_ret (v := .agg #[.int .i64 0, .int .i64 0, .string ⟨#[]⟩]) (by simp [results, Try.results42, go_sem, *]) rfl ⟨?_, ?_⟩
      · rw [HT.out, HC.out]; rfl
      · (repeat (first | exact Below.refl _ _ | (refine Below.setCell ?_ (by first | omega | (simp <;> omega)) _) | refine Below.drew ?_ | (refine Below.alloc ?_ (by first | omega | (simp <;> omega)) _) | (refine bel_step ?_ (by assumption) (by first | omega | (simp <;> omega)))))

end Go.Proofs.Ytlkkpgdgnnknpaa
