/-
  The law ValueTexts.
-/
import Derived.Test.YtlkkpgdgnnknpaaDoorText4
import Derived.Test.YtlkkpgdgnnknpaaDoorText6
namespace Go.Proofs.YtlkkpgdgnnknpaaDoor
open Go.RowKit
open Go.BigFrame
set_option linter.unusedVariables false
set_option linter.unusedSimpArgs false

set_option maxRecDepth 100000 in
set_option maxHeartbeats 6400000 in
theorem law_ValueTexts (k n : Int) (s : ByteArray) (k' n' : Int) (s' : ByteArray) (kind : Int) (hn : inI n) (hs : s.size ≤ 2000000) (hs' : s'.size ≤ 2000000) (w : World) (hp : HasPow w) (he : HasErrs w) :
    Calls Tryd.prog 5 #[.agg #[.int .i64 k, .int .i64 n, .string s], .agg #[.int .i64 k', .int .i64 n', .string s'], .int .i64 kind] w fun e w' => e = .returned (.bool true) ∧ Below w.heap.size w w' := by
  have C1 := Lib.hid (fun w1 => value_Concat k n s k' n' s' w1 (by omega))
  have C2 := Lib.hid (fun w1 => ref_Concat k n s k' n' s' w1 (by omega))
  have L1 := Lib.hid (fun w1 => value_Like k n s k' n' s' w1 hs hs')
  have L2 := Lib.hid (fun w1 => ref_Like k n s k' n' s' w1 hs hs')
  have K1 := Lib.hid (fun w1 (h : HasPow w1) (h2 : HasErrs w1) => value_Cast k n s kind hn w1 h h2 hs)
  have K2 := Lib.hid (fun w1 (h : HasPow w1) (h2 : HasErrs w1) => ref_Cast k n s kind hn w1 h h2 hs)
  have S1 := Lib.hid (fun w1 (h : HasPow w1) => value_Show k n s hn w1 h)
  have S2 := Lib.hid (fun w1 (h : HasPow w1) => ref_Show k n s hn w1 h)
  obtain ⟨CV, hC⟩ : ∃ V, concatV k s k' s' = V := ⟨_, rfl⟩
  obtain ⟨LV, hL⟩ : ∃ V, likeV k s k' s' = V := ⟨_, rfl⟩
  obtain ⟨KV, hK⟩ : ∃ V, castV k n s kind = V := ⟨_, rfl⟩
  obtain ⟨T, hT⟩ : ∃ V, showS k n s = V := ⟨_, rfl⟩
  rw [hC] at C1 C2
  rw [hL] at L1 L2
  rw [hK] at K1 K2
  rw [hT] at S1 S2
  clear hC hL hK hT hn hs hs'
  have f1 : (T.toList == T.toList) = true := by simp
  have HP0 := Lib.hid hp
  have HE0 := Lib.hid he
  clear hp he
  go_enter Tryd.func5, Tryd.ntmps5
  go_wp2_with fail
  have hb0 := (((Below.refl _ w).alloc (Nat.le_refl _) (.cells #[.int .i64 k, .int .i64 n, .string s] 38)).alloc (by simp) (.cells #[.int .i64 k', .int .i64 n', .string s'] 38))
  have hA := (Has.new w 38 #[.int .i64 k, .int .i64 n, .string s]).alloc (.cells #[.int .i64 k', .int .i64 n', .string s'] 38)
  have hB := (Has.new (w.alloc (.cells #[.int .i64 k, .int .i64 n, .string s] 38)) 38 #[.int .i64 k', .int .i64 n', .string s'])
  simp only [World.size_alloc] at hB
  have HP := Lib.hid (HP0.out.below hb0)
  have HE := Lib.hid (HE0.out.below hb0)
  have HB0 := Lib.hid hb0
  clear hb0 HP0 HE0
  generalize (w.alloc (.cells #[.int .i64 k, .int .i64 n, .string s] 38)).alloc (.cells #[.int .i64 k', .int .i64 n', .string s'] 38) = W at *
  obtain ⟨a0, a1, a2⟩ := hA.cells3
  obtain ⟨b0, b1, b2⟩ := hB.cells3
  have z1 := hA.lt
  have z2 := hB.lt
  clear hA hB
  refine wp_region_cls (W) (by kernel_rfl) (by kernel_rfl) (Cls.start _) ?_
  repeat
    refine wpQuiet_step (fun K hK => ?_)
    go_simp
    first
      | (refine hK _ ?_; clear hK K)
      | (apply Exists.intro; refine ⟨fun w' hw' => ?_, hK _ ?_⟩; (· (first | (with_reducible exact rfl) | (first | (go_at_call 23; refine (C1.out _).mono ?_; rintro e w1 ⟨rfl, hb⟩; exact ⟨rfl, Cls.step hw' hb⟩) | (go_at_call 24; refine (C2.out _).mono ?_; rintro e w1 ⟨rfl, hb⟩; exact ⟨rfl, Cls.step hw' hb⟩) | (go_at_call 25; refine (L1.out _).mono ?_; rintro e w1 ⟨rfl, hb⟩; exact ⟨rfl, Cls.step hw' hb⟩) | (go_at_call 26; refine (L2.out _).mono ?_; rintro e w1 ⟨rfl, hb⟩; exact ⟨rfl, Cls.step hw' hb⟩) | (go_at_call 27; refine (K1.out _ (HP.out.below hw'.bel) (HE.out.below hw'.bel)).mono ?_; rintro e w1 ⟨rfl, hb⟩; exact ⟨rfl, Cls.step hw' hb⟩) | (go_at_call 28; refine (K2.out _ (HP.out.below hw'.bel) (HE.out.below hw'.bel)).mono ?_; rintro e w1 ⟨rfl, hb⟩; exact ⟨rfl, Cls.step hw' hb⟩) | (go_at_call 29; refine (S1.out _ (HP.out.below hw'.bel)).mono ?_; rintro e w1 ⟨rfl, hb⟩; exact ⟨rfl, Cls.step hw' hb⟩) | (go_at_call 30; refine (S2.out _ (HP.out.below hw'.bel)).mono ?_; rintro e w1 ⟨rfl, hb⟩; exact ⟨rfl, Cls.step hw' hb⟩) | (go_at_call 22; refine (law_sameValue _ _ _ _).mono ?_; rintro e w1 ⟨rfl, hb⟩; exact ⟨rfl, Cls.step hw' hb⟩)) | (obtain ⟨hc, hf⟩ := hw'.facts; go_simp; first | done | (with_reducible exact rfl) | (with_reducible exact ⟨rfl, rfl⟩)))); clear hK K)
  refine wpQuiet_nil ?_
  intro wq hq
  have hb1 := bel_step HB0.out hq HB0.out.size
  go_wp2_with fail
  go_ret
  exact ⟨rfl, hb1⟩

end Go.Proofs.YtlkkpgdgnnknpaaDoor
