/-
  relstorelaw.ValueTests returns true: comparisons and the truths of three kinds are the reference's. No condition.
-/
import Derived.Test.YtlkkpgdgnnknpaaOpen
import Derived.Test.YtlkkpgdgnnknpaaTest1
namespace Go.Proofs.Ytlkkpgdgnnknpaa
open Go.ChangeShapes Go.WideShapes Go.ChangeAt Go.RowKit
set_option linter.unusedVariables false

set_option maxRecDepth 100000 in
set_option maxHeartbeats 3200000 in
theorem law_ValueTests (op k n : Int) (s : ByteArray) (k' n' : Int) (s' : ByteArray) (w : World) :
    Calls Try.prog 9 #[.int .i64 op, .agg #[.int .i64 k, .int .i64 n, .string s], .agg #[.int .i64 k', .int .i64 n', .string s']] w fun e w' => e = .returned (.bool true) ∧ Below w.heap.size w w' := by
  go_enter Try.func9, Try.ntmps9
  go_wp2_with fail
  have hb0 := (((Below.refl _ w).alloc (Nat.le_refl _) (.cells #[.int .i64 k, .int .i64 n, .string s] 29)).alloc (by simp) (.cells #[.int .i64 k', .int .i64 n', .string s'] 29))
  have hA := (Has.new w 29 #[.int .i64 k, .int .i64 n, .string s]).alloc (.cells #[.int .i64 k', .int .i64 n', .string s'] 29)
  have hB := (Has.new (w.alloc (.cells #[.int .i64 k, .int .i64 n, .string s] 29)) 29 #[.int .i64 k', .int .i64 n', .string s'])
  simp only [World.size_alloc] at hB
  generalize (w.alloc (.cells #[.int .i64 k, .int .i64 n, .string s] 29)).alloc (.cells #[.int .i64 k', .int .i64 n', .string s'] 29) = W at *
  obtain ⟨c0, c1, c2⟩ := hA.cells3
  obtain ⟨c3, c4, c5⟩ := hB.cells3
  have z1 := hA.lt
  have z2 := hB.lt
  refine wp_region_cls (W) (by kernel_rfl) (by kernel_rfl) (Cls.start _) ?_
  repeat
    refine wpQuiet_step (fun K hK => ?_)
    go_simp
    first
      | (refine hK _ ?_; clear hK K)
      | (apply Exists.intro; refine ⟨fun w' hw' => ?_, hK _ ?_⟩; (· (first | (exact rfl) | (first | (go_at_call 41; refine (value_Test _ _ _ _ _ _ _ _).mono ?_; rintro e w1 ⟨rfl, hb⟩; exact ⟨rfl, Cls.step hw' hb⟩) | (go_at_call 42; refine (ref_Test _ _ _ _ _ _ _ _).mono ?_; rintro e w1 ⟨rfl, hb⟩; exact ⟨rfl, Cls.step hw' hb⟩) | (go_at_call 43; refine (value_Both _ _ _ _ _ _ _).mono ?_; rintro e w1 ⟨rfl, hb⟩; exact ⟨rfl, Cls.step hw' hb⟩) | (go_at_call 44; refine (ref_Both _ _ _ _ _ _ _).mono ?_; rintro e w1 ⟨rfl, hb⟩; exact ⟨rfl, Cls.step hw' hb⟩) | (go_at_call 45; refine (value_Either _ _ _ _ _ _ _).mono ?_; rintro e w1 ⟨rfl, hb⟩; exact ⟨rfl, Cls.step hw' hb⟩) | (go_at_call 46; refine (ref_Either _ _ _ _ _ _ _).mono ?_; rintro e w1 ⟨rfl, hb⟩; exact ⟨rfl, Cls.step hw' hb⟩) | (go_at_call 47; refine (value_Not _ _ _ _).mono ?_; rintro e w1 ⟨rfl, hb⟩; exact ⟨rfl, Cls.step hw' hb⟩) | (go_at_call 48; refine (ref_Not _ _ _ _).mono ?_; rintro e w1 ⟨rfl, hb⟩; exact ⟨rfl, Cls.step hw' hb⟩) | (go_at_call 23; refine (law_sameValue _ _ _ _).mono ?_; rintro e w1 ⟨rfl, hb⟩; exact ⟨rfl, Cls.step hw' hb⟩)) | (obtain ⟨hc, hf⟩ := hw'.facts; go_simp; done) | (obtain ⟨hc, hf⟩ := hw'.facts; go_simp; first | exact rfl | exact ⟨rfl, rfl⟩))); clear hK K)
  refine wpQuiet_nil ?_
  intro wq hq
  have hb1 := bel_step hb0 hq hb0.size
  go_wp2_with fail
  go_ret
  exact ⟨rfl, hb1⟩

set_option maxRecDepth 100000 in
theorem liftedValueTests (os : Os) (started : os.Started) (H : Type) (enc : TypeId × Value → H) :
    ReturnsInHanded {} Try.checked os 9 .any (Rows.valueTestsSpec.pre6 enc Try.prog Try.f9 Rows.valueTestsRow.domain false) (Rows.valueTestsSpec.post enc Try.prog Try.f9 false true false false) := by
  refine returnsInHanded_of_change_sized (C := Try.checked) own started (by kernel_rfl) Try.func9
    (ChangeSpec.witness6 (enc := enc) (C := Try.checked) false ⟨#[], #[.int .i64 0, .agg #[.int .i64 0, .int .i64 0, .string ByteArray.empty], .agg #[.int .i64 0, .int .i64 0, .string ByteArray.empty]], []⟩ 8 (by kernel_rfl) (by kernel_rfl) (by kernel_rfl) (by kernel_rfl)) ?_
  intro W base args ds gs before hval0 hW hcnd hsz0 _
  have hval : ∀ (j : Nat) t v, Try.f9.params[j]? = some t → args[j]? = some v → Value.okWide Try.prog W .any base t v := hval0
  have hW' := hW
  obtain ⟨p, q, hA0, hV, rfl, hfz, hnd⟩ := hW
  have hA : DataW.TrodAll enc Try.prog W 0 (fun _ => true) true Try.f9.params.toList args.toList ds p := hA0
  have hsz : (DataW.weightsEach Try.prog (Try.f9.params.toList ++ Rows.valueTestsSpec.plain.varTypes Try.prog) (ds ++ gs)).all (· ≤ reachBytes) = true := hsz0
  rw [Try.params9] at hA hval hsz
  obtain ⟨v0, vs0, d0, ds0, p0, q0, hargs, rfl, rfl, h0, r0⟩ := trodAll_cons hA
  obtain ⟨v1, vs1, d1, ds1, p1, q1, rfl, rfl, rfl, h1, r1⟩ := trodAll_cons r0
  obtain ⟨v2, vs2, d2, ds2, p2, q2, rfl, rfl, rfl, h2, r2⟩ := trodAll_cons r1
  obtain ⟨rfl, rfl, rfl⟩ := trodAll_nil r2
  obtain rfl : args = #[v0, v1, v2] := by cases args; simp_all
  obtain ⟨rfl, rfl⟩ := trodVars_none hV
  have lt0 : ∀ x ∈ p0, x.block < W.heap.size := by obtain ⟨m, hm⟩ := h0; exact DataW.trod_lt m _ _ _ hm
  have k0 := h0
  obtain ⟨a0, rfl, e0, _, w0⟩ := open_int Try.underlying3 (hval 0 3 v0 rfl rfl) h0
  have lt1 : ∀ x ∈ p1, x.block < W.heap.size := by obtain ⟨m, hm⟩ := h1; exact DataW.trod_lt m _ _ _ hm
  have k1 := h1
  obtain ⟨a1, rfl, w1, e1⟩ := open_value (hval 1 29 v1 rfl rfl) h1
  have lt2 : ∀ x ∈ p2, x.block < W.heap.size := by obtain ⟨m, hm⟩ := h2; exact DataW.trod_lt m _ _ _ hm
  have k2 := h2
  obtain ⟨a2, rfl, w2, e2⟩ := open_value (hval 2 29 v2 rfl rfl) h2
  clear hA0 hval0 hsz0
  refine (law_ValueTests _ _ _ _ _ _ _ W).mono fun e W' ⟨he, bel⟩ => ?_
  subst he
  exact ⟨_, rfl, _, _, _, [], _, [], hW', trodAll_mk1 (shut_bool Try.underlying4 _), (trodAll_cons_mk (Below.trod laidOut (by kernel_rfl) (of_decide_eq_true (by kernel_rfl)) k0 bel lt0) (trodAll_cons_mk (Below.trod laidOut (by kernel_rfl) (of_decide_eq_true (by kernel_rfl)) k1 bel lt1) (trodAll_cons_mk (Below.trod laidOut (by kernel_rfl) (of_decide_eq_true (by kernel_rfl)) k2 bel lt2) trodAll_mk0))), rfl, bel.frame _, fun h => by cases h⟩

theorem overValueTests : Rows.valueTestsRow.holds Try.pinned (OpenSpec.ofChange Rows.valueTestsSpec) :=
  OpenClaim.holds_of_wide 9 Try.f9 rfl rfl rfl rfl rfl rfl rfl ⟨rfl, rfl, rfl, rfl, rfl⟩ rfl rfl rfl rfl rfl (by kernel_rfl) Try.func9 (by kernel_rfl)
    (of_decide_eq_true (by kernel_rfl)) (by unfold Func.isWrapper; first | (rw [if_pos (by decide +kernel)]; kernel_rfl) | (rw [if_neg (by decide +kernel)]; exact ⟨rfl, rfl⟩))
    (fun os started H enc _ => liftedValueTests os started H enc)

theorem valueTests_holds : Rows.ValueTestsSaid := overValueTests
#print axioms valueTests_holds

end Go.Proofs.Ytlkkpgdgnnknpaa
