/-
  relstorelaw.ValueReckons returns true: what is reckoned with any two values, and a value with its sign turned, is as the reference says. No condition.
-/
import Derived.Test.YtlkkpgdgnnknpaaOpen
import Derived.Test.YtlkkpgdgnnknpaaLong7
namespace Go.Proofs.Ytlkkpgdgnnknpaa
open Go.ChangeShapes Go.WideShapes Go.ChangeAt Go.RowKit
set_option linter.unusedVariables false
attribute [local go_sem] OpGood goodUpon fillA Act.put

def negP (a b c : Value) : Nat → Value → World → Prop
  | 0, u, _ => u = a
  | 1, u, _ => u = b
  | 2, u, _ => u = c
  | _, _, _ => True
theorem negP_stable (a b c : Value) : ∀ j u (w w' : World), Below w.heap.size w w' → negP a b c j u w → negP a b c j u w'
  | 0, _, _, _, _, h => h
  | 1, _, _, _, _, h => h
  | 2, _, _, _, _, h => h
  | _ + 3, _, _, _, _, _ => trivial

set_option maxRecDepth 100000 in
set_option maxHeartbeats 1600000 in
theorem value_Neg (k n : Int) (s : ByteArray) (hn : inI n) (w : World) :
    Calls Try.prog 39 #[.agg #[.int .i64 k, .int .i64 n, .string s]] w fun e w' => e = .returned (.agg #[.int .i64 (recK (reckV 6 2 0 k n)), .int .i64 (recN (reckV 6 2 0 k n)), .string ⟨#[]⟩]) ∧ Below w.heap.size w w' := by
  have R := Lib.hid (fun w1 => value_Reckon 6 2 0 ⟨#[]⟩ k n s (by unfold inI; omega) hn w1)
  clear hn
  go_enter Try.func39, Try.ntmps39
  go_wp2_with fail
  have hb0 : Below w.heap.size w ((w.alloc (.cells #[.int .i64 k, .int .i64 n, .string s] 29)).alloc (.cells #[.int .i64 0, .int .i64 0, .string ⟨#[]⟩] 29)) := by (repeat (first | exact Below.refl _ _ | assumption | (refine Below.setCell ?_ (by first | omega | (simp <;> omega)) _) | refine Below.drew ?_ | (refine Below.alloc ?_ (by first | omega | (simp <;> omega)) _) | (refine bel_step ?_ (by assumption) (by first | omega | (simp <;> omega)))))
  have hA := (Has.new w 29 #[.int .i64 k, .int .i64 n, .string s]).alloc (.cells #[.int .i64 0, .int .i64 0, .string ⟨#[]⟩] 29)
  have hR := Has.new (w.alloc (.cells #[.int .i64 k, .int .i64 n, .string s] 29)) 29 #[.int .i64 0, .int .i64 0, .string ⟨#[]⟩]
  simp only [World.size_alloc] at hR
  generalize ((w.alloc (.cells #[.int .i64 k, .int .i64 n, .string s] 29)).alloc (.cells #[.int .i64 0, .int .i64 0, .string ⟨#[]⟩] 29)) = W at *
  refine wp_region_inv 3 (Cls (W)) (negP (.agg #[.int .i64 2, .int .i64 0, .string ⟨#[]⟩]) (.agg #[.int .i64 k, .int .i64 n, .string s]) (.agg #[.int .i64 (recK (reckV 6 2 0 k n)), .int .i64 (recN (reckV 6 2 0 k n)), .string ⟨#[]⟩])) (by kernel_rfl) (by kernel_rfl) (by kernel_rfl) (fun _ _ hC hb => Cls.step hC hb) ?hst (Cls.start _) ?hops ?hend
  case hst => exact negP_stable _ _ _
  case hops =>
    obtain ⟨a0, a1, a2⟩ := hA.cells3
    have z1 := hA.lt
    intro us wx hus hC
    obtain ⟨u0, u1, u2, rfl⟩ : ∃ u0 u1 u2, us = [u0, u1, u2] := by
      match us, hus with
      | [u0, u1, u2], _ => exact ⟨u0, u1, u2, rfl⟩
    clear hus
    simp only [fillA, Act.put, List.take_succ_cons, List.take_zero, List.setIfInBounds_toArray, List.set_cons_zero, List.set_cons_succ]
    refine ⟨fun h => ?_, fun h => ?_, fun h => ?_, trivial⟩
    · (clear h; refine good_plain rfl ?_; go_simp; refine (value_Of _ _).mono ?_; rintro e w1 ⟨rfl, hb⟩; exact ⟨_, rfl, hb, rfl⟩)
    · (clear h; refine good_plain rfl ?_; obtain ⟨hc, hf⟩ := hC.facts; go_simp; exact ⟨Below.refl _ _, rfl⟩)
    · obtain rfl := h 0 rfl
      obtain rfl := h 1 rfl
      (clear h; refine good_plain rfl ?_; go_simp; refine (R.out _).mono ?_; rintro e w1 ⟨rfl, hb⟩; exact ⟨_, rfl, hb, rfl⟩)
  case hend =>
    intro us wx hus hC
    obtain ⟨u0, u1, u2, rfl⟩ : ∃ u0 u1 u2, us = [u0, u1, u2] := by
      match us, hus with
      | [u0, u1, u2], _ => exact ⟨u0, u1, u2, rfl⟩
    clear hus
    intro hall
    obtain ⟨h0, h1, h2, _⟩ := hall
    obtain rfl := h2
    have hb1 := bel_step hb0 hC.bel hb0.size
    have hR1 := hR.belowS hC.bel
    obtain ⟨r0, r1, r2⟩ := hR1.cells3
    have r3 := hR1.frozen
    clear h0 h1 hA hR hC hb0
    go_wp2_with fail
    refine bodyPost_ret (v := .agg #[.int .i64 (recK (reckV 6 2 0 k n)), .int .i64 (recN (reckV 6 2 0 k n)), .string ⟨#[]⟩]) (by simp [results, Try.results39, go_sem, *]) rfl ⟨?_, ?_⟩
    · rfl
    · (repeat (first | exact Below.refl _ _ | assumption | (refine Below.setCell ?_ (by first | omega | (simp <;> omega)) _) | refine Below.drew ?_ | (refine Below.alloc ?_ (by first | omega | (simp <;> omega)) _) | (refine bel_step ?_ (by assumption) (by first | omega | (simp <;> omega)))))

set_option maxRecDepth 100000 in
set_option maxHeartbeats 1600000 in
theorem law_ValueReckons (op k n : Int) (s : ByteArray) (k' n' : Int) (s' : ByteArray) (hn : inI n) (hn' : inI n') (w : World) :
    Calls Try.prog 8 #[.int .i64 op, .agg #[.int .i64 k, .int .i64 n, .string s], .agg #[.int .i64 k', .int .i64 n', .string s']] w fun e w' => e = .returned (.bool true) ∧ Below w.heap.size w w' := by
  have R1 := Lib.hid (fun w1 => value_Reckon op k n s k' n' s' hn hn' w1)
  have R2 := Lib.hid (fun w1 => ref_Reckon op k n s k' n' s' hn hn' w1)
  have N1 := Lib.hid (fun w1 => value_Neg k n s hn w1)
  have N2 := Lib.hid (fun w1 => ref_Neg k n s hn w1)
  clear hn hn'
  go_enter Try.func8, Try.ntmps8
  go_wp2_with fail
  have hb0 := (((Below.refl _ w).alloc (Nat.le_refl _) (.cells #[.int .i64 k, .int .i64 n, .string s] 29)).alloc (by simp) (.cells #[.int .i64 k', .int .i64 n', .string s'] 29))
  have hA := (Has.new w 29 #[.int .i64 k, .int .i64 n, .string s]).alloc (.cells #[.int .i64 k', .int .i64 n', .string s'] 29)
  have hB := (Has.new (w.alloc (.cells #[.int .i64 k, .int .i64 n, .string s] 29)) 29 #[.int .i64 k', .int .i64 n', .string s'])
  simp only [World.size_alloc] at hB
  generalize (w.alloc (.cells #[.int .i64 k, .int .i64 n, .string s] 29)).alloc (.cells #[.int .i64 k', .int .i64 n', .string s'] 29) = W at *
  obtain ⟨a0, a1, a2⟩ := hA.cells3
  obtain ⟨b0, b1, b2⟩ := hB.cells3
  have z1 := hA.lt
  have z2 := hB.lt
  refine wp_region_cls (W) (by kernel_rfl) (by kernel_rfl) (Cls.start _) ?_
  repeat
    refine wpQuiet_step (fun K hK => ?_)
    go_simp
    first
      | (refine hK _ ?_; clear hK K)
      | (apply Exists.intro; refine ⟨fun w' hw' => ?_, hK _ ?_⟩; (· (first | (with_reducible exact rfl) | (first | (go_at_call 37; refine (R1.out _).mono ?_; rintro e w1 ⟨rfl, hb⟩; exact ⟨rfl, Cls.step hw' hb⟩) | (go_at_call 38; refine (R2.out _).mono ?_; rintro e w1 ⟨rfl, hb⟩; exact ⟨rfl, Cls.step hw' hb⟩) | (go_at_call 39; refine (N1.out _).mono ?_; rintro e w1 ⟨rfl, hb⟩; exact ⟨rfl, Cls.step hw' hb⟩) | (go_at_call 40; refine (N2.out _).mono ?_; rintro e w1 ⟨rfl, hb⟩; exact ⟨rfl, Cls.step hw' hb⟩) | (go_at_call 23; refine (law_sameValue _ _ _ _).mono ?_; rintro e w1 ⟨rfl, hb⟩; exact ⟨rfl, Cls.step hw' hb⟩)) | (obtain ⟨hc, hf⟩ := hw'.facts; go_simp; first | done | (with_reducible exact rfl) | (with_reducible exact ⟨rfl, rfl⟩)))); clear hK K)
  refine wpQuiet_nil ?_
  intro wq hq
  have hb1 := bel_step hb0 hq hb0.size
  go_wp2_with fail
  go_ret
  exact ⟨rfl, hb1⟩

set_option maxRecDepth 100000 in
theorem liftedValueReckons (os : Os) (started : os.Started) (H : Type) (enc : TypeId × Value → H) :
    ReturnsInHanded {} Try.checked os 8 .any (Rows.valueReckonsSpec.pre6 enc Try.prog Try.f8 Rows.valueReckonsRow.domain false) (Rows.valueReckonsSpec.post enc Try.prog Try.f8 false true false false) := by
  refine returnsInHanded_of_change_sized (C := Try.checked) own started (by kernel_rfl) Try.func8
    (ChangeSpec.witness6 (enc := enc) (C := Try.checked) false ⟨#[], #[.int .i64 0, .agg #[.int .i64 0, .int .i64 0, .string ByteArray.empty], .agg #[.int .i64 0, .int .i64 0, .string ByteArray.empty]], []⟩ 8 (by kernel_rfl) (by kernel_rfl) (by kernel_rfl) (by kernel_rfl)) ?_
  intro W base args ds gs before hval0 hW hcnd hsz0 _
  have hval : ∀ (j : Nat) t v, Try.f8.params[j]? = some t → args[j]? = some v → Value.okWide Try.prog W .any base t v := hval0
  have hW' := hW
  obtain ⟨p, q, hA0, hV, rfl, hfz, hnd⟩ := hW
  have hA : DataW.TrodAll enc Try.prog W 0 (fun _ => true) true Try.f8.params.toList args.toList ds p := hA0
  have hsz : (DataW.weightsEach Try.prog (Try.f8.params.toList ++ Rows.valueReckonsSpec.plain.varTypes Try.prog) (ds ++ gs)).all (· ≤ reachBytes) = true := hsz0
  rw [Try.params8] at hA hval hsz
  obtain ⟨v0, vs0, d0, ds0, p0, q0, hargs, rfl, rfl, h0, r0⟩ := trodAll_cons hA
  obtain ⟨v1, vs1, d1, ds1, p1, q1, rfl, rfl, rfl, h1, r1⟩ := trodAll_cons r0
  obtain ⟨v2, vs2, d2, ds2, p2, q2, rfl, rfl, rfl, h2, r2⟩ := trodAll_cons r1
  obtain ⟨rfl, rfl, rfl⟩ := trodAll_nil r2
  obtain rfl : args = #[v0, v1, v2] := by cases args; simp_all
  obtain ⟨rfl, rfl⟩ := trodVars_none hV
  have lt0 : ∀ x ∈ p0, x.block < W.heap.size := by obtain ⟨m, hm⟩ := h0; exact DataW.trod_lt m _ _ _ hm
  have k0 := h0
  obtain ⟨a0, rfl, e0, _, w0⟩ := open_int Try.underlying3 (hval 0 3 v0 rfl rfl) h0
  have lt1 : ∀ x ∈ p1, x.block < W.heap.size := by obtain ⟨m, hm⟩ := h1; exact DataW.trod_lt m _ _ _ hm
  have k1 := h1
  obtain ⟨a1, rfl, w1, e1⟩ := open_value (hval 1 29 v1 rfl rfl) h1
  have lt2 : ∀ x ∈ p2, x.block < W.heap.size := by obtain ⟨m, hm⟩ := h2; exact DataW.trod_lt m _ _ _ hm
  have k2 := h2
  obtain ⟨a2, rfl, w2, e2⟩ := open_value (hval 2 29 v2 rfl rfl) h2
  clear hA0 hval0 hsz0
  refine (law_ValueReckons _ _ _ _ _ _ _ (inI_wf w1.n) (inI_wf w2.n) W).mono fun e W' ⟨he, bel⟩ => ?_
  subst he
  exact ⟨_, rfl, _, _, _, [], _, [], hW', trodAll_mk1 (shut_bool Try.underlying4 _), (trodAll_cons_mk (Below.trod laidOut (by kernel_rfl) (of_decide_eq_true (by kernel_rfl)) k0 bel lt0) (trodAll_cons_mk (Below.trod laidOut (by kernel_rfl) (of_decide_eq_true (by kernel_rfl)) k1 bel lt1) (trodAll_cons_mk (Below.trod laidOut (by kernel_rfl) (of_decide_eq_true (by kernel_rfl)) k2 bel lt2) trodAll_mk0))), rfl, bel.frame _, fun h => by cases h⟩

theorem overValueReckons : Rows.valueReckonsRow.holds Try.pinned (OpenSpec.ofChange Rows.valueReckonsSpec) :=
  OpenClaim.holds_of_wide 8 Try.f8 rfl rfl rfl rfl rfl rfl rfl ⟨rfl, rfl, rfl, rfl, rfl⟩ rfl rfl rfl rfl rfl (by kernel_rfl) Try.func8 (by kernel_rfl)
    (of_decide_eq_true (by kernel_rfl)) (by unfold Func.isWrapper; first | (rw [if_pos (by decide +kernel)]; kernel_rfl) | (rw [if_neg (by decide +kernel)]; exact ⟨rfl, rfl⟩))
    (fun os started H enc _ => liftedValueReckons os started H enc)

theorem valueReckons_holds : Rows.ValueReckonsSaid := overValueReckons
#print axioms valueReckons_holds

end Go.Proofs.Ytlkkpgdgnnknpaa
