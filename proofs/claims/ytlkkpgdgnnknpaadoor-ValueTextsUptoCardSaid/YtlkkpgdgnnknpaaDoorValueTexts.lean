/-
  ValueTextsUpto: the row's step and its tied card.
-/
import Derived.Test.YtlkkpgdgnnknpaaDoorCards
import Derived.Test.YtlkkpgdgnnknpaaDoorTie
import Derived.Test.YtlkkpgdgnnknpaaDoorOpen
import Derived.Test.YtlkkpgdgnnknpaaDoorText7
import Derived.Test.YtlkkpgdgnnknpaaDoorNum64
import Derived.Deep.DeepHandedRow
import Derived.Deep.DeepWitnessRowRef
import Derived.Lay
import Derived.Stop.LaidErr
import Derived.Lib.LaidTab
import Derived.ProofKit
import Derived.OpenShut
namespace Go.Proofs.YtlkkpgdgnnknpaaDoor
open Go.ChangeShapes Go.WideShapes Go.ChangeAt Go.RowKit

theorem star_err : "*" ++ "errors.errorString" = "*errors.errorString" := by decide
theorem row_err (u : TypeId) (h : Tryd.prog.typeName? 3 u = some "*errors.errorString") : u = 132 :=
  typeName_ptr_named (nm := "errors.errorString") (by rw [star_err]; kernel_rfl) (by kernel_rfl) (by decide) u (by rw [star_err]; exact h)
theorem cells_err : Tryd.prog.cellsOf 134 = 1 := by kernel_rfl
theorem cells_str : Tryd.prog.cellsOf 9 = 1 := by kernel_rfl
theorem pow_of {W : World} (h : laidMet Tryd.prog Rows.valueTextsUptoRow.laid W) : HasPow W := by
  have h3 : laidMet Tryd.prog (("internal/strconv.uint64pow10", Lib.tabData .u64 Lib.pow10Tab) :: [("strconv.ErrRange", Rows.laid_strconv_ErrRange), ("strconv.ErrSyntax", Rows.laid_strconv_ErrSyntax)]) W := laidMet.tail (laidMet.tail h)
  have ht := Lib.tabIs_of_head gPow (t := 121) (e := 52) (n := 20) (by kernel_rfl) Tryd.underlying121 Tryd.underlying52 (by kernel_rfl) (by kernel_rfl) h3
  exact ⟨ht, cell_lt (ht.cell gPow 0 (by decide))⟩
theorem errs_of {W : World} (h : laidMet Tryd.prog Rows.valueTextsUptoRow.laid W) : HasErrs W := by
  have hR := laidMet.tail (laidMet.tail (laidMet.tail h))
  have hS := laidMet.tail hR
  obtain ⟨a0, s0, hv0, -⟩ := laid_sentinel hR (g := 2) (by kernel_rfl) (ti := 70) (by kernel_rfl) Tryd.underlying70 row_err Tryd.underlying132 Tryd.underlying134 rfl rfl Tryd.underlying9 cells_err cells_str
  obtain ⟨a1, s1, hv1, -⟩ := laid_sentinel hS (g := 1) (by kernel_rfl) (ti := 70) (by kernel_rfl) Tryd.underlying70 row_err Tryd.underlying132 Tryd.underlying134 rfl rfl Tryd.underlying9 cells_err cells_str
  have q1 := World.var?_cell (g := 1) (by kernel_rfl) hv1 0
  have q0 := World.var?_cell (g := 2) (by kernel_rfl) hv0 0
  exact ⟨⟨_, _, by simpa using q1⟩, ⟨_, _, by simpa using q0⟩⟩
theorem bulk_one {H : Type} (v : Val) : Rows.uptoBulk (.agg [.lit (.int .i64 v.k), .lit (.int .i64 v.n), .lit (.string v.s.data.toList)] : DataW H) = v.s.size + 4 := by
  simp only [Rows.uptoBulk, Rows.uptoBulkAll]
  rw [Array.length_toList]
  show 1 + (1 + (v.s.data.size + 1 + 0)) + 1 = v.s.data.size + 4
  omega

/-- a world for the witness: the settled one, the listed variables as laid -/
noncomputable def laidWorldValueTexts (os : Os) : World := World.laidAll Tryd.prog os Rows.valueTextsUptoRow.laid
set_option maxRecDepth 100000 in
theorem laid_metValueTexts (os : Os) : laidMet Tryd.prog Rows.valueTextsUptoRow.laid ((laidWorldValueTexts os).forCall (fun _ _ => 0) ⟨#[], #[.agg #[.int .i64 0, .int .i64 0, .string ByteArray.empty], .agg #[.int .i64 0, .int .i64 0, .string ByteArray.empty], .int .i64 0], []⟩).memory :=
  laidMet_laidAll _ (by kernel_rfl) (by kernel_rfl)
theorem readsValueTexts (os : Os) {H : Type} (enc : TypeId × Value → H) : ∃ places, DataW.whole enc Tryd.prog ((laidWorldValueTexts os).forCall (fun _ _ => 0) ⟨#[], #[.agg #[.int .i64 0, .int .i64 0, .string ByteArray.empty], .agg #[.int .i64 0, .int .i64 0, .string ByteArray.empty], .int .i64 0], []⟩).memory Tryd.f5.params.toList Rows.valueTextsSpec.vars false #[Value.agg #[.int .i64 0, .int .i64 0, .string ByteArray.empty], .agg #[.int .i64 0, .int .i64 0, .string ByteArray.empty], .int .i64 0].toList 8 = some ([.agg [.lit (.int .i64 0), .lit (.int .i64 0), .lit (.string [])], .agg [.lit (.int .i64 0), .lit (.int .i64 0), .lit (.string [])], .lit (.int .i64 0)], [], places) :=
  ⟨[], by kernel_rfl⟩
set_option maxRecDepth 100000 in
theorem liftedValueTexts (os : Os) (started : os.Started) (H : Type) (enc : TypeId × Value → H) (F : Stop.Interp) :
    ReturnsInHanded {} Tryd.checked os 5 .any ((Rows.OpenSpec.upto Rows.valueTextsSpec).preRow enc Tryd.prog Tryd.f5 Rows.valueTextsUptoRow.domain false Rows.valueTextsUptoRow.laid) (((Rows.OpenSpec.upto Rows.valueTextsSpec).at F).post enc Tryd.prog Tryd.f5 false true false false) := by
  obtain ⟨places, hx⟩ := readsValueTexts os enc
  refine returnsInHanded_of_row (C := Tryd.checked) (s := (Rows.OpenSpec.upto Rows.valueTextsSpec)) own started (by kernel_rfl) Tryd.func5
    (witness_row_atRef (enc := enc) (C := Tryd.checked) false (laidWorldValueTexts os) #[.agg #[.int .i64 0, .int .i64 0, .string ByteArray.empty], .agg #[.int .i64 0, .int .i64 0, .string ByteArray.empty], .int .i64 0] (World.laidAll_os ..) (by kernel_rfl) (by kernel_rfl) (by kernel_rfl)
      (OpenSpec.preRow_of_cond 8 hx (by kernel_rfl) (fun k hk => by cases hk; kernel_rfl) (by kernel_rfl) (laid_metValueTexts os))) ?_
  intro W base args ds gs before hval0 hW _ hcond hsz0 hL hsh _
  have hval : ∀ (j : Nat) t v, Tryd.f5.params[j]? = some t → args[j]? = some v → Value.okWide Tryd.prog W .any base t v := hval0
  have hW' := hW
  obtain ⟨p, q, hA0, hV, rfl, hfz, hnd⟩ := hW
  have hA : DataW.TrodAll enc Tryd.prog W 0 (fun _ => true) true Tryd.f5.params.toList args.toList ds p := hA0
  rw [Tryd.params5] at hA hval
  obtain ⟨v0, vs0, d0, ds0, p0, q0, hargs, rfl, rfl, h0, r0⟩ := trodAll_cons hA
  obtain ⟨v1, vs1, d1, ds1, p1, q1, rfl, rfl, rfl, h1, r1⟩ := trodAll_cons r0
  obtain ⟨v2, vs2, d2, ds2, p2, q2, rfl, rfl, rfl, h2, r2⟩ := trodAll_cons r1
  obtain ⟨rfl, rfl, rfl⟩ := trodAll_nil r2
  obtain rfl : args = #[v0, v1, v2] := by cases args; simp_all
  obtain ⟨rfl, rfl⟩ := trodVars_none hV
  have hB : Rows.uptoBulkAll ([d0, d1, d2] : List (DataW H)) ≤ 1048576 := by have := hcond _ rfl; simp only [List.append_nil] at this; exact of_decide_eq_true this
  simp only [Rows.uptoBulkAll] at hB
  clear hcond
  have lt0 : ∀ x ∈ p0, x.block < W.heap.size := by obtain ⟨m, hm⟩ := h0; exact DataW.trod_lt m _ _ _ hm
  have k0 := h0
  obtain ⟨a0, rfl, w0, e0⟩ := open_value (hval 0 38 v0 rfl rfl) h0
  have lt1 : ∀ x ∈ p1, x.block < W.heap.size := by obtain ⟨m, hm⟩ := h1; exact DataW.trod_lt m _ _ _ hm
  have k1 := h1
  obtain ⟨a1, rfl, w1, e1⟩ := open_value (hval 1 38 v1 rfl rfl) h1
  have lt2 : ∀ x ∈ p2, x.block < W.heap.size := by obtain ⟨m, hm⟩ := h2; exact DataW.trod_lt m _ _ _ hm
  have k2 := h2
  obtain ⟨a2, rfl, e2, _, w2⟩ := open_int Tryd.underlying3 (hval 2 3 v2 rfl rfl) h2
  clear hA0 hval0 hsz0
  rw [e0, e1] at hB
  rw [bulk_one a0, bulk_one a1] at hB
  have b1 : a0.s.size ≤ 2000000 := by omega
  have b2 : a1.s.size ≤ 2000000 := by omega
  refine (law_ValueTexts a0.k a0.n a0.s a1.k a1.n a1.s a2 (inI_wf w0.n) b1 b2 W (pow_of hL) (errs_of hL)).mono fun e W' ⟨he, bel⟩ => ?_
  subst he
  exact ⟨_, rfl, _, _, _, [], _, [], hW', trodAll_mk1 (shut_bool Tryd.underlying4 _), (trodAll_cons_mk (Below.trod laidOut (by kernel_rfl) (of_decide_eq_true (by kernel_rfl)) k0 bel lt0) (trodAll_cons_mk (Below.trod laidOut (by kernel_rfl) (of_decide_eq_true (by kernel_rfl)) k1 bel lt1) (trodAll_cons_mk (Below.trod laidOut (by kernel_rfl) (of_decide_eq_true (by kernel_rfl)) k2 bel lt2) trodAll_mk0))), rfl, bel.frame _, fun h => by cases h⟩

theorem overValueTexts : Rows.valueTextsUptoRow.holds Tryd.pinned (Rows.OpenSpec.upto Rows.valueTextsSpec) :=
  OpenClaim.holds_of_cond 5 Tryd.f5 rfl rfl rfl rfl rfl rfl rfl ⟨rfl, rfl, rfl, rfl, rfl⟩ rfl rfl rfl rfl rfl (by kernel_rfl) Tryd.func5 (by kernel_rfl)
    (of_decide_eq_true (by kernel_rfl)) (by unfold Func.isWrapper; first | (rw [if_pos (by decide +kernel)]; kernel_rfl) | (rw [if_neg (by decide +kernel)]; exact ⟨rfl, rfl⟩))
    (fun os started H enc _ F => by rw [OpenClaim.pre_eq_preRow]; exact liftedValueTexts os started H enc F)

theorem plainValueTexts (f : FuncId) (fn : Func) (hf : Tryd.pinned.checked.prog.funcNamed "relstore/relstorelaw.ValueTexts" = some f) (hfn : Tryd.pinned.checked.prog.funcs[f]? = some fn) :
    true = Tryd.pinned.checked.prog.looks [] ∧ ∀ (j : Nat) t, fn.params[j]? = some t → Tryd.pinned.checked.prog.wantsStandIn t = false := by
  obtain rfl : f = 5 := Option.some.inj ((show Tryd.prog.funcNamed "relstore/relstorelaw.ValueTexts" = some 5 by kernel_rfl).symm.trans hf) |>.symm
  obtain rfl : fn = Tryd.f5 := (Option.some.inj (Tryd.func5.symm.trans hfn)).symm
  refine ⟨by kernel_rfl, fun j t ht => ?_⟩
  rw [Tryd.params5] at ht
  have ht2 : t = 38 ∨ t = 38 ∨ t = 3 := by have := Array.mem_of_getElem? ht; simpa using this
  rcases ht2 with rfl | rfl | rfl
  · exact (show Tryd.prog.wantsStandIn 38 = false by kernel_rfl)
  · exact (show Tryd.prog.wantsStandIn 38 = false by kernel_rfl)
  · exact (show Tryd.prog.wantsStandIn 3 = false by kernel_rfl)

theorem valueTextsUptoCard_holds : Rows.ValueTextsUptoCardSaid :=
  Claim7.holds_tied_plain_at .later [] _ _ _ _ overValueTexts (fun _ h => by cases h) (by kernel_rfl) (fun _ h => by cases h) valueTextsUpto_row_tie rfl ⟨rfl, rfl⟩ (by kernel_rfl) rfl plainValueTexts (by kernel_rfl)
#print axioms valueTextsUptoCard_holds

end Go.Proofs.YtlkkpgdgnnknpaaDoor
