/-
  ValueKeysUpto: the row's step and its tied card.
-/
import Derived.Test.YtlkkpgdgnnknpaaDoorCards
import Derived.Test.YtlkkpgdgnnknpaaDoorTie
import Derived.Test.YtlkkpgdgnnknpaaDoorOpen
import Derived.Test.YtlkkpgdgnnknpaaDoorKey8
import Derived.Test.YtlkkpgdgnnknpaaDoorShelf
import Derived.Deep.DeepHandedRow
import Derived.Lib.LaidTab
import Derived.ProofKit
import Derived.OpenShut
namespace Go.Proofs.YtlkkpgdgnnknpaaDoor
open Go.ChangeShapes Go.WideShapes Go.ChangeAt Go.RowKit

theorem bulk_val {H : Type} (v : Val) : (keyV v).length ≤ 9 * Rows.uptoBulk (.agg [.lit (.int .i64 v.k), .lit (.int .i64 v.n), .lit (.string v.s.data.toList)] : DataW H) := by
  have h1 := (keyC_len (cleanV v)).2
  have h2 : (cleanV v).s.size ≤ v.s.size := by show (cleanS v.k v.s).size ≤ _; unfold cleanS; split <;> first | exact Nat.le_refl _ | exact Nat.zero_le _
  have h3 : Rows.uptoBulk (.agg [.lit (.int .i64 v.k), .lit (.int .i64 v.n), .lit (.string v.s.data.toList)] : DataW H) = v.s.size + 4 := by
    simp only [Rows.uptoBulk, Rows.uptoBulkAll]
    rw [Array.length_toList]
    show 1 + (1 + (v.s.data.size + 1 + 0)) + 1 = v.s.data.size + 4
    omega
  show (keyC (cleanV v)).length ≤ _
  rw [h3]
  omega
theorem bulk_vals {H : Type} : ∀ vs : List Val, (keyL vs).length ≤ 9 * Rows.uptoBulkAll (vs.map fun v => (.agg [.lit (.int .i64 v.k), .lit (.int .i64 v.n), .lit (.string v.s.data.toList)] : DataW H)) ∧ vs.length ≤ Rows.uptoBulkAll (vs.map fun v => (.agg [.lit (.int .i64 v.k), .lit (.int .i64 v.n), .lit (.string v.s.data.toList)] : DataW H))
  | [] => ⟨by simp [keyL], by simp⟩
  | v :: r => by
    have h1 := bulk_val (H := H) v
    have h2 := bulk_vals (H := H) r
    have h3 : 1 ≤ Rows.uptoBulk (.agg [.lit (.int .i64 v.k), .lit (.int .i64 v.n), .lit (.string v.s.data.toList)] : DataW H) := by simp only [Rows.uptoBulk]; omega
    have h4 : (keyL (v :: r)).length = (keyV v).length + (keyL r).length := by simp [keyL]
    rw [List.map_cons, Rows.uptoBulkAll, h4, List.length_cons]
    generalize Rows.uptoBulk (.agg [.lit (.int .i64 v.k), .lit (.int .i64 v.n), .lit (.string v.s.data.toList)] : DataW H) = x at *
    generalize Rows.uptoBulkAll (r.map fun v => (.agg [.lit (.int .i64 v.k), .lit (.int .i64 v.n), .lit (.string v.s.data.toList)] : DataW H)) = y at *
    omega

theorem max_of {W : World} (h : W.ShapedOpen Tryd.prog) : HasMax W := by
  obtain ⟨m, hm0⟩ := Tryd.laysM155.s1_3 W h
  have hm : W.cell? ⟨0, 0, none⟩ = some (.int .i64 m) := hm0
  refine ⟨m, hm, ?_⟩
  rcases Nat.lt_or_ge 0 W.heap.size with h1 | h1
  · exact h1
  · unfold World.cell? at hm
    rw [Array.getElem?_eq_none h1] at hm
    cases hm

/-- a world for the witness: the settled one, the listed tables as laid -/
noncomputable def laidWorldValueKeys (os : Os) : World := { World.holding Tryd.prog os ⟨#[], #[], []⟩ with heap := (((World.holding Tryd.prog os ⟨#[], #[], []⟩).heap.modify 5 fun | .cells _ t frozen => .cells #[.int .u8 128, .int .u8 191, .int .u8 160, .int .u8 191, .int .u8 128, .int .u8 159, .int .u8 144, .int .u8 191, .int .u8 128, .int .u8 143, .int .u8 0, .int .u8 0, .int .u8 0, .int .u8 0, .int .u8 0, .int .u8 0, .int .u8 0, .int .u8 0, .int .u8 0, .int .u8 0, .int .u8 0, .int .u8 0, .int .u8 0, .int .u8 0, .int .u8 0, .int .u8 0, .int .u8 0, .int .u8 0, .int .u8 0, .int .u8 0, .int .u8 0, .int .u8 0] t frozen | o => o).modify 4 fun | .cells _ t frozen => .cells (Go.Pinned.utf8FirstZ.map fun (x : Nat) => Value.int .u8 (x : Int)).toArray t frozen | o => o) }
set_option maxRecDepth 100000 in
theorem laid_metValueKeys (os : Os) : laidMet Tryd.prog Rows.valueKeysUptoRow.laid ((laidWorldValueKeys os).forCall (fun _ _ => 0) ⟨#[], #[.slice none 0 0, .string ByteArray.empty], []⟩).memory :=
  laidMet_of_run' 8 (by kernel_rfl) (by kernel_rfl)
theorem readsValueKeys (os : Os) {H : Type} (enc : TypeId × Value → H) : ∃ places, DataW.whole enc Tryd.prog ((laidWorldValueKeys os).forCall (fun _ _ => 0) ⟨#[], #[.slice none 0 0, .string ByteArray.empty], []⟩).memory Tryd.f3.params.toList Rows.valueKeysSpec.vars false #[Value.slice none 0 0, .string ByteArray.empty].toList 8 = some ([.nil, .lit (.string [])], [], places) :=
  ⟨[], by kernel_rfl⟩
set_option maxRecDepth 100000 in
theorem liftedValueKeys (os : Os) (started : os.Started) (H : Type) (enc : TypeId × Value → H) (F : Stop.Interp) :
    ReturnsInHanded {} Tryd.checked os 3 .any ((Rows.OpenSpec.upto Rows.valueKeysSpec).preRow enc Tryd.prog Tryd.f3 Rows.valueKeysUptoRow.domain false Rows.valueKeysUptoRow.laid) (((Rows.OpenSpec.upto Rows.valueKeysSpec).at F).post enc Tryd.prog Tryd.f3 false true false false) := by
  obtain ⟨places, hx⟩ := readsValueKeys os enc
  refine returnsInHanded_of_row (C := Tryd.checked) (s := (Rows.OpenSpec.upto Rows.valueKeysSpec)) own started (by kernel_rfl) Tryd.func3
    (witness_row_at (enc := enc) (C := Tryd.checked) false (laidWorldValueKeys os) #[.slice none 0 0, .string ByteArray.empty] rfl (by kernel_rfl) (by kernel_rfl) (by kernel_rfl)
      (OpenSpec.preRow_of_cond 8 hx (by kernel_rfl) (fun k hk => by cases hk; kernel_rfl) (by kernel_rfl) (laid_metValueKeys os))) ?_
  intro W base args ds gs before hval0 hW _ hcond hsz0 hL hsh _
  have hval : ∀ (j : Nat) t v, Tryd.f3.params[j]? = some t → args[j]? = some v → Value.okWide Tryd.prog W .any base t v := hval0
  have hW' := hW
  obtain ⟨p, q, hA0, hV, rfl, hfz, hnd⟩ := hW
  have hA : DataW.TrodAll enc Tryd.prog W 0 (fun _ => true) true Tryd.f3.params.toList args.toList ds p := hA0
  rw [Tryd.params3] at hA hval
  obtain ⟨v0, vs0, d0, ds0, p0, q0, hargs, rfl, rfl, h0, r0⟩ := trodAll_cons hA
  obtain ⟨v1, vs1, d1, ds1, p1, q1, rfl, rfl, rfl, h1, r1⟩ := trodAll_cons r0
  obtain ⟨rfl, rfl, rfl⟩ := trodAll_nil r1
  obtain rfl : args = #[v0, v1] := by cases args; simp_all
  obtain ⟨rfl, rfl⟩ := trodVars_none hV
  have hB : Rows.uptoBulkAll ([d0, d1] : List (DataW H)) ≤ 1048576 := by have := hcond _ rfl; simp only [List.append_nil] at this; exact of_decide_eq_true this
  simp only [Rows.uptoBulkAll] at hB
  clear hcond
  have lt0 : ∀ x ∈ p0, x.block < W.heap.size := by obtain ⟨m, hm⟩ := h0; exact DataW.trod_lt m _ _ _ hm
  have k0 := h0
  obtain ⟨A0, n0, c0, rfl⟩ := okWide_slice Tryd.underlying22 (hval 0 22 v0 rfl rfl)
  obtain ⟨a0, s0, w0, l0, e0⟩ := open_vals h0
  have lt1 : ∀ x ∈ p1, x.block < W.heap.size := by obtain ⟨m, hm⟩ := h1; exact DataW.trod_lt m _ _ _ hm
  have k1 := h1
  obtain ⟨a1, rfl, e1, _, w1⟩ := Go.ChangeMaps.open_string Tryd.underlying9 (hval 1 9 v1 rfl rfl) h1
  have z1 : a1.size + 1 = Rows.uptoBulk d1 := by rw [e1]; simp only [Rows.uptoBulk]; rw [Array.length_toList]; rfl
  clear hA0 hval0 hsz0
  have ⟨b1, b2⟩ : n0 ≤ 20000000 ∧ (keyL a0).length ≤ 50000000 := by
    rcases e0 with ⟨rfl, rfl⟩ | ⟨el, rest, rfl, _, hel⟩
    · have hl := s0.1; have hz : n0 = 0 := by omega
      rw [hz] at hl ⊢; have : a0 = [] := List.eq_nil_of_length_eq_zero (by omega)
      subst this; exact ⟨by omega, by simp [keyL]⟩
    · have hl := s0.1; have hb := bulk_vals (H := H) a0
      rw [hel] at hB; simp only [Rows.uptoBulk] at hB
      constructor <;> omega
  refine (law_ValueKeys A0 n0 c0 a0 a1 W s0 b1 b2 (by omega) (max_of hsh)).mono fun e W' ⟨he, bel⟩ => ?_
  subst he
  exact ⟨_, rfl, _, _, _, [], _, [], hW', trodAll_mk1 (shut_bool Tryd.underlying4 _), (trodAll_cons_mk (Below.trod laidOut (by kernel_rfl) (of_decide_eq_true (by kernel_rfl)) k0 bel lt0) (trodAll_cons_mk (Below.trod laidOut (by kernel_rfl) (of_decide_eq_true (by kernel_rfl)) k1 bel lt1) trodAll_mk0)), rfl, bel.frame _, fun h => by cases h⟩

theorem overValueKeys : Rows.valueKeysUptoRow.holds Tryd.pinned (Rows.OpenSpec.upto Rows.valueKeysSpec) :=
  OpenClaim.holds_of_cond 3 Tryd.f3 rfl rfl rfl rfl rfl rfl rfl ⟨rfl, rfl, rfl, rfl, rfl⟩ rfl rfl rfl rfl rfl (by kernel_rfl) Tryd.func3 (by kernel_rfl)
    (of_decide_eq_true (by kernel_rfl)) (by unfold Func.isWrapper; first | (rw [if_pos (by decide +kernel)]; kernel_rfl) | (rw [if_neg (by decide +kernel)]; exact ⟨rfl, rfl⟩))
    (fun os started H enc _ F => by rw [OpenClaim.pre_eq_preRow]; exact liftedValueKeys os started H enc F)

theorem plainValueKeys (f : FuncId) (fn : Func) (hf : Tryd.pinned.checked.prog.funcNamed "relstore/relstorelaw.ValueKeys" = some f) (hfn : Tryd.pinned.checked.prog.funcs[f]? = some fn) :
    true = Tryd.pinned.checked.prog.looks [] ∧ ∀ (j : Nat) t, fn.params[j]? = some t → Tryd.pinned.checked.prog.wantsStandIn t = false := by
  obtain rfl : f = 3 := Option.some.inj ((show Tryd.prog.funcNamed "relstore/relstorelaw.ValueKeys" = some 3 by kernel_rfl).symm.trans hf) |>.symm
  obtain rfl : fn = Tryd.f3 := (Option.some.inj (Tryd.func3.symm.trans hfn)).symm
  refine ⟨by kernel_rfl, fun j t ht => ?_⟩
  rw [Tryd.params3] at ht
  have ht2 : t = 22 ∨ t = 9 := by have := Array.mem_of_getElem? ht; simpa using this
  rcases ht2 with rfl | rfl
  · exact (show Tryd.prog.wantsStandIn 22 = false by kernel_rfl)
  · exact (show Tryd.prog.wantsStandIn 9 = false by kernel_rfl)

theorem valueKeysUptoCard_holds : Rows.ValueKeysUptoCardSaid :=
  Claim7.holds_tied_plain_at .later [] _ _ _ _ overValueKeys (fun _ h => by cases h) (by kernel_rfl) (fun _ h => by cases h) valueKeysUpto_row_tie rfl ⟨rfl, rfl⟩ (by kernel_rfl) rfl plainValueKeys (by kernel_rfl)
#print axioms valueKeysUptoCard_holds

end Go.Proofs.YtlkkpgdgnnknpaaDoor
