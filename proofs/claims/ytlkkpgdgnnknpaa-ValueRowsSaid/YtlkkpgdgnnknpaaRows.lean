/-
  No cell of these rows narrows 'for every input' (looked for: loops, veiled, ifaces, maps, wideKeys, modest, calm, conditions, laid).
  DERIVED. THE GIVEN ROWS OF THIS SEAT. 9 by the template 'for every input the law returns true; each argument reads behind the call as it read before'; 0 by the template 'total and deterministic' (their statements: YtlkkpgdgnnknpaaTotals.lean).
  GIVEN WITH THE SEED: the statements are not yours to turn. If you find one false, say at which input.
  Laid BY PROGRAM, IN A SANDBOX (cutbox-rows.mjs): the forced cells as the released guide's own fill.sh prints them over the translation 35daed158f0f1dd1… (all of the seat's roots in one cut). By AI agents, Wed Nov 11 2026. No macro, syntax, notation, axiom, sorry.
-/
import Derived.Test.YtlkkpgdgnnknpaaChecked
import GoSem.Claim
import GoSem.ClaimJoined
import GoSem.ClaimMapViews
import Derived.JoinedTies
import Derived.KernelRfl
namespace Go.Proofs.Ytlkkpgdgnnknpaa
/- THE CELL 'sum', in the pinned program and in every row, IS THE sha256 OF THE DUMP (.gsa) THAT YtlkkpgdgnnknpaaProg.lean LOADS. Nothing in Lean hashes anything: it is a label: what it is worth is what the hold of that sum in a sandbox is worth. -/
noncomputable def Try.pinned : Pinned := { name := "ytlkkpgdgnnknpaa", sum := "35daed158f0f1dd13a465decd4d1016e741a89e42c241a216a1e264320e5ebab", checked := Try.checked }
namespace Rows
def none {H : Type} : Left H := { results := [], args := [] }

/-- 'relstorelaw.Names': WHATEVER THE INPUT: true; the input reads as it did. -/
def namesSpec : ChangeSpec := { name := "names", fn := fun _ => fun
  | [] => { results := [.lit (.bool true)], args := [] }
  | _ => none }
def namesRow : OpenClaim := { program := "ytlkkpgdgnnknpaa", sum := "35daed158f0f1dd13a465decd4d1016e741a89e42c241a216a1e264320e5ebab", func := "relstore/relstorelaw.Names", spec := "names", apart := false }
def NamesSaid : Prop := namesRow.holds Try.pinned (OpenSpec.ofChange namesSpec)

/-- ITS FALSE NEIGHBOUR: 'it returns false'. Refute it at one input. -/
def namesWrong : ChangeSpec := { name := "names", fn := fun _ => fun
  | [] => { results := [.lit (.bool false)], args := [] }
  | _ => none }
def NamesWrongFalsely : Prop := namesRow.holds Try.pinned (OpenSpec.ofChange namesWrong)

/-- 'relstorekeep.ValueLikes': WHATEVER THE INPUT: true; the input reads as it did. -/
def valueLikesSpec : ChangeSpec := { name := "valueLikes", fn := fun _ => fun
  | [d1, d2, d3, d4] => { results := [.lit (.bool true)], args := [d1, d2, d3, d4] }
  | _ => none }
def valueLikesRow : OpenClaim := { program := "ytlkkpgdgnnknpaa", sum := "35daed158f0f1dd13a465decd4d1016e741a89e42c241a216a1e264320e5ebab", func := "relstore/relstorekeep.ValueLikes", spec := "valueLikes", apart := false }
def ValueLikesSaid : Prop := valueLikesRow.holds Try.pinned (OpenSpec.ofChange valueLikesSpec)

/-- ITS FALSE NEIGHBOUR: 'it returns false'. Refute it at one input. -/
def valueLikesWrong : ChangeSpec := { name := "valueLikes", fn := fun _ => fun
  | [d1, d2, d3, d4] => { results := [.lit (.bool false)], args := [d1, d2, d3, d4] }
  | _ => none }
def ValueLikesWrongFalsely : Prop := valueLikesRow.holds Try.pinned (OpenSpec.ofChange valueLikesWrong)

/-- 'relstorelaw.ValueOrders': WHATEVER THE INPUT: true; the input reads as it did. -/
def valueOrdersSpec : ChangeSpec := { name := "valueOrders", fn := fun _ => fun
  | [d1, d2, d3, d4] => { results := [.lit (.bool true)], args := [d1, d2, d3, d4] }
  | _ => none }
def valueOrdersRow : OpenClaim := { program := "ytlkkpgdgnnknpaa", sum := "35daed158f0f1dd13a465decd4d1016e741a89e42c241a216a1e264320e5ebab", func := "relstore/relstorelaw.ValueOrders", spec := "valueOrders", inPlace := ["internal/bytealg.abigen_runtime_cmpstring"], apart := false }
def ValueOrdersSaid : Prop := valueOrdersRow.holds Try.pinned (OpenSpec.ofChange valueOrdersSpec)

/-- ITS FALSE NEIGHBOUR: 'it returns false'. Refute it at one input. -/
def valueOrdersWrong : ChangeSpec := { name := "valueOrders", fn := fun _ => fun
  | [d1, d2, d3, d4] => { results := [.lit (.bool false)], args := [d1, d2, d3, d4] }
  | _ => none }
def ValueOrdersWrongFalsely : Prop := valueOrdersRow.holds Try.pinned (OpenSpec.ofChange valueOrdersWrong)

/-- 'relstorelaw.PageSeals': WHATEVER THE INPUT: true; the input reads as it did. -/
def pageSealsSpec : ChangeSpec := { name := "pageSeals", fn := fun _ => fun
  | [d1, d2] => { results := [.lit (.bool true)], args := [d1, d2] }
  | _ => none }
def pageSealsRow : OpenClaim := { program := "ytlkkpgdgnnknpaa", sum := "35daed158f0f1dd13a465decd4d1016e741a89e42c241a216a1e264320e5ebab", func := "relstore/relstorelaw.PageSeals", spec := "pageSeals", apart := false }
def PageSealsSaid : Prop := pageSealsRow.holds Try.pinned (OpenSpec.ofChange pageSealsSpec)

/-- ITS FALSE NEIGHBOUR: 'it returns false'. Refute it at one input. -/
def pageSealsWrong : ChangeSpec := { name := "pageSeals", fn := fun _ => fun
  | [d1, d2] => { results := [.lit (.bool false)], args := [d1, d2] }
  | _ => none }
def PageSealsWrongFalsely : Prop := pageSealsRow.holds Try.pinned (OpenSpec.ofChange pageSealsWrong)

/-- 'relstorekeep.PageWhole': WHATEVER THE INPUT: true; the input reads as it did. -/
def pageWholeSpec : ChangeSpec := { name := "pageWhole", fn := fun _ => fun
  | [d1, d2, d3] => { results := [.lit (.bool true)], args := [d1, d2, d3] }
  | _ => none }
def pageWholeRow : OpenClaim := { program := "ytlkkpgdgnnknpaa", sum := "35daed158f0f1dd13a465decd4d1016e741a89e42c241a216a1e264320e5ebab", func := "relstore/relstorekeep.PageWhole", spec := "pageWhole", apart := false }
def PageWholeSaid : Prop := pageWholeRow.holds Try.pinned (OpenSpec.ofChange pageWholeSpec)

/-- ITS FALSE NEIGHBOUR: 'it returns false'. Refute it at one input. -/
def pageWholeWrong : ChangeSpec := { name := "pageWhole", fn := fun _ => fun
  | [d1, d2, d3] => { results := [.lit (.bool false)], args := [d1, d2, d3] }
  | _ => none }
def PageWholeWrongFalsely : Prop := pageWholeRow.holds Try.pinned (OpenSpec.ofChange pageWholeWrong)

/-- 'relstorelaw.ValueReckons': WHATEVER THE INPUT: true; the input reads as it did. -/
def valueReckonsSpec : ChangeSpec := { name := "valueReckons", fn := fun _ => fun
  | [d1, d2, d3] => { results := [.lit (.bool true)], args := [d1, d2, d3] }
  | _ => none }
def valueReckonsRow : OpenClaim := { program := "ytlkkpgdgnnknpaa", sum := "35daed158f0f1dd13a465decd4d1016e741a89e42c241a216a1e264320e5ebab", func := "relstore/relstorelaw.ValueReckons", spec := "valueReckons", apart := false }
def ValueReckonsSaid : Prop := valueReckonsRow.holds Try.pinned (OpenSpec.ofChange valueReckonsSpec)

/-- ITS FALSE NEIGHBOUR: 'it returns false'. Refute it at one input. -/
def valueReckonsWrong : ChangeSpec := { name := "valueReckons", fn := fun _ => fun
  | [d1, d2, d3] => { results := [.lit (.bool false)], args := [d1, d2, d3] }
  | _ => none }
def ValueReckonsWrongFalsely : Prop := valueReckonsRow.holds Try.pinned (OpenSpec.ofChange valueReckonsWrong)

/-- 'relstorelaw.ValueTests': WHATEVER THE INPUT: true; the input reads as it did. -/
def valueTestsSpec : ChangeSpec := { name := "valueTests", fn := fun _ => fun
  | [d1, d2, d3] => { results := [.lit (.bool true)], args := [d1, d2, d3] }
  | _ => none }
def valueTestsRow : OpenClaim := { program := "ytlkkpgdgnnknpaa", sum := "35daed158f0f1dd13a465decd4d1016e741a89e42c241a216a1e264320e5ebab", func := "relstore/relstorelaw.ValueTests", spec := "valueTests", inPlace := ["internal/bytealg.abigen_runtime_cmpstring"], apart := false }
def ValueTestsSaid : Prop := valueTestsRow.holds Try.pinned (OpenSpec.ofChange valueTestsSpec)

/-- ITS FALSE NEIGHBOUR: 'it returns false'. Refute it at one input. -/
def valueTestsWrong : ChangeSpec := { name := "valueTests", fn := fun _ => fun
  | [d1, d2, d3] => { results := [.lit (.bool false)], args := [d1, d2, d3] }
  | _ => none }
def ValueTestsWrongFalsely : Prop := valueTestsRow.holds Try.pinned (OpenSpec.ofChange valueTestsWrong)

/-- 'relstorelaw.ValueRows': WHATEVER THE INPUT: true; the input reads as it did. -/
def valueRowsSpec : ChangeSpec := { name := "valueRows", fn := fun _ => fun
  | [d1, d2] => { results := [.lit (.bool true)], args := [d1, d2] }
  | _ => none }
def valueRowsRow : OpenClaim := { program := "ytlkkpgdgnnknpaa", sum := "35daed158f0f1dd13a465decd4d1016e741a89e42c241a216a1e264320e5ebab", func := "relstore/relstorelaw.ValueRows", spec := "valueRows", apart := false }
def ValueRowsSaid : Prop := valueRowsRow.holds Try.pinned (OpenSpec.ofChange valueRowsSpec)

/-- ITS FALSE NEIGHBOUR: 'it returns false'. Refute it at one input. -/
def valueRowsWrong : ChangeSpec := { name := "valueRows", fn := fun _ => fun
  | [d1, d2] => { results := [.lit (.bool false)], args := [d1, d2] }
  | _ => none }
def ValueRowsWrongFalsely : Prop := valueRowsRow.holds Try.pinned (OpenSpec.ofChange valueRowsWrong)

/-- 'relstorekeep.ValueLaws': WHATEVER THE INPUT: true; the input reads as it did. -/
def valueLawsSpec : ChangeSpec := { name := "valueLaws", fn := fun _ => fun
  | [d1, d2, d3] => { results := [.lit (.bool true)], args := [d1, d2, d3] }
  | _ => none }
def valueLawsRow : OpenClaim := { program := "ytlkkpgdgnnknpaa", sum := "35daed158f0f1dd13a465decd4d1016e741a89e42c241a216a1e264320e5ebab", func := "relstore/relstorekeep.ValueLaws", spec := "valueLaws", inPlace := ["internal/bytealg.abigen_runtime_cmpstring"], apart := false }
def ValueLawsSaid : Prop := valueLawsRow.holds Try.pinned (OpenSpec.ofChange valueLawsSpec)

/-- ITS FALSE NEIGHBOUR: 'it returns false'. Refute it at one input. -/
def valueLawsWrong : ChangeSpec := { name := "valueLaws", fn := fun _ => fun
  | [d1, d2, d3] => { results := [.lit (.bool false)], args := [d1, d2, d3] }
  | _ => none }
def ValueLawsWrongFalsely : Prop := valueLawsRow.holds Try.pinned (OpenSpec.ofChange valueLawsWrong)

/- THE SECOND FORM. 'bulk': how many values and letters a reading holds, each counted each time it is reached (what is shared counts as often as it is met; a slice's spare places count too). A statement '..UptoSaid' is the law's where the arguments, and the package variables that the reading takes, are together of bulk at most 1048576: NARROWER than '..Said'. Prove '..Said' where nothing that the law and all that it calls make is longer than what came in: it says more and counts as full. Else prove '..UptoSaid'. A law counts once. -/
mutual
def uptoBulk {H : Type} : DataW H → Nat
  | .lit (.string bytes) => bytes.length + 1
  | .lit _ => 1
  | .nil => 1
  | .ptr d => uptoBulk d + 1
  | .slice elems spare => uptoBulkAll elems + uptoBulkAll spare + 1
  | .agg parts => uptoBulkAll parts + 1
  | .iface _ d => uptoBulk d + 1
  | .map entries => uptoBulkEntries entries + 1
  | .held _ => 1
def uptoBulkAll {H : Type} : List (DataW H) → Nat
  | [] => 0
  | d :: r => uptoBulk d + uptoBulkAll r
def uptoBulkEntries {H : Type} : List (Lit × DataW H) → Nat
  | [] => 0
  | x :: r => uptoBulkEntry x + uptoBulkEntries r
def uptoBulkEntry {H : Type} : Lit × DataW H → Nat
  | (.string bytes, d) => bytes.length + uptoBulk d + 1
  | (_, d) => uptoBulk d + 1
 end
def uptoSmall : (H : Type) → List (DataW H) → Bool := fun _ ds => decide (uptoBulkAll ds ≤ 1048576)
def OpenSpec.upto (s : _root_.Go.ChangeSpec) : _root_.Go.OpenSpec := { _root_.Go.OpenSpec.ofChange s with cond := some uptoSmall }

/-- 'relstorelaw.Names', WHERE WHAT IT READS IS OF BULK AT MOST 1048576: true; the input reads as it did. -/
def namesUptoRow : OpenClaim := { program := "ytlkkpgdgnnknpaa", sum := "35daed158f0f1dd13a465decd4d1016e741a89e42c241a216a1e264320e5ebab", func := "relstore/relstorelaw.Names", spec := "names", apart := false, narrowed := true }
def NamesUptoSaid : Prop := namesUptoRow.holds Try.pinned (OpenSpec.upto namesSpec)

/-- 'relstorekeep.ValueLikes', WHERE WHAT IT READS IS OF BULK AT MOST 1048576: true; the input reads as it did. -/
def valueLikesUptoRow : OpenClaim := { program := "ytlkkpgdgnnknpaa", sum := "35daed158f0f1dd13a465decd4d1016e741a89e42c241a216a1e264320e5ebab", func := "relstore/relstorekeep.ValueLikes", spec := "valueLikes", apart := false, narrowed := true }
def ValueLikesUptoSaid : Prop := valueLikesUptoRow.holds Try.pinned (OpenSpec.upto valueLikesSpec)

/-- 'relstorelaw.ValueOrders', WHERE WHAT IT READS IS OF BULK AT MOST 1048576: true; the input reads as it did. -/
def valueOrdersUptoRow : OpenClaim := { program := "ytlkkpgdgnnknpaa", sum := "35daed158f0f1dd13a465decd4d1016e741a89e42c241a216a1e264320e5ebab", func := "relstore/relstorelaw.ValueOrders", spec := "valueOrders", inPlace := ["internal/bytealg.abigen_runtime_cmpstring"], apart := false, narrowed := true }
def ValueOrdersUptoSaid : Prop := valueOrdersUptoRow.holds Try.pinned (OpenSpec.upto valueOrdersSpec)

/-- 'relstorelaw.PageSeals', WHERE WHAT IT READS IS OF BULK AT MOST 1048576: true; the input reads as it did. -/
def pageSealsUptoRow : OpenClaim := { program := "ytlkkpgdgnnknpaa", sum := "35daed158f0f1dd13a465decd4d1016e741a89e42c241a216a1e264320e5ebab", func := "relstore/relstorelaw.PageSeals", spec := "pageSeals", apart := false, narrowed := true }
def PageSealsUptoSaid : Prop := pageSealsUptoRow.holds Try.pinned (OpenSpec.upto pageSealsSpec)

/-- 'relstorekeep.PageWhole', WHERE WHAT IT READS IS OF BULK AT MOST 1048576: true; the input reads as it did. -/
def pageWholeUptoRow : OpenClaim := { program := "ytlkkpgdgnnknpaa", sum := "35daed158f0f1dd13a465decd4d1016e741a89e42c241a216a1e264320e5ebab", func := "relstore/relstorekeep.PageWhole", spec := "pageWhole", apart := false, narrowed := true }
def PageWholeUptoSaid : Prop := pageWholeUptoRow.holds Try.pinned (OpenSpec.upto pageWholeSpec)

/-- 'relstorelaw.ValueReckons', WHERE WHAT IT READS IS OF BULK AT MOST 1048576: true; the input reads as it did. -/
def valueReckonsUptoRow : OpenClaim := { program := "ytlkkpgdgnnknpaa", sum := "35daed158f0f1dd13a465decd4d1016e741a89e42c241a216a1e264320e5ebab", func := "relstore/relstorelaw.ValueReckons", spec := "valueReckons", apart := false, narrowed := true }
def ValueReckonsUptoSaid : Prop := valueReckonsUptoRow.holds Try.pinned (OpenSpec.upto valueReckonsSpec)

/-- 'relstorelaw.ValueTests', WHERE WHAT IT READS IS OF BULK AT MOST 1048576: true; the input reads as it did. -/
def valueTestsUptoRow : OpenClaim := { program := "ytlkkpgdgnnknpaa", sum := "35daed158f0f1dd13a465decd4d1016e741a89e42c241a216a1e264320e5ebab", func := "relstore/relstorelaw.ValueTests", spec := "valueTests", inPlace := ["internal/bytealg.abigen_runtime_cmpstring"], apart := false, narrowed := true }
def ValueTestsUptoSaid : Prop := valueTestsUptoRow.holds Try.pinned (OpenSpec.upto valueTestsSpec)

/-- 'relstorelaw.ValueRows', WHERE WHAT IT READS IS OF BULK AT MOST 1048576: true; the input reads as it did. -/
def valueRowsUptoRow : OpenClaim := { program := "ytlkkpgdgnnknpaa", sum := "35daed158f0f1dd13a465decd4d1016e741a89e42c241a216a1e264320e5ebab", func := "relstore/relstorelaw.ValueRows", spec := "valueRows", apart := false, narrowed := true }
def ValueRowsUptoSaid : Prop := valueRowsUptoRow.holds Try.pinned (OpenSpec.upto valueRowsSpec)

/-- 'relstorekeep.ValueLaws', WHERE WHAT IT READS IS OF BULK AT MOST 1048576: true; the input reads as it did. -/
def valueLawsUptoRow : OpenClaim := { program := "ytlkkpgdgnnknpaa", sum := "35daed158f0f1dd13a465decd4d1016e741a89e42c241a216a1e264320e5ebab", func := "relstore/relstorekeep.ValueLaws", spec := "valueLaws", inPlace := ["internal/bytealg.abigen_runtime_cmpstring"], apart := false, narrowed := true }
def ValueLawsUptoSaid : Prop := valueLawsUptoRow.holds Try.pinned (OpenSpec.upto valueLawsSpec)

end Rows
end Go.Proofs.Ytlkkpgdgnnknpaa
