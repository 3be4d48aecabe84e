/-
  No cell of these rows narrows 'for every input' (looked for: loops, veiled, ifaces, maps, wideKeys, modest, calm, conditions, laid).
  DERIVED. THE GIVEN ROWS OF THIS SEAT. 4 by the template 'for every input the law returns true; each argument reads behind the call as it read before'; 0 by the template 'total and deterministic' (their statements: YtjihboddejaelaaTotals.lean).
  GIVEN WITH THE SEED: the statements are not yours to turn. If you find one false, say at which input.
  Laid BY PROGRAM, IN A SANDBOX (cutbox-rows.mjs): the forced cells as the released guide's own fill.sh prints them over the translation e4f6024ebc81bc9f… (all of the seat's roots in one cut). By AI agents, Wed Nov 11 2026. No macro, syntax, notation, axiom, sorry.
-/
import Derived.Test.YtjihboddejaelaaChecked
import GoSem.Claim
import GoSem.ClaimJoined
import GoSem.ClaimMapViews
import Derived.JoinedTies
import Derived.KernelRfl
namespace Go.Proofs.Ytjihboddejaelaa
/- THE CELL 'sum', in the pinned program and in every row, IS THE sha256 OF THE DUMP (.gsa) THAT YtjihboddejaelaaProg.lean LOADS. Nothing in Lean hashes anything: it is a label: what it is worth is what the hold of that sum in a sandbox is worth. -/
noncomputable def Try.pinned : Pinned := { name := "ytjihboddejaelaa", sum := "e4f6024ebc81bc9f88b52498a3a88a9255d918da696440eac869a5f1999054cb", checked := Try.checked }
namespace Rows
def none {H : Type} : Left H := { results := [], args := [] }

/-- 'relstorelaw.DiskRuns': WHATEVER THE INPUT: true; the input reads as it did. -/
def diskRunsSpec : ChangeSpec := { name := "diskRuns", fn := fun _ => fun
  | [d] => { results := [.lit (.bool true)], args := [d] }
  | _ => none }
def diskRunsRow : OpenClaim := { program := "ytjihboddejaelaa", sum := "e4f6024ebc81bc9f88b52498a3a88a9255d918da696440eac869a5f1999054cb", func := "relstore/relstorelaw.DiskRuns", spec := "diskRuns", apart := false }
def DiskRunsSaid : Prop := diskRunsRow.holds Try.pinned (OpenSpec.ofChange diskRunsSpec)

/-- ITS FALSE NEIGHBOUR: 'it returns false'. Refute it at one input. -/
def diskRunsWrong : ChangeSpec := { name := "diskRuns", fn := fun _ => fun
  | [d] => { results := [.lit (.bool false)], args := [d] }
  | _ => none }
def DiskRunsWrongFalsely : Prop := diskRunsRow.holds Try.pinned (OpenSpec.ofChange diskRunsWrong)

/-- 'relstorekeep.LogKept': WHATEVER THE INPUT: true; the input reads as it did. -/
def logKeptSpec : ChangeSpec := { name := "logKept", fn := fun _ => fun
  | [d1, d2, d3, d4] => { results := [.lit (.bool true)], args := [d1, d2, d3, d4] }
  | _ => none }
def logKeptRow : OpenClaim := { program := "ytjihboddejaelaa", sum := "e4f6024ebc81bc9f88b52498a3a88a9255d918da696440eac869a5f1999054cb", func := "relstore/relstorekeep.LogKept", spec := "logKept", unfollowed := true, recurses := true, apart := false }
def LogKeptSaid : Prop := logKeptRow.holds Try.pinned (OpenSpec.ofChange logKeptSpec)

/-- ITS FALSE NEIGHBOUR: 'it returns false'. Refute it at one input. -/
def logKeptWrong : ChangeSpec := { name := "logKept", fn := fun _ => fun
  | [d1, d2, d3, d4] => { results := [.lit (.bool false)], args := [d1, d2, d3, d4] }
  | _ => none }
def LogKeptWrongFalsely : Prop := logKeptRow.holds Try.pinned (OpenSpec.ofChange logKeptWrong)

/-- 'relstorelaw.LogRuns': WHATEVER THE INPUT: true; the input reads as it did. -/
def logRunsSpec : ChangeSpec := { name := "logRuns", fn := fun _ => fun
  | [d] => { results := [.lit (.bool true)], args := [d] }
  | _ => none }
def logRunsRow : OpenClaim := { program := "ytjihboddejaelaa", sum := "e4f6024ebc81bc9f88b52498a3a88a9255d918da696440eac869a5f1999054cb", func := "relstore/relstorelaw.LogRuns", spec := "logRuns", unfollowed := true, recurses := true, apart := false }
def LogRunsSaid : Prop := logRunsRow.holds Try.pinned (OpenSpec.ofChange logRunsSpec)

/-- ITS FALSE NEIGHBOUR: 'it returns false'. Refute it at one input. -/
def logRunsWrong : ChangeSpec := { name := "logRuns", fn := fun _ => fun
  | [d] => { results := [.lit (.bool false)], args := [d] }
  | _ => none }
def LogRunsWrongFalsely : Prop := logRunsRow.holds Try.pinned (OpenSpec.ofChange logRunsWrong)

/-- 'relstorekeep.PoolKept': WHATEVER THE INPUT: true; the input reads as it did. -/
def poolKeptSpec : ChangeSpec := { name := "poolKept", fn := fun _ => fun
  | [d1, d2, d3, d4] => { results := [.lit (.bool true)], args := [d1, d2, d3, d4] }
  | _ => none }
def poolKeptRow : OpenClaim := { program := "ytjihboddejaelaa", sum := "e4f6024ebc81bc9f88b52498a3a88a9255d918da696440eac869a5f1999054cb", func := "relstore/relstorekeep.PoolKept", spec := "poolKept", unfollowed := true, recurses := true, apart := false }
def PoolKeptSaid : Prop := poolKeptRow.holds Try.pinned (OpenSpec.ofChange poolKeptSpec)

/-- ITS FALSE NEIGHBOUR: 'it returns false'. Refute it at one input. -/
def poolKeptWrong : ChangeSpec := { name := "poolKept", fn := fun _ => fun
  | [d1, d2, d3, d4] => { results := [.lit (.bool false)], args := [d1, d2, d3, d4] }
  | _ => none }
def PoolKeptWrongFalsely : Prop := poolKeptRow.holds Try.pinned (OpenSpec.ofChange poolKeptWrong)

/- THE SECOND FORM. 'bulk': how many values and letters a reading holds, each counted each time it is reached (what is shared counts as often as it is met; a slice's spare places count too). A statement '..UptoSaid' is the law's where the arguments, and the package variables that the reading takes, are together of bulk at most 1048576: NARROWER than '..Said'. Prove '..Said' where nothing that the law and all that it calls make is longer than what came in: it says more and counts as full. Else prove '..UptoSaid'. A law counts once. -/
mutual
def uptoBulk {H : Type} : DataW H → Nat
  | .lit (.string bytes) => bytes.length + 1
  | .lit _ => 1
  | .nil => 1
  | .ptr d => uptoBulk d + 1
  | .slice elems spare => uptoBulkAll elems + uptoBulkAll spare + 1
  | .agg parts => uptoBulkAll parts + 1
  | .iface _ d => uptoBulk d + 1
  | .map entries => uptoBulkEntries entries + 1
  | .held _ => 1
def uptoBulkAll {H : Type} : List (DataW H) → Nat
  | [] => 0
  | d :: r => uptoBulk d + uptoBulkAll r
def uptoBulkEntries {H : Type} : List (Lit × DataW H) → Nat
  | [] => 0
  | x :: r => uptoBulkEntry x + uptoBulkEntries r
def uptoBulkEntry {H : Type} : Lit × DataW H → Nat
  | (.string bytes, d) => bytes.length + uptoBulk d + 1
  | (_, d) => uptoBulk d + 1
 end
def uptoSmall : (H : Type) → List (DataW H) → Bool := fun _ ds => decide (uptoBulkAll ds ≤ 1048576)
def OpenSpec.upto (s : _root_.Go.ChangeSpec) : _root_.Go.OpenSpec := { _root_.Go.OpenSpec.ofChange s with cond := some uptoSmall }

/-- 'relstorelaw.DiskRuns', WHERE WHAT IT READS IS OF BULK AT MOST 1048576: true; the input reads as it did. -/
def diskRunsUptoRow : OpenClaim := { program := "ytjihboddejaelaa", sum := "e4f6024ebc81bc9f88b52498a3a88a9255d918da696440eac869a5f1999054cb", func := "relstore/relstorelaw.DiskRuns", spec := "diskRuns", apart := false, narrowed := true }
def DiskRunsUptoSaid : Prop := diskRunsUptoRow.holds Try.pinned (OpenSpec.upto diskRunsSpec)

/-- 'relstorekeep.LogKept', WHERE WHAT IT READS IS OF BULK AT MOST 1048576: true; the input reads as it did. -/
def logKeptUptoRow : OpenClaim := { program := "ytjihboddejaelaa", sum := "e4f6024ebc81bc9f88b52498a3a88a9255d918da696440eac869a5f1999054cb", func := "relstore/relstorekeep.LogKept", spec := "logKept", unfollowed := true, recurses := true, apart := false, narrowed := true }
def LogKeptUptoSaid : Prop := logKeptUptoRow.holds Try.pinned (OpenSpec.upto logKeptSpec)

/-- 'relstorelaw.LogRuns', WHERE WHAT IT READS IS OF BULK AT MOST 1048576: true; the input reads as it did. -/
def logRunsUptoRow : OpenClaim := { program := "ytjihboddejaelaa", sum := "e4f6024ebc81bc9f88b52498a3a88a9255d918da696440eac869a5f1999054cb", func := "relstore/relstorelaw.LogRuns", spec := "logRuns", unfollowed := true, recurses := true, apart := false, narrowed := true }
def LogRunsUptoSaid : Prop := logRunsUptoRow.holds Try.pinned (OpenSpec.upto logRunsSpec)

/-- 'relstorekeep.PoolKept', WHERE WHAT IT READS IS OF BULK AT MOST 1048576: true; the input reads as it did. -/
def poolKeptUptoRow : OpenClaim := { program := "ytjihboddejaelaa", sum := "e4f6024ebc81bc9f88b52498a3a88a9255d918da696440eac869a5f1999054cb", func := "relstore/relstorekeep.PoolKept", spec := "poolKept", unfollowed := true, recurses := true, apart := false, narrowed := true }
def PoolKeptUptoSaid : Prop := poolKeptUptoRow.holds Try.pinned (OpenSpec.upto poolKeptSpec)

end Rows
end Go.Proofs.Ytjihboddejaelaa
