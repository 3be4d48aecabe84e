/-
  The law PoolKept: what holds between its acts.
-/
import Derived.Test.YtjihboddejaelaaPoolJq
import Derived.Deep.CutBlock
import Derived.Deep.DeepCutAuto
import Derived.Deep.RegionHeld3
import Derived.BigQuiet
import Derived.Test.YtjihboddejaelaaPk7
namespace Go.Proofs.Ytjihboddejaelaa
set_option linter.unusedVariables false
set_option linter.unusedSimpArgs false
open Go.RowKit
open Go.BigFrame
open Go.Maps
attribute [local go_sem] OpGood goodUpon fillA Act.put
set_option linter.unusedVariables false
set_option linter.unusedSimpArgs false

def firstC : Code → Code
  | .seq a _ => a
  | c => c
def innerC : Code → Code
  | .block _ c => c
  | .loop c => c
  | c => c
theorem pm_onDisk {w w' : World} {b b' : List (Option Nat)} {gd g m1 m2 p e h t : Nat} {A : List Nat} {P : Pl} {D' : Dk} (H : PM w b gd g m1 m2 p e h t A P) (hD : DP w' b' gd D') (ht : Turn b b' w w') :
    PM w' b' gd g m1 m2 p e h t A { P with L := { P.L with D := D' } } ∧ Turn (allB b g m1 m2 p e h t A) (allB b' g m1 m2 p e h t A) w w' := by
  obtain ⟨h1, h2⟩ := H.log.onDisk hD ht
  exact H.onLog (L' := { P.L with D := D' }) h1 h2

theorem KP.begin {w0 W W2 : World} {gd p xk mk c q a b : Nat} {x : Bx} {P : Pl} {T : Nat → Option ByteArray} (hp : PX W gd p x P) (low : ∀ k, some k ∈ x.all p → w0.heap.size ≤ k) (bel : Below w0.heap.size w0 W) (hk : Sheet W (x.all p) w0.heap.size xk mk c q T)
    (hb : Below W.heap.size W W2) (ha : Has W2 a 74 #[.int .i64 q, .map (some mk)]) (hbb : Has W2 b 74 #[.int .i64 q, .map (some mk)]) (la : W.heap.size ≤ a) (lb : W.heap.size ≤ b) (hab : a ≠ b) :
    KP w0 W2 gd p x P xk a b mk mk mk c q q q T T T := by
  have hz := bel.size
  have hlt : ∀ k, some k ∈ x.all p → k < W.heap.size := fun k hk => PM.lt hp k hk
  have hx := hk.has.lt
  exact ⟨PM.below hp hb, low, bel_step bel hb bel.size, hk.below hb, ⟨ha, hk.map.below hb, fun h2 => (by have := hlt _ h2; omega), hk.offm, by omega, hk.lowm⟩, ⟨hbb, hk.map.below hb, fun h2 => (by have := hlt _ h2; omega), hk.offm, by omega, hk.lowm⟩, by omega, by omega, hab⟩

/-- ahead of act i -/
structure GoP (w0 w : World) (gd p xk xn xm i : Nat) (x : Bx) (P : Pl) (B N : Bk) (mk mn mm qm fB : Nat) (TK TN TM : Nat → Option ByteArray) : Prop where
  kp : KP w0 w gd p x P xk xn xm mk mn mm i B.q N.q qm TK TN TM
  st : St P B N TK TN fB (1 + 3 * i) (1 + i)
  fit : Fit P.L.D ((251 - i) * 100000)

/-- what is good of the values in 'now = sheets{max(now.pages, n+1), with(now.text, n, sheet(a.At))}' -/
def allocP (xn z na q q' mn c : Nat) (at_ : Int) (S : ByteArray) (T : Nat → Option ByteArray) (lo : Nat) : Nat → Value → World → Prop
  | 0, u, _ => u = .pointer (some ⟨xn, 0, none⟩)
  | 1, u, _ => u = .int .i64 q
  | 2, u, _ => u = .int .i64 na
  | 3, u, _ => u = .int .i64 ((na : Int) + 1)
  | 4, u, _ => u = .int .i64 q'
  | 5, u, _ => u = .pointer (some ⟨xn, 1, none⟩)
  | 6, u, _ => u = .map (some mn)
  | 7, u, _ => u = .int .i64 na
  | 8, u, _ => u = .pointer (some ⟨z, 2, none⟩)
  | 9, u, _ => u = .int .i64 at_
  | 10, u, _ => u = .string S
  | 11, u, w => ∃ nb, u = .map (some nb) ∧ MS w nb (c + 1) (lift (setT T na S)) ∧ lo ≤ nb
  | 12, u, w => ∃ nb, u = .agg #[.int .i64 q', .map (some nb)] ∧ MS w nb (c + 1) (lift (setT T na S)) ∧ lo ≤ nb
  | _, _, _ => True
theorem allocP_stable (xn z na q q' mn c : Nat) (at_ : Int) (S : ByteArray) (T : Nat → Option ByteArray) (lo : Nat) : ∀ j u (w w' : World), Below w.heap.size w w' → allocP xn z na q q' mn c at_ S T lo j u w → allocP xn z na q q' mn c at_ S T lo j u w'
  | 0, _, _, _, _, h => h
  | 1, _, _, _, _, h => h
  | 2, _, _, _, _, h => h
  | 3, _, _, _, _, h => h
  | 4, _, _, _, _, h => h
  | 5, _, _, _, _, h => h
  | 6, _, _, _, _, h => h
  | 7, _, _, _, _, h => h
  | 8, _, _, _, _, h => h
  | 9, _, _, _, _, h => h
  | 10, _, _, _, _, h => h
  | 11, _, _, _, hb, ⟨x, e, h, l⟩ => ⟨x, e, h.below hb, l⟩
  | 12, _, _, _, hb, ⟨x, e, h, l⟩ => ⟨x, e, h.below hb, l⟩
  | _ + 13, _, _, _, _, _ => trivial

/-- behind an act, ahead of the reading -/
def MidP (w0 w : World) (gd p xk xn xm i : Nat) (E : Int) : Prop :=
  (E = 0 ∧ ∃ (x : Bx) (P : Pl) (B C : Bk) (mk mn mm qm fB : Nat) (TK TN TM : Nat → Option ByteArray), KP w0 w gd p x P xk xn xm mk mn mm (i + 1) B.q C.q qm TK TN TM ∧ St P B C TK TN fB (1 + 3 * (i + 1)) (1 + (i + 1)) ∧ Fit P.L.D ((250 - i) * 100000 + 1000)) ∨ (E ≠ 0 ∧ EndP w0 w gd p xk xn xm false)

end Go.Proofs.Ytjihboddejaelaa
