/-
  Maps from int to string; with of package relstorekeep.
-/
import Derived.Test.YtjihboddejaelaaLog4
import Derived.Maps.RangeWalk
import Derived.Maps.OwnSet
import Derived.Maps.OwnOps
import Derived.Maps.Ext
import Derived.Maps.StringElems
namespace Go.Proofs.Ytjihboddejaelaa
open Go.RowKit
open Go.BigFrame
open Go.Maps
set_option linter.unusedVariables false
set_option linter.unusedSimpArgs false

theorem zeroStr (w : World) : (zeroValue 9).run Try.prog w = .ok (.string ⟨#[]⟩) w := by kernel_rfl
/-- D holds what f says -/
def Tells (D : DataW Unit) (f : Int → Option ByteArray) : Prop := ∀ x : Int, (f x = none → Maps.has D (.int .i64 x) = false) ∧ ∀ t, f x = some t → ∀ z, D.atKey (.int .i64 x) z = .lit (.string t.data.toList)
/-- block b is a map of at most n entries; f: what it holds -/
def MS (w : World) (b n : Nat) (f : Int → Option ByteArray) : Prop := ∃ D : DataW Unit, w.ownsMap Try.prog 3 (plainElem Try.prog 9) b n D ∧ Tells D f
section
variable {w w' : World} {b n : Nat} {f : Int → Option ByteArray}
theorem MS.lt (h : MS w b n f) : b < w.heap.size := by
  obtain ⟨D, h1, h2⟩ := h
  exact h1.lt
theorem MS.block (h : MS w b n f) (hb : w'.heap[b]? = w.heap[b]?) : MS w' b n f := by
  obtain ⟨D, ⟨es, cl, h1, h2⟩, h3⟩ := h
  exact ⟨D, ⟨es, cl, hb.trans h1, h2⟩, h3⟩
theorem MS.below (h : MS w b n f) (hb : Below w.heap.size w w') : MS w' b n f := h.block (hb.block b h.lt)
theorem MS.mono (h : MS w b n f) {m : Nat} (hm : n ≤ m) : MS w b m f := by
  obtain ⟨D, h1, h2⟩ := h
  exact ⟨D, h1.mono hm, h2⟩
theorem MS.turn {c c' : List (Option Nat)} (h : MS w b n f) (ht : Turn c c' w w') (hg : some b ∉ c) : MS w' b n f := h.block (ht.block b h.lt hg)
theorem MS.made (w : World) : MS (w.alloc (.map #[] 0)) w.heap.size 0 (fun _ => none) := ⟨_, World.ownsMap_made _ _ _ _, fun x => ⟨fun _ => rfl, fun t h => by cases h⟩⟩
end
theorem Tells.put {D : DataW Unit} {f : Int → Option ByteArray} (hm : Maps.IsMap D) (h : Tells D f) (k : Int) (t : ByteArray) : Tells (D.put (.int .i64 k) (.lit (.string t.data.toList))) (fun y => if y = k then some t else f y) := fun x => by
  dsimp only
  by_cases hx : x = k
  · subst hx
    rw [if_pos rfl]
    exact ⟨fun h => (by cases h), fun t' h z => by cases h; exact atKey_put_same (k := .int .i64 x) hm trivial _ _⟩
  · have hne : (Lit.int .i64 x) ≠ .int .i64 k := fun e => by cases e; exact hx rfl
    rw [if_neg hx]
    refine ⟨fun h1 => ?_, fun t' h1 z => ?_⟩
    · rw [has_put_other hne]; exact (h x).1 h1
    · rw [atKey_put_other hne]; exact (h x).2 t' h1 z
theorem MS.put {w : World} {b n : Nat} {f : Int → Option ByteArray} (h : MS w b n f) (hn : n ≤ 1000000) (k : Int) (s : ByteArray) (hk : (Lit.int .i64 k).wf = true) (hs : s.size ≤ maxLen) :
    ∃ w', (Instr.mapUpdate 42 (.map (some b)) (.int .i64 k) (.string s)).run Try.prog w = .ok () w' ∧ MS w' b (n + 1) (fun y => if y = k then some s else f y) ∧ w.grownBy w' (some b) := by
  obtain ⟨D, h1, h2⟩ := h
  obtain ⟨w', hr, h3, h4⟩ := h1.update lawInt Try.underlying42 (by unfold maxLen; omega) (keyOf_int_mk Try.underlying3 hk) (plainElem_string Try.underlying9 hs)
  exact ⟨w', hr, ⟨_, h3, h2.put h1.isMap k s⟩, h4⟩
theorem sameKey_int {a b : Int} (h : a ≠ b) : (Lit.int .i64 a).sameKey (.int .i64 b) = false := sameKey_ne fun e => by cases e; exact h rfl
/-- what is no longer to come of f, and s at k -/
def Half2 (D : DataW Unit) (f : Int → Option ByteArray) (left : Lit → Bool) (k : Int) (s : ByteArray) : Prop :=
  (∀ z, D.atKey (.int .i64 k) z = .lit (.string s.data.toList)) ∧ ∀ x : Int, x ≠ k → (f x = none → Maps.has D (.int .i64 x) = false) ∧ ∀ t, f x = some t → left (.int .i64 x) = false → ∀ z, D.atKey (.int .i64 x) z = .lit (.string t.data.toList)
theorem Half2.ends {D : DataW Unit} {f : Int → Option ByteArray} {left : Lit → Bool} {k : Int} {s : ByteArray} (h : Half2 D f left k s) (hl : ∀ z, left z = false) : Tells D (fun y => if y = k then some s else f y) := fun x => by
  dsimp only
  by_cases hx : x = k
  · subst hx
    rw [if_pos rfl]
    exact ⟨fun h => (by cases h), fun t' h1 z => by cases h1; exact h.1 z⟩
  · rw [if_neg hx]
    exact ⟨(h.2 x hx).1, fun t h1 => (h.2 x hx).2 t h1 (hl _)⟩
theorem Tells.some_of {D : DataW Unit} {f : Int → Option ByteArray} (h : Tells D f) {x : Int} {c : ByteArray} (hat : ∀ z, D.atKey (.int .i64 x) z = .lit (.string c.data.toList)) : f x = some c := by
  cases hf : f x with
  | none =>
    have h1 := (h x).1 hf
    rw [has_true_of_atKey hat] at h1
    cases h1
  | some t =>
    have h1 := (h x).2 t hf (.lit (.int .i64 0))
    rw [hat] at h1
    have h2 : c.data.toList = t.data.toList := by simpa using h1
    have h3 : c = t := by
      cases c; cases t
      simp at h2
      rw [h2]
    rw [h3]
theorem Half2.skip {D D0 : DataW Unit} {f : Int → Option ByteArray} {left : Lit → Bool} {k : Int} {s : ByteArray} (h : Half2 D f left k s) : Half2 D f (fun z => left z && !z.sameKey (.int .i64 k)) k s :=
  ⟨h.1, fun x hx => ⟨(h.2 x hx).1, fun t h1 h2 => (h.2 x hx).2 t h1 (by dsimp only at h2; rw [sameKey_int hx] at h2; simpa using h2)⟩⟩
theorem Half2.step {D D0 : DataW Unit} {f : Int → Option ByteArray} {left : Lit → Bool} {k : Int} {s : ByteArray} (h : Half2 D f left k s) (hm : Maps.IsMap D) (h0 : Tells D0 f) {y : Int} (hy : y ≠ k) {c : ByteArray} (hat : ∀ z, D0.atKey (.int .i64 y) z = .lit (.string c.data.toList)) :
    Half2 (D.put (.int .i64 y) (.lit (.string c.data.toList))) f (fun z => left z && !z.sameKey (.int .i64 y)) k s := by
  have hf := h0.some_of hat
  refine ⟨fun z => ?_, fun x hx => ?_⟩
  · rw [atKey_put_other (fun e => by cases e; exact hy rfl)]; exact h.1 z
  · by_cases hxy : x = y
    · subst hxy
      rw [hf]
      exact ⟨fun h1 => (by cases h1), fun t h1 _ z => by cases h1; exact atKey_put_same (k := .int .i64 x) hm trivial _ _⟩
    · have hne : (Lit.int .i64 x) ≠ .int .i64 y := fun e => by cases e; exact hxy rfl
      refine ⟨fun h1 => ?_, fun t h1 h2 z => ?_⟩
      · rw [has_put_other hne]; exact (h.2 x hx).1 h1
      · rw [atKey_put_other hne]
        exact (h.2 x hx).2 t h1 (by dsimp only at h2; rw [sameKey_int hxy] at h2; simpa using h2) z
theorem Half2.start (f : Int → Option ByteArray) (D0 : DataW Unit) (h0 : Tells D0 f) (k : Int) (s : ByteArray) : Half2 ((DataW.map []).put (.int .i64 k) (.lit (.string s.data.toList))) f (Maps.has D0) k s := by
  refine ⟨fun z => atKey_put_same (k := .int .i64 k) Maps.isMap_empty trivial _ _, fun x hx => ?_⟩
  have hne : (Lit.int .i64 x) ≠ .int .i64 k := fun e => by cases e; exact hx rfl
  refine ⟨fun h1 => by rw [has_put_other hne]; rfl, fun t h1 h2 z => ?_⟩
  have := has_true_of_atKey ((h0 x).2 t h1)
  rw [h2] at this; cases this
theorem make_mapS (w : World) : (Instr.makeMap 42 none).run Try.prog w = .ok (.map (some w.heap.size)) (w.alloc (.map #[] 0)) := rfl

def WithPost (w : World) (n : Nat) (f : Int → Option ByteArray) (e : Ending) (w' : World) : Prop := ∃ b', e = .returned (.map (some b')) ∧ MS w' b' n f ∧ w.heap.size ≤ b' ∧ Below w.heap.size w w'

set_option maxRecDepth 100000 in
set_option maxHeartbeats 1600000 in
theorem keep_with (b n : Nat) (f : Int → Option ByteArray) (k : Int) (s : ByteArray) (w : World) (hn : n ≤ 100000) (h : MS w b n f) (hk : (Lit.int .i64 k).wf = true) (hs : s.size ≤ maxLen) :
    Calls Try.prog 18 #[.map (some b), .int .i64 k, .string s] w (WithPost w (n + 1) (fun y => if y = k then some s else f y)) := by
  obtain ⟨D0, hown, hD⟩ := h
  have hmm := make_mapS
  have hbl := hown.lt
  have hsz := hown.size_le
  have HT := Lib.hid hD
  obtain ⟨w1, hrun, hput, hg⟩ := (World.ownsMap_made (H := Unit) w Try.prog 3 (plainElem Try.prog 9)).update lawInt Try.underlying42 (by unfold maxLen; omega) (keyOf_int_mk Try.underlying3 hk) (plainElem_string Try.underlying9 hs)
  have hb1 : Below w.heap.size w w1 := ((Below.refl _ _).alloc (Nat.le_refl _) _).grown hg (by simp) (fun j hj => by cases hj; exact Nat.le_refl _)
  have hs1 := hg.size
  rw [World.size_alloc] at hs1
  have hown1 : w1.ownsMap Try.prog 3 (plainElem Try.prog 9) b n D0 := (hown.alloc _).kept hg (by simp; omega)
  have HS := Lib.hid hs
  have H2 := Lib.hid (Half2.start f D0 hD k s)
  have HP := Lib.hid hput
  have HB := Lib.hid hb1
  clear hD hput hb1 hs hg
  go_enter Try.func18, Try.ntmps18
  go_wp2_with (first
    | (at_range; refine wpList_range_own _ rfl _ 42 rfl 3 9 lawInt Try.underlying42 _ b n _ rfl hown1 ?_; intro w0 hrg0 hg0 hs0)
    | go_in)
  go_frame
  go_loopw [16] (fun _ wr => ∃ (left : Lit → Bool) (cnt : Nat) (Dout : DataW Unit), wr.ranges Try.prog 3 (plainElem Try.prog 9) b w1.heap.size n D0 left cnt ∧ cnt ≤ Maps.size D0 ∧
      wr.ownsMap Try.prog 3 (plainElem Try.prog 9) w.heap.size (1 + Maps.size D0 - cnt) Dout ∧ Half2 Dout f left k s ∧ Below w.heap.size w wr)
    (fun _ wr => wr.rangeLeft b w1.heap.size)
  case atStart =>
    exact ⟨_, _, _, hrg0, Nat.le_refl _, (HP.out.kept hg0 (by simp)).mono (by omega), H2.out, HB.out.grown hg0 (by omega) (fun j hj => by cases hj)⟩
  case round =>
    obtain ⟨left, cnt, Dout, hrg, hcs, hout, hA, hnx⟩ := hrel
    have HAA := Lib.hid hA
    clear hrg0 hg0 hs0 hA H2 HP HB hrun hown1
    go_wp2_with (first
      | (at_next; refine wpList_next_ranges_is _ rfl _ rfl 3 9 .i64 lawInt Try.underlying3 Try.underlying9 b w1.heap.size n _ _ _ rfl hrg ?_ ?_)
      | go_in)
    · intro hc0 hl0
      go_wp2
      go_ret
      subst hc0
      exact ⟨_, rfl, ⟨_, hout.mono (by omega), HAA.out.ends hl0⟩, Nat.le_refl _, hnx⟩
    · intro x c w2 cnt2 hwx hwc hlx hat hrg2 hlt hg2 hs2 hen
      have HAT := Lib.hid hat
      have HLX := Lib.hid hlx
      have hout2 := hout.kept hg2 (by simp; omega)
      clear hat hlx
      by_cases hxk : x = k
      · subst hxk
        go_wp2_with go_in
        go_roundw
        case rel => exact ⟨_, cnt2, Dout, hrg2, by omega, hout2.mono (by omega), HAA.out.skip (D0 := D0), hnx.grown hg2 hnx.size (fun j hj => by cases hj; omega)⟩
        case measure => rw [hrg2.left_eq, hrg.left_eq]; exact hlt
      · have hne : (x == k) = false := by simpa using hxk
        go_wp2_with (first
          | (at_mapUpdate; refine wpList_mapUpdate_own _ rfl _ _ _ 42 rfl 3 9 lawInt Try.underlying42 _ w.heap.size _ _ rfl hout2 (by unfold maxLen; omega) _ _ _ rfl rfl (keyOf_int_mk Try.underlying3 hwx) _ [] (plainElem_string Try.underlying9 hwc) ?_; intro w3 hout3 hg3; go_frame)
          | go_in)
        have hrg3 := hrg2.kept hg3 (fun e => by have := Option.some.inj e; omega) (fun e => by have := Option.some.inj e; omega)
        go_roundw
        case rel =>
          exact ⟨_, cnt2, _, hrg3, by omega, hout3.mono (by omega), HAA.out.step hout.isMap HT.out hxk HAT.out,
            (hnx.grown hg2 hnx.size (fun j hj => by cases hj; omega)).grown hg3 (by have := hnx.size; omega) (fun j hj => by cases hj; omega)⟩
        case measure => rw [hrg3.left_eq, hrg.left_eq]; exact hlt

end Go.Proofs.Ytjihboddejaelaa
