/-
  The text of a sheet; that the operations of a log stay within the bounds of their contracts.
-/
import Derived.Test.YtjihboddejaelaaTurns
import Derived.Test.YtjihboddejaelaaDiskR1
import Derived.Test.YtjihboddejaelaaLog12
import Derived.Test.YtjihboddejaelaaLogP
namespace Go.Proofs.Ytjihboddejaelaa
open Go.RowKit
open Go.BigFrame
open Go.Maps
set_option linter.unusedVariables false
set_option linter.unusedSimpArgs false

theorem append_fit {L : Lg} {k : Nat} (h : Fit L.D (k + 1)) (n : Int) (t : ByteArray) : Fit (L.append n t).D k := by
  unfold Lg.append
  split
  · exact h.write _ _ _
  · exact h.less (by omega)
theorem append_rest (L : Lg) (n : Int) (t : ByteArray) : (L.append n t).slot = L.slot ∧ (L.append n t).number = L.number ∧ (L.append n t).kept = L.kept ∧ (L.append n t).pages = L.pages ∧ (L.append n t).fs.length ≤ L.fs.length + 1 := by
  unfold Lg.append
  split
  · refine ⟨rfl, rfl, rfl, rfl, ?_⟩
    show (if L.D.stops then L.fs else L.fs ++ [_]).length ≤ _
    split
    · exact Nat.le_succ _
    · rw [List.length_append]; exact Nat.le_refl _
  · exact ⟨rfl, rfl, rfl, rfl, Nat.le_succ _⟩
def sheetAt (n : Int) (i : Nat) : UInt8 := UInt8.ofNat ((n * ((i : Int) / 100 + 1)) % 256).toNat
/-- the first k bytes are laid -/
def sheetL (n : Int) (k : Nat) : List UInt8 := (List.range 1024).map fun i => if i < k then sheetAt n i else 0
def sheetB (n : Int) : ByteArray := bsOf (sheetL n 1024)
theorem sheetL_len (n : Int) (k : Nat) : (sheetL n k).length = 1024 := by simp [sheetL]
theorem sheetB_size (n : Int) : (sheetB n).size = 1024 := by unfold sheetB; rw [bsOf_size, sheetL_len]
theorem sheetL_get (n : Int) (k i : Nat) (hi : i < 1024) : (sheetL n k)[i]? = some (if i < k then sheetAt n i else 0) := by
  unfold sheetL
  rw [List.getElem?_map, List.getElem?_range hi]; rfl
theorem sheetL_succ (n : Int) (k : Nat) (hk : k < 1024) : sheetL n (k + 1) = (sheetL n k).set k (sheetAt n k) := by
  refine List.ext_getElem? fun i => ?_
  by_cases hi : i < 1024
  · rw [sheetL_get n _ i hi, List.getElem?_set]
    by_cases hki : k = i
    · subst hki
      rw [if_pos (Nat.lt_succ_self k), if_pos rfl, if_pos (show k < (sheetL n k).length by rw [sheetL_len]; exact hk)]
    · rw [if_neg hki, sheetL_get n _ i hi]
      by_cases h : i < k
      · rw [if_pos h, if_pos (by omega)]
      · rw [if_neg h, if_neg (by omega)]
  · rw [List.getElem?_eq_none (by rw [sheetL_len]; omega), List.getElem?_eq_none (by rw [List.length_set, sheetL_len]; omega)]
theorem sheet_val (n : Int) (i : Nat) : wrap64 (n * ((i : Int) / 100 + 1)) % 256 = ((sheetAt n i).toNat : Int) := by
  unfold sheetAt
  generalize n * ((i : Int) / 100 + 1) = x
  rw [UInt8.toNat_ofNat']
  unfold wrap64
  omega
theorem madeZeros (n : Nat) : madeCells #[Value.int .u8 0] n = (u8s (List.replicate n 0)).toArray := by
  apply Array.toList_inj.1
  rw [show (u8s (List.replicate n 0)).toArray.toList = List.replicate n (Value.int .u8 0) by simp [u8s, u8v]]
  refine List.eq_replicate_iff.2 ⟨by simp [size_madeCells], fun b hb => ?_⟩
  simp only [madeCells, Array.toList_map, List.mem_map] at hb
  obtain ⟨a, _, rfl⟩ := hb
  show (#[Value.int .u8 0] : Array Value)[a % 1]! = _
  rw [Nat.mod_one]; rfl
theorem sheetL_zero (n : Int) : sheetL n 0 = List.replicate 1024 0 := by
  refine List.eq_replicate_iff.2 ⟨sheetL_len n 0, fun b hb => ?_⟩
  unfold sheetL at hb
  obtain ⟨i, _, rfl⟩ := List.mem_map.1 hb
  rw [if_neg (by omega)]
theorem u8s_set (l : List UInt8) (k : Nat) (b : UInt8) : (u8s l).toArray.setIfInBounds k (.int .u8 b.toNat) = (u8s (l.set k b)).toArray := by
  apply Array.toList_inj.1
  simp [u8s, u8v, List.map_set]

section
variable {D : Dk} {k : Nat}
theorem tell_fit {L : Lg} (h : Fit L.D (k + 2)) (f p : Nat) : Fit (L.tell f p).D k := by
  have h1 : Fit (L.tellD f p) (k + 1) := h.write _ _ _
  unfold Lg.tell
  split
  · exact h1.less (by omega)
  · have h2 : Fit ((L.tellD f p).sync 1) k := h1.sync 1
    split
    · exact h2
    · exact h2
theorem commit_fit {L : Lg} (h : Fit L.D (k + 4)) (n : Int) (t : ByteArray) (p : Int) : Fit (L.commit n t p).D k := by
  have h1 : Fit (L.append n t).D (k + 3) := append_fit h n t
  have h2 : Fit ((L.append n t).D.sync 1) (k + 2) := h1.sync _
  unfold Lg.commit
  split
  · split
    · split
      · exact h2.less (by omega)
      · exact tell_fit (L := { L.append n t with D := (L.append n t).D.sync 1 }) h2 _ _
    · exact h1.less (by omega)
  · exact h.less (by omega)
theorem put1_fitK {L : Lg} {X : Dk} {m K : Nat} (h : Fit X (K + (70000 - min m 65537))) : Fit (L.put1 X m) (K + (70000 - min (m + 1) 65537)) := by
  unfold Lg.put1
  split
  · by_cases hm : m < 65537
    · have h2 : Fit X ((K + (70000 - min (m + 1) 65537)) + 1) := h.less (by omega)
      exact h2.write _ _ _
    · have hF : ∀ s : ByteArray, ¬ fitsF 0 (1024 * m : Nat) s.size := fun s => by unfold fitsF; omega
      unfold Dk.write; rw [if_neg (hF _)]; exact h.less (by omega)
  · exact h.less (by omega)
theorem puts_fit {L : Lg} {K : Nat} : ∀ (j m : Nat) (X : Dk), Fit X (K + (70000 - min m 65537)) → Fit (L.puts j m X).1 (K + 4)
  | 0, m, X, h => h.less (by omega)
  | j + 1, m, X, h => by
    rw [Lg.puts]
    split
    · exact puts_fit j (m + 1) _ (put1_fitK h)
    · exact (put1_fitK (L := L) h).less (by omega)
theorem check3_fit {L : Lg} {X : Dk} (h : Fit X (k + 4)) : Fit (L.check3 X).1.D k := by
  have h1 : Fit (X.cutD 0 (1024 * L.pages : Nat)) (k + 3) := h.cut _ _
  have h2 : Fit ((X.cutD 0 (1024 * L.pages : Nat)).sync 0) (k + 2) := h1.sync _
  have h3 : Fit (({ L with D := (X.cutD 0 (1024 * L.pages : Nat)).sync 0 } : Lg).tell 0 L.pages).D k := tell_fit (L := { L with D := (X.cutD 0 (1024 * L.pages : Nat)).sync 0 }) h2 _ _
  unfold Lg.check3
  split
  · exact h1.less (by omega)
  · split
    · exact h2.less (by omega)
    · dsimp only
      split
      · exact h3
      · exact h3
theorem checkpoint_fit {L : Lg} (h : Fit L.D (k + 70000)) : Fit L.checkpoint.1.D k := by
  have h1 : Fit (L.puts L.pages 0 L.D).1 (k + 4) := puts_fit _ _ _ (h.less (by omega))
  unfold Lg.checkpoint
  split
  · exact h.less (by omega)
  · split
    · exact h.less (by omega)
    · split
      · exact h1.less (by omega)
      · exact check3_fit h1
theorem opened_fit (h : Fit D (k + 4)) : Fit (Lg.opened D).D k := by
  unfold Lg.opened
  split
  · have h1 : Fit (D.cutD 1 0) (k + 3) := h.cut _ _
    have h2 : Fit ((D.cutD 1 0).sync 1) (k + 2) := h1.sync _
    have h3 : Fit (((D.cutD 1 0).sync 1).write 1 0 (bsOf (markL ++ slotL 1 0 ((D.seen 0).length / 1024)))) (k + 1) := h2.write _ _ _
    have h4 : Fit (anewD D) k := h3.sync 1
    generalize anewD D = X at h4 ⊢
    exact h4
  · exact h.less (by omega)
theorem opened_calm (h : D.calm) : (Lg.opened D).D.calm := by
  unfold Lg.opened
  split
  · have h4 : (anewD D).calm := (((h.cut 1 0).sync 1).write 1 0 (bsOf (markL ++ slotL 1 0 ((D.seen 0).length / 1024)))).sync 1
    generalize anewD D = X at h4 ⊢
    exact h4
  · exact h
theorem crash_calm (D : Dk) (ks : List Int) : (D.crash ks).calm := ⟨rfl, rfl⟩
theorem crash_fit (h : Fit D k) (ks : List Int) : Fit (D.crash ks) k := ⟨Dk.crash_ok h.ok ks, h.count, by show 0 + k ≤ _; have := h.waits; omega⟩
theorem fail_fit (h : Fit D k) {n : Int} (hn : n ≤ 9223372036854775807) : Fit (D.fail n) k := ⟨Dk.fail_ok h.ok hn, h.count, h.waits⟩
theorem new_fit : Fit Dk.new 30000000 := ⟨Dk.new_ok, by decide, by decide⟩
end

end Go.Proofs.Ytjihboddejaelaa
