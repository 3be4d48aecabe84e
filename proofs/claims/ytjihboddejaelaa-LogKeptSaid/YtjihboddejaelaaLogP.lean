/-
  What each operation of a log in plain Lean keeps; that what the cells of a log tell turns as the log does. No program in sight.
-/
import Derived.Test.YtjihboddejaelaaLog10
namespace Go.Proofs.Ytjihboddejaelaa
open Go.RowKit
set_option linter.unusedVariables false
set_option linter.unusedSimpArgs false

def Lg.rw (L : Lg) : Rw := ⟨L.D, L.fs.length, L.pages, fun x => lastAt L.fs x, L.kept, L.pages, fun x => lastAt (L.fs.take L.kept) x, L.slot, L.number⟩

theorem turn_ok_seen {D : Dk} (h : D.ok) : D.turn.ok ∧ ∀ k, D.turn.seen k = D.seen k := ⟨Dk.turn_ok h, D.turn_seen⟩
theorem sync_seen (D : Dk) (f : Nat) (hf : f < 2) (k : Nat) (hk : k < 2) : (D.sync f).seen k = D.seen k := by
  unfold Dk.sync
  rw [if_pos (by omega)]
  split
  · exact D.turn_seen k
  · exact D.syncT_seen f k hf hk
theorem fitsF_iff {f a n : Nat} : fitsF f a n ↔ f < 2 ∧ a + n ≤ 67108864 := by unfold fitsF; omega
/-- a text is written to a file: the other bytes stay -/
theorem write_seen (D : Dk) (f a : Nat) (s : ByteArray) (k : Nat) : (D.write f a s).seen k = if (f < 2 ∧ a + s.size ≤ 67108864) ∧ ¬ D.stops ∧ f = k then putL (D.seen k) a s.data.toList else D.seen k := by
  unfold Dk.write
  by_cases h : fitsF f a s.size
  · have h2 := fitsF_iff.1 h
    rw [if_pos h]
    by_cases hs : D.stops
    · rw [if_neg (fun h3 => h3.2.1 hs)]
      unfold Dk.change; rw [if_pos hs]; exact D.turn_seen k
    · rw [Dk.change_seen _ _ hs]
      simp only [Int.toNat_natCast]
      by_cases hk : f = k
      · have h3 : (f < 2 ∧ a + s.size ≤ 67108864) ∧ ¬ D.stops ∧ f = k := ⟨h2, hs, hk⟩
        rw [if_pos hk, if_pos h3]
        unfold Ch.done; simp
      · rw [if_neg hk, if_neg (fun h3 => hk h3.2.2)]
  · rw [if_neg h, if_neg (fun h3 => h (fitsF_iff.2 h3.1))]
theorem cut_seen (D : Dk) (f a : Nat) (k : Nat) (hk : f ≠ k) : (D.cutD f a).seen k = D.seen k := by
  unfold Dk.cutD
  split
  · unfold Dk.change
    split
    · exact D.turn_seen k
    · show seenL (D.waits ++ [_]) k (D.turn.lasts k) = _
      rw [seenL_snoc, if_neg (by show ¬ (f : Int).toNat = k; omega)]
      have : D.turn.lasts k = D.lasts k := by unfold Dk.turn; split <;> rfl
      rw [this]; rfl
  · rfl
theorem Lg.ok.onDisk {L : Lg} (h : L.ok) {D' : Dk} (hD : D'.ok) (hs : ∀ i f, L.fs[i]? = some f → partL (D'.seen 1) (64 + 1028 * i) 1028 = partL (L.D.seen 1) (64 + 1028 * i) 1028) : ({ L with D := D' } : Lg).ok :=
  ⟨hD, h.frames, fun i f hf => (hs i f hf).trans (h.lies i f hf), h.top, h.kept, h.pages, h.slot, h.number⟩
theorem Lg.ok.same {L : Lg} (h : L.ok) {D' : Dk} (hD : D'.ok) (hs : D'.seen 1 = L.D.seen 1) : ({ L with D := D' } : Lg).ok := h.onDisk hD fun i f hf => by rw [hs]
theorem Lg.ok.there {L : Lg} (h : L.ok) {i : Nat} {f : Fr} (hf : L.fs[i]? = some f) : 64 + 1028 * i + 1028 ≤ (L.D.seen 1).length :=
  partL_full (h.lies i f hf) (Fr.bytes_len f (h.frames f (List.mem_of_getElem? hf)).2) (by omega)
theorem bsOf_list (l : List UInt8) : (bsOf l).data.toList = l := bsOf_data l

set_option maxRecDepth 100000 in
theorem append_ok {L : Lg} (h : L.ok) (n : Int) (t : ByteArray) : (L.append n t).ok := by
  unfold Lg.append
  split
  · rename_i hf
    obtain ⟨⟨h1, h2, h3⟩, h4⟩ := hf
    have hat : 64 + 1028 * (L.fs.length + 1) ≤ 67108864 := by unfold Lg.at_ at h4; omega
    have hz : (Fr.bytes ⟨n.toNat, t⟩).length = 1028 := Fr.bytes_len _ h3
    have hw := Dk.write_ok h.disk 1 L.at_ (bsOf (Fr.bytes ⟨n.toNat, t⟩))
    have hs := write_seen L.D 1 L.at_ (bsOf (Fr.bytes ⟨n.toNat, t⟩)) 1
    by_cases hst : L.D.stops
    · rw [if_neg (fun h5 => h5.2.1 hst)] at hs
      rw [if_pos hst]
      exact h.same hw hs
    · rw [if_pos ⟨⟨by omega, by rw [bsOf_size, hz]; exact h4⟩, hst, rfl⟩, bsOf_list] at hs
      rw [if_neg hst]
      refine ⟨hw, fun f hf => ?_, fun i f hf => ?_, .inl ?_, ?_, h.pages, h.slot, h.number⟩
      · rcases List.mem_append.1 hf with hf | hf
        · exact h.frames f hf
        · rw [List.mem_singleton.1 hf]; exact ⟨by show n.toNat < _; omega, h3⟩
      · show partL ((L.D.write 1 L.at_ _).seen 1) _ _ = _
        rw [show ((1 : Nat) : Int) = 1 from rfl] at hs
        rw [hs]
        by_cases hi : i < L.fs.length
        · simp only [] at hf
          rw [List.getElem?_append_left hi] at hf
          rw [partL_put (h.there hf) (.inl (by show _ ≤ 64 + 1028 * L.fs.length; omega))]
          exact h.lies i f hf
        · simp only [] at hf
          rw [List.getElem?_append_right (by omega)] at hf
          obtain ⟨hi2, hf2⟩ := List.getElem?_eq_some_iff.1 hf
          simp only [List.length_singleton] at hi2
          have hi3 : i = L.fs.length := by omega
          subst hi3
          simp at hf2
          subst hf2
          have := partL_put_same (L.D.seen 1) L.at_ (Fr.bytes ⟨n.toNat, t⟩)
          rw [hz] at this
          exact this
      · show 64 + 1028 * (L.fs ++ [_]).length ≤ _
        rw [List.length_append, List.length_singleton]
        exact hat
      · show L.kept ≤ (L.fs ++ [_]).length
        have := h.kept
        rw [List.length_append]; omega
  · exact h
theorem tellD_seen (L : Lg) (f p : Nat) (hsl : L.slot < 2) (b n : Nat) (hb : 64 ≤ b) (hl : b + n ≤ (L.D.seen 1).length) : partL ((L.tellD f p).seen 1) b n = partL (L.D.seen 1) b n := by
  have hs := write_seen L.D 1 (16 + 24 * (1 - L.slot)) (bsOf (slotL (L.number % 3 + 1) f p)) 1
  unfold Lg.tellD
  rw [show ((1 : Nat) : Int) = 1 from rfl] at hs
  rw [hs]
  split
  · exact partL_put hl (.inr (by rw [bsOf_list, slotL_len]; omega))
  · rfl
theorem tellD_ok {L : Lg} (h : L.ok) (f p : Nat) : (L.tellD f p).ok := Dk.write_ok h.disk _ _ _
theorem Lg.ok.tell {L : Lg} (h : L.ok) {f p : Nat} (hf : f ≤ L.fs.length) (hp : p < 4294967296) : (L.tell f p).ok := by
  unfold Lg.tell
  have ht : ∀ i g, L.fs[i]? = some g → partL ((L.tellD f p).seen 1) (64 + 1028 * i) 1028 = partL (L.D.seen 1) (64 + 1028 * i) 1028 := fun i g hg => tellD_seen L f p h.slot _ _ (by omega) (h.there hg)
  have hsy : ((L.tellD f p).sync 1).seen 1 = (L.tellD f p).seen 1 := sync_seen _ 1 (by omega) 1 (by omega)
  have hok := Dk.sync_ok (tellD_ok h f p) 1
  split
  · exact h.onDisk (tellD_ok h f p) ht
  · split
    · exact h.onDisk hok fun i g hg => by rw [hsy]; exact ht i g hg
    · exact ⟨hok, h.frames, fun i g hg => by show partL (((L.tellD f p).sync 1).seen 1) _ _ = _; rw [hsy, ht i g hg]; exact h.lies i g hg, h.top, hf, hp, by show 1 - L.slot < 2; omega, by show L.number % 3 + 1 < 4; omega⟩
theorem Lg.ok.sync1 {L : Lg} (h : L.ok) (k : Nat) (hk : k < 2) : ({ L with D := L.D.sync k } : Lg).ok := h.same (Dk.sync_ok h.disk k) (sync_seen L.D k hk 1 (by omega))
theorem commit_ok {L : Lg} (h : L.ok) (n : Int) (t : ByteArray) (p : Int) : (L.commit n t p).ok := by
  unfold Lg.commit
  split
  · rename_i hp
    split
    · split
      · exact (append_ok h n t).sync1 1 (by omega)
      · exact Lg.ok.tell ((append_ok h n t).sync1 1 (by omega)) (Nat.le_refl _) (by omega)
    · exact append_ok h n t
  · exact h
theorem back_ok {L : Lg} (h : L.ok) : L.back.ok := by
  unfold Lg.back
  refine ⟨h.disk, fun f hf => h.frames f (List.mem_of_mem_take hf), fun i f hf => h.lies i f ?_, ?_, ?_, h.pages, h.slot, h.number⟩
  · simp only [List.getElem?_take] at hf
    split at hf
    · exact hf
    · cases hf
  · rcases h.top with h1 | h1
    · refine .inl ?_
      show 64 + 1028 * (L.fs.take L.kept).length ≤ _
      rw [List.length_take]; omega
    · refine .inr ?_
      show L.fs.take L.kept = []
      rw [h1, List.take_nil]
  · show L.kept ≤ (L.fs.take L.kept).length
    have := h.kept
    rw [List.length_take]; omega

end Go.Proofs.Ytjihboddejaelaa
