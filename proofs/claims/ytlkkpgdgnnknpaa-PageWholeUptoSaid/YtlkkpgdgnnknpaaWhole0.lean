/-
  A page with one byte that is another one is told, in plain Lean; a new row of bytes in memory; pick.
-/
import Derived.Test.YtlkkpgdgnnknpaaPage9
import Derived.Laws.IdiomStrings
namespace Go.Proofs.Ytlkkpgdgnnknpaa
open Go.RowKit
open Go.BigFrame
set_option linter.unusedVariables false

theorem getD_set8 (l : List UInt8) (i j : Nat) (y : UInt8) (hi : i < l.length) : (l.set i y).getD j 0 = if i = j then y else l.getD j 0 := by
  rw [List.getD_eq_getElem?_getD, List.getD_eq_getElem?_getD, List.getElem?_set]
  split
  · rename_i h; subst h; simp [hi]
  · rfl
theorem at32_set_far {l : List UInt8} {i : Nat} {y : UInt8} (hi : i < l.length) (h : 4 ≤ i) : at32N (l.set i y) 0 = at32N l 0 := by
  simp only [at32N, at16N, getD_set8 l i _ y hi]
  rw [if_neg (by omega), if_neg (by omega), if_neg (by omega), if_neg (by omega)]
theorem at32_set_near {l : List UInt8} {i : Nat} {y : UInt8} (hi : i < l.length) (h : i < 4) (hy : y ≠ l[i]) : at32N (l.set i y) 0 ≠ at32N l 0 := by
  have hy' : y.toNat ≠ (l.getD i 0).toNat := fun e => hy (by
    have := UInt8.toNat_inj.1 e
    rw [this, List.getD_eq_getElem?_getD, List.getElem?_eq_getElem hi]; rfl)
  simp only [at32N, at16N, getD_set8 l i _ y hi]
  have b0 := byte_lt (l.getD 0 0)
  have b1 := byte_lt (l.getD 1 0)
  have b2 := byte_lt (l.getD 2 0)
  have b3 := byte_lt (l.getD 3 0)
  have by' := byte_lt y
  match i, h with
  | 0, _ => simp [-List.getD_eq_getElem?_getD]; omega
  | 1, _ => simp [-List.getD_eq_getElem?_getD]; omega
  | 2, _ => simp [-List.getD_eq_getElem?_getD]; omega
  | 3, _ => simp [-List.getD_eq_getElem?_getD]; omega
theorem openP_told {s : ByteArray} {p : Pg} (h : openP s = some p) {i : Nat} (hi : i < s.data.toList.length) {y : UInt8} (hy : y ≠ s.data.toList[i]) : openP (bsOf (s.data.toList.set i y)) = none := by
  have hv := openP_valid.1 h
  have h0 : at32N s.data.toList 0 = crcN (s.data.toList.drop 4) := by
    apply Classical.byContradiction
    intro hne
    rw [openP_sum hne] at h
    cases h
  apply openP_sum
  rw [bsOf_data]
  by_cases h4 : i < 4
  · rw [List.drop_set_of_lt h4, ← h0]
    exact at32_set_near hi h4 hy
  · rw [at32_set_far hi (by omega), List.drop_set, if_neg h4, h0]
    exact (crcN_told (l := s.data.toList.drop 4) (i := i - 4) (by rw [List.length_drop]; omega) (by rw [List.getElem_drop]; simpa [show 4 + (i - 4) = i by omega] using hy)).symm
theorem xor_other {b : UInt8} {d : Nat} (h0 : 0 < d) (h1 : d < 256) : UInt8.ofNat (b.toNat ^^^ d) ≠ b := by
  intro e
  have hx : b.toNat ^^^ d < 2 ^ 8 := Nat.xor_lt_two_pow (by have := byte_lt b; omega) (by omega)
  have := congrArg UInt8.toNat e
  rw [UInt8.toNat_ofNat', Nat.mod_eq_of_lt hx] at this
  have h2 := congrArg (b.toNat ^^^ ·) this
  simp only [← Nat.xor_assoc, Nat.xor_self, Nat.zero_xor] at h2
  omega

/-- a new row of bytes: block g begins with them -/
def Buf (w : World) (g : Nat) (l : List UInt8) : Prop := ∃ (C : Array Value) (e : TypeId) (m : Nat), w.heap[g]? = some (.cells C e (m, m + 1)) ∧ C.size = m ∧ l.length ≤ m ∧ ∀ (i : Nat) (v : UInt8), l[i]? = some v → C[i]? = some (u8v v)
section
variable {w w' : World} {g : Nat} {l : List UInt8}
theorem Buf.lt (h : Buf w g l) : g < w.heap.size := by
  obtain ⟨C, e, m, h1, _⟩ := h
  rcases Nat.lt_or_ge g w.heap.size with h2 | h2
  · exact h2
  · rw [Array.getElem?_eq_none h2] at h1; cases h1
theorem Buf.cell (h : Buf w g l) {i : Nat} {v : UInt8} (hv : l[i]? = some v) : w.cell? ⟨g, i, none⟩ = some (u8v v) := by
  obtain ⟨C, e, m, h1, _, _, h4⟩ := h
  rw [cell_of_row w g i C e (m, m + 1) h1]; exact h4 i v hv
theorem Buf.frozen (h : Buf w g l) {i : Nat} (hi : i < l.length) : w.frozen? ⟨g, i, none⟩ = false := by
  obtain ⟨C, e, m, h1, h2, h3, _⟩ := h
  unfold World.frozen?
  simp only [h1]
  simp; omega
theorem Buf.keep (h : Buf w g l) (hb : Below w.heap.size w w') : Buf w' g l := by
  have hl := h.lt
  obtain ⟨C, e, m, h1, h2⟩ := h
  exact ⟨C, e, m, (hb.block g hl).trans h1, h2⟩
theorem Buf.set (h : Buf w g l) (i : Nat) (v : UInt8) : Buf (w.setCell ⟨g, i, none⟩ (u8v v)) g (l.set i v) := by
  obtain ⟨C, e, m, h1, h2, h3, h4⟩ := h
  refine ⟨C.setIfInBounds i (u8v v), e, m, ?_, by simpa using h2, by simpa using h3, fun j u hu => ?_⟩
  · simp [World.setCell, Array.getElem?_modify, h1]
  · rw [List.getElem?_set] at hu
    rw [Array.getElem?_setIfInBounds]
    split at hu
    · rename_i hij
      subst hij
      split at hu
      · cases hu; rw [if_pos rfl, if_pos (by omega)]
      · cases hu
    · rename_i hij
      rw [if_neg hij]; exact h4 j u hu
theorem Buf.BS (h : Buf w g l) : BS w (some ⟨g, 0, none⟩) l.length l :=
  ⟨rfl, fun _ => ⟨g, 0, rfl, h.lt, fun i v hv => by rw [Nat.zero_add]; exact h.cell hv⟩⟩
end
theorem conv_new (s : ByteArray) (w : World) : ∃ c w', (convert 9 55 (.string s)).run Try.prog w = .ok (.slice (some ⟨w.heap.size, 0, none⟩) s.size c) w' ∧ s.size ≤ c ∧ Buf w' w.heap.size s.data.toList ∧ Below w.heap.size w w' := by
  have hr := run_bytes_of_string w 9 55 5 s Try.underlying9 Try.underlying55 Try.underlying5
  have hg := grownCap_ge w s.size 0 5
  refine ⟨_, _, hr, hg, ⟨_, _, _, heap_alloc_new w.drew _, rfl, ?_, fun i v hv => ?_⟩, (Below.refl _ _).drew.alloc (Nat.le_refl _) _⟩
  · unfold bytesRow
    simp only [Array.size_append, Array.size_map, Array.size_replicate, Array.length_toList]
    omega
  · obtain ⟨hi, rfl⟩ := List.getElem?_eq_some_iff.1 hv
    rw [bytesRow_at s _ i (by simpa using hi)]
    simp [u8v]

/-- which of n things the raw number c speaks of -/
def pickN (c : Int) (n : Nat) : Nat := ((if c < 0 then -(c + 1) else c) % (n : Int)).toNat
theorem pickN_lt (c : Int) {n : Nat} (h : 0 < n) : pickN c n < n := by
  unfold pickN
  have h1 := Int.emod_nonneg (if c < 0 then -(c + 1) else c) (b := (n : Int)) (by omega)
  have h2 := Int.emod_lt_of_pos (if c < 0 then -(c + 1) else c) (b := (n : Int)) (by omega)
  omega
theorem pickN_neg {c : Int} {n : Nat} (h : c < 0) (hn : 0 < n) : ((pickN c n : Nat) : Int) = (-(c + 1)) % (n : Int) := by
  unfold pickN
  rw [if_pos h, Int.toNat_of_nonneg (Int.emod_nonneg _ (by omega))]
theorem pickN_pos {c : Int} {n : Nat} (h : ¬ c < 0) (hn : 0 < n) : ((pickN c n : Nat) : Int) = c % (n : Int) := by
  unfold pickN
  rw [if_neg h, Int.toNat_of_nonneg (Int.emod_nonneg _ (by omega))]
set_option maxHeartbeats 800000 in
theorem keep_pick (c : Int) (n : Nat) (hc : (Lit.int .i64 c).wf = true) (h0 : 0 < n) (h1 : n ≤ 1000000) (w : World) : Calls Try.prog 36 #[.int .i64 c, .int .i64 n] w fun e w' => e = .returned (.int .i64 (pickN c n : Nat)) ∧ w = w' := by
  have hc1 : -9223372036854775808 ≤ c ∧ c ≤ 9223372036854775807 := by
    simpa [Lit.wf, IntKind.min, IntKind.max, IntKind.bits, IntKind.signed] using hc
  obtain ⟨c1, c2⟩ := hc1
  have n0 : (0 : Int) < (n : Int) := by omega
  have n1 : ((n : Int) == 0) = false := by simp; omega
  clear hc
  by_cases h : c < 0
  · have E := Lib.hid (pickN_neg h h0)
    go_enter Try.func36, Try.ntmps36
    go_wp2
    go_ret
    exact ⟨ret_int (by rw [E.out, ← Int.neg_tmod, Int.tmod_eq_emod_of_nonneg (by omega)]), rfl⟩
  · have E := Lib.hid (pickN_pos h h0)
    go_enter Try.func36, Try.ntmps36
    go_wp2
    go_ret
    exact ⟨ret_int E.out.symm, rfl⟩

end Go.Proofs.Ytlkkpgdgnnknpaa
