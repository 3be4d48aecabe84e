/-
  What Open reads out of bytes, in plain Lean: just those that Seal makes. No program in sight.
-/
import Derived.Test.YtlkkpgdgnnknpaaPage5
import Derived.Lib.Strings
namespace Go.Proofs.Ytlkkpgdgnnknpaa
open Go.RowKit
set_option linter.unusedVariables false

/-- the cells of a page, as Open reads them -/
def readGo (s : ByteArray) : Nat → Option (List ByteArray)
  | 0 => some []
  | i + 1 => (readGo s i).bind fun cs =>
    if 1024 < at16N s.data.toList (12 + 2 * i) + 2 ∨ 1024 < at16N s.data.toList (12 + 2 * i) + 2 + at16N s.data.toList (at16N s.data.toList (12 + 2 * i)) then none
    else some (cs ++ [s.extract (at16N s.data.toList (12 + 2 * i) + 2) (at16N s.data.toList (12 + 2 * i) + 2 + at16N s.data.toList (at16N s.data.toList (12 + 2 * i)))])
abbrev Pg := Nat × Nat × List ByteArray
def fin (s : ByteArray) (k l : Nat) (cs : List ByteArray) : Option Pg := if sealE k l cs = 0 ∧ sealS k l cs = s then some (k, l, cs) else none
def openN (s : ByteArray) (n : Nat) : Option Pg := (readGo s n).bind fun cs => fin s (s.data.toList.getD 4 0).toNat (at32N s.data.toList 8) cs
def openP (s : ByteArray) : Option Pg := if s.size ≠ 1024 ∨ at32N s.data.toList 0 ≠ crcN (s.data.toList.drop 4) ∨ 1024 < 12 + 2 * at16N s.data.toList 6 then none else openN s (at16N s.data.toList 6)
def openR (s : ByteArray) : Option Pg := if s.size ≠ 1024 then none else openN s (min (at16N s.data.toList 6) 506)

def Valid (s : ByteArray) (p : Pg) : Prop := 1 ≤ p.1 ∧ p.1 ≤ 5 ∧ p.2.1 ≤ 2147483647 ∧ usedN p.2.2 ≤ 1012 ∧ bsOf (sealL p.1 p.2.1 p.2.2) = s
theorem sealE_zero {k l : Nat} {cs : List ByteArray} : sealE k l cs = 0 ↔ 1 ≤ k ∧ k ≤ 5 ∧ l ≤ 2147483647 ∧ usedN cs ≤ 1012 := by
  unfold sealE
  split
  · simp; omega
  · split
    · simp; omega
    · simp; omega
theorem sealS_valid {k l : Nat} {cs : List ByteArray} (h : 1 ≤ k ∧ k ≤ 5 ∧ l ≤ 2147483647 ∧ usedN cs ≤ 1012) : sealS k l cs = bsOf (sealL k l cs) := by
  unfold sealS
  rw [if_neg (by omega)]
  simp
theorem fin_some {s : ByteArray} {k l : Nat} {cs : List ByteArray} {p : Pg} : fin s k l cs = some p ↔ p = (k, l, cs) ∧ Valid s p := by
  unfold fin
  constructor
  · intro h
    split at h
    · rename_i hc
      injection h with h
      subst h
      have := sealE_zero.1 hc.1
      exact ⟨rfl, this.1, this.2.1, this.2.2.1, this.2.2.2, by rw [← sealS_valid this]; exact hc.2⟩
    · cases h
  · rintro ⟨rfl, h1, h2, h3, h4, h5⟩
    rw [if_pos ⟨sealE_zero.2 ⟨h1, h2, h3, h4⟩, by rw [sealS_valid ⟨h1, h2, h3, h4⟩]; exact h5⟩]

theorem getD_mid (a b : List UInt8) (x : UInt8) : (a ++ x :: b).getD a.length 0 = x := by
  rw [List.getD_eq_getElem?_getD, List.getElem?_append_right (Nat.le_refl _)]; simp
theorem at16_mid {a b : List UInt8} {x o : Nat} (ha : a.length = o) (hx : x < 65536) : at16N (a ++ (beK x 2 ++ b)) o = x := by
  subst ha
  have e1 : (a ++ (beK x 2 ++ b)).getD a.length 0 = UInt8.ofNat (x / 256) := by rw [beK_two]; exact getD_mid a _ _
  have e2 : (a ++ (beK x 2 ++ b)).getD (a.length + 1) 0 = UInt8.ofNat x := by
    rw [beK_two, show a ++ ([UInt8.ofNat (x / 256), UInt8.ofNat x] ++ b) = (a ++ [UInt8.ofNat (x / 256)]) ++ UInt8.ofNat x :: b by simp]
    have := getD_mid (a ++ [UInt8.ofNat (x / 256)]) b (UInt8.ofNat x)
    rw [List.length_append] at this
    exact this
  rw [at16N, e1, e2, UInt8.toNat_ofNat', UInt8.toNat_ofNat']
  omega
theorem at32_mid {a b : List UInt8} {x o : Nat} (ha : a.length = o) (hx : x < 4294967296) : at32N (a ++ (beK x 4 ++ b)) o = x := by
  have e : a ++ (beK x 4 ++ b) = a ++ (beK (x / 65536) 2 ++ (beK x 2 ++ b)) := by rw [beK_four, List.append_assoc]
  have h1 : at16N (a ++ (beK x 4 ++ b)) o = x / 65536 := by rw [e]; exact at16_mid ha (by omega)
  have h2 : at16N (a ++ (beK x 4 ++ b)) (o + 2) = x % 65536 := by
    rw [e, ← List.append_assoc]
    have h3 : beK x 2 = beK (x % 65536) 2 := by
      rw [beK_two, beK_two]
      congr 1
      · apply UInt8.toNat_inj.1; rw [UInt8.toNat_ofNat', UInt8.toNat_ofNat']; omega
      · congr 1; apply UInt8.toNat_inj.1; rw [UInt8.toNat_ofNat', UInt8.toNat_ofNat']; omega
    rw [h3]
    exact at16_mid (by rw [List.length_append, ha, beK_len]) (by omega)
  rw [at32N, h1, h2]; omega
theorem bodyL_append (a b : List ByteArray) : bodyL (a ++ b) = bodyL b ++ bodyL a := by
  induction a with
  | nil => simp [bodyL]
  | cons c a ih => simp [bodyL, ih]
theorem offsL_split (cs : List ByteArray) : ∀ {n i : Nat}, i < n → ∃ r, offsL cs n = offsL cs i ++ (beK (1024 - bodyN (cs.take (i + 1))) 2 ++ r)
  | n + 1, i, h => by
    by_cases hi : i = n
    · subst hi; exact ⟨[], by simp [offsL]⟩
    · obtain ⟨r, hr⟩ := offsL_split cs (show i < n by omega)
      exact ⟨r ++ beK (1024 - bodyN (cs.take (n + 1))) 2, by rw [offsL, hr]; simp⟩

theorem rb_split (k l : Nat) (cs : List ByteArray) : ∃ r, sealL k l cs = beK (crcN (midL k l cs cs.length)) 4 ++ ([UInt8.ofNat k, 0] ++ (beK cs.length 2 ++ (beK l 4 ++ (offsL cs cs.length ++ r)))) ∧ ∃ z, r = z ++ bodyL cs := by
  refine ⟨_, ?_, List.replicate (1012 - 2 * cs.length - bodyN (cs.take cs.length)) 0, rfl⟩
  rw [sealL]
  congr 1
  rw [midL, headL, List.take_length]
  simp only [List.append_assoc]
section
variable {k l : Nat} {cs : List ByteArray}
theorem rb_sum (hu : usedN cs ≤ 1012) : at32N (sealL k l cs) 0 = crcN ((sealL k l cs).drop 4) := by
  have := at32_mid (a := []) (b := midL k l cs cs.length) (o := 0) rfl (crcN_lt (midL k l cs cs.length))
  have hd : (sealL k l cs).drop 4 = midL k l cs cs.length := by
    rw [sealL]; exact List.drop_left' (beK_len 4 _)
  rw [hd]
  exact this
theorem rb_kind (hu : usedN cs ≤ 1012) (hk : k ≤ 5) : ((sealL k l cs).getD 4 0).toNat = k := by
  obtain ⟨r, h, _⟩ := rb_split k l cs
  rw [h]
  have := getD_mid (beK (crcN (midL k l cs cs.length)) 4) ([0] ++ (beK cs.length 2 ++ (beK l 4 ++ (offsL cs cs.length ++ r)))) (UInt8.ofNat k)
  rw [beK_len] at this
  rw [show ∀ t : List UInt8, [UInt8.ofNat k, 0] ++ t = UInt8.ofNat k :: ([0] ++ t) from fun _ => rfl, this, UInt8.toNat_ofNat']
  omega
theorem cells_few (hu : usedN cs ≤ 1012) : cs.length ≤ 253 := by
  have := used_body cs
  have h2 : 2 * cs.length ≤ bodyN cs := by
    clear hu this
    induction cs with
    | nil => simp
    | cons c cs ih => simp only [bodyN, List.map_cons, List.sum_cons, List.length_cons] at *; omega
  omega
theorem rb_count (hu : usedN cs ≤ 1012) : at16N (sealL k l cs) 6 = cs.length := by
  obtain ⟨r, h, _⟩ := rb_split k l cs
  have hc := cells_few hu
  rw [h, ← List.append_assoc]
  exact at16_mid (by rw [List.length_append, beK_len]; rfl) (by omega)
theorem rb_link (hu : usedN cs ≤ 1012) (hl : l ≤ 2147483647) : at32N (sealL k l cs) 8 = l := by
  obtain ⟨r, h, _⟩ := rb_split k l cs
  rw [h, ← List.append_assoc, ← List.append_assoc]
  exact at32_mid (by rw [List.length_append, List.length_append, beK_len, beK_len]; rfl) (by omega)
theorem rb_offs (hu : usedN cs ≤ 1012) {i : Nat} (hi : i < cs.length) : at16N (sealL k l cs) (12 + 2 * i) = 1024 - bodyN (cs.take (i + 1)) := by
  obtain ⟨r, h, _⟩ := rb_split k l cs
  obtain ⟨r2, h2⟩ := offsL_split cs hi
  rw [h, h2, List.append_assoc (offsL cs i), List.append_assoc (beK _ 2) r2, ← List.append_assoc, ← List.append_assoc, ← List.append_assoc, ← List.append_assoc]
  exact at16_mid (by simp only [List.length_append, beK_len, offsL_len]; rfl) (by omega)
theorem rb_cell (hu : usedN cs ≤ 1012) {i : Nat} (hi : i < cs.length) : ∃ X Y, sealL k l cs = X ++ (beK cs[i].size 2 ++ (cs[i].data.toList ++ Y)) ∧ X.length = 1024 - bodyN (cs.take (i + 1)) := by
  obtain ⟨r, h, z, hz⟩ := rb_split k l cs
  have hs : bodyL cs = bodyL (cs.drop (i + 1)) ++ (beK cs[i].size 2 ++ (cs[i].data.toList ++ bodyL (cs.take i))) := by
    conv => lhs; rw [← List.take_append_drop (i + 1) cs]
    rw [bodyL_append, List.take_succ_eq_append_getElem hi, bodyL_snoc]
    simp only [List.append_assoc]
  have hlen := sealL_len (k := k) (l := l) hu
  have b1 := body_le hu (i + 1) (by omega)
  have b2 := bodyN_take cs hi
  subst hz
  refine ⟨beK (crcN (midL k l cs cs.length)) 4 ++ ([UInt8.ofNat k, 0] ++ (beK cs.length 2 ++ (beK l 4 ++ (offsL cs cs.length ++ (z ++ bodyL (cs.drop (i + 1))))))), bodyL (cs.take i), ?_, ?_⟩
  · rw [h, hs]; simp only [List.append_assoc]
  · rw [h, hs] at hlen
    simp only [List.length_append, beK_len, bodyL_len, Array.length_toList] at hlen ⊢
    rw [show cs[i].data.size = cs[i].size from rfl] at hlen
    omega
theorem rb_read (hu : usedN cs ≤ 1012) : ∀ {i : Nat}, i ≤ cs.length → readGo (bsOf (sealL k l cs)) i = some (cs.take i)
  | 0, _ => rfl
  | i + 1, h => by
    have hi : i < cs.length := by omega
    obtain ⟨X, Y, hX, hl⟩ := rb_cell (k := k) (l := l) hu hi
    have b1 := body_le hu (i + 1) h
    have b2 := bodyN_take cs hi
    have a1 := rb_offs (k := k) (l := l) hu hi
    have a2 : at16N (sealL k l cs) (1024 - bodyN (cs.take (i + 1))) = cs[i].size := by
      rw [hX]; exact at16_mid hl (by omega)
    rw [readGo, rb_read hu (by omega), Option.bind_some, bsOf_data, a1, a2, if_neg (by omega), List.take_succ_eq_append_getElem hi]
    congr 3
    have hd : (sealL k l cs).drop (1024 - bodyN (cs.take i ++ [cs[i]]) + 2) = cs[i].data.toList ++ Y := by
      rw [← List.take_succ_eq_append_getElem hi, hX, ← List.append_assoc]
      exact List.drop_left' (by rw [List.length_append, hl, beK_len])
    have ht : 1024 - bodyN (cs.take i ++ [cs[i]]) + 2 + cs[i].size - (1024 - bodyN (cs.take i ++ [cs[i]]) + 2) = cs[i].data.toList.length := by simp
    rw [Lib.extract_eq, bsOf_data, hd, ht, List.take_left]
end
theorem openN_some {s : ByteArray} {n : Nat} {p : Pg} (h : openN s n = some p) : Valid s p := by
  unfold openN at h
  obtain ⟨cs, _, h2⟩ := Option.bind_eq_some_iff.1 h
  exact (fin_some.1 h2).2
theorem openN_valid {s : ByteArray} {p : Pg} (h : Valid s p) : openN s p.2.2.length = some p := by
  obtain ⟨k, l, cs⟩ := p
  obtain ⟨h1, h2, h3, h4, h5⟩ := h
  simp only at h1 h2 h3 h4 h5
  subst h5
  unfold openN
  rw [rb_read h4 (Nat.le_refl _), List.take_length, Option.bind_some, bsOf_data, rb_kind h4 h2, rb_link h4 h3, fin_some]
  exact ⟨rfl, h1, h2, h3, h4, rfl⟩
theorem valid_uniq {s : ByteArray} {p q : Pg} (hp : Valid s p) (hq : Valid s q) : p = q := by
  have h1 := openN_valid hp
  have h2 := openN_valid hq
  have c1 : at16N s.data.toList 6 = p.2.2.length := by rw [← hp.2.2.2.2, bsOf_data]; exact rb_count hp.2.2.2.1
  have c2 : at16N s.data.toList 6 = q.2.2.length := by rw [← hq.2.2.2.2, bsOf_data]; exact rb_count hq.2.2.2.1
  rw [← c1] at h1
  rw [← c2, h1] at h2
  injection h2
theorem openP_valid {s : ByteArray} {p : Pg} : openP s = some p ↔ Valid s p := by
  constructor
  · intro h
    unfold openP at h
    split at h
    · cases h
    · exact openN_some h
  · intro h
    have h0 := h
    obtain ⟨h1, h2, h3, h4, h5⟩ := h
    have c1 : at16N s.data.toList 6 = p.2.2.length := by rw [← h5, bsOf_data]; exact rb_count h4
    have c2 := cells_few h4
    have c3 : at32N s.data.toList 0 = crcN (s.data.toList.drop 4) := by rw [← h5, bsOf_data]; exact rb_sum h4
    have c4 : s.size = 1024 := by rw [← h5, bsOf_size]; exact sealL_len h4
    unfold openP
    rw [if_neg (by rintro (h | h | h); exact h c4; exact h c3; omega), c1]
    exact openN_valid h0
theorem openR_valid {s : ByteArray} {p : Pg} : openR s = some p ↔ Valid s p := by
  constructor
  · intro h
    unfold openR at h
    split at h
    · cases h
    · exact openN_some h
  · intro h
    have h0 := h
    obtain ⟨h1, h2, h3, h4, h5⟩ := h
    have c1 : at16N s.data.toList 6 = p.2.2.length := by rw [← h5, bsOf_data]; exact rb_count h4
    have c2 := cells_few h4
    have c4 : s.size = 1024 := by rw [← h5, bsOf_size]; exact sealL_len h4
    unfold openR
    rw [if_neg (by rintro h; exact h c4), c1, Nat.min_eq_left (by omega)]
    exact openN_valid h0
theorem open_same (s : ByteArray) : openP s = openR s := by
  cases h : openR s with
  | none =>
    cases h2 : openP s with
    | none => rfl
    | some p => rw [openR_valid.2 (openP_valid.1 h2)] at h; cases h
  | some p => exact openP_valid.2 (openR_valid.1 h)

end Go.Proofs.Ytlkkpgdgnnknpaa
