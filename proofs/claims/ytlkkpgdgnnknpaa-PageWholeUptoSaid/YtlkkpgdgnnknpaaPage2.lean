/-
  Pages as bytes, in plain Lean: what Seal makes; what is spliced into a page of zeros. No program in sight.
-/
import Derived.Test.YtlkkpgdgnnknpaaPage1
namespace Go.Proofs.Ytlkkpgdgnnknpaa
open Go.RowKit

/-- how many bytes cells take -/
def usedN (cs : List ByteArray) : Nat := (cs.map fun c => 4 + c.size).sum
theorem usedN_nil : usedN [] = 0 := rfl
theorem usedN_snoc (cs : List ByteArray) (c : ByteArray) : usedN (cs ++ [c]) = usedN cs + (4 + c.size) := by simp [usedN]
theorem usedN_append (a b : List ByteArray) : usedN (a ++ b) = usedN a + usedN b := by simp [usedN]
theorem usedN_take_le (cs : List ByteArray) (i : Nat) : usedN (cs.take i) ≤ usedN cs := by
  have h := usedN_append (cs.take i) (cs.drop i)
  rw [List.take_append_drop] at h
  omega
theorem usedN_take (cs : List ByteArray) {i : Nat} (h : i < cs.length) : usedN (cs.take (i + 1)) = usedN (cs.take i) + (4 + cs[i].size) := by
  rw [List.take_succ_eq_append_getElem h, usedN_snoc]
/-- what the cells themselves take, their lengths with them -/
def bodyN (cs : List ByteArray) : Nat := (cs.map fun c => 2 + c.size).sum
theorem bodyN_snoc (cs : List ByteArray) (c : ByteArray) : bodyN (cs ++ [c]) = bodyN cs + (2 + c.size) := by simp [bodyN]
theorem bodyN_take (cs : List ByteArray) {i : Nat} (h : i < cs.length) : bodyN (cs.take (i + 1)) = bodyN (cs.take i) + (2 + cs[i].size) := by
  rw [List.take_succ_eq_append_getElem h, bodyN_snoc]
theorem used_body (cs : List ByteArray) : usedN cs = bodyN cs + 2 * cs.length := by
  induction cs with
  | nil => rfl
  | cons c cs ih => simp only [usedN, bodyN, List.map_cons, List.sum_cons, List.length_cons] at *; omega
/-- the cells, the first at the end -/
def bodyL : List ByteArray → List UInt8
  | [] => []
  | c :: cs => bodyL cs ++ (beK c.size 2 ++ c.data.toList)
theorem bodyL_snoc (cs : List ByteArray) (c : ByteArray) : bodyL (cs ++ [c]) = beK c.size 2 ++ c.data.toList ++ bodyL cs := by
  induction cs with
  | nil => simp [bodyL]
  | cons d cs ih => rw [List.cons_append, bodyL, ih, bodyL]; simp
theorem bodyL_len (cs : List ByteArray) : (bodyL cs).length = bodyN cs := by
  induction cs with
  | nil => rfl
  | cons c cs ih => simp only [bodyL, List.length_append, ih, beK_len, bodyN, List.map_cons, List.sum_cons, Array.length_toList]; rw [show c.data.size = c.size from rfl]; omega
/-- where the cells lie -/
def offsL (cs : List ByteArray) : Nat → List UInt8
  | 0 => []
  | i + 1 => offsL cs i ++ beK (1024 - bodyN (cs.take (i + 1))) 2
theorem offsL_len (cs : List ByteArray) : ∀ i, (offsL cs i).length = 2 * i
  | 0 => rfl
  | i + 1 => by rw [offsL, List.length_append, offsL_len cs i, beK_len]; omega
/-- behind the sum: the page of the first i cells, with as many zeros as are wanted for 1020 bytes -/
def headL (k l n : Nat) : List UInt8 := [UInt8.ofNat k, 0] ++ beK n 2 ++ beK l 4
theorem headL_len (k l n : Nat) : (headL k l n).length = 8 := by simp [headL, beK_len]
def midL (k l : Nat) (cs : List ByteArray) (i : Nat) : List UInt8 := headL k l cs.length ++ offsL cs i ++ List.replicate (1012 - 2 * i - bodyN (cs.take i)) 0 ++ bodyL (cs.take i)
theorem body_le {cs : List ByteArray} (h : usedN cs ≤ 1012) (i : Nat) (hi : i ≤ cs.length) : bodyN (cs.take i) + 2 * i ≤ 1012 := by
  have := used_body (cs.take i)
  have h2 := usedN_take_le cs i
  rw [List.length_take, Nat.min_eq_left hi] at this
  omega
theorem midL_len {k l : Nat} {cs : List ByteArray} (h : usedN cs ≤ 1012) {i : Nat} (hi : i ≤ cs.length) : (midL k l cs i).length = 1020 := by
  have := body_le h i hi
  simp only [midL, List.length_append, headL_len, offsL_len, List.length_replicate, bodyL_len]
  omega
/-- the bytes of a page -/
def sealL (k l : Nat) (cs : List ByteArray) : List UInt8 := beK (crcN (midL k l cs cs.length)) 4 ++ midL k l cs cs.length
theorem sealL_len {k l : Nat} {cs : List ByteArray} (h : usedN cs ≤ 1012) : (sealL k l cs).length = 1024 := by
  simp only [sealL, List.length_append, beK_len, midL_len h (Nat.le_refl _)]

section
variable {α : Type}
theorem splice_at (a m b x : List α) (hx : x.length = m.length) : splice (a ++ m ++ b) a.length x = a ++ x ++ b := by
  unfold splice
  have e1 : (a ++ m ++ b).take a.length = a := by rw [List.append_assoc, List.take_left]
  have e2 : (a ++ m ++ b).drop (a.length + x.length) = b := by rw [hx, ← List.length_append, List.drop_left]
  rw [e1, e2, List.append_assoc]
theorem splice_at' {a m b x : List α} {o : Nat} (ho : a.length = o) (hx : x.length = m.length) : splice (a ++ m ++ b) o x = a ++ x ++ b := by
  subst ho; exact splice_at a m b x hx
theorem splice_len (L : List α) (o : Nat) (x : List α) (h : o + x.length ≤ L.length) : (splice L o x).length = L.length := length_splice L o x h
theorem splice_zero (L : List α) (o : Nat) : splice L o [] = L := by simp [splice]
end
/-- a page under way: four places for the sum, then the bytes of the first i cells -/
def pageL (k l : Nat) (cs : List ByteArray) (i : Nat) : List UInt8 := [0, 0, 0, 0] ++ midL k l cs i
theorem pageL_start (k l : Nat) (cs : List ByteArray) : splice (splice ((List.replicate 1024 (0 : UInt8)).set 4 (UInt8.ofNat k)) 6 (beK cs.length 2)) 8 (beK l 4) = pageL k l cs 0 := by
  have e1 : (List.replicate 1024 (0 : UInt8)).set 4 (UInt8.ofNat k) = [0, 0, 0, 0, UInt8.ofNat k, 0] ++ [0, 0] ++ List.replicate 1016 0 := by
    rw [show (1024 : Nat) = 5 + 1019 from rfl, ← List.replicate_append_replicate]
    rw [show (1019 : Nat) = 3 + 1016 from rfl, ← List.replicate_append_replicate]
    rfl
  rw [e1, show (6 : Nat) = ([0, 0, 0, 0, UInt8.ofNat k, 0] : List UInt8).length from rfl, splice_at _ _ _ _ (by rw [beK_len]; rfl)]
  have e2 : (List.replicate 1016 (0 : UInt8)) = [0, 0, 0, 0] ++ List.replicate 1012 0 := by
    rw [show (1016 : Nat) = 4 + 1012 from rfl, ← List.replicate_append_replicate]; rfl
  rw [e2, ← List.append_assoc, show (8 : Nat) = ([0, 0, 0, 0, UInt8.ofNat k, 0] ++ beK cs.length 2 : List UInt8).length by simp [beK_len], splice_at _ _ _ _ (by rw [beK_len]; rfl)]
  have e3 : 1012 - 2 * 0 - bodyN (cs.take 0) = 1012 := rfl
  simp only [pageL, midL, headL, offsL, e3, List.take_zero, bodyL, List.append_nil, List.append_assoc]
  rfl
/-- one cell more -/
theorem pageL_step {k l : Nat} {cs : List ByteArray} (h : usedN cs ≤ 1012) {i : Nat} (hi : i < cs.length) :
    splice (splice (splice (pageL k l cs i) (12 + 2 * i) (beK (1024 - bodyN (cs.take (i + 1))) 2)) (1024 - bodyN (cs.take (i + 1))) (beK cs[i].size 2)) (1024 - bodyN (cs.take (i + 1)) + 2) cs[i].data.toList = pageL k l cs (i + 1) := by
  have b1 := body_le h (i + 1) (by omega)
  have b2 := bodyN_take cs hi
  have hb : bodyL (cs.take (i + 1)) = beK cs[i].size 2 ++ cs[i].data.toList ++ bodyL (cs.take i) := by rw [List.take_succ_eq_append_getElem hi, bodyL_snoc]
  have hbl := bodyL_len (cs.take i)
  have hcl : cs[i].data.toList.length = cs[i].size := by simp
  generalize hB : bodyN (cs.take (i + 1)) = B at *
  generalize hb0 : bodyN (cs.take i) = b0 at *
  generalize hc : cs[i].size = m at *
  generalize hd : cs[i].data.toList = d at *
  have ez : 1012 - 2 * i - b0 = 2 + (1012 - 2 * (i + 1) - B) + 2 + m := by omega
  obtain ⟨P, hP⟩ : ∃ P : List UInt8, [0, 0, 0, 0] ++ headL k l cs.length ++ offsL cs i = P := ⟨_, rfl⟩
  obtain ⟨Z, hZ⟩ : ∃ Z : List UInt8, List.replicate (1012 - 2 * (i + 1) - B) 0 = Z := ⟨_, rfl⟩
  have e0 : pageL k l cs i = P ++ [0, 0] ++ (Z ++ ([0, 0] ++ (List.replicate m 0 ++ bodyL (cs.take i)))) := by
    rw [← hP, ← hZ]
    simp only [pageL, midL, hb0, ez, ← List.replicate_append_replicate, List.append_assoc]
    rfl
  have l1 : P.length = 12 + 2 * i := by rw [← hP]; simp only [List.length_append, headL_len, offsL_len]; rfl
  have lz : Z.length = 1012 - 2 * (i + 1) - B := by rw [← hZ, List.length_replicate]
  have s1 : splice (P ++ [0, 0] ++ (Z ++ ([0, 0] ++ (List.replicate m 0 ++ bodyL (cs.take i))))) (12 + 2 * i) (beK (1024 - B) 2) = (P ++ beK (1024 - B) 2 ++ Z) ++ [0, 0] ++ (List.replicate m 0 ++ bodyL (cs.take i)) := by
    rw [splice_at' l1 (by rw [beK_len]; rfl)]; simp only [List.append_assoc]
  have l2 : (P ++ beK (1024 - B) 2 ++ Z).length = 1024 - B := by rw [List.length_append, List.length_append, l1, beK_len, lz]; omega
  have s2 : splice ((P ++ beK (1024 - B) 2 ++ Z) ++ [0, 0] ++ (List.replicate m 0 ++ bodyL (cs.take i))) (1024 - B) (beK m 2) = (P ++ beK (1024 - B) 2 ++ Z ++ beK m 2) ++ List.replicate m 0 ++ bodyL (cs.take i) := by
    rw [splice_at' l2 (by rw [beK_len]; rfl)]; simp only [List.append_assoc]
  have l3 : (P ++ beK (1024 - B) 2 ++ Z ++ beK m 2).length = 1024 - B + 2 := by rw [List.length_append, l2, beK_len]
  have s3 : splice ((P ++ beK (1024 - B) 2 ++ Z ++ beK m 2) ++ List.replicate m 0 ++ bodyL (cs.take i)) (1024 - B + 2) d = (P ++ beK (1024 - B) 2 ++ Z ++ beK m 2) ++ d ++ bodyL (cs.take i) := by
    rw [splice_at' l3 (by rw [hcl, List.length_replicate])]
  rw [e0, s1, s2, s3, ← hP, ← hZ]
  simp only [pageL, midL, hB, offsL, hb, List.append_assoc]
theorem pageL_sum {k l : Nat} {cs : List ByteArray} : splice (pageL k l cs cs.length) 0 (beK (crcN (midL k l cs cs.length)) 4) = sealL k l cs := by
  have := splice_at [] [0, 0, 0, 0] (midL k l cs cs.length) (beK (crcN (midL k l cs cs.length)) 4) (by rw [beK_len]; rfl)
  simpa [pageL, sealL] using this
theorem pageL_drop (k l : Nat) (cs : List ByteArray) (i : Nat) : (pageL k l cs i).drop 4 = midL k l cs i := rfl
theorem pageL_len {k l : Nat} {cs : List ByteArray} (h : usedN cs ≤ 1012) {i : Nat} (hi : i ≤ cs.length) : (pageL k l cs i).length = 1024 := by
  simp only [pageL, List.length_append, midL_len h hi]; rfl

end Go.Proofs.Ytlkkpgdgnnknpaa
