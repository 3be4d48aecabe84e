/-
  A log over a disk in plain Lean: frames that lie in the second file, slots that tell a commit; what each operation makes. No program in sight.
-/
import Derived.Test.YtjihboddejaelaaDisk0
namespace Go.Proofs.Ytjihboddejaelaa
open Go.RowKit
set_option linter.unusedVariables false
set_option linter.unusedSimpArgs false

def partL (l : List UInt8) (a n : Nat) : List UInt8 := (l.drop a).take n
theorem partL_get (l : List UInt8) (a n i : Nat) : (partL l a n)[i]? = if i < n then l[a + i]? else none := by
  unfold partL
  rw [List.getElem?_take]
  split
  · rw [List.getElem?_drop]
  · rfl
theorem partL_len (l : List UInt8) (a n : Nat) : (partL l a n).length = min n (l.length - a) := by
  unfold partL; rw [List.length_take, List.length_drop]
theorem zerosTo_get (l : List UInt8) (n i : Nat) (h : i < l.length) : (zerosTo l n)[i]? = l[i]? := by
  unfold zerosTo; rw [List.getElem?_append_left h]
theorem putL_get (l : List UInt8) (a : Nat) (t : List UInt8) (i : Nat) : (putL l a t)[i]? = if a ≤ i ∧ i < a + t.length then t[i - a]? else (zerosTo l (a + t.length))[i]? := by
  have hz := zerosTo_len l (a + t.length)
  unfold putL
  have e1 : ((zerosTo l (a + t.length)).take a).length = a := by rw [List.length_take, hz]; omega
  by_cases h1 : i < a
  · rw [if_neg (by omega), List.append_assoc, List.getElem?_append_left (by rw [e1]; exact h1), List.getElem?_take, if_pos h1]
  · by_cases h2 : i < a + t.length
    · rw [if_pos ⟨by omega, h2⟩, List.append_assoc, List.getElem?_append_right (by rw [e1]; omega), e1, List.getElem?_append_left (by omega)]
    · rw [if_neg (by omega), List.getElem?_append_right (by rw [List.length_append, e1]; omega), List.length_append, e1, List.getElem?_drop]
      congr 1; omega
/-- a part that is there and that is not written to -/
theorem partL_put {l : List UInt8} {a : Nat} {t : List UInt8} {b n : Nat} (hl : b + n ≤ l.length) (h : b + n ≤ a ∨ a + t.length ≤ b) : partL (putL l a t) b n = partL l b n := by
  refine List.ext_getElem? fun i => ?_
  rw [partL_get, partL_get]
  split
  · rw [putL_get, if_neg (by omega), zerosTo_get _ _ _ (by omega)]
  · rfl
theorem partL_put_same (l : List UInt8) (a : Nat) (t : List UInt8) : partL (putL l a t) a t.length = t := by
  refine List.ext_getElem? fun i => ?_
  rw [partL_get]
  split
  · rw [putL_get, if_pos ⟨by omega, by omega⟩]; congr 1; omega
  · rw [List.getElem?_eq_none (by omega)]
theorem partL_full {l : List UInt8} {a n : Nat} {t : List UInt8} (h : partL l a n = t) (hn : t.length = n) (h0 : 0 < n) : a + n ≤ l.length := by
  have := partL_len l a n
  rw [h] at this; omega
theorem partL_part (l : List UInt8) (a n b m : Nat) (h : b + m ≤ n) : partL (partL l a n) b m = partL l (a + b) m := by
  refine List.ext_getElem? fun i => ?_
  rw [partL_get (partL l a n), partL_get l (a + b)]
  split
  · rw [partL_get, if_pos (by omega)]; congr 1; omega
  · rfl

/-- frame of a log: a page's number and text -/
structure Fr where
  n : Nat
  text : ByteArray
def Fr.bytes (f : Fr) : List UInt8 := beK f.n 4 ++ f.text.data.toList
theorem Fr.bytes_len (f : Fr) (h : f.text.size = 1024) : f.bytes.length = 1028 := by
  unfold Fr.bytes; rw [List.length_append, beK_len, Array.length_toList, show f.text.data.size = f.text.size from rfl, h]
/-- where a page lies: of its last frame the place, from 1 on; 0: nowhere -/
def lastAt : List Fr → Int → Nat
  | [], _ => 0
  | f :: fs, x => if lastAt fs x ≠ 0 then lastAt fs x + 1 else if (f.n : Int) = x then 1 else 0
theorem lastAt_le : ∀ (fs : List Fr) (x : Int), lastAt fs x ≤ fs.length
  | [], _ => Nat.le_refl _
  | f :: fs, x => by
    have := lastAt_le fs x
    rw [lastAt, List.length_cons]
    split
    · omega
    · split <;> omega
theorem lastAt_snoc : ∀ (fs : List Fr) (f : Fr) (x : Int), lastAt (fs ++ [f]) x = if (f.n : Int) = x then fs.length + 1 else lastAt fs x
  | [], f, x => by simp [lastAt]
  | g :: fs, f, x => by
    rw [List.cons_append, lastAt, lastAt_snoc fs f x]
    by_cases h : (f.n : Int) = x
    · simp [h]
    · rw [if_neg h, if_neg h, lastAt]
theorem lastAt_get : ∀ (fs : List Fr) (x : Int), lastAt fs x ≠ 0 → ∃ f, fs[lastAt fs x - 1]? = some f ∧ (f.n : Int) = x
  | [], x, h => absurd rfl h
  | g :: fs, x, h => by
    rw [lastAt] at h ⊢
    by_cases h2 : lastAt fs x ≠ 0
    · rw [if_pos h2]
      obtain ⟨f, h3, h4⟩ := lastAt_get fs x h2
      refine ⟨f, ?_, h4⟩
      rw [show lastAt fs x + 1 - 1 = (lastAt fs x - 1) + 1 by omega, List.getElem?_cons_succ]; exact h3
    · rw [if_neg h2] at h ⊢
      by_cases h3 : (g.n : Int) = x
      · rw [if_pos h3]; exact ⟨g, rfl, h3⟩
      · rw [if_neg h3] at h; exact absurd rfl h

/-- a commit as a slot tells it -/
def slotL (n f p : Nat) : List UInt8 := (beK n 4 ++ beK f 4 ++ beK p 4) ++ (beK n 4 ++ beK f 4 ++ beK p 4)
theorem slotL_len (n f p : Nat) : (slotL n f p).length = 24 := by simp [slotL, beK_len]
def markL : List UInt8 := [114, 101, 108, 115, 116, 111, 114, 101, 32, 108, 111, 103, 32, 48, 48, 49]
/-- what a slot of a file tells: the number, 0: nothing; frames, pages -/
def slotOf (l : List UInt8) (k : Nat) : Nat × Nat × Nat :=
  if l.length < 40 + 24 * k then (0, 0, 0) else
  let t := partL l (16 + 24 * k) 24
  let n := unK (t.take 4)
  let f := unK (partL t 4 4)
  let p := unK (partL t 8 4)
  if t.take 12 ≠ t.drop 12 ∨ ¬ (1 ≤ n ∧ n ≤ 3) ∨ 0 < f ∧ l.length < 64 + 1028 * f then (0, 0, 0) else (n, f, p)
/-- the slot that counts; 2: none -/
def slotIx (l : List UInt8) : Nat :=
  if l.take 16 ≠ markL ∨ (slotOf l 0).1 = 0 ∧ (slotOf l 1).1 = 0 then 2
  else if (slotOf l 0).1 = 0 ∨ (slotOf l 1).1 ≠ 0 ∧ (slotOf l 1).1 = (slotOf l 0).1 % 3 + 1 then 1 else 0

structure Lg where
  D : Dk
  fs : List Fr
  kept : Nat
  pages : Nat
  slot : Nat
  number : Nat
structure Lg.ok (L : Lg) : Prop where
  disk : L.D.ok
  frames : ∀ f ∈ L.fs, f.n < 4294967296 ∧ f.text.size = 1024
  lies : ∀ i f, L.fs[i]? = some f → partL (L.D.seen 1) (64 + 1028 * i) 1028 = f.bytes
  top : 64 + 1028 * L.fs.length ≤ 67108864 ∨ L.fs = []
  kept : L.kept ≤ L.fs.length
  pages : L.pages < 4294967296
  slot : L.slot < 2
  number : L.number < 4
theorem Lg.ok.len {L : Lg} (h : L.ok) : L.fs.length ≤ 65281 := by
  rcases h.top with h | h
  · omega
  · rw [h]; show 0 ≤ 65281; omega

/-- reads of a page -/
def Lg.readS (L : Lg) (n : Int) : ByteArray :=
  if 0 ≤ n ∧ n ≤ 2147483647 ∧ L.D.down = false then
    if lastAt L.fs n ≠ 0 then ((L.fs[lastAt L.fs n - 1]?).map (·.text)).getD ⟨#[]⟩
    else if n < ((L.D.seen 0).length / 1024 : Nat) then bsOf (partL (L.D.seen 0) (1024 * n.toNat) 1024) else ⟨#[]⟩
  else ⟨#[]⟩
def Lg.readE (L : Lg) (n : Int) : Int :=
  if 0 ≤ n ∧ n ≤ 2147483647 then
    if L.D.down = true then 2 else if lastAt L.fs n ≠ 0 then 0 else if n < ((L.D.seen 0).length / 1024 : Nat) then 0 else 7
  else 1
/-- a page is appended -/
def Lg.fitsA (L : Lg) (n : Int) (t : ByteArray) : Prop := 0 ≤ n ∧ n ≤ 2147483647 ∧ t.size = 1024
instance (L : Lg) (n : Int) (t : ByteArray) : Decidable (L.fitsA n t) := by unfold Lg.fitsA; infer_instance
def Lg.at_ (L : Lg) : Nat := 64 + 1028 * L.fs.length
def Lg.append (L : Lg) (n : Int) (t : ByteArray) : Lg :=
  if L.fitsA n t ∧ L.at_ + 1028 ≤ 67108864 then
    { L with D := L.D.write 1 L.at_ (bsOf (Fr.bytes ⟨n.toNat, t⟩)), fs := if L.D.stops then L.fs else L.fs ++ [⟨n.toNat, t⟩] }
  else L
def Lg.appendE (L : Lg) (n : Int) (t : ByteArray) : Int := if L.fitsA n t then (if L.at_ + 1028 ≤ 67108864 then L.D.turnE else 8) else 1
/-- a commit is told in the other slot -/
def Lg.tellD (L : Lg) (f p : Nat) : Dk := L.D.write 1 (16 + 24 * (1 - L.slot) : Nat) (bsOf (slotL (L.number % 3 + 1) f p))
def Lg.tell (L : Lg) (f p : Nat) : Lg :=
  if L.D.stops then { L with D := L.tellD f p }
  else if (L.tellD f p).stops then { L with D := (L.tellD f p).sync 1 }
  else { L with D := (L.tellD f p).sync 1, slot := 1 - L.slot, number := L.number % 3 + 1, kept := f, pages := p }
def Lg.tellE (L : Lg) (f p : Nat) : Int := if L.D.stops then 2 else (L.tellD f p).turnE
def Lg.commit (L : Lg) (n : Int) (t : ByteArray) (p : Int) : Lg :=
  if 1 ≤ p ∧ p ≤ 65536 then
    if L.appendE n t = 0 then
      if (L.append n t).D.stops then { L.append n t with D := (L.append n t).D.sync 1 }
      else ({ L.append n t with D := (L.append n t).D.sync 1 } : Lg).tell (L.append n t).fs.length p.toNat
    else L.append n t
  else L
def Lg.commitE (L : Lg) (n : Int) (t : ByteArray) (p : Int) : Int :=
  if 1 ≤ p ∧ p ≤ 65536 then
    if L.appendE n t = 0 then
      if (L.append n t).D.stops then 2
      else ({ L.append n t with D := (L.append n t).D.sync 1 } : Lg).tellE (L.append n t).fs.length p.toNat
    else L.appendE n t
  else 1
def Lg.back (L : Lg) : Lg := { L with fs := L.fs.take L.kept }
/-- the pages m, m + 1, .. up to m + k are written to their places, up to the first that fails -/
def Lg.put1 (L : Lg) (D : Dk) (m : Nat) : Dk := if lastAt L.fs m ≠ 0 then D.write 0 (1024 * m : Nat) (((L.fs[lastAt L.fs m - 1]?).map (·.text)).getD ⟨#[]⟩) else D
def Lg.put1E (L : Lg) (D : Dk) (m : Nat) : Int := if lastAt L.fs m ≠ 0 then D.writeE 0 (1024 * m : Nat) (((L.fs[lastAt L.fs m - 1]?).map (·.text)).getD ⟨#[]⟩) else 0
def Lg.puts (L : Lg) : Nat → Nat → Dk → Dk × Int
  | 0, _, D => (D, 0)
  | k + 1, m, D => if L.put1E D m = 0 then L.puts k (m + 1) (L.put1 D m) else (L.put1 D m, L.put1E D m)
def Lg.check3 (L : Lg) (D : Dk) : Lg × Int :=
  if D.cutE 0 (1024 * L.pages : Nat) ≠ 0 then ({ L with D := D.cutD 0 (1024 * L.pages : Nat) }, D.cutE 0 (1024 * L.pages : Nat))
  else if (D.cutD 0 (1024 * L.pages : Nat)).stops then ({ L with D := (D.cutD 0 (1024 * L.pages : Nat)).sync 0 }, 2)
  else
    let M : Lg := { L with D := (D.cutD 0 (1024 * L.pages : Nat)).sync 0 }
    if M.tellE 0 L.pages = 0 then ({ M.tell 0 L.pages with fs := [] }, 0) else (M.tell 0 L.pages, M.tellE 0 L.pages)
def Lg.checkpoint (L : Lg) : Lg × Int :=
  if L.fs.length ≠ L.kept then (L, 11)
  else if L.kept = 0 then (L, 0)
  else if (L.puts L.pages 0 L.D).2 ≠ 0 then ({ L with D := (L.puts L.pages 0 L.D).1 }, (L.puts L.pages 0 L.D).2)
  else L.check3 (L.puts L.pages 0 L.D).1
/-- a log that is opened, on a disk that does not fail -/
def frameAt (l : List UInt8) (k : Nat) : Fr := ⟨unK (partL l (64 + 1028 * k) 4), bsOf (partL l (64 + 1028 * k + 4) 1024)⟩
def framesOf (l : List UInt8) (f : Nat) : List Fr := (List.range f).map (frameAt l)
def anewD (D : Dk) : Dk := (((D.cutD 1 0).sync 1).write 1 0 (bsOf (markL ++ slotL 1 0 ((D.seen 0).length / 1024)))).sync 1
def Lg.opened (D : Dk) : Lg :=
  if slotIx (D.seen 1) = 2 then ⟨anewD D, [], 0, (D.seen 0).length / 1024, 0, 1⟩
  else ⟨D, framesOf (D.seen 1) (slotOf (D.seen 1) (slotIx (D.seen 1))).2.1, (slotOf (D.seen 1) (slotIx (D.seen 1))).2.1, (slotOf (D.seen 1) (slotIx (D.seen 1))).2.2, slotIx (D.seen 1), (slotOf (D.seen 1) (slotIx (D.seen 1))).1⟩

end Go.Proofs.Ytjihboddejaelaa
