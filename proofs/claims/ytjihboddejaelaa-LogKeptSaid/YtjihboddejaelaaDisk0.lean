/-
  A disk in plain Lean: two files, what waits, what an operation makes of them. No program in sight.
-/
import Derived.Test.YtjihboddejaelaaBytes
namespace Go.Proofs.Ytjihboddejaelaa
open Go.RowKit
set_option linter.unusedVariables false
set_option linter.unusedSimpArgs false

/-- a change that waits -/
structure Ch where
  file : Nat
  at_ : Nat
  text : ByteArray
  cut : Bool
def zerosTo (l : List UInt8) (n : Nat) : List UInt8 := l ++ List.replicate (n - l.length) 0
def putL (l : List UInt8) (a : Nat) (t : List UInt8) : List UInt8 := (zerosTo l (a + t.length)).take a ++ t ++ (zerosTo l (a + t.length)).drop (a + t.length)
def Ch.done (c : Ch) (l : List UInt8) : List UInt8 := if c.cut then (zerosTo l c.at_).take c.at_ else putL l c.at_ c.text.data.toList
theorem zerosTo_len (l : List UInt8) (n : Nat) : (zerosTo l n).length = max l.length n := by
  unfold zerosTo; rw [List.length_append, List.length_replicate]; omega
theorem zerosTo_big {l : List UInt8} {n : Nat} (h : n ≤ l.length) : zerosTo l n = l := by
  unfold zerosTo; rw [show n - l.length = 0 by omega]; simp
theorem zerosTo_step {l : List UInt8} {n m : Nat} (h : l.length ≤ m) (h2 : m < n) : zerosTo l m ++ [0] = zerosTo l (m + 1) := by
  unfold zerosTo
  rw [List.append_assoc, show m + 1 - l.length = (m - l.length) + 1 by omega, List.replicate_succ']
theorem putL_len (l : List UInt8) (a : Nat) (t : List UInt8) : (putL l a t).length = max l.length (a + t.length) := by
  unfold putL
  rw [List.length_append, List.length_append, List.length_take, List.length_drop, zerosTo_len]; omega
theorem done_len (c : Ch) (l : List UInt8) : (c.done l).length ≤ max l.length (c.at_ + c.text.size) := by
  unfold Ch.done
  split
  · rw [List.length_take, zerosTo_len]; omega
  · rw [putL_len, Array.length_toList]; exact Nat.le_refl _
def maxFile : Nat := 67108864
/-- a change that fits a file -/
def Ch.fits (c : Ch) : Prop := c.file < 2 ∧ c.at_ ≤ 67108864 ∧ c.at_ + c.text.size ≤ 67108864 ∧ (c.cut = true → c.text.size = 0)
theorem done_fits {c : Ch} {l : List UInt8} (h : c.fits) (hl : l.length ≤ 67108864) : (c.done l).length ≤ 67108864 := by
  have := done_len c l
  have := h.2.2.1
  omega

/-- a file with the changes that wait for it -/
def seenL : List Ch → Nat → List UInt8 → List UInt8
  | [], _, l => l
  | c :: ws, f, l => seenL ws f (if c.file = f then c.done l else l)
theorem seenL_append : ∀ (ws us : List Ch) (f : Nat) (l : List UInt8), seenL (ws ++ us) f l = seenL us f (seenL ws f l)
  | [], us, f, l => rfl
  | c :: ws, us, f, l => by rw [List.cons_append, seenL, seenL_append ws us]; rfl
theorem seenL_snoc (ws : List Ch) (c : Ch) (f : Nat) (l : List UInt8) : seenL (ws ++ [c]) f l = if c.file = f then c.done (seenL ws f l) else seenL ws f l := by
  rw [seenL_append]; rfl
theorem seenL_fits : ∀ (ws : List Ch) (f : Nat) (l : List UInt8), (∀ c ∈ ws, c.fits) → l.length ≤ 67108864 → (seenL ws f l).length ≤ 67108864
  | [], f, l, _, hl => hl
  | c :: ws, f, l, h, hl => by
    rw [seenL]
    refine seenL_fits ws f _ (fun d hd => h d (List.mem_cons_of_mem _ hd)) ?_
    split
    · exact done_fits (h c (List.mem_cons_self ..)) hl
    · exact hl
theorem seenL_filter : ∀ (ws : List Ch) (f k : Nat) (l : List UInt8), f ≠ k → seenL (ws.filter (fun c => decide (c.file ≠ k))) f l = seenL ws f l
  | [], f, k, l, _ => rfl
  | c :: ws, f, k, l, h => by
    by_cases hc : c.file = k
    · rw [List.filter_cons_of_neg (by simp [hc]), seenL_filter ws f k l h, seenL, if_neg (by rw [hc]; exact fun e => h e.symm)]
    · rw [List.filter_cons_of_pos (by simp [hc]), seenL, seenL, seenL_filter ws f k _ h]
theorem seenL_filter_same : ∀ (ws : List Ch) (f : Nat) (l : List UInt8), seenL (ws.filter (fun c => decide (c.file ≠ f))) f l = l
  | [], f, l => rfl
  | c :: ws, f, l => by
    by_cases hc : c.file = f
    · rw [List.filter_cons_of_neg (by simp [hc]), seenL_filter_same ws f l]
    · rw [List.filter_cons_of_pos (by simp [hc]), seenL, if_neg hc, seenL_filter_same ws f l]

structure Dk where
  l0 : List UInt8
  l1 : List UInt8
  waits : List Ch
  fails : Int
  down : Bool
  count : Nat
def Dk.lasts (D : Dk) (f : Nat) : List UInt8 := if f = 0 then D.l0 else D.l1
def Dk.seen (D : Dk) (f : Nat) : List UInt8 := seenL D.waits f (D.lasts f)
/-- what holds of a disk always -/
structure Dk.ok (D : Dk) : Prop where
  l0 : D.l0.length ≤ 67108864
  l1 : D.l1.length ≤ 67108864
  waits : ∀ c ∈ D.waits, c.fits
  fails : -1 ≤ D.fails ∧ D.fails ≤ 9223372036854775807
theorem Dk.ok.lasts {D : Dk} (h : D.ok) (f : Nat) : (D.lasts f).length ≤ 67108864 := by
  unfold Dk.lasts; split
  · exact h.l0
  · exact h.l1
theorem Dk.ok.seen {D : Dk} (h : D.ok) (f : Nat) : (D.seen f).length ≤ 67108864 := seenL_fits _ _ _ h.waits (h.lasts f)
/-- an operation that changes something: is the disk down? -/
def Dk.stops (D : Dk) : Prop := D.down = true ∨ D.fails = 0
instance (D : Dk) : Decidable D.stops := by unfold Dk.stops; infer_instance
def Dk.turn (D : Dk) : Dk := if D.stops then { D with down := true } else { D with fails := if 0 < D.fails then D.fails - 1 else D.fails, count := D.count + 1 }
def Dk.turnE (D : Dk) : Int := if D.stops then 2 else 0
theorem Dk.turn_ok {D : Dk} (h : D.ok) : D.turn.ok := by
  obtain ⟨h1, h2, h3, h4, h5⟩ := h
  unfold Dk.turn
  split
  · exact ⟨h1, h2, h3, h4, h5⟩
  · refine ⟨h1, h2, h3, ?_⟩
    show -1 ≤ (if 0 < D.fails then D.fails - 1 else D.fails) ∧ (if 0 < D.fails then D.fails - 1 else D.fails) ≤ 9223372036854775807
    split <;> omega
def Dk.change (D : Dk) (c : Ch) : Dk := if D.stops then D.turn else { D.turn with waits := D.waits ++ [c] }
theorem Dk.change_ok {D : Dk} {c : Ch} (h : D.ok) (hc : c.fits) : (D.change c).ok := by
  unfold Dk.change
  split
  · exact Dk.turn_ok h
  · have ht := Dk.turn_ok h
    exact ⟨ht.l0, ht.l1, fun d hd => by
      rcases List.mem_append.1 hd with hd | hd
      · exact h.waits d hd
      · rw [List.mem_singleton.1 hd]; exact hc, ht.fails⟩
def fitsF (f a n : Int) : Prop := 0 ≤ f ∧ f < 2 ∧ 0 ≤ a ∧ 0 ≤ n ∧ a ≤ 67108864 ∧ n ≤ 67108864 - a
instance (f a n : Int) : Decidable (fitsF f a n) := by unfold fitsF; infer_instance
def Dk.write (D : Dk) (f a : Int) (s : ByteArray) : Dk := if fitsF f a s.size then D.change ⟨f.toNat, a.toNat, s, false⟩ else D
def Dk.writeE (D : Dk) (f a : Int) (s : ByteArray) : Int := if fitsF f a s.size then D.turnE else 1
def Dk.cutD (D : Dk) (f a : Int) : Dk := if fitsF f a 0 then D.change ⟨f.toNat, a.toNat, ⟨#[]⟩, true⟩ else D
def Dk.cutE (D : Dk) (f a : Int) : Int := if fitsF f a 0 then D.turnE else 1
def Dk.syncT (D : Dk) (f : Nat) : Dk := { D.turn with l0 := if f = 0 then D.seen 0 else D.l0, l1 := if f = 0 then D.l1 else D.seen 1, waits := D.waits.filter (fun c => decide (c.file ≠ f)) }
def Dk.sync (D : Dk) (f : Int) : Dk := if 0 ≤ f ∧ f < 2 then (if D.stops then D.turn else D.syncT f.toNat) else D
def Dk.syncE (D : Dk) (f : Int) : Int := if 0 ≤ f ∧ f < 2 then D.turnE else 1
def Dk.readS (D : Dk) (f a n : Int) : ByteArray := if fitsF f a n ∧ D.down = false ∧ a + n ≤ (D.seen f.toNat).length then bsOf (((D.seen f.toNat).drop a.toNat).take n.toNat) else ⟨#[]⟩
def Dk.readE (D : Dk) (f a n : Int) : Int := if fitsF f a n then (if D.down = true then 2 else if a + n ≤ (D.seen f.toNat).length then 0 else 3) else 1
def Dk.sizeN (D : Dk) (f : Int) : Int := if 0 ≤ f ∧ f < 2 ∧ D.down = false then (D.seen f.toNat).length else 0
def Dk.sizeE (D : Dk) (f : Int) : Int := if 0 ≤ f ∧ f < 2 then (if D.down = true then 2 else 0) else 1
def Dk.fail (D : Dk) (n : Int) : Dk := { D with fails := if n < 0 then -1 else n }
/-- how a change is kept in a crash -/
def howL (keep : List Int) (i : Nat) : Int := if keep.length = 0 then 0 else keep.getD (i % keep.length) 0
def Ch.half (c : Ch) : Ch := if c.cut then c else { c with text := c.text.extract 0 (c.text.size / 2) }
def crash1 (c : Ch) (how : Int) (l : List UInt8) (f : Nat) : List UInt8 := if c.file = f then (if how = 1 then c.done l else if how = 2 then c.half.done l else l) else l
def crashL (keep : List Int) : List Ch → Nat → Nat → List UInt8 → List UInt8
  | [], _, _, l => l
  | c :: ws, i, f, l => crashL keep ws (i + 1) f (crash1 c (howL keep i) l f)
def Dk.crash (D : Dk) (keep : List Int) : Dk := ⟨crashL keep D.waits 0 0 D.l0, crashL keep D.waits 0 1 D.l1, [], -1, false, D.count⟩
theorem crashL_append (keep : List Int) : ∀ (ws us : List Ch) (i f : Nat) (l : List UInt8), crashL keep (ws ++ us) i f l = crashL keep us (i + ws.length) f (crashL keep ws i f l)
  | [], us, i, f, l => by simp [crashL]
  | c :: ws, us, i, f, l => by
    rw [List.cons_append, crashL, crashL_append keep ws us, crashL, List.length_cons]
    congr 1; omega
theorem half_fits {c : Ch} (h : c.fits) : c.half.fits := by
  unfold Ch.half
  split
  · exact h
  · rename_i hc
    refine ⟨h.1, h.2.1, ?_, fun h2 => absurd h2 hc⟩
    have := h.2.2.1
    show c.at_ + (c.text.extract 0 (c.text.size / 2)).size ≤ _
    rw [ByteArray.size_extract]; omega
theorem crash1_fits {c : Ch} {how : Int} {l : List UInt8} {f : Nat} (h : c.fits) (hl : l.length ≤ 67108864) : (crash1 c how l f).length ≤ 67108864 := by
  unfold crash1
  split
  · split
    · exact done_fits h hl
    · split
      · exact done_fits (half_fits h) hl
      · exact hl
  · exact hl
theorem crashL_fits (keep : List Int) : ∀ (ws : List Ch) (i f : Nat) (l : List UInt8), (∀ c ∈ ws, c.fits) → l.length ≤ 67108864 → (crashL keep ws i f l).length ≤ 67108864
  | [], _, _, _, _, hl => hl
  | c :: ws, i, f, l, h, hl => crashL_fits keep ws _ f _ (fun d hd => h d (List.mem_cons_of_mem _ hd)) (crash1_fits (h c (List.mem_cons_self ..)) hl)
theorem Dk.crash_ok {D : Dk} (h : D.ok) (keep : List Int) : (D.crash keep).ok :=
  ⟨crashL_fits _ _ _ _ _ h.waits h.l0, crashL_fits _ _ _ _ _ h.waits h.l1, (fun c hc => by cases hc), by show -1 ≤ (-1 : Int) ∧ (-1 : Int) ≤ 9223372036854775807; omega⟩
theorem Dk.fail_ok {D : Dk} (h : D.ok) {n : Int} (hn : n ≤ 9223372036854775807) : (D.fail n).ok :=
  ⟨h.l0, h.l1, h.waits, by show -1 ≤ (if n < 0 then -1 else n) ∧ (if n < 0 then -1 else n) ≤ 9223372036854775807; split <;> omega⟩
theorem Dk.sync_ok {D : Dk} (h : D.ok) (f : Int) : (D.sync f).ok := by
  unfold Dk.sync
  split
  · split
    · exact Dk.turn_ok h
    · have ht := Dk.turn_ok h
      refine ⟨?_, ?_, fun c hc => h.waits c (List.mem_filter.1 hc).1, ht.fails⟩
      · show (if f.toNat = 0 then D.seen 0 else D.l0).length ≤ _
        split
        · exact h.seen 0
        · exact h.l0
      · show (if f.toNat = 0 then D.l1 else D.seen 1).length ≤ _
        split
        · exact h.l1
        · exact h.seen 1
  · exact h
theorem Dk.write_ok {D : Dk} (h : D.ok) (f a : Int) (s : ByteArray) : (D.write f a s).ok := by
  unfold Dk.write
  split
  · rename_i hf
    obtain ⟨h1, h2, h3, h4, h5, h6⟩ := hf
    exact Dk.change_ok h ⟨by show f.toNat < 2; omega, by show a.toNat ≤ _; omega, by show a.toNat + s.size ≤ _; omega, fun h => by cases h⟩
  · exact h
theorem Dk.cut_ok {D : Dk} (h : D.ok) (f a : Int) : (D.cutD f a).ok := by
  unfold Dk.cutD
  split
  · rename_i hf
    obtain ⟨h1, h2, h3, h4, h5, h6⟩ := hf
    exact Dk.change_ok h ⟨by show f.toNat < 2; omega, by show a.toNat ≤ _; omega, by show a.toNat + 0 ≤ _; omega, fun _ => rfl⟩
  · exact h
/-- what is seen behind a sync is what was seen -/
theorem Dk.syncT_seen (D : Dk) (f k : Nat) (hf : f < 2) (hk : k < 2) : (D.syncT f).seen k = D.seen k := by
  unfold Dk.syncT Dk.seen Dk.lasts
  simp only
  by_cases h : k = f
  · subst h
    rw [seenL_filter_same]
    rcases (show k = 0 ∨ k = 1 by omega) with rfl | rfl <;> rfl
  · rw [seenL_filter _ _ _ _ h]
    rcases (show k = 0 ∧ f = 1 ∨ k = 1 ∧ f = 0 by omega) with ⟨rfl, rfl⟩ | ⟨rfl, rfl⟩ <;> rfl
theorem Dk.turn_seen (D : Dk) (k : Nat) : D.turn.seen k = D.seen k := by
  unfold Dk.turn; split <;> rfl
theorem Dk.change_seen (D : Dk) (c : Ch) (h : ¬ D.stops) (k : Nat) : (D.change c).seen k = if c.file = k then c.done (D.seen k) else D.seen k := by
  unfold Dk.change
  rw [if_neg h]
  show seenL (D.waits ++ [c]) k (D.turn.lasts k) = _
  rw [seenL_snoc]
  have : D.turn.lasts k = D.lasts k := by unfold Dk.turn; split <;> rfl
  rw [this]; rfl
theorem Dk.crash_seen (D : Dk) (keep : List Int) (k : Nat) : (D.crash keep).seen k = (D.crash keep).lasts k := rfl

end Go.Proofs.Ytjihboddejaelaa
