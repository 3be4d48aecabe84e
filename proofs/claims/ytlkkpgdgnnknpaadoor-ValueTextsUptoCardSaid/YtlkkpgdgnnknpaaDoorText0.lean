/-
  The number that a text is: plain Lean.
-/
import Derived.Test.YtlkkpgdgnnknpaaDoorNum64
import Derived.Test.YtlkkpgdgnnknpaaDoorSval
import Derived.Lib.ParseIntB
namespace Go.Proofs.YtlkkpgdgnnknpaaDoor
open Go.RowKit
set_option linter.unusedVariables false
set_option linter.unusedSimpArgs false

def isDig (c : UInt8) : Prop := 48 ≤ c.toNat ∧ c.toNat ≤ 57
instance (c : UInt8) : Decidable (isDig c) := by unfold isDig; infer_instance
/-- what digits make behind a number -/
def digV : List UInt8 → Nat → Option Nat
  | [], a => some a
  | c :: r, a => if isDig c then digV r (a * 10 + (c.toNat - 48)) else none
theorem digV_snoc {c : UInt8} (h : isDig c) : ∀ (l : List UInt8) (a u : Nat), digV l a = some u → digV (l ++ [c]) a = some (u * 10 + (c.toNat - 48))
  | [], a, u, hu => by cases hu; show digV [c] a = _; rw [digV, if_pos h]; rfl
  | d :: l, a, u, hu => by
    rw [digV] at hu
    split at hu
    · rename_i hd
      rw [List.cons_append, digV, if_pos hd]
      exact digV_snoc h l _ u hu
    · cases hu
theorem digV_bad {c : UInt8} (h : ¬ isDig c) : ∀ (l r : List UInt8) (a : Nat), digV (l ++ c :: r) a = none
  | [], r, a => by show digV (c :: r) a = none; rw [digV, if_neg h]
  | d :: l, r, a => by
    rw [List.cons_append, digV]
    split
    · exact digV_bad h l r _
    · rfl
theorem digV_mono : ∀ (l : List UInt8) (a u : Nat), digV l a = some u → a ≤ u
  | [], a, u, h => by cases h; exact Nat.le_refl _
  | c :: l, a, u, h => by
    rw [digV] at h
    split at h
    · have := digV_mono l _ u h; omega
    · cases h
theorem digV_parse : ∀ (l : List UInt8) (a u : Nat), a ≤ 18446744073709551615 → (Lib.parseUintM 18446744073709551615 a l = .ok u ↔ digV l a = some u ∧ u ≤ 18446744073709551615)
  | [], a, u, ha => by
    rw [Lib.parseUintM, digV]
    constructor
    · intro h; cases h; exact ⟨rfl, ha⟩
    · rintro ⟨h, _⟩; cases h; rfl
  | c :: l, a, u, ha => by
    rw [Lib.parseUintM, digV]
    by_cases hc : isDig c
    · have hc' : 48 ≤ c.toNat ∧ c.toNat ≤ 57 := hc
      rw [if_pos hc', if_pos hc]
      by_cases h1 : 1844674407370955162 ≤ a
      · rw [if_pos h1]
        constructor
        · intro h; cases h
        · rintro ⟨h, h2⟩
          have := digV_mono l _ u h
          omega
      · rw [if_neg h1]
        by_cases h2 : 18446744073709551615 < a * 10 + (c.toNat - 48)
        · rw [if_pos h2]
          constructor
          · intro h; cases h
          · rintro ⟨h, h3⟩
            have := digV_mono l _ u h
            omega
        · rw [if_neg h2]
          exact digV_parse l _ u (by omega)
    · have hc' : ¬ (48 ≤ c.toNat ∧ c.toNat ≤ 57) := hc
      rw [if_neg hc', if_neg hc]
      constructor
      · intro h; cases h
      · rintro ⟨h, _⟩; cases h

/-- the number that a text is -/
def wholeO (l : List UInt8) : Option Int :=
  if l.head?.map (·.toNat) = some 45 then (if l.tail = [] then none else (digV l.tail 0).bind fun u => fitO (-(u : Int)))
  else if l = [] then none else (digV l 0).bind fun u => fitO (u : Int)
/-- how the program reads it -/
def okO : Lib.NumEnd Int → Option Int
  | .ok v => some v
  | _ => none
def parseO (l : List UInt8) : Option Int := if l.head?.map (·.toNat) = some 43 then none else okO (Lib.parseIntB 64 l)
theorem pow64 : 2 ^ 64 - 1 = 18446744073709551615 := by decide
theorem pow63 : 2 ^ (64 - 1) = 9223372036854775808 := by decide
theorem parse_end (l : List UInt8) (hl : l ≠ []) : (∃ u, Lib.parseUintB 64 l = .ok u ∧ digV l 0 = some u) ∨ ((∀ u, Lib.parseUintB 64 l ≠ .ok u) ∧ ∀ u, digV l 0 = some u → 18446744073709551615 < u) := by
  unfold Lib.parseUintB
  rw [if_neg hl, pow64]
  cases hp : Lib.parseUintM 18446744073709551615 0 l
  case ok u => exact .inl ⟨u, rfl, ((digV_parse l 0 u (by omega)).1 hp).1⟩
  all_goals
    refine .inr ⟨(fun u h => by cases h), fun u hu => ?_⟩
    rcases Nat.lt_or_ge 18446744073709551615 u with h | h
    · exact h
    · rw [(digV_parse l 0 u (by omega)).2 ⟨hu, h⟩] at hp; cases hp
theorem fit_none {o : Option Nat} {f : Nat → Int} (h : ∀ u, o = some u → ¬ inI (f u)) : (o.bind fun u => fitO (f u)) = none := by
  cases o with
  | none => rfl
  | some u => exact fit_no (h u rfl)
theorem whole_neg {c : UInt8} {r : List UInt8} (h : c.toNat = 45) : wholeO (c :: r) = if r = [] then none else (digV r 0).bind fun u => fitO (-(u : Int)) := by
  unfold wholeO
  rw [if_pos (show ((c :: r).head?.map (·.toNat)) = some 45 from congrArg some h)]
  by_cases hr : r = []
  · rw [if_pos hr, if_pos (show (c :: r).tail = [] from hr)]
  · rw [if_neg hr, if_neg (show ¬ (c :: r).tail = [] from hr)]; rfl
theorem whole_pos {c : UInt8} {r : List UInt8} (h : ¬ c.toNat = 45) : wholeO (c :: r) = (digV (c :: r) 0).bind fun u => fitO (u : Int) := by
  unfold wholeO
  rw [if_neg (show ¬ ((c :: r).head?.map (·.toNat)) = some 45 from fun e => h (Option.some.inj e)), if_neg (by simp)]
theorem parse_neg {c : UInt8} {r : List UInt8} (h : c.toNat = 45) : okO (Lib.parseIntB 64 (c :: r)) = match Lib.parseUintB 64 r with
    | .ok u => if 9223372036854775808 < u then none else some (-(u : Int))
    | _ => none := by
  unfold Lib.parseIntB
  simp only [h, or_true, if_true, not_true, false_and, if_false, true_and]
  cases hp : Lib.parseUintB 64 r
  case ok u =>
    dsimp only
    rw [show 2 ^ (64 - 1) = 9223372036854775808 from rfl]
    by_cases hu : 9223372036854775808 < u
    · rw [if_pos hu, if_pos hu]; rfl
    · rw [if_neg hu, if_neg hu]; rfl
  all_goals rfl
theorem parse_pos {c : UInt8} {r : List UInt8} (h : ¬ c.toNat = 45) (h' : ¬ c.toNat = 43) : okO (Lib.parseIntB 64 (c :: r)) = match Lib.parseUintB 64 (c :: r) with
    | .ok u => if 9223372036854775808 ≤ u then none else some (u : Int)
    | _ => none := by
  unfold Lib.parseIntB
  simp only [h, h', or_self, if_false, not_false_eq_true, true_and, false_and]
  cases hp : Lib.parseUintB 64 (c :: r)
  case ok u =>
    dsimp only
    rw [show 2 ^ (64 - 1) = 9223372036854775808 from rfl]
    by_cases hu : 9223372036854775808 ≤ u
    · rw [if_pos hu, if_pos hu]; rfl
    · rw [if_neg hu, if_neg hu]; rfl
  all_goals rfl
theorem parse_whole (l : List UInt8) : parseO l = wholeO l := by
  cases l with
  | nil => rfl
  | cons c r =>
    by_cases h43 : c.toNat = 43
    · have hd : digV (c :: r) 0 = none := by rw [digV, if_neg (by unfold isDig; omega)]
      rw [whole_pos (by omega), hd]
      exact if_pos (show ((c :: r).head?.map (·.toNat)) = some 43 from congrArg some h43)
    · have e1 : parseO (c :: r) = okO (Lib.parseIntB 64 (c :: r)) := if_neg (show ¬ ((c :: r).head?.map (·.toNat)) = some 43 from fun e => h43 (Option.some.inj e))
      rw [e1]
      by_cases h45 : c.toNat = 45
      · rw [whole_neg h45, parse_neg h45]
        by_cases hr : r = []
        · subst hr; rfl
        · rw [if_neg hr]
          rcases parse_end r hr with ⟨u, h1, h2⟩ | ⟨h1, h2⟩
          · rw [h1, h2]
            show (if 9223372036854775808 < u then none else some (-(u : Int))) = fitO (-(u : Int))
            by_cases hu : 9223372036854775808 < u
            · rw [if_pos hu, fit_no (by unfold inI; omega)]
            · rw [if_neg hu, fit_yes (by unfold inI; omega)]
          · rw [fit_none (fun u hu => by have := h2 u hu; unfold inI; omega)]
            cases hp : Lib.parseUintB 64 r
            case ok u => exact absurd hp (h1 u)
            all_goals rfl
      · rw [whole_pos h45, parse_pos h45 h43]
        rcases parse_end (c :: r) (by simp) with ⟨u, h1, h2⟩ | ⟨h1, h2⟩
        · rw [h1, h2]
          show (if 9223372036854775808 ≤ u then none else some (u : Int)) = fitO (u : Int)
          by_cases hu : 9223372036854775808 ≤ u
          · rw [if_pos hu, fit_no (by unfold inI; omega)]
          · rw [if_neg hu, fit_yes (by unfold inI; omega)]
        · rw [fit_none (fun u hu => by have := h2 u hu; unfold inI; omega)]
          cases hp : Lib.parseUintB 64 (c :: r)
          case ok u => exact absurd hp (h1 u)
          all_goals rfl

end Go.Proofs.YtlkkpgdgnnknpaaDoor
