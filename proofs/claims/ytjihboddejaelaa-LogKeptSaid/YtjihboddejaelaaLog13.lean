/-
  last of package wal: the commit that a log's text tells last.
-/
import Derived.Test.YtjihboddejaelaaLog12
import Derived.Test.YtjihboddejaelaaLogR
namespace Go.Proofs.Ytjihboddejaelaa
open Go.RowKit
open Go.BigFrame
open Go.Maps
set_option linter.unusedVariables false
set_option linter.unusedSimpArgs false

structure LastSt where
  sl : Nat
  nu : Nat
  f : Nat
  p : Nat
def lastSt (l : List UInt8) (p0 : Nat) : Nat → LastSt
  | 0 => ⟨0, 0, 0, p0⟩
  | k + 1 => if (slotOf l k).1 ≠ 0 ∧ ((lastSt l p0 k).nu = 0 ∨ (slotOf l k).1 = (lastSt l p0 k).nu % 3 + 1) then ⟨k, (slotOf l k).1, (slotOf l k).2.1, (slotOf l k).2.2⟩ else lastSt l p0 k
def lastCells (gd : Nat) (a1 a2 a3 a6 : Value) (S : LastSt) : Array Value := #[.pointer (some ⟨gd, 0, none⟩), a1, a2, a3, .int .i64 S.f, .int .i64 S.p, a6, .int .i64 S.sl, .int .i64 S.nu]
def lastOf (l : List UInt8) (p0 : Nat) : LastSt := if l.take 16 = markL then lastSt l p0 2 else ⟨0, 0, 0, p0⟩
theorem lastOf_none {l : List UInt8} {p0 : Nat} (h : slotIx l = 2) : lastOf l p0 = ⟨0, 0, 0, p0⟩ := by
  unfold lastOf
  split
  · rename_i hm
    unfold slotIx at h
    split at h
    · rename_i h1
      rcases h1 with h1 | h1
      · exact absurd hm h1
      · rw [lastSt, if_neg (fun h2 => h2.1 h1.2), lastSt, if_neg (fun h2 => h2.1 h1.1)]; rfl
    · split at h <;> cases h
  · rfl
theorem lastOf_some {l : List UInt8} {p0 : Nat} (h : slotIx l ≠ 2) : lastOf l p0 = ⟨slotIx l, (slotOf l (slotIx l)).1, (slotOf l (slotIx l)).2.1, (slotOf l (slotIx l)).2.2⟩ := by
  obtain ⟨g1, g2, hm⟩ := slotIx_good h
  unfold lastOf
  rw [if_pos hm]
  unfold slotIx at h
  split at h
  · exact absurd rfl h
  · rename_i h1
    have hix : slotIx l = if (slotOf l 0).1 = 0 ∨ (slotOf l 1).1 ≠ 0 ∧ (slotOf l 1).1 = (slotOf l 0).1 % 3 + 1 then 1 else 0 := by unfold slotIx; rw [if_neg h1]
    rw [lastSt]
    by_cases h0 : (slotOf l 0).1 = 0
    · have e1 : lastSt l p0 1 = ⟨0, 0, 0, p0⟩ := by rw [lastSt, if_neg (fun h2 => h2.1 h0)]; rfl
      have n1 : (slotOf l 1).1 ≠ 0 := fun e => h1 (.inr ⟨h0, e⟩)
      rw [e1, if_pos ⟨n1, .inl rfl⟩, hix, if_pos (.inl h0)]
    · have e1 : lastSt l p0 1 = ⟨0, (slotOf l 0).1, (slotOf l 0).2.1, (slotOf l 0).2.2⟩ := by rw [lastSt, if_pos ⟨h0, .inl rfl⟩]
      rw [e1]
      by_cases h2 : (slotOf l 1).1 ≠ 0 ∧ (slotOf l 1).1 = (slotOf l 0).1 % 3 + 1
      · rw [if_pos ⟨h2.1, .inr h2.2⟩, hix, if_pos (.inr h2)]
      · rw [if_neg (fun h3 => h3.2.elim h0 fun h4 => h2 ⟨h3.1, h4⟩), hix, if_neg (fun h3 => h3.elim h0 h2)]
theorem lastOf_nu (l : List UInt8) (p0 : Nat) : decide (0 < (lastOf l p0).nu) = !decide (slotIx l = 2) := by
  by_cases h : slotIx l = 2
  · rw [lastOf_none h, decide_eq_true h]; rfl
  · have := (slotIx_good h).2.1
    rw [lastOf_some h, decide_eq_false h]
    simp only [Bool.not_false, decide_eq_true_eq]; omega

def LastPost (w : World) (g gd : Nat) (a1 a2 a3 a6 : Value) (S : LastSt) (e : Ending) (w' : World) : Prop :=
  e = .returned (.bool (decide (0 < S.nu))) ∧ Has w' g 106 (lastCells gd a1 a2 a3 a6 S) ∧ Turn [some g] [some g] w w'
set_option maxRecDepth 100000 in
set_option maxHeartbeats 6400000 in
theorem wal_last (g gd p0 : Nat) (a1 a2 a3 a6 : Value) (s : ByteArray) (w : World) (h : Has w g 106 (lastCells gd a1 a2 a3 a6 ⟨0, 0, 0, p0⟩)) (hs : s.size ≤ 67108864) :
    Calls Try.prog 63 #[.pointer (some ⟨g, 0, none⟩), .string s] w (LastPost w g gd a1 a2 a3 a6 (lastOf s.data.toList p0)) := by
  by_cases hm : s.data.toList.take 16 = markL
  · have hz : 16 ≤ s.size := by
      have : (s.data.toList.take 16).length = 16 := by rw [hm]; rfl
      rw [List.length_take, Array.length_toList] at this
      have e : s.data.size = s.size := rfl
      omega
    have e1 : s.extract 0 16 = ⟨#[114, 101, 108, 115, 116, 111, 114, 101, 32, 108, 111, 103, 32, 48, 48, 49]⟩ := by
      rw [extr_part]; show bsOf (partL _ 0 16) = _
      rw [partL_zero, hm]; rfl
    have E := Lib.hid (show lastOf s.data.toList p0 = lastSt s.data.toList p0 2 from if_pos hm)
    have HS := Lib.hid hs
    rw [E.out]
    have HH := Lib.hid h
    have z0 : ¬ ((s.size : Int) < 16) := by omega
    clear h hm E hs
    have SA := Lib.hid (fun (k : Nat) (hk : k < 2) w1 => wal_slotAt s k hk HS.out w1)
    go_enter Try.func63, Try.ntmps63
    generalize (⟨#[114, 101, 108, 115, 116, 111, 114, 101, 32, 108, 111, 103, 32, 48, 48, 49]⟩ : ByteArray) = MK at *
    go_wp2_with fail
    go_loopw [18] (fun v18 wr => ∃ k : Nat, k ≤ 2 ∧ v18 = .int .i64 k ∧ Has wr g 106 (lastCells gd a1 a2 a3 a6 (lastSt s.data.toList p0 k)) ∧ Turn [some g] [some g] w wr) (fun v18 _ => 2 - (intOf v18).toNat)
    case atStart => exact ⟨0, by omega, rfl, HH.out, Turn.refl _ _⟩
    case round =>
      obtain ⟨k, hk, rfl, hh, ht⟩ := hrel
      have HR := Lib.hid hh
      have HT := Lib.hid ht
      clear hh ht HH z0 e1 hz
      by_cases hk2 : k < 2
      · have SK := Lib.hid (SA.out k hk2)
        obtain ⟨S, hS⟩ : ∃ S, lastSt s.data.toList p0 k = S := ⟨_, rfl⟩
        have ES := Lib.hid (show lastSt s.data.toList p0 (k + 1) = if (slotOf s.data.toList k).1 ≠ 0 ∧ (S.nu = 0 ∨ (slotOf s.data.toList k).1 = S.nu % 3 + 1) then ⟨k, (slotOf s.data.toList k).1, (slotOf s.data.toList k).2.1, (slotOf s.data.toList k).2.2⟩ else S by rw [lastSt, hS])
        rw [hS] at HR
        clear SA hS
        go_upto_region 7 with (go_at_call 102; (with_reducible refine (SK.out _).mono ?_); rintro e w1 ⟨n, f, p, b, rfl, hsl, hb⟩; have HSL := Lib.hid hsl; have H1 := Lib.hid (HR.out.belowS hb); have HT1 := Lib.hid (HT.out.trans (Turn.below _ hb)); clear hsl hb)
        have x8 : w1.cell? ⟨g, 8, none⟩ = some (.int .i64 S.nu) := H1.out.cell 8
        have x7 : w1.cell? ⟨g, 7, none⟩ = some (.int .i64 S.sl) := H1.out.cell 7
        have x4 : w1.cell? ⟨g, 4, none⟩ = some (.int .i64 S.f) := H1.out.cell 4
        have x5 : w1.cell? ⟨g, 5, none⟩ = some (.int .i64 S.p) := H1.out.cell 5
        have xz := H1.out.lt
        have xf := H1.out.frozen
        cases b with
        | false =>
          have E1 := Lib.hid (show lastSt s.data.toList p0 (k + 1) = S by
            have h0 := HSL.out.1
            rw [ES.out, if_neg]
            intro h2
            exact absurd h0.symm (by rw [decide_eq_true h2.1]; decide))
          clear HSL ES
          go_wp2_with fail
          go_roundw
          case rel => exact ⟨k + 1, by omega, by simp, by rw [E1.out]; exact H1.out, HT1.out⟩
          case measure => simp [intOf]; omega
        | true =>
          have hsl := HSL.out.2 rfl
          have hn0 : n ≠ 0 := by
            have h0 := HSL.out.1
            rw [hsl] at h0
            exact of_decide_eq_true h0.symm
          rw [hsl] at ES
          simp only at ES
          have HSET := Lib.hid (show Has ((((w1.setCell ⟨g, 7, none⟩ (.int .i64 k)).setCell ⟨g, 8, none⟩ (.int .i64 n)).setCell ⟨g, 4, none⟩ (.int .i64 f)).setCell ⟨g, 5, none⟩ (.int .i64 p)) g 106 (lastCells gd a1 a2 a3 a6 ⟨k, n, f, p⟩) from (((H1.out.set 7 _).set 8 _).set 4 _).set 5 _)
          have TSET := Lib.hid (HT1.out.trans ((((Turn.cell g 7 (.int .i64 k) w1).trans (Turn.cell g 8 (.int .i64 n) _)).trans (Turn.cell g 4 (.int .i64 f) _)).trans (Turn.cell g 5 (.int .i64 p) _)))
          have EN := Lib.hid hn0
          clear HSL hsl hn0
          by_cases h0 : S.nu = 0
          · have E1 := Lib.hid (show lastSt s.data.toList p0 (k + 1) = ⟨k, n, f, p⟩ by rw [ES.out, if_pos ⟨EN.out, .inl h0⟩])
            have t0 : (S.nu : Int) = 0 := by omega
            rw [t0] at x8
            clear ES h0
            go_wp2_with fail
            go_roundw
            case rel => exact ⟨k + 1, by omega, by simp, by rw [E1.out]; exact HSET.out, TSET.out⟩
            case measure => simp [intOf]; omega
          · have t0 : ((S.nu : Int) == 0) = false := by simp; exact h0
            by_cases h1 : n = S.nu % 3 + 1
            · have E1 := Lib.hid (show lastSt s.data.toList p0 (k + 1) = ⟨k, n, f, p⟩ by rw [ES.out, if_pos ⟨EN.out, .inr h1⟩])
              have T1 := Lib.hid (show (n : Int) = (S.nu : Int) % 3 + 1 by omega)
              have t2 : ((n : Int) == (S.nu : Int) % 3 + 1) = true := by simp; omega
              clear ES h0 h1
              go_wp2_with fail
              go_roundw
              case rel =>
                have q1 := HSET.out
                have q2 := TSET.out
                exact ⟨k + 1, by omega, by simp, by rw [E1.out]; exact q1, q2⟩
              case measure => simp [intOf]; omega
            · have E1 := Lib.hid (show lastSt s.data.toList p0 (k + 1) = S by rw [ES.out, if_neg (fun h2 => h2.2.elim h0 h1)])
              have t2 : ((n : Int) == (S.nu : Int) % 3 + 1) = false := by rw [beq_eq_false_iff_ne]; omega
              clear ES h0 h1
              go_wp2_with fail
              go_roundw
              case rel => exact ⟨k + 1, by omega, by simp, by rw [E1.out]; exact H1.out, HT1.out⟩
              case measure => simp [intOf]; omega
      · obtain rfl : k = 2 := by omega
        have x8 := HR.out.cell 8
        have xz := HR.out.lt
        simp only [lastCells] at x8
        go_wp2_with fail
        go_ret
        exact ⟨rfl, HR.out, HT.out⟩
  · have E := Lib.hid (show lastOf s.data.toList p0 = ⟨0, 0, 0, p0⟩ from if_neg hm)
    rw [E.out]
    have HH := Lib.hid h
    by_cases hz : s.size < 16
    · have z0 : (s.size : Int) < 16 := by omega
      clear h hm hz
      go_enter Try.func63, Try.ntmps63
      generalize (⟨#[114, 101, 108, 115, 116, 111, 114, 101, 32, 108, 111, 103, 32, 48, 48, 49]⟩ : ByteArray) = MK at *
      go_wp2_with fail
      go_ret
      exact ⟨rfl, HH.out, Turn.refl _ _⟩
    · have z0 : ¬ ((s.size : Int) < 16) := by omega
      have e1 : s.extract 0 16 ≠ ⟨#[114, 101, 108, 115, 116, 111, 114, 101, 32, 108, 111, 103, 32, 48, 48, 49]⟩ := fun e => hm (by
        rw [extr_part] at e
        have e2 := congrArg (fun x : ByteArray => x.data.toList) e
        simp only at e2
        rw [bsOf_list] at e2
        have e3 : partL s.data.toList 0 16 = markL := e2
        rw [partL_zero] at e3; exact e3)
      have z16 : 16 ≤ s.size := by omega
      clear h hm hz
      go_enter Try.func63, Try.ntmps63
      generalize (⟨#[114, 101, 108, 115, 116, 111, 114, 101, 32, 108, 111, 103, 32, 48, 48, 49]⟩ : ByteArray) = MK at *
      have e2 : ((s.extract 0 16).toList == MK.toList) = false := by
        rw [beq_eq_false_iff_ne]
        intro e
        rw [Lib.toList_data, Lib.toList_data] at e
        exact e1 (ByteArray.ext (Array.toList_inj.1 e))
      clear e1
      go_wp2_with fail
      go_ret
      exact ⟨rfl, HH.out, Turn.refl _ _⟩

end Go.Proofs.Ytjihboddejaelaa
