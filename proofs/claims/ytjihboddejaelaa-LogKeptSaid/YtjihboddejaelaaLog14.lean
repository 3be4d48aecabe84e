/-
  Read of package wal.
-/
import Derived.Test.YtjihboddejaelaaLogR
namespace Go.Proofs.Ytjihboddejaelaa
open Go.RowKit
open Go.BigFrame
open Go.Maps
set_option linter.unusedVariables false
set_option linter.unusedSimpArgs false

theorem wpList_lookup_mp (w : World) {ops : Array Oper} {rest : List Oper} {o : Oper} {a : Act} {Q : Exit → Act → World → Prop}
    (hg : o.guard = none) (m x : Operand) (hop : o.op = Op.lookup 102 m x false) (b n : Nat) (f : Int → Nat)
    (hm : a.eval m = .map (some b)) (h : MP w b n f) (k : Int) (hx : a.eval x = .int .i64 k) (hk : (Lit.int .i64 k).wf = true)
    (hK : wpList Try.prog ops Q rest (a.put o.dst (.int .i64 (f k))) w) : wpList Try.prog ops Q (o :: rest) a w := by
  obtain ⟨D, h1, h2⟩ := h
  refine wpList_lookup_own_int w hg m x _ hop 3 3 .i64 lawInt Try.underlying102 Try.underlying3 (zeroInt w) b n D hm h1 _ _ hx (keyOf_int_mk Try.underlying3 hk) fun c hat hwc => ?_
  have h3 := (h2 k).symm.trans hat
  have h4 : ((f k : Nat) : Int) = c := by cases h3; rfl
  rw [← h4]
  exact hK

set_option maxRecDepth 100000 in
set_option maxHeartbeats 3200000 in
theorem wal_Read (b : List (Option Nat)) (gd g m1 m2 : Nat) (R : Rw) (n : Int) (w : World) (h : LR w b gd g m1 m2 R) (hok : R.D.ok) (hf : R.f1 n ≤ 1000000) :
    Calls Try.prog 28 #[.pointer (some ⟨g, 0, none⟩), .int .i64 n] w fun e w' => e = .returned (.tuple #[.string (R.readS n), .int .i64 (R.readE n)]) ∧ w = w' := by
  have HL := Lib.hid h
  have x0 := h.cell0
  have x3 : w.cell? ⟨g, 3, none⟩ = some (.map (some m1)) := h.has.cell 3
  have HM := Lib.hid h.map1
  have OK := Lib.hid hok
  clear h hok
  by_cases hA : 0 ≤ n ∧ n ≤ 2147483647
  · have WN := Lib.hid (wfI (x := n) (by omega) (by omega))
    have d1 : decide (n < 0) = false := by simp; omega
    have d2 : decide ((2147483648 : Int) ≤ n) = false := by simp; omega
    by_cases hz : R.f1 n ≠ 0
    · have E := Lib.hid (show R.readS n = R.D.readS 1 (R.at1 n) 1024 ∧ R.readE n = R.D.readE 1 (R.at1 n) 1024 from ⟨(if_pos hA).trans (if_pos hz), (if_pos hA).trans (if_pos hz)⟩)
      rw [E.out.1, E.out.2]
      unfold Rw.at1
      obtain ⟨k, hk⟩ : ∃ k, R.f1 n = k := ⟨_, rfl⟩
      have HK := Lib.hid hk
      rw [hk] at hf hz ⊢
      clear E hk
      have TP := Lib.hid (disk_Read gd R.D b 1 (64 + ((k : Int) - 1) * 1028 + 4) 1024 w HL.out.disk OK.out)
      obtain ⟨S, hS⟩ : ∃ S, R.D.readS 1 (64 + ((k : Int) - 1) * 1028 + 4) 1024 = S := ⟨_, rfl⟩
      obtain ⟨E, hE⟩ : ∃ S, R.D.readE 1 (64 + ((k : Int) - 1) * 1028 + 4) 1024 = S := ⟨_, rfl⟩
      rw [hS, hE] at TP ⊢
      have k1 : (0 : Int) < (k : Int) := by omega
      clear hS hE hA hz
      go_enter Try.func28, Try.ntmps28
      go_wp2_with (first
        | (at_lookup; refine wpList_lookup_mp _ rfl _ _ rfl m1 R.nf R.f1 rfl HM.out n rfl WN.out ?_; rw [HK.out])
        | (go_at_call 49; refine (TP.out).mono ?_; rintro e w1 ⟨rfl, rfl⟩))
      go_ret2
      exact ⟨rfl, rfl⟩
    · have hz0 : R.f1 n = 0 := Classical.byContradiction hz
      have HK := Lib.hid hz0
      have TS := Lib.hid (disk_Size gd R.D b 0 w HL.out.disk OK.out)
      obtain ⟨N, hN, hNb⟩ : ∃ N : Nat, R.D.sizeN 0 = N ∧ N ≤ 67108864 := by
        unfold Dk.sizeN; split
        · exact ⟨_, rfl, OK.out.seen 0⟩
        · exact ⟨0, rfl, Nat.zero_le _⟩
      have wr2 : wrap64 ((N : Int) / 1024) = (N : Int) / 1024 := IntWalk.wrap64_in _ (by omega)
      have TP := Lib.hid (disk_Read gd R.D b 0 (n * 1024) 1024 w HL.out.disk OK.out)
      have q1 : R.readS n = if R.D.sizeE 0 ≠ 0 then ⟨#[]⟩ else if R.D.sizeN 0 / 1024 ≤ n then ⟨#[]⟩ else R.D.readS 0 (n * 1024) 1024 := (if_pos hA).trans (if_neg hz)
      have q2 : R.readE n = if R.D.sizeE 0 ≠ 0 then R.D.sizeE 0 else if R.D.sizeN 0 / 1024 ≤ n then 7 else R.D.readE 0 (n * 1024) 1024 := (if_pos hA).trans (if_neg hz)
      obtain ⟨S, hS⟩ : ∃ S, R.D.readS 0 (n * 1024) 1024 = S := ⟨_, rfl⟩
      obtain ⟨E, hE⟩ : ∃ S, R.D.readE 0 (n * 1024) 1024 = S := ⟨_, rfl⟩
      obtain ⟨F, hF⟩ : ∃ S, R.D.sizeE 0 = S := ⟨_, rfl⟩
      rw [hS, hE] at TP
      rw [hN, hF] at TS
      rw [hN, hF, hS] at q1
      rw [hN, hF, hE] at q2
      rw [q1, q2]
      have HA := Lib.hid hA
      clear hS hE hA hz hz0 hN hF q1 q2 hNb
      by_cases hF : F ≠ 0
      · rw [if_pos hF, if_pos hF]
        go_enter Try.func28, Try.ntmps28
        go_wp2_with (first
          | (at_lookup; refine wpList_lookup_mp _ rfl _ _ rfl m1 R.nf R.f1 rfl HM.out n rfl WN.out ?_; rw [HK.out])
          | (go_at_call 55; refine (TS.out).mono ?_; rintro e w1 ⟨rfl, rfl⟩))
        go_ret2
        exact ⟨rfl, rfl⟩
      · rw [if_neg hF, if_neg hF]
        have hF0 : F = 0 := Classical.byContradiction hF
        subst hF0
        by_cases hx : (N : Int) / 1024 ≤ n
        · rw [if_pos hx, if_pos hx]
          clear hF
          go_enter Try.func28, Try.ntmps28
          go_wp2_with (first
            | (at_lookup; refine wpList_lookup_mp _ rfl _ _ rfl m1 R.nf R.f1 rfl HM.out n rfl WN.out ?_; rw [HK.out])
            | (go_at_call 55; refine (TS.out).mono ?_; rintro e w1 ⟨rfl, rfl⟩))
          go_ret2
          exact ⟨rfl, rfl⟩
        · rw [if_neg hx, if_neg hx]
          have wr1 : wrap64 (n * 1024) = n * 1024 := IntWalk.wrap64_in _ (by have := HA.out; omega)
          clear hF
          go_enter Try.func28, Try.ntmps28
          go_wp2_with (first
            | (at_lookup; refine wpList_lookup_mp _ rfl _ _ rfl m1 R.nf R.f1 rfl HM.out n rfl WN.out ?_; rw [HK.out])
            | (go_at_call 55; refine (TS.out).mono ?_; rintro e w1 ⟨rfl, rfl⟩) | (go_at_call 49; refine (TP.out).mono ?_; rintro e w1 ⟨rfl, rfl⟩))
          go_ret2
          exact ⟨rfl, rfl⟩
  · have E := Lib.hid (show R.readS n = ⟨#[]⟩ ∧ R.readE n = 1 from ⟨if_neg hA, if_neg hA⟩)
    rw [E.out.1, E.out.2]
    by_cases h1 : 0 ≤ n
    · have d1 : decide (n < 0) = false := by simp; omega
      have d2 : decide ((2147483648 : Int) ≤ n) = true := by simp; omega
      clear E hA h1
      go_enter Try.func28, Try.ntmps28
      go_wp2_with fail
      go_ret2
      exact ⟨rfl, rfl⟩
    · have d1 : decide (n < 0) = true := by simp; omega
      clear E hA h1
      go_enter Try.func28, Try.ntmps28
      go_wp2_with fail
      go_ret2
      exact ⟨rfl, rfl⟩

end Go.Proofs.Ytjihboddejaelaa
