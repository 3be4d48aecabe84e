/-
  has of package relstorekeep: has a log these pages?
-/
import Derived.Test.YtjihboddejaelaaKeptD
import Derived.Test.YtjihboddejaelaaKeptB
import Derived.Test.YtjihboddejaelaaLog14
namespace Go.Proofs.Ytjihboddejaelaa
open Go.RowKit
open Go.BigFrame
open Go.Maps
set_option linter.unusedVariables false
set_option linter.unusedSimpArgs false

theorem MS.look {w : World} {b n : Nat} {f : Int → Option ByteArray} (h : MS w b n f) (k : Int) (hk : (Lit.int .i64 k).wf = true) :
    (Instr.lookup 42 (.map (some b)) (.int .i64 k) true).run Try.prog w = .ok (.tuple #[.string ((f k).getD ⟨#[]⟩), .bool (f k).isSome]) w := by
  obtain ⟨D, h1, h2⟩ := h
  obtain ⟨v, ps, hrun, hv⟩ := h1.look_ok lawInt Try.underlying42 (zeroStr w) (zd := .lit (.string [])) (zp := []) (plainElem_string Try.underlying9 (s := ⟨#[]⟩) (by decide)) (keyOf_int_mk Try.underlying3 hk)
  obtain ⟨c, rfl, hc, _⟩ := plainElem_string_inv Try.underlying9 hv
  have hc1 : D.atKey (.int .i64 k) (.lit (.string [])) = .lit (.string c.data.toList) := congrArg Prod.fst hc
  rw [hrun]
  cases hf : f k with
  | none =>
    have hn := (h2 k).1 hf
    rw [atKey_of_not_has hn] at hc1
    have h3 : ([] : List UInt8) = c.data.toList := by simpa using hc1
    have h4 : c = ⟨#[]⟩ := by
      cases c
      simp at h3
      rw [h3]
    rw [hn, h4]; rfl
  | some t =>
    have ht := (h2 k).2 t hf
    rw [has_true_of_atKey ht]
    rw [ht] at hc1
    have h3 : t.data.toList = c.data.toList := by simpa using hc1
    have h4 : c = t := by
      cases c; cases t
      simp at h3
      rw [h3]
    rw [h4]; rfl
theorem zeros_conv (w : World) : (convert 81 9 (.slice (some ⟨w.heap.size, 0, none⟩) 1024 1024)).run Try.prog (w.alloc (.cells (u8s (List.replicate 1024 0)).toArray 5)) = .ok (.string zeroPage) (w.alloc (.cells (u8s (List.replicate 1024 0)).toArray 5)) := by
  have := conv_BS (c := 1024) (BS.of_has (l := List.replicate 1024 0) (Has.new w 5 (u8s (List.replicate 1024 0)).toArray))
  rw [List.length_replicate] at this
  exact this
theorem zeros_make (w : World) : (Instr.makeSlice 81 (.int .i64 1024) (.int .i64 1024)).run Try.prog w = .ok (.slice (some ⟨w.heap.size, 0, none⟩) 1024 1024) (w.alloc (.cells (u8s (List.replicate 1024 0)).toArray 5)) := by
  have hmk := make_bytesN 1024 (by omega) w
  rw [madeZeros, show ((1024 : Nat) : Int) = 1024 from rfl] at hmk
  exact hmk

theorem ba_neK {t s : ByteArray} (h : ¬ t = s) : (t.toList == s.toList) = false := by
  rw [Lib.toList_data, Lib.toList_data, beq_eq_false_iff_ne]
  intro e
  exact h (ByteArray.ext (Array.toList_inj.1 e))
def HasPost (w : World) (F : Prop) (e : Ending) (w' : World) : Prop := ∃ v, e = .returned (.bool v) ∧ (v = true ↔ F) ∧ Below w.heap.size w w'
theorem FitP.not_some {t : ByteArray} {e : Int} {s : ByteArray} (h : e ≠ 0 ∨ s ≠ t) : ¬ FitP (some t) e s := fun h2 => h.elim (fun h3 => h3 h2.1) (fun h3 => h3 h2.2)
theorem FitP.not_none {e : Int} {s : ByteArray} (h1 : e = 0) (h : s ≠ zeroPage) : ¬ FitP none e s := fun h2 => h (h2 h1)

set_option maxRecDepth 100000 in
set_option maxHeartbeats 3200000 in
theorem keep_has (b : List (Option Nat)) (gd g m1 m2 mb nb : Nat) (R : Rw) (f : Int → Option ByteArray) (w : World) (h : LR w b gd g m1 m2 R) (hok : R.D.ok) (hf1 : ∀ n, R.f1 n ≤ 1000000) (hm : MS w mb nb f) :
    Calls Try.prog 25 #[.pointer (some ⟨g, 0, none⟩), .map (some mb)] w (HasPost w (∀ k : Nat, k < 6 → FitP (f k) (R.readE k) (R.readS k))) := by
  have HL := Lib.hid h
  have HM := Lib.hid hm
  have OK := Lib.hid hok
  have F1 := Lib.hid hf1
  clear h hm hok hf1
  go_enter Try.func25, Try.ntmps25
  go_wp2_with fail
  go_loopw [5] (fun v5 wr => ∃ k : Nat, k ≤ 6 ∧ v5 = .int .i64 k ∧ Below w.heap.size w wr ∧ ∀ j : Nat, j < k → FitP (f j) (R.readE j) (R.readS j)) (fun v5 _ => 6 - (intOf v5).toNat)
  case atStart => exact ⟨0, by omega, rfl, Below.refl _ _, fun j hj => by omega⟩
  case round =>
    obtain ⟨k, hk, rfl, hb, hfit⟩ := hrel
    have HB := Lib.hid hb
    have Fz9 := Lib.hid hfit
    clear hb hfit
    have NX := Lib.hid (fun (h : FitP (f k) (R.readE k) (R.readS k)) (j : Nat) (hj : j < k + 1) => by
      rcases Nat.lt_succ_iff_lt_or_eq.1 hj with h2 | h2
      · exact Fz9.out j h2
      · subst h2; exact h)
    by_cases hk2 : k < 6
    · have hrun := (HM.out.below HB.out).look k (wfI (by omega) (by omega))
      have TR := Lib.hid (wal_Read b gd g m1 m2 R k wr (HL.out.below HB.out) OK.out (F1.out k))
      have zm := zeros_make wr
      have zc := zeros_conv wr
      have zb := HB.out.alloc HB.out.size (.cells (u8s (List.replicate 1024 0)).toArray 5)
      have ZB := Lib.hid zb
      obtain ⟨Z, hZ⟩ : ∃ Z, zeroPage = Z := ⟨_, rfl⟩
      have HZ := Lib.hid hZ
      rw [hZ] at zc
      obtain ⟨WZ, hWZ⟩ : ∃ W, (wr.alloc (.cells (u8s (List.replicate 1024 0)).toArray 5)) = W := ⟨_, rfl⟩
      rw [hWZ] at zm zc ZB
      obtain ⟨E, hE⟩ : ∃ E, R.readE k = E := ⟨_, rfl⟩
      obtain ⟨S, hS⟩ : ∃ S, R.readS k = S := ⟨_, rfl⟩
      have HE := Lib.hid hE
      have HS := Lib.hid hS
      rw [hE, hS] at TR
      cases hfk : f k with
      | none =>
        have HF := Lib.hid hfk
        rw [hfk] at hrun
        clear hZ hWZ hE hS zb hfk
        simp only [Option.getD, Option.isSome] at hrun
        by_cases e0 : E = 0
        · subst e0
          by_cases hs : S = Z
          · subst hs
            go_wp2_with (go_at_call 28; (with_reducible refine TR.out.mono ?_); rintro e w3 ⟨rfl, rfl⟩)
            go_roundw
            case rel => exact ⟨k + 1, by omega, by simp, ZB.out, NX.out (by rw [HF.out, HS.out, HE.out]; exact fun _ => HZ.out.symm)⟩
            case measure => simp [intOf]; omega
          · have n2 := ba_neK hs
            have NF := Lib.hid (show ¬ ∀ k : Nat, k < 6 → FitP (f k) (R.readE k) (R.readS k) from fun hall => FitP.not_none HE.out (by rw [HS.out, HZ.out]; exact hs) (HF.out ▸ hall k hk2))
            clear hs
            go_wp2_with (go_at_call 28; (with_reducible refine TR.out.mono ?_); rintro e w3 ⟨rfl, rfl⟩)
            go_ret
            exact ⟨_, rfl, ⟨fun h => (by cases h), fun h => absurd h NF.out⟩, ZB.out⟩
        · have n1 : (E == 0) = false := by simpa using e0
          have n2 : (E != 0) = true := by simpa using e0
          have NE := Lib.hid e0
          clear zm zc e0
          go_wp2_with (go_at_call 28; (with_reducible refine TR.out.mono ?_); rintro e w3 ⟨rfl, rfl⟩)
          go_roundw
          case rel => exact ⟨k + 1, by omega, by simp, HB.out, NX.out (by rw [HF.out]; exact fun h => absurd (HE.out.symm.trans h) NE.out)⟩
          case measure => simp [intOf]; omega
      | some t =>
        have HF := Lib.hid hfk
        rw [hfk] at hrun
        clear hZ hWZ hE hS zb hfk zm zc
        simp only [Option.getD, Option.isSome] at hrun
        by_cases e0 : E = 0
        · subst e0
          by_cases hs : S = t
          · subst hs
            go_wp2_with (go_at_call 28; (with_reducible refine TR.out.mono ?_); rintro e w3 ⟨rfl, rfl⟩)
            go_roundw
            case rel => exact ⟨k + 1, by omega, by simp, HB.out, NX.out (by rw [HF.out, HS.out, HE.out]; exact ⟨rfl, rfl⟩)⟩
            case measure => simp [intOf]; omega
          · have n2 := ba_neK hs
            have NF := Lib.hid (show ¬ ∀ k : Nat, k < 6 → FitP (f k) (R.readE k) (R.readS k) from fun hall => FitP.not_some (.inr (by rw [HS.out]; exact hs)) (HF.out ▸ hall k hk2))
            clear hs
            go_wp2_with (go_at_call 28; (with_reducible refine TR.out.mono ?_); rintro e w3 ⟨rfl, rfl⟩)
            go_ret
            exact ⟨_, rfl, ⟨fun h => (by cases h), fun h => absurd h NF.out⟩, HB.out⟩
        · have n1 : (E == 0) = false := by simpa using e0
          have n2 : (E != 0) = true := by simpa using e0
          have NF := Lib.hid (show ¬ ∀ k : Nat, k < 6 → FitP (f k) (R.readE k) (R.readS k) from fun hall => FitP.not_some (.inl (by rw [HE.out]; exact e0)) (HF.out ▸ hall k hk2))
          clear e0
          go_wp2_with (go_at_call 28; (with_reducible refine TR.out.mono ?_); rintro e w3 ⟨rfl, rfl⟩)
          go_ret
          exact ⟨_, rfl, ⟨fun h => (by cases h), fun h => absurd h NF.out⟩, HB.out⟩
    · have hk3 : k = 6 := by omega
      subst hk3
      go_wp2_with fail
      go_ret
      exact ⟨_, rfl, ⟨fun _ => Fz9.out, fun _ => rfl⟩, HB.out⟩

theorem keep_has_yes (b : List (Option Nat)) (gd g m1 m2 mb nb : Nat) (R : Rw) (f : Int → Option ByteArray) (w : World) (h : LR w b gd g m1 m2 R) (hok : R.D.ok) (hf1 : ∀ n, R.f1 n ≤ 1000000) (hm : MS w mb nb f) (hF : ∀ k : Nat, k < 6 → FitP (f k) (R.readE k) (R.readS k)) :
    Calls Try.prog 25 #[.pointer (some ⟨g, 0, none⟩), .map (some mb)] w fun e w' => e = .returned (.bool true) ∧ Below w.heap.size w w' :=
  (keep_has b gd g m1 m2 mb nb R f w h hok hf1 hm).mono fun e w' ⟨v, he, hv, hb⟩ => ⟨by rw [he, hv.2 hF], hb⟩
theorem keep_has_no (b : List (Option Nat)) (gd g m1 m2 mb nb : Nat) (R : Rw) (f : Int → Option ByteArray) (w : World) (h : LR w b gd g m1 m2 R) (hok : R.D.ok) (hf1 : ∀ n, R.f1 n ≤ 1000000) (hm : MS w mb nb f) (hF : ¬ ∀ k : Nat, k < 6 → FitP (f k) (R.readE k) (R.readS k)) :
    Calls Try.prog 25 #[.pointer (some ⟨g, 0, none⟩), .map (some mb)] w fun e w' => e = .returned (.bool false) ∧ Below w.heap.size w w' :=
  (keep_has b gd g m1 m2 mb nb R f w h hok hf1 hm).mono fun e w' ⟨v, he, hv, hb⟩ => ⟨by rw [he]; cases v with | false => rfl | true => exact absurd (hv.1 rfl) hF, hb⟩

end Go.Proofs.Ytjihboddejaelaa
