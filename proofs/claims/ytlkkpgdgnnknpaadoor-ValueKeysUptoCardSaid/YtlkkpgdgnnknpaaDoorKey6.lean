/-
  Key of the reference.
-/
import Derived.Test.YtlkkpgdgnnknpaaDoorKey2
import Derived.Test.YtlkkpgdgnnknpaaDoorCodeC
namespace Go.Proofs.YtlkkpgdgnnknpaaDoor
open Go.RowKit
open Go.BigFrame
set_option linter.unusedVariables false
set_option linter.unusedSimpArgs false

theorem ext_oneB (s : ByteArray) (j : Nat) (h : j < s.size) : s.extract j (j + 1) = bsOf [s[j]] := by
  apply ByteArray.ext; apply Array.toList_inj.1
  rw [Lib.extract_data, bsOf_data]
  have hl : j < s.data.toList.length := by rw [Array.length_toList]; exact h
  rw [show j + 1 - j = 1 by omega, List.drop_eq_getElem_cons hl]
  rfl
theorem esc_take (s : ByteArray) (j : Nat) (h : j < s.size) : esc (s.data.toList.take (j + 1)) = esc (s.data.toList.take j) ++ esc [s[j]] := by
  have hl : j < s.data.toList.length := by rw [Array.length_toList]; exact h
  rw [List.take_succ_eq_append_getElem hl, esc_append]; rfl

set_option maxRecDepth 100000 in
set_option maxHeartbeats 6400000 in
theorem ref_Key (A : Option Addr) (n c : Nat) (vs : List Val) (w : World) (h : VS w A n vs) (hn : n ≤ 4398046511104) (hb : (keyL vs).length ≤ 50000000) :
    Calls Tryd.prog 10 #[.slice A n c] w fun e w' => e = .returned (.string (bsOf (keyL vs))) ∧ Below w.heap.size w w' := by
  have HH := Lib.hid h
  have BD := Lib.hid hb
  clear h hb
  go_enter Tryd.func10, Tryd.ntmps10
  go_wp2_with fail
  go_loopw [3, 9] (fun v3 v9 wr => ∃ (i : Nat) (S : ByteArray), i ≤ n ∧ v9 = .int .i64 i ∧ v3 = .string S ∧ bsOf (keyL (vs.take i)) = S ∧ Below w.heap.size w wr) (fun _ v9 _ => n - (intOf v9).toNat)
  case atStart => exact ⟨0, ⟨#[]⟩, Nat.zero_le _, rfl, rfl, rfl, Below.refl _ _⟩
  case round =>
    obtain ⟨i, S, hi', rfl, rfl, hS, hb⟩ := hrel
    have HB := Lib.hid hb
    by_cases hin : i < n
    · obtain ⟨b, off, rfl, hbl, hc⟩ := HH.out.2 (by omega)
      have hl : i < vs.length := by rw [HH.out.1]; exact hin
      have hk := keyL_take hl
      obtain ⟨v, hv⟩ : ∃ v, vs[i] = v := ⟨_, rfl⟩
      obtain ⟨a0, a1, a2⟩ := hc i v (by rw [← hv]; simp [hl])
      have HT := Lib.hid (take_snocV hl)
      rw [hv] at HT hk
      have lS : S.size + (keyV v).length ≤ 50000000 := by rw [← hS, bsOf_size]; exact Nat.le_trans hk BD.out
      have HS := Lib.hid hS
      obtain ⟨wc, wf⟩ := bcell HB.out
      have c0 := (wc b (off + i * 3) hbl).trans a0
      have c1 := (wc b (off + i * 3 + 1) hbl).trans a1
      have c2 := (wc b (off + i * 3 + 2) hbl).trans a2
      have zz : b < wr.heap.size := by have := HB.out.size; omega
      clear hc a0 a1 a2 wc wf hv hl hk hS hb
      obtain ⟨k, x, s⟩ := v
      simp only at c0 c1 c2
      have T := (fun w1 => relstoreref_Clean k x s w1)
      by_cases k1 : k = 1
      · subst k1
        by_cases x0 : x = 0
        · have HN : cleanN 1 x = 0 := by rw [x0]; rfl
          clear x0
          have T1 : Hid (∀ w1, Calls Tryd.prog 40 #[.agg #[.int .i64 1, .int .i64 x, .string s]] w1 fun e w' => e = .returned (.agg #[.int .i64 1, .int .i64 (0), .string ⟨#[]⟩]) ∧ Below w1.heap.size w1 w') := fun w1 => by
            have := T w1
            rw [show cleanN 1 x = 0 from HN] at this
            exact this
          have PK := Lib.hid (show keyV ⟨1, x, s⟩ = [2] by unfold keyV cleanV; rw [show cleanN 1 x = 0 from HN]; rfl)
          clear T HN
          go_upto_region 6 with (go_at_call 40; (with_reducible refine (T1.out _).mono ?_); rintro e wc ⟨rfl, hbc⟩; have HBc := bel_step (below_new wr (.cells #[.int .i64 1, .int .i64 x, .string s] 38)) hbc (by simp); have HV := (Has.new wr 38 #[.int .i64 1, .int .i64 x, .string s]).belowS hbc; obtain ⟨d0, d1, d2⟩ := HV.cells3; have df := HV.frozen; have dz := HV.lt)
          have HV2 := Lib.hid (HV.set3 (x := .int .i64 1) (y := .int .i64 (0)) (z := .string (⟨#[]⟩)))
          have HB2 := Lib.hid (((HBc.setCell (p := ⟨wr.heap.size, 0, none⟩) (Nat.le_refl _) (.int .i64 1)).setCell (p := ⟨wr.heap.size, 1, none⟩) (Nat.le_refl _) (.int .i64 (0))).setCell (p := ⟨wr.heap.size, 2, none⟩) (Nat.le_refl _) (.string (⟨#[]⟩)))
          clear HBc HV d0 d1 d2 df dz hbc c0 c1 c2
          generalize ((wc.setCell ⟨wr.heap.size, 0, none⟩ (.int .i64 1)).setCell ⟨wr.heap.size, 1, none⟩ (.int .i64 (0))).setCell ⟨wr.heap.size, 2, none⟩ (.string (⟨#[]⟩)) = W at *
          have HBW := Lib.hid (HB.out.trans (HB2.out.mono HB.out.size))
          have LK := Lib.hid (show S.size + (keyV ⟨1, x, s⟩).length ≤ 50000000 from lS)
          rw [PK.out] at LK
          have E1 := Lib.hid (bs_add HS.out [2])
          obtain ⟨d0, d1, d2⟩ := HV2.out.cells3
          have dz := HV2.out.lt
          have l0 : S.size ≤ 50000000 := by omega
          clear lS
          have hk2 := conv_one W 2 2 (by decide)
          obtain ⟨nb, hnb⟩ : ∃ nb, bsOf [UInt8.ofNat 2] = nb := ⟨_, rfl⟩
          have ln : nb.size = 1 := by rw [← hnb, bsOf_size]; rfl
          rw [show [(2 : UInt8)] = [UInt8.ofNat 2] from rfl, hnb] at E1
          rw [hnb] at hk2
          have HBN := Lib.hid (HBW.out.alloc HBW.out.size (.cells #[Value.int .u8 2] 5))
          clear hnb
          go_wp2_with fail
          clear hk2 ln d0 d1 d2 dz
          go_roundw
          case rel =>
            refine ⟨i + 1, S ++ nb, by omega, by simp, rfl, ?_, HBN.out⟩
            rw [E1.out, HT.out, keyL_snoc, PK.out]; rfl
          case measure => simp [intOf]; omega
        · have HN : cleanN 1 x = 1 := by simp [cleanN, flagN, x0]
          clear x0
          have T1 : Hid (∀ w1, Calls Tryd.prog 40 #[.agg #[.int .i64 1, .int .i64 x, .string s]] w1 fun e w' => e = .returned (.agg #[.int .i64 1, .int .i64 (1), .string ⟨#[]⟩]) ∧ Below w1.heap.size w1 w') := fun w1 => by
            have := T w1
            rw [show cleanN 1 x = 1 from HN] at this
            exact this
          have PK := Lib.hid (show keyV ⟨1, x, s⟩ = [3] by unfold keyV cleanV; rw [show cleanN 1 x = 1 from HN]; rfl)
          clear T HN
          go_upto_region 6 with (go_at_call 40; (with_reducible refine (T1.out _).mono ?_); rintro e wc ⟨rfl, hbc⟩; have HBc := bel_step (below_new wr (.cells #[.int .i64 1, .int .i64 x, .string s] 38)) hbc (by simp); have HV := (Has.new wr 38 #[.int .i64 1, .int .i64 x, .string s]).belowS hbc; obtain ⟨d0, d1, d2⟩ := HV.cells3; have df := HV.frozen; have dz := HV.lt)
          have HV2 := Lib.hid (HV.set3 (x := .int .i64 1) (y := .int .i64 (1)) (z := .string (⟨#[]⟩)))
          have HB2 := Lib.hid (((HBc.setCell (p := ⟨wr.heap.size, 0, none⟩) (Nat.le_refl _) (.int .i64 1)).setCell (p := ⟨wr.heap.size, 1, none⟩) (Nat.le_refl _) (.int .i64 (1))).setCell (p := ⟨wr.heap.size, 2, none⟩) (Nat.le_refl _) (.string (⟨#[]⟩)))
          clear HBc HV d0 d1 d2 df dz hbc c0 c1 c2
          generalize ((wc.setCell ⟨wr.heap.size, 0, none⟩ (.int .i64 1)).setCell ⟨wr.heap.size, 1, none⟩ (.int .i64 (1))).setCell ⟨wr.heap.size, 2, none⟩ (.string (⟨#[]⟩)) = W at *
          have HBW := Lib.hid (HB.out.trans (HB2.out.mono HB.out.size))
          have LK := Lib.hid (show S.size + (keyV ⟨1, x, s⟩).length ≤ 50000000 from lS)
          rw [PK.out] at LK
          have E1 := Lib.hid (bs_add HS.out [3])
          obtain ⟨d0, d1, d2⟩ := HV2.out.cells3
          have dz := HV2.out.lt
          have l0 : S.size ≤ 50000000 := by omega
          clear lS
          have hk2 := conv_one W 3 3 (by decide)
          obtain ⟨nb, hnb⟩ : ∃ nb, bsOf [UInt8.ofNat 3] = nb := ⟨_, rfl⟩
          have ln : nb.size = 1 := by rw [← hnb, bsOf_size]; rfl
          rw [show [(3 : UInt8)] = [UInt8.ofNat 3] from rfl, hnb] at E1
          rw [hnb] at hk2
          have HBN := Lib.hid (HBW.out.alloc HBW.out.size (.cells #[Value.int .u8 3] 5))
          clear hnb
          go_wp2_with fail
          clear hk2 ln d0 d1 d2 dz
          go_roundw
          case rel =>
            refine ⟨i + 1, S ++ nb, by omega, by simp, rfl, ?_, HBN.out⟩
            rw [E1.out, HT.out, keyL_snoc, PK.out]; rfl
          case measure => simp [intOf]; omega
      · by_cases k2 : k = 2
        · subst k2
          clear k1
          have T1 : Hid (∀ w1, Calls Tryd.prog 40 #[.agg #[.int .i64 2, .int .i64 x, .string s]] w1 fun e w' => e = .returned (.agg #[.int .i64 2, .int .i64 x, .string ⟨#[]⟩]) ∧ Below w1.heap.size w1 w') := T
          have PK := Lib.hid (show keyV ⟨2, x, s⟩ = [4] ++ beK (keyN x) 8 from rfl)
          obtain ⟨X, hX⟩ : ∃ X, u64N x = X := ⟨_, rfl⟩
          have wX : IntKind.u64.wrap x = (X : Int) := by rw [← hX, IntKind.wrap_u64]; unfold u64N; omega
          obtain ⟨Y, hY⟩ : ∃ Y, keyN x = Y := ⟨_, rfl⟩
          have lY : Y < 18446744073709551616 := hY ▸ keyN_lt x
          have wY : IntKind.u64.wrap ((X : Int) + 9223372036854775808) = (Y : Int) := by
            rw [← hY, ← hX, IntKind.wrap_u64]; unfold keyN; omega
          rw [hY] at PK
          have T2 : ∀ w : World, Calls Tryd.prog 41 #[.int .u64 Y, .int .i64 8] w fun e w' => e = .returned (.string (bsOf (beK Y 8))) ∧ Below w.heap.size w w' := fun w1 => ref_bytes Y 8 lY (by omega) w1
          obtain ⟨nb, hnb⟩ : ∃ nb, bsOf (beK Y 8) = nb := ⟨_, rfl⟩
          have ln : nb.size = 8 := by rw [← hnb, bsOf_size, beK_len]
          rw [hnb] at T2
          have T2 := Lib.hid T2
          clear T hX hY lY
          go_upto_region 6 with (go_at_call 40; (with_reducible refine (T1.out _).mono ?_); rintro e wc ⟨rfl, hbc⟩; have HBc := bel_step (below_new wr (.cells #[.int .i64 2, .int .i64 x, .string s] 38)) hbc (by simp); have HV := (Has.new wr 38 #[.int .i64 2, .int .i64 x, .string s]).belowS hbc; obtain ⟨d0, d1, d2⟩ := HV.cells3; have df := HV.frozen; have dz := HV.lt)
          have HV2 := Lib.hid (HV.set3 (x := .int .i64 2) (y := .int .i64 (x)) (z := .string (⟨#[]⟩)))
          have HB2 := Lib.hid (((HBc.setCell (p := ⟨wr.heap.size, 0, none⟩) (Nat.le_refl _) (.int .i64 2)).setCell (p := ⟨wr.heap.size, 1, none⟩) (Nat.le_refl _) (.int .i64 (x))).setCell (p := ⟨wr.heap.size, 2, none⟩) (Nat.le_refl _) (.string (⟨#[]⟩)))
          clear HBc HV d0 d1 d2 df dz hbc c0 c1 c2
          generalize ((wc.setCell ⟨wr.heap.size, 0, none⟩ (.int .i64 2)).setCell ⟨wr.heap.size, 1, none⟩ (.int .i64 (x))).setCell ⟨wr.heap.size, 2, none⟩ (.string (⟨#[]⟩)) = W at *
          have HBW := Lib.hid (HB.out.trans (HB2.out.mono HB.out.size))
          have LK := Lib.hid (show S.size + (keyV ⟨2, x, s⟩).length ≤ 50000000 from lS)
          rw [PK.out] at LK
          have E1 := Lib.hid (bs_add HS.out [4])
          obtain ⟨d0, d1, d2⟩ := HV2.out.cells3
          have dz := HV2.out.lt
          have l0 : S.size ≤ 50000000 := by omega
          clear lS
          have E2 := Lib.hid (show S ++ (⟨#[4]⟩ ++ nb) = bsOf (keyL (vs.take i) ++ ([4] ++ beK Y 8)) by
            rw [← hnb, show (⟨#[4]⟩ : ByteArray) = bsOf [4] from rfl, bsOf_append, bs_add HS.out])
          clear hnb
          go_wp2_with (go_at_call 41; (with_reducible refine (T2.out _).mono ?_); rintro e w2 ⟨rfl, hb2⟩; have HBN := Lib.hid (bel_step HBW.out hb2 HBW.out.size); clear hb2)
          clear ln d0 d1 d2 dz wX wY
          go_roundw
          case rel =>
            refine ⟨i + 1, S ++ (⟨#[4]⟩ ++ nb), by omega, by simp, rfl, ?_, HBN.out⟩
            rw [E2.out, HT.out, keyL_snoc, PK.out]
          case measure => simp [intOf]; omega
        · by_cases k3 : k = 3
          · subst k3
            clear k1 k2
            have T1 : Hid (∀ w1, Calls Tryd.prog 40 #[.agg #[.int .i64 3, .int .i64 x, .string s]] w1 fun e w' => e = .returned (.agg #[.int .i64 3, .int .i64 0, .string s]) ∧ Below w1.heap.size w1 w') := T
            have PK := Lib.hid (show keyV ⟨3, x, s⟩ = 5 :: (esc s.data.toList ++ [0, 1]) from rfl)
            clear T
            go_upto_region 6 with (go_at_call 40; (with_reducible refine (T1.out _).mono ?_); rintro e wc ⟨rfl, hbc⟩; have HBc := bel_step (below_new wr (.cells #[.int .i64 3, .int .i64 x, .string s] 38)) hbc (by simp); have HV := (Has.new wr 38 #[.int .i64 3, .int .i64 x, .string s]).belowS hbc; obtain ⟨d0, d1, d2⟩ := HV.cells3; have df := HV.frozen; have dz := HV.lt)
            have HV2 := Lib.hid (HV.set3 (x := .int .i64 3) (y := .int .i64 (0)) (z := .string (s)))
            have HB2 := Lib.hid (((HBc.setCell (p := ⟨wr.heap.size, 0, none⟩) (Nat.le_refl _) (.int .i64 3)).setCell (p := ⟨wr.heap.size, 1, none⟩) (Nat.le_refl _) (.int .i64 (0))).setCell (p := ⟨wr.heap.size, 2, none⟩) (Nat.le_refl _) (.string (s)))
            clear HBc HV d0 d1 d2 df dz hbc c0 c1 c2
            generalize ((wc.setCell ⟨wr.heap.size, 0, none⟩ (.int .i64 3)).setCell ⟨wr.heap.size, 1, none⟩ (.int .i64 (0))).setCell ⟨wr.heap.size, 2, none⟩ (.string (s)) = W at *
            have HBW := Lib.hid (HB.out.trans (HB2.out.mono HB.out.size))
            have LK := Lib.hid (show S.size + (keyV ⟨3, x, s⟩).length ≤ 50000000 from lS)
            rw [PK.out] at LK
            have E1 := Lib.hid (bs_add HS.out [5])
            obtain ⟨d0, d1, d2⟩ := HV2.out.cells3
            have dz := HV2.out.lt
            have l0 : S.size ≤ 50000000 := by omega
            clear lS
            obtain ⟨S0, hS0⟩ : ∃ S0, S ++ ⟨#[5]⟩ = S0 := ⟨_, rfl⟩
            have HS0 := Lib.hid (show bsOf (keyL (vs.take i) ++ [5]) = S0 by rw [← hS0]; exact E1.out.symm)
            have zs0 : S0.size = S.size + 1 := by
              rw [← HS0.out, bsOf_size, List.length_append, ← HS.out, bsOf_size]; rfl
            have LS := Lib.hid (show S0.size + (esc s.data.toList).length + 2 ≤ 50000000 by
              have := LK.out
              simp only [List.length_cons, List.length_append, List.length_nil] at this
              omega)
            have HS0E := Lib.hid hS0
            have ss : s.size ≤ 50000000 := by have e : s.data.toList.length = s.size := Array.length_toList; have := (esc_len s.data.toList).1; have := LS.out; omega
            clear zs0
            go_wp2_with fail
            clear hS0
            go_loopw [3, 6] (fun v3 v6 wx => ∃ (j : Nat) (Q : ByteArray), j ≤ s.size ∧ v6 = .int .i64 j ∧ v3 = .string Q ∧ S0 ++ bsOf (esc (s.data.toList.take j)) = Q ∧ wx = W) (fun _ v6 _ => s.size - (intOf v6).toNat)
            case atStart => exact ⟨0, S0, Nat.zero_le _, rfl, rfl, by rw [List.take_zero]; exact ByteArray.append_empty, rfl⟩
            case round =>
              obtain ⟨j, Q, hj, rfl, rfl, hQ, rfl⟩ := hrel
              have zq : Q.size ≤ 50000000 := by
                rw [← hQ, ByteArray.size_append, bsOf_size]
                have h1 : esc s.data.toList = esc (s.data.toList.take j) ++ esc (s.data.toList.drop j) := by rw [← esc_append, List.take_append_drop]
                have h2 := congrArg List.length h1
                rw [List.length_append] at h2
                have := LS.out; omega
              have HQ := Lib.hid hQ
              clear hQ
              by_cases hjn : j < s.size
              · have ET := Lib.hid (esc_take s j hjn)
                have EO := Lib.hid (ext_oneB s j hjn)
                obtain ⟨ch, hch⟩ : ∃ ch, s[j] = ch := ⟨_, rfl⟩
                rw [hch] at ET EO
                obtain ⟨E, hE⟩ : ∃ E, s.extract j (j + 1) = E := ⟨_, rfl⟩
                have ze : E.size = 1 := by rw [← hE, EO.out, bsOf_size]; rfl
                have HE := Lib.hid (hE.symm.trans EO.out)
                have hE1 : s.extract j (j + 1) = E := hE
                by_cases c0 : ch = 0
                · subst c0
                  have hc : s[j] = 0 := hch
                  clear hch hE
                  go_wp2_with fail
                  go_roundw
                  case rel =>
                    refine ⟨j + 1, Q ++ E ++ ⟨#[255]⟩, by omega, by simp, rfl, ?_, by first | rfl | trivial⟩
                    rw [ET.out, ← bsOf_append, ← ByteArray.append_assoc, HQ.out, HE.out, show esc [0] = [0] ++ [255] from rfl, ← bsOf_append, ← ByteArray.append_assoc]; rfl
                  case measure => simp [intOf]; omega
                · have n0 : ((ch.toNat : Int) == 0) = false := by
                    simp only [beq_eq_false_iff_ne, ne_eq]
                    intro e
                    exact c0 (byte_eq (n := 0) (by omega) (by omega))
                  have NC := Lib.hid (show esc [ch] = [ch] by rw [esc, if_neg c0]; rfl)
                  clear hE c0
                  go_wp2_with fail
                  go_roundw
                  case rel =>
                    refine ⟨j + 1, Q ++ E, by omega, by simp, rfl, ?_, by first | rfl | trivial⟩
                    rw [ET.out, ← bsOf_append, ← ByteArray.append_assoc, HQ.out, HE.out, NC.out]
                  case measure => simp [intOf]; omega
              · obtain rfl : j = s.size := by omega
                have TK := Lib.hid (show s.data.toList.take s.size = s.data.toList from List.take_of_length_le (by rw [Array.length_toList]; exact Nat.le_refl _))
                go_wp2_with fail
                clear d0 d1 d2 dz
                go_roundw
                case rel =>
                  refine ⟨i + 1, Q ++ ⟨#[0, 1]⟩, by omega, by simp, rfl, ?_, HBW.out⟩
                  rw [← HQ.out, TK.out, HT.out, keyL_snoc, PK.out, ← HS0.out, show (⟨#[0, 1]⟩ : ByteArray) = bsOf [0, 1] from rfl, bsOf_append, bsOf_append]
                  congr 1
                  simp
                case measure => simp [intOf]; omega
          · have T1 : Hid (∀ w1, Calls Tryd.prog 40 #[.agg #[.int .i64 k, .int .i64 x, .string s]] w1 fun e w' => e = .returned (.agg #[.int .i64 0, .int .i64 0, .string ⟨#[]⟩]) ∧ Below w1.heap.size w1 w') := fun w1 => by
              have := T w1
              simp only [cleanK, cleanN, cleanS, if_neg k1, if_neg k2, if_neg k3] at this
              exact this
            have PK := Lib.hid (show keyV ⟨k, x, s⟩ = [1] by simp only [keyV, cleanV, cleanK, if_neg k1, if_neg k2, if_neg k3]; rfl)
            clear T k1 k2 k3
            go_upto_region 6 with (go_at_call 40; (with_reducible refine (T1.out _).mono ?_); rintro e wc ⟨rfl, hbc⟩; have HBc := bel_step (below_new wr (.cells #[.int .i64 k, .int .i64 x, .string s] 38)) hbc (by simp); have HV := (Has.new wr 38 #[.int .i64 k, .int .i64 x, .string s]).belowS hbc; obtain ⟨d0, d1, d2⟩ := HV.cells3; have df := HV.frozen; have dz := HV.lt)
            have HV2 := Lib.hid (HV.set3 (x := .int .i64 0) (y := .int .i64 (0)) (z := .string (⟨#[]⟩)))
            have HB2 := Lib.hid (((HBc.setCell (p := ⟨wr.heap.size, 0, none⟩) (Nat.le_refl _) (.int .i64 0)).setCell (p := ⟨wr.heap.size, 1, none⟩) (Nat.le_refl _) (.int .i64 (0))).setCell (p := ⟨wr.heap.size, 2, none⟩) (Nat.le_refl _) (.string (⟨#[]⟩)))
            clear HBc HV d0 d1 d2 df dz hbc c0 c1 c2
            generalize ((wc.setCell ⟨wr.heap.size, 0, none⟩ (.int .i64 0)).setCell ⟨wr.heap.size, 1, none⟩ (.int .i64 (0))).setCell ⟨wr.heap.size, 2, none⟩ (.string (⟨#[]⟩)) = W at *
            have HBW := Lib.hid (HB.out.trans (HB2.out.mono HB.out.size))
            have LK := Lib.hid (show S.size + (keyV ⟨k, x, s⟩).length ≤ 50000000 from lS)
            rw [PK.out] at LK
            have E1 := Lib.hid (bs_add HS.out [1])
            obtain ⟨d0, d1, d2⟩ := HV2.out.cells3
            have dz := HV2.out.lt
            have l0 : S.size ≤ 50000000 := by omega
            clear lS
            go_wp2_with fail
            clear d0 d1 d2 dz
            go_roundw
            case rel =>
              refine ⟨i + 1, S ++ ⟨#[1]⟩, by omega, by simp, rfl, ?_, HBW.out⟩
              rw [HT.out, keyL_snoc, PK.out]; exact E1.out.symm
            case measure => simp [intOf]; omega
    · obtain rfl : i = n := by omega
      have RES := Lib.hid (show bsOf (keyL vs) = S by rw [← hS, ← HH.out.1, List.take_length])
      clear hS hb
      go_wp2_with fail
      go_ret
      exact ⟨congrArg (fun s => Ending.returned (.string s)) RES.out.symm, HB.out⟩

end Go.Proofs.YtlkkpgdgnnknpaaDoor
