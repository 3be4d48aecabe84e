/-
  Pack of the reference.
-/
import Derived.Test.YtlkkpgdgnnknpaaCode2
namespace Go.Proofs.Ytlkkpgdgnnknpaa
open Go.RowKit
open Go.BigFrame
set_option linter.unusedVariables false

theorem packL_small {vs : List Val} (h : ∀ v ∈ vs, ¬ bigV v) : (packL vs).length ≤ 1003 * vs.length := by
  induction vs with
  | nil => simp [packL]
  | cons v vs ih =>
    have h1 := pack_len v (h v (List.mem_cons_self ..))
    have h2 := ih (fun u hu => h u (List.mem_cons_of_mem _ hu))
    simp only [packL, List.flatMap_cons, List.length_append, List.length_cons] at *
    omega
theorem conv_one (W : World) (x : Int) (n : Nat) (h : x = (n : Int) % 256) : (convert 55 9 (.slice (some ⟨W.heap.size, 0, none⟩) 1 1)).run Try.prog (W.alloc (.cells #[Value.int .u8 x] 5)) = .ok (.string (bsOf [UInt8.ofNat n])) (W.alloc (.cells #[Value.int .u8 x] 5)) := by
  have := conv_BS (c := 1) (BS.of_has (Has.new W 5 (u8s [UInt8.ofNat n]).toArray))
  rw [show (u8s [UInt8.ofNat n]).toArray = #[Value.int .u8 x] by rw [← u8s_one_val x n h]] at this
  exact this
theorem conv_next (W : World) (o : Obj) (x : Int) (n : Nat) (h : x = (n : Int) % 256) : (convert 55 9 (.slice (some ⟨W.heap.size + 1, 0, none⟩) 1 1)).run Try.prog ((W.alloc o).alloc (.cells #[Value.int .u8 x] 5)) = .ok (.string (bsOf [UInt8.ofNat n])) ((W.alloc o).alloc (.cells #[Value.int .u8 x] 5)) := by
  have := conv_one (W.alloc o) x n h
  simp only [World.size_alloc] at this
  exact this
theorem bs_add {S : ByteArray} {L : List UInt8} (h : bsOf L = S) (a : List UInt8) : S ++ bsOf a = bsOf (L ++ a) := by rw [← h, bsOf_append]
theorem bs_add_str {S : ByteArray} {L : List UInt8} (h : bsOf L = S) (s : ByteArray) : S ++ s = bsOf (L ++ s.data.toList) := by
  rw [← h, ← bsOf_append, bsOf_of]

set_option maxRecDepth 100000 in
set_option maxHeartbeats 6400000 in
theorem ref_Pack (A : Option Addr) (n c : Nat) (vs : List Val) (w : World) (h : VS w A n vs) (hn : n ≤ 4398046511104) (hok : ∀ v ∈ vs, v.s.size ≤ 9223372036854775807) :
    Calls Try.prog 50 #[.slice A n c] w fun e w' => e = .returned (.tuple #[.string (packS vs), .int .i64 (packE vs)]) ∧ Below w.heap.size w w' := by
  have HH := Lib.hid h
  have HWT := Lib.hid hok
  have hc0 := conv_one w ((n : Int) % 256) n rfl
  obtain ⟨S0, hS0⟩ : ∃ S, bsOf [UInt8.ofNat n] = S := ⟨_, rfl⟩
  rw [hS0] at hc0
  have HS0 := Lib.hid hS0
  clear h hok hS0
  go_enter Try.func50, Try.ntmps50
  go_wp2_with fail
  clear hc0
  go_loopw [4, 14] (fun v4 v14 wr => ∃ (i : Nat) (S : ByteArray), i ≤ n ∧ v14 = .int .i64 i ∧ v4 = .string S ∧ bsOf (UInt8.ofNat n :: packL (vs.take i)) = S ∧ (∀ v ∈ vs.take i, ¬ bigV v) ∧ Below w.heap.size w wr) (fun _ v14 _ => n - (intOf v14).toNat)
  case atStart => exact ⟨0, S0, Nat.zero_le _, rfl, rfl, HS0.out, by simp, below_new _ _⟩
  case round =>
    clear HS0
    obtain ⟨i, S, hi', rfl, rfl, hS, hs, hb⟩ := hrel
    have lS : S.size ≤ 4411240650637313 := by
      have h1 := packL_small hs
      rw [List.length_take] at h1
      rw [← hS, bsOf_size, List.length_cons]
      omega
    have HS := Lib.hid hS; have HB := Lib.hid hb; have HSM := Lib.hid hs
    clear hS hb hs
    by_cases hin : i < n
    · obtain ⟨b, off, rfl, hbl, hc⟩ := HH.out.2 (by omega)
      have hl : i < vs.length := by rw [HH.out.1]; exact hin
      obtain ⟨v, hv⟩ : ∃ v, vs[i] = v := ⟨_, rfl⟩
      obtain ⟨a0, a1, a2⟩ := hc i v (by rw [← hv]; simp [hl])
      have HT := Lib.hid (take_snocV hl)
      have SM := Lib.hid (small_snoc hl HSM.out)
      rw [hv] at HT SM
      obtain ⟨wc, wf⟩ := bcell HB.out
      have c0 := (wc b (off + i * 3) hbl).trans a0
      have c1 := (wc b (off + i * 3 + 1) hbl).trans a1
      have c2 := (wc b (off + i * 3 + 2) hbl).trans a2
      have zz : b < wr.heap.size := by have := HB.out.size; omega
      have BAD : Hid (bigV v → badL vs) := fun hb => .inr ⟨v, by rw [← hv]; exact List.getElem_mem hl, hb⟩
      have LS := Lib.hid (HWT.out v (by rw [← hv]; exact List.getElem_mem hl))
      clear hc a0 a1 a2 wc wf hv hl
      obtain ⟨k, x, s⟩ := v
      simp only at c0 c1 c2
      have T := (fun w1 => relstoreref_Clean k x s w1)
      have ls : s.size ≤ 9223372036854775807 := LS.out
      by_cases k1 : k = 1
      · subst k1
        by_cases x0 : x = 0
        · have HN : cleanN 1 x = 0 := by rw [x0]; rfl
          clear x0
          have T1 : Hid (∀ w1, Calls Try.prog 25 #[.agg #[.int .i64 1, .int .i64 x, .string s]] w1 fun e w' => e = .returned (.agg #[.int .i64 1, .int .i64 (0), .string ⟨#[]⟩]) ∧ Below w1.heap.size w1 w') := fun w1 => by
            have := T w1
            rw [show cleanN 1 x = 0 from HN] at this
            exact this
          have PK := Lib.hid (show packV ⟨1, x, s⟩ = [UInt8.ofNat 1] ++ [UInt8.ofNat 0] by unfold packV cleanV; rw [show cleanN 1 x = 0 from HN]; rfl)
          clear T HN
          go_upto_region 6 with (go_at_call 25; (with_reducible refine (T1.out _).mono ?_); rintro e wc ⟨rfl, hbc⟩; have HBc := bel_step (below_new wr (.cells #[.int .i64 1, .int .i64 x, .string s] 29)) hbc (by simp); have HV := (Has.new wr 29 #[.int .i64 1, .int .i64 x, .string s]).belowS hbc; obtain ⟨d0, d1, d2⟩ := HV.cells3; have df := HV.frozen; have dz := HV.lt)
          have HV2 := Lib.hid (HV.set3 (x := .int .i64 1) (y := .int .i64 (0)) (z := .string (⟨#[]⟩)))
          have HB2 := Lib.hid (((HBc.setCell (p := ⟨wr.heap.size, 0, none⟩) (Nat.le_refl _) (.int .i64 1)).setCell (p := ⟨wr.heap.size, 1, none⟩) (Nat.le_refl _) (.int .i64 (0))).setCell (p := ⟨wr.heap.size, 2, none⟩) (Nat.le_refl _) (.string (⟨#[]⟩)))
          clear HBc HV d0 d1 d2 df dz hbc c0 c1 c2
          generalize ((wc.setCell ⟨wr.heap.size, 0, none⟩ (.int .i64 1)).setCell ⟨wr.heap.size, 1, none⟩ (.int .i64 (0))).setCell ⟨wr.heap.size, 2, none⟩ (.string (⟨#[]⟩)) = W at *
          have HBW := Lib.hid ((HB.out.trans (HB2.out.mono HB.out.size)).alloc (Nat.le_trans HB.out.size HB2.out.size) (.cells #[Value.int .u8 1] 5))
          have HVW := Lib.hid (HV2.out.alloc (.cells #[Value.int .u8 1] 5))
          have hk := conv_one W 1 1 (by decide)
          obtain ⟨kb, hkb⟩ : ∃ kb, bsOf [UInt8.ofNat 1] = kb := ⟨_, rfl⟩
          have lk : kb.size = 1 := by rw [← hkb, bsOf_size]; rfl
          have E1 := Lib.hid (bs_add HS.out [UInt8.ofNat 1])
          rw [hkb] at hk E1
          obtain ⟨d0, d1, d2⟩ := HV2.out.cells3
          have dz := HV2.out.lt
          clear hkb
          have hk2 := conv_next W (.cells #[Value.int .u8 1] 5) 0 0 (by decide)
          obtain ⟨nb, hnb⟩ : ∃ nb, bsOf [UInt8.ofNat 0] = nb := ⟨_, rfl⟩
          have ln : nb.size = 1 := by rw [← hnb, bsOf_size]; rfl
          have E2 := Lib.hid (bs_add E1.out.symm [UInt8.ofNat 0])
          rw [hnb] at hk2 E2
          have HBN := Lib.hid (HBW.out.alloc HBW.out.size (.cells #[Value.int .u8 0] 5))
          clear hnb
          go_wp2_with fail
          clear hk hk2 lk ln d0 d1 d2 dz
          go_roundw
          case rel =>
            refine ⟨i + 1, S ++ kb ++ nb, by omega, by simp, rfl, ?_, SM.out (by simp [bigV]), HBN.out⟩
            rw [E2.out, HT.out, packL_snoc, PK.out]; simp
          case measure => simp [intOf]; omega
        · have HN : cleanN 1 x = 1 := by simp [cleanN, flagN, x0]
          clear x0
          have T1 : Hid (∀ w1, Calls Try.prog 25 #[.agg #[.int .i64 1, .int .i64 x, .string s]] w1 fun e w' => e = .returned (.agg #[.int .i64 1, .int .i64 (1), .string ⟨#[]⟩]) ∧ Below w1.heap.size w1 w') := fun w1 => by
            have := T w1
            rw [show cleanN 1 x = 1 from HN] at this
            exact this
          have PK := Lib.hid (show packV ⟨1, x, s⟩ = [UInt8.ofNat 1] ++ [UInt8.ofNat 1] by unfold packV cleanV; rw [show cleanN 1 x = 1 from HN]; rfl)
          clear T HN
          go_upto_region 6 with (go_at_call 25; (with_reducible refine (T1.out _).mono ?_); rintro e wc ⟨rfl, hbc⟩; have HBc := bel_step (below_new wr (.cells #[.int .i64 1, .int .i64 x, .string s] 29)) hbc (by simp); have HV := (Has.new wr 29 #[.int .i64 1, .int .i64 x, .string s]).belowS hbc; obtain ⟨d0, d1, d2⟩ := HV.cells3; have df := HV.frozen; have dz := HV.lt)
          have HV2 := Lib.hid (HV.set3 (x := .int .i64 1) (y := .int .i64 (1)) (z := .string (⟨#[]⟩)))
          have HB2 := Lib.hid (((HBc.setCell (p := ⟨wr.heap.size, 0, none⟩) (Nat.le_refl _) (.int .i64 1)).setCell (p := ⟨wr.heap.size, 1, none⟩) (Nat.le_refl _) (.int .i64 (1))).setCell (p := ⟨wr.heap.size, 2, none⟩) (Nat.le_refl _) (.string (⟨#[]⟩)))
          clear HBc HV d0 d1 d2 df dz hbc c0 c1 c2
          generalize ((wc.setCell ⟨wr.heap.size, 0, none⟩ (.int .i64 1)).setCell ⟨wr.heap.size, 1, none⟩ (.int .i64 (1))).setCell ⟨wr.heap.size, 2, none⟩ (.string (⟨#[]⟩)) = W at *
          have HBW := Lib.hid ((HB.out.trans (HB2.out.mono HB.out.size)).alloc (Nat.le_trans HB.out.size HB2.out.size) (.cells #[Value.int .u8 1] 5))
          have HVW := Lib.hid (HV2.out.alloc (.cells #[Value.int .u8 1] 5))
          have hk := conv_one W 1 1 (by decide)
          obtain ⟨kb, hkb⟩ : ∃ kb, bsOf [UInt8.ofNat 1] = kb := ⟨_, rfl⟩
          have lk : kb.size = 1 := by rw [← hkb, bsOf_size]; rfl
          have E1 := Lib.hid (bs_add HS.out [UInt8.ofNat 1])
          rw [hkb] at hk E1
          obtain ⟨d0, d1, d2⟩ := HV2.out.cells3
          have dz := HV2.out.lt
          clear hkb
          have hk2 := conv_next W (.cells #[Value.int .u8 1] 5) 1 1 (by decide)
          obtain ⟨nb, hnb⟩ : ∃ nb, bsOf [UInt8.ofNat 1] = nb := ⟨_, rfl⟩
          have ln : nb.size = 1 := by rw [← hnb, bsOf_size]; rfl
          have E2 := Lib.hid (bs_add E1.out.symm [UInt8.ofNat 1])
          rw [hnb] at hk2 E2
          have HBN := Lib.hid (HBW.out.alloc HBW.out.size (.cells #[Value.int .u8 1] 5))
          clear hnb
          go_wp2_with fail
          clear hk hk2 lk ln d0 d1 d2 dz
          go_roundw
          case rel =>
            refine ⟨i + 1, S ++ kb ++ nb, by omega, by simp, rfl, ?_, SM.out (by simp [bigV]), HBN.out⟩
            rw [E2.out, HT.out, packL_snoc, PK.out]; simp
          case measure => simp [intOf]; omega
      · by_cases k2 : k = 2
        · subst k2
          clear k1
          have T1 : Hid (∀ w1, Calls Try.prog 25 #[.agg #[.int .i64 2, .int .i64 x, .string s]] w1 fun e w' => e = .returned (.agg #[.int .i64 2, .int .i64 x, .string ⟨#[]⟩]) ∧ Below w1.heap.size w1 w') := T
          have PK := Lib.hid (show packV ⟨2, x, s⟩ = [UInt8.ofNat 2] ++ beK (u64N x) 8 from rfl)
          obtain ⟨X, hX⟩ : ∃ X, u64N x = X := ⟨_, rfl⟩
          have lX := u64N_lt x
          have wX : IntKind.u64.wrap x = (X : Int) := by rw [← hX, IntKind.wrap_u64]; unfold u64N; omega
          rw [hX] at PK lX
          have T2 : ∀ w : World, Calls Try.prog 72 #[.int .u64 X, .int .i64 8] w fun e w' => e = .returned (.string (bsOf (beK X 8))) ∧ Below w.heap.size w w' := fun w1 => ref_bytes X 8 lX (by omega) w1
          obtain ⟨nb, hnb⟩ : ∃ nb, bsOf (beK X 8) = nb := ⟨_, rfl⟩
          have ln : nb.size = 8 := by rw [← hnb, bsOf_size, beK_len]
          rw [hnb] at T2
          have T2 := Lib.hid T2
          clear T hX
          go_upto_region 6 with (go_at_call 25; (with_reducible refine (T1.out _).mono ?_); rintro e wc ⟨rfl, hbc⟩; have HBc := bel_step (below_new wr (.cells #[.int .i64 2, .int .i64 x, .string s] 29)) hbc (by simp); have HV := (Has.new wr 29 #[.int .i64 2, .int .i64 x, .string s]).belowS hbc; obtain ⟨d0, d1, d2⟩ := HV.cells3; have df := HV.frozen; have dz := HV.lt)
          have HV2 := Lib.hid (HV.set3 (x := .int .i64 2) (y := .int .i64 (x)) (z := .string (⟨#[]⟩)))
          have HB2 := Lib.hid (((HBc.setCell (p := ⟨wr.heap.size, 0, none⟩) (Nat.le_refl _) (.int .i64 2)).setCell (p := ⟨wr.heap.size, 1, none⟩) (Nat.le_refl _) (.int .i64 (x))).setCell (p := ⟨wr.heap.size, 2, none⟩) (Nat.le_refl _) (.string (⟨#[]⟩)))
          clear HBc HV d0 d1 d2 df dz hbc c0 c1 c2
          generalize ((wc.setCell ⟨wr.heap.size, 0, none⟩ (.int .i64 2)).setCell ⟨wr.heap.size, 1, none⟩ (.int .i64 (x))).setCell ⟨wr.heap.size, 2, none⟩ (.string (⟨#[]⟩)) = W at *
          have HBW := Lib.hid ((HB.out.trans (HB2.out.mono HB.out.size)).alloc (Nat.le_trans HB.out.size HB2.out.size) (.cells #[Value.int .u8 2] 5))
          have HVW := Lib.hid (HV2.out.alloc (.cells #[Value.int .u8 2] 5))
          have hk := conv_one W 2 2 (by decide)
          obtain ⟨kb, hkb⟩ : ∃ kb, bsOf [UInt8.ofNat 2] = kb := ⟨_, rfl⟩
          have lk : kb.size = 1 := by rw [← hkb, bsOf_size]; rfl
          have E1 := Lib.hid (bs_add HS.out [UInt8.ofNat 2])
          rw [hkb] at hk E1
          obtain ⟨d0, d1, d2⟩ := HV2.out.cells3
          have dz := HV2.out.lt
          clear hkb
          have E2 := Lib.hid (bs_add E1.out.symm (beK X 8))
          rw [hnb] at E2
          clear hnb
          go_wp2_with (go_at_call 72; (with_reducible refine (T2.out _).mono ?_); rintro e w2 ⟨rfl, hb2⟩; have HBN := Lib.hid (bel_step HBW.out hb2 HBW.out.size); clear hb2)
          clear hk lk ln d0 d1 d2 dz wX
          go_roundw
          case rel =>
            refine ⟨i + 1, S ++ kb ++ nb, by omega, by simp, rfl, ?_, SM.out (by simp [bigV]), HBN.out⟩
            rw [E2.out, HT.out, packL_snoc, PK.out]; simp
          case measure => simp [intOf]; omega
        · by_cases k3 : k = 3
          · subst k3
            clear k1 k2
            by_cases big : 1000 < s.size
            · have T1 : Hid (∀ w1, Calls Try.prog 25 #[.agg #[.int .i64 3, .int .i64 x, .string s]] w1 fun e w' => e = .returned (.agg #[.int .i64 3, .int .i64 0, .string s]) ∧ Below w1.heap.size w1 w') := T
              have hbad : badL vs := BAD.out ⟨rfl, big⟩
              have ANS : Hid (Ending.returned (.tuple #[.string ⟨#[]⟩, .int .i64 8]) = .returned (.tuple #[.string (packS vs), .int .i64 (packE vs)])) := by
                show _ = _
                rw [packS, packE, if_pos hbad, if_pos hbad]
              clear T hbad
              go_upto_region 6 with (go_at_call 25; (with_reducible refine (T1.out _).mono ?_); rintro e wc ⟨rfl, hbc⟩; have HBc := bel_step (below_new wr (.cells #[.int .i64 3, .int .i64 x, .string s] 29)) hbc (by simp); have HV := (Has.new wr 29 #[.int .i64 3, .int .i64 x, .string s]).belowS hbc; obtain ⟨d0, d1, d2⟩ := HV.cells3; have df := HV.frozen; have dz := HV.lt)
              have HV2 := Lib.hid (HV.set3 (x := .int .i64 3) (y := .int .i64 (0)) (z := .string (s)))
              have HB2 := Lib.hid (((HBc.setCell (p := ⟨wr.heap.size, 0, none⟩) (Nat.le_refl _) (.int .i64 3)).setCell (p := ⟨wr.heap.size, 1, none⟩) (Nat.le_refl _) (.int .i64 (0))).setCell (p := ⟨wr.heap.size, 2, none⟩) (Nat.le_refl _) (.string (s)))
              clear HBc HV d0 d1 d2 df dz hbc c0 c1 c2
              generalize ((wc.setCell ⟨wr.heap.size, 0, none⟩ (.int .i64 3)).setCell ⟨wr.heap.size, 1, none⟩ (.int .i64 (0))).setCell ⟨wr.heap.size, 2, none⟩ (.string (s)) = W at *
              have HBW := Lib.hid ((HB.out.trans (HB2.out.mono HB.out.size)).alloc (Nat.le_trans HB.out.size HB2.out.size) (.cells #[Value.int .u8 3] 5))
              have HVW := Lib.hid (HV2.out.alloc (.cells #[Value.int .u8 3] 5))
              have hk := conv_one W 3 3 (by decide)
              obtain ⟨kb, hkb⟩ : ∃ kb, bsOf [UInt8.ofNat 3] = kb := ⟨_, rfl⟩
              have lk : kb.size = 1 := by rw [← hkb, bsOf_size]; rfl
              have E1 := Lib.hid (bs_add HS.out [UInt8.ofNat 3])
              rw [hkb] at hk E1
              obtain ⟨d0, d1, d2⟩ := HV2.out.cells3
              have dz := HV2.out.lt
              clear hkb
              go_wp2_with fail
              go_ret2
              exact ⟨ANS.out, HBW.out⟩
            · have T1 : Hid (∀ w1, Calls Try.prog 25 #[.agg #[.int .i64 3, .int .i64 x, .string s]] w1 fun e w' => e = .returned (.agg #[.int .i64 3, .int .i64 0, .string s]) ∧ Below w1.heap.size w1 w') := T
              have PK := Lib.hid (show packV ⟨3, x, s⟩ = [UInt8.ofNat 3] ++ (beK s.size 2 ++ s.data.toList) from rfl)
              have sm : s.size ≤ 1000 := by omega
              have T2 : ∀ w : World, Calls Try.prog 72 #[.int .u64 s.size, .int .i64 2] w fun e w' => e = .returned (.string (bsOf (beK s.size 2))) ∧ Below w.heap.size w w' := fun w1 => ref_bytes s.size 2 (by omega) (by omega) w1
              obtain ⟨nb, hnb⟩ : ∃ nb, bsOf (beK s.size 2) = nb := ⟨_, rfl⟩
              have ln : nb.size = 2 := by rw [← hnb, bsOf_size, beK_len]
              rw [hnb] at T2
              have T2 := Lib.hid T2
              clear T big
              go_upto_region 6 with (go_at_call 25; (with_reducible refine (T1.out _).mono ?_); rintro e wc ⟨rfl, hbc⟩; have HBc := bel_step (below_new wr (.cells #[.int .i64 3, .int .i64 x, .string s] 29)) hbc (by simp); have HV := (Has.new wr 29 #[.int .i64 3, .int .i64 x, .string s]).belowS hbc; obtain ⟨d0, d1, d2⟩ := HV.cells3; have df := HV.frozen; have dz := HV.lt)
              have HV2 := Lib.hid (HV.set3 (x := .int .i64 3) (y := .int .i64 (0)) (z := .string (s)))
              have HB2 := Lib.hid (((HBc.setCell (p := ⟨wr.heap.size, 0, none⟩) (Nat.le_refl _) (.int .i64 3)).setCell (p := ⟨wr.heap.size, 1, none⟩) (Nat.le_refl _) (.int .i64 (0))).setCell (p := ⟨wr.heap.size, 2, none⟩) (Nat.le_refl _) (.string (s)))
              clear HBc HV d0 d1 d2 df dz hbc c0 c1 c2
              generalize ((wc.setCell ⟨wr.heap.size, 0, none⟩ (.int .i64 3)).setCell ⟨wr.heap.size, 1, none⟩ (.int .i64 (0))).setCell ⟨wr.heap.size, 2, none⟩ (.string (s)) = W at *
              have HBW := Lib.hid ((HB.out.trans (HB2.out.mono HB.out.size)).alloc (Nat.le_trans HB.out.size HB2.out.size) (.cells #[Value.int .u8 3] 5))
              have HVW := Lib.hid (HV2.out.alloc (.cells #[Value.int .u8 3] 5))
              have hk := conv_one W 3 3 (by decide)
              obtain ⟨kb, hkb⟩ : ∃ kb, bsOf [UInt8.ofNat 3] = kb := ⟨_, rfl⟩
              have lk : kb.size = 1 := by rw [← hkb, bsOf_size]; rfl
              have E1 := Lib.hid (bs_add HS.out [UInt8.ofNat 3])
              rw [hkb] at hk E1
              obtain ⟨d0, d1, d2⟩ := HV2.out.cells3
              have dz := HV2.out.lt
              clear hkb
              have E2 := Lib.hid (show S ++ kb ++ (nb ++ s) = bsOf (UInt8.ofNat n :: packL (vs.take i) ++ [UInt8.ofNat 3] ++ (beK s.size 2 ++ s.data.toList)) by
                rw [← hnb, bs_add_str (L := beK s.size 2) rfl, bs_add E1.out.symm])
              clear hnb
              have q1 : ¬ 9223372036854775807 < 2 + s.size := by omega
              have q2 : ¬ 9223372036854775807 < S.size + 1 + (2 + s.size) := by omega
              have wsz : IntKind.u64.wrap (s.size : Int) = (s.size : Int) := by rw [IntKind.wrap_u64]; omega
              go_wp2_with fail
              refine wp_region_cls ((W.alloc (.cells #[Value.int .u8 3] 5))) (by kernel_rfl) (by kernel_rfl) (Cls.start _) ?_
              repeat
                refine wpQuiet_step (fun K hK => ?_)
                go_simp
                first
                  | (refine hK _ ?_; clear hK K)
                  | (apply Exists.intro; refine ⟨fun w' hw' => ?_, hK _ ?_⟩; (· (first | (with_reducible exact rfl) | ((go_at_call 72; refine (T2.out _).mono ?_; rintro e w1 ⟨rfl, hb⟩; exact ⟨rfl, Cls.step hw' hb⟩)) | (obtain ⟨hc, hf⟩ := hw'.facts; go_simp; first | done | (with_reducible exact rfl) | (with_reducible exact ⟨rfl, rfl⟩)))); clear hK K)
              refine wpQuiet_nil ?_
              intro wq hq
              have HBN := Lib.hid (bel_step HBW.out hq.bel HBW.out.size)
              clear hq
              go_wp2_with fail
              clear hk lk ln d0 d1 d2 dz wsz q1 q2
              go_roundw
              case rel =>
                refine ⟨i + 1, S ++ kb ++ (nb ++ s), by omega, by simp, rfl, ?_, SM.out (by simp [bigV]; omega), HBN.out⟩
                rw [E2.out, HT.out, packL_snoc, PK.out]; simp
              case measure => simp [intOf]; omega
          · have T1 : Hid (∀ w1, Calls Try.prog 25 #[.agg #[.int .i64 k, .int .i64 x, .string s]] w1 fun e w' => e = .returned (.agg #[.int .i64 0, .int .i64 0, .string ⟨#[]⟩]) ∧ Below w1.heap.size w1 w') := fun w1 => by
              have := T w1
              simp only [cleanK, cleanN, cleanS, if_neg k1, if_neg k2, if_neg k3] at this
              exact this
            have PK := Lib.hid (show packV ⟨k, x, s⟩ = [UInt8.ofNat 0] by simp only [packV, cleanV, cleanK, if_neg k1, if_neg k2, if_neg k3]; rfl)
            have NB : ¬ bigV ⟨k, x, s⟩ := fun h => k3 h.1
            have SM2 := Lib.hid (SM.out NB)
            clear T k1 k2 k3 NB
            go_upto_region 6 with (go_at_call 25; (with_reducible refine (T1.out _).mono ?_); rintro e wc ⟨rfl, hbc⟩; have HBc := bel_step (below_new wr (.cells #[.int .i64 k, .int .i64 x, .string s] 29)) hbc (by simp); have HV := (Has.new wr 29 #[.int .i64 k, .int .i64 x, .string s]).belowS hbc; obtain ⟨d0, d1, d2⟩ := HV.cells3; have df := HV.frozen; have dz := HV.lt)
            have HV2 := Lib.hid (HV.set3 (x := .int .i64 0) (y := .int .i64 (0)) (z := .string (⟨#[]⟩)))
            have HB2 := Lib.hid (((HBc.setCell (p := ⟨wr.heap.size, 0, none⟩) (Nat.le_refl _) (.int .i64 0)).setCell (p := ⟨wr.heap.size, 1, none⟩) (Nat.le_refl _) (.int .i64 (0))).setCell (p := ⟨wr.heap.size, 2, none⟩) (Nat.le_refl _) (.string (⟨#[]⟩)))
            clear HBc HV d0 d1 d2 df dz hbc c0 c1 c2
            generalize ((wc.setCell ⟨wr.heap.size, 0, none⟩ (.int .i64 0)).setCell ⟨wr.heap.size, 1, none⟩ (.int .i64 (0))).setCell ⟨wr.heap.size, 2, none⟩ (.string (⟨#[]⟩)) = W at *
            have HBW := Lib.hid ((HB.out.trans (HB2.out.mono HB.out.size)).alloc (Nat.le_trans HB.out.size HB2.out.size) (.cells #[Value.int .u8 0] 5))
            have HVW := Lib.hid (HV2.out.alloc (.cells #[Value.int .u8 0] 5))
            have hk := conv_one W 0 0 (by decide)
            obtain ⟨kb, hkb⟩ : ∃ kb, bsOf [UInt8.ofNat 0] = kb := ⟨_, rfl⟩
            have lk : kb.size = 1 := by rw [← hkb, bsOf_size]; rfl
            have E1 := Lib.hid (bs_add HS.out [UInt8.ofNat 0])
            rw [hkb] at hk E1
            obtain ⟨d0, d1, d2⟩ := HV2.out.cells3
            have dz := HV2.out.lt
            clear hkb
            go_wp2_with fail
            clear hk lk d0 d1 d2 dz
            go_roundw
            case rel =>
              refine ⟨i + 1, S ++ kb, by omega, by simp, rfl, ?_, SM2.out, HBW.out⟩
              rw [E1.out, HT.out, packL_snoc, PK.out]; simp
            case measure => simp [intOf]; omega
    · obtain rfl : i = n := by omega
      by_cases hlen : 64 < i
      · have hbad : badL vs := .inl (by rw [HH.out.1]; exact hlen)
        have ANS : Hid (Ending.returned (.tuple #[.string ⟨#[]⟩, .int .i64 8]) = .returned (.tuple #[.string (packS vs), .int .i64 (packE vs)])) := by
          show _ = _
          rw [packS, packE, if_pos hbad, if_pos hbad]
        clear hbad
        go_wp2_with fail
        go_ret2
        exact ⟨ANS.out, HB.out⟩
      · have hbad : ¬ badL vs := by
          rintro (hl | ⟨v, hv, hb⟩)
          · rw [HH.out.1] at hl; omega
          · exact HSM.out v (by rw [← HH.out.1, List.take_length]; exact hv) hb
        have ANS : Hid (Ending.returned (.tuple #[.string S, .int .i64 0]) = .returned (.tuple #[.string (packS vs), .int .i64 (packE vs)])) := by
          show _ = _
          rw [packS, packE, if_neg hbad, if_neg hbad, HH.out.1, ← HS.out, ← HH.out.1, List.take_length]
        clear hbad
        go_wp2_with fail
        go_ret2
        exact ⟨ANS.out, HB.out⟩

end Go.Proofs.Ytlkkpgdgnnknpaa
