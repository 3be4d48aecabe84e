/-
  Key of package value.
-/
import Derived.Test.YtlkkpgdgnnknpaaDoorKey1
import Derived.Test.YtlkkpgdgnnknpaaDoorCode2
import Derived.Test.YtlkkpgdgnnknpaaDoorStep
namespace Go.Proofs.YtlkkpgdgnnknpaaDoor
open Go.RowKit
open Go.BigFrame
set_option linter.unusedVariables false
set_option linter.unusedSimpArgs false

theorem keyL_take {vs : List Val} {i : Nat} (h : i < vs.length) : (keyL (vs.take i)).length + (keyV vs[i]).length ≤ (keyL vs).length := by
  have e : keyL vs = keyL (vs.take i) ++ (keyV vs[i] ++ keyL (vs.drop (i + 1))) := by
    have h2 : vs = vs.take i ++ vs[i] :: vs.drop (i + 1) := by rw [← List.drop_eq_getElem_cons h, List.take_append_drop]
    have h3 : keyL (vs.take i ++ vs[i] :: vs.drop (i + 1)) = keyL (vs.take i) ++ (keyV vs[i] ++ keyL (vs.drop (i + 1))) := by simp only [keyL, List.flatMap_append, List.flatMap_cons]
    rw [← h3, ← h2]
  rw [e, List.length_append, List.length_append]; omega

set_option maxRecDepth 100000 in
set_option maxHeartbeats 6400000 in
theorem value_Key (A : Option Addr) (n c : Nat) (vs : List Val) (w : World) (h : VS w A n vs) (hn : n ≤ 9223372036854775807) (hmax : HasMax w) (hb : (keyL vs).length ≤ 50000000) :
    Calls Tryd.prog 9 #[.slice A n c] w fun e w' => e = .returned (.string (bsOf (keyL vs))) ∧ Below w.heap.size w w' := by
  obtain ⟨i0, hi, hz0, hz1, hz2⟩ := info_parts infoByte
  have HH := Lib.hid h
  have HX := Lib.hid hmax
  have BD := Lib.hid hb
  clear h hmax hb
  go_enter Tryd.func9, Tryd.ntmps9
  go_wp2_with fail
  go_loopw [3, 8] (fun v3 v8 wr => ∃ i : Nat, i ≤ n ∧ v8 = .int .i64 i ∧ wr.ownsRow w.heap.size 5 1 v3 (keyL (vs.take i)).length (u8s (keyL (vs.take i))) ∧ Below w.heap.size w wr) (fun _ v8 _ => n - (intOf v8).toNat)
  case atStart => exact ⟨0, Nat.zero_le _, rfl, World.ownsRow_nil _ _ _ _, Below.refl _ _⟩
  case round =>
    obtain ⟨i, hi', rfl, hO, hb⟩ := hrel
    have HO := Lib.hid hO; have HB := Lib.hid hb
    clear hO hb
    by_cases hin : i < n
    · obtain ⟨b, off, rfl, hbl, hc⟩ := HH.out.2 (by omega)
      have hl : i < vs.length := by rw [HH.out.1]; exact hin
      have hk := keyL_take hl
      obtain ⟨v, hv⟩ : ∃ v, vs[i] = v := ⟨_, rfl⟩
      obtain ⟨a0, a1, a2⟩ := hc i v (by rw [← hv]; simp [hl])
      have HT := Lib.hid (take_snocV hl)
      rw [hv] at HT hk
      obtain ⟨wc, wf⟩ := bcell HB.out
      have c0 := (wc b (off + i * 3) hbl).trans a0
      have c1 := (wc b (off + i * 3 + 1) hbl).trans a1
      have c2 := (wc b (off + i * 3 + 2) hbl).trans a2
      have zz : b < wr.heap.size := by have := HB.out.size; omega
      obtain ⟨L, hL⟩ : ∃ L, keyL (vs.take i) = L := ⟨_, rfl⟩
      obtain ⟨m, hm⟩ : ∃ m, L.length = m := ⟨_, rfl⟩
      rw [hL, hm] at HO
      rw [hL, hm] at hk
      have HL := Lib.hid hL
      have HM := Lib.hid hm
      have TOT := Lib.hid (Nat.le_trans hk BD.out)
      clear hc a0 a1 a2 wc wf hv hl hk hL hm
      obtain ⟨k, x, s⟩ := v
      simp only at c0 c1 c2
      have T := (fun w1 => value_Clean k x s w1)
      by_cases k1 : k = 1
      · subst k1
        by_cases x0 : x = 0
        · have HN : cleanN 1 x = 0 := by rw [x0]; rfl
          clear x0
          have T1 : Hid (∀ w1, Calls Tryd.prog 37 #[.agg #[.int .i64 1, .int .i64 x, .string s]] w1 fun e w' => e = .returned (.agg #[.int .i64 1, .int .i64 (0), .string ⟨#[]⟩]) ∧ Below w1.heap.size w1 w') := fun w1 => by
            have := T w1
            rw [show cleanN 1 x = 0 from HN] at this
            exact this
          have PK := Lib.hid (show keyV ⟨1, x, s⟩ = [2] by unfold keyV cleanV; rw [show cleanN 1 x = 0 from HN]; rfl)
          clear T HN
          go_upto_region 6 with (go_at_call 37; (with_reducible refine (T1.out _).mono ?_); rintro e wc ⟨rfl, hbc⟩; have HBc := bel_step (below_new wr (.cells #[.int .i64 1, .int .i64 x, .string s] 38)) hbc (by simp); have HV := (Has.new wr 38 #[.int .i64 1, .int .i64 x, .string s]).belowS hbc; obtain ⟨d0, d1, d2⟩ := HV.cells3; have df := HV.frozen; have dz := HV.lt)
          have HV2 := Lib.hid (HV.set3 (x := .int .i64 1) (y := .int .i64 (0)) (z := .string (⟨#[]⟩)))
          have HB2 := Lib.hid (((HBc.setCell (p := ⟨wr.heap.size, 0, none⟩) (Nat.le_refl _) (.int .i64 1)).setCell (p := ⟨wr.heap.size, 1, none⟩) (Nat.le_refl _) (.int .i64 (0))).setCell (p := ⟨wr.heap.size, 2, none⟩) (Nat.le_refl _) (.string (⟨#[]⟩)))
          clear HBc HV d0 d1 d2 df dz hbc c0 c1 c2
          generalize ((wc.setCell ⟨wr.heap.size, 0, none⟩ (.int .i64 1)).setCell ⟨wr.heap.size, 1, none⟩ (.int .i64 (0))).setCell ⟨wr.heap.size, 2, none⟩ (.string (⟨#[]⟩)) = W at *
          have HO2 := Lib.hid (own_keep HO.out HB2.out)
          have HBW := Lib.hid (HB.out.trans (HB2.out.mono HB.out.size))
          have G3 := Lib.hid (Nat.le_trans HB.out.size HB2.out.size)
          have TT := Lib.hid (show m + (keyV ⟨1, x, s⟩).length ≤ 50000000 from TOT.out)
          rw [PK.out] at TT
          have m1 : m ≤ 50000000 := by have := TT.out; omega
          have G1 := Lib.hid (show m + 1 ≤ maxLen by unfold maxLen; omega)
          have G2 := Lib.hid (show (m + 1) * 1 ≤ 140737488355328 by omega)
          have E1 := Lib.hid (u8s_k2 L)
          obtain ⟨d0, d1, d2⟩ := HV2.out.cells3
          have dz := HV2.out.lt
          go_wp2_with (first | ((at_builtin; refine wpList_append_src _ rfl (.tmp 21) (.tmp 26) 55 55 rfl (w.heap.size) 5 i0 _ 1 1 Tryd.underlying55 hi hz0 hz1 hz2 zeroByte1 (by decide) (_) (m) (_) rfl (HO2.out.alloc _) (.slice (some ⟨_, 0, none⟩) 1 1) (1) ([Value.int .u8 2]) rfl (Src.ofSlice _ Tryd.underlying55 ⟨_, 0, none⟩ 1 1 ([Value.int .u8 2]) rfl (World.news_of_block (heap_alloc_new _ _)) (by simp [Value.oneCell'])) (G1.out) (G2.out) (Nat.le_trans G3.out (by simp)) ?_; intro v1 w1 hown1 hg1 _ hat1); (have HO3 := Lib.hid hown1); rw [E1.out] at HO3; (have HB3 := Lib.hid ((HBW.out.alloc G3.out (.cells #[Value.int .u8 2] 5)).grown hg1 (Nat.le_trans G3.out (by simp)) (fun k hk => (HO.out.lt k hk).1))); (have NE := Lib.hid (own_far2 (own_far HO.out (Nat.le_refl _)) hat1 (by simp; omega))); (have HV3 := Lib.hid ((HV2.out.alloc (.cells #[Value.int .u8 2] 5)).grown hg1 (own_far HO.out (Nat.le_refl _)))); (obtain ⟨f0, f1, f2⟩ := HV3.out.cells3); (have fz := HV3.out.lt); clear hown1 hg1 hat1))
          clear f0 f1 f2 fz d0 d1 d2 dz
          go_roundw
          case rel =>
            refine ⟨i + 1, by omega, by simp, ?_, HB3.out⟩
            rw [HT.out, keyL_snoc, PK.out, HL.out, List.length_append, HM.out]
            simpa using HO3.out
          case measure => simp [intOf]; omega
        · have HN : cleanN 1 x = 1 := by simp [cleanN, flagN, x0]
          clear x0
          have T1 : Hid (∀ w1, Calls Tryd.prog 37 #[.agg #[.int .i64 1, .int .i64 x, .string s]] w1 fun e w' => e = .returned (.agg #[.int .i64 1, .int .i64 (1), .string ⟨#[]⟩]) ∧ Below w1.heap.size w1 w') := fun w1 => by
            have := T w1
            rw [show cleanN 1 x = 1 from HN] at this
            exact this
          have PK := Lib.hid (show keyV ⟨1, x, s⟩ = [3] by unfold keyV cleanV; rw [show cleanN 1 x = 1 from HN]; rfl)
          clear T HN
          go_upto_region 6 with (go_at_call 37; (with_reducible refine (T1.out _).mono ?_); rintro e wc ⟨rfl, hbc⟩; have HBc := bel_step (below_new wr (.cells #[.int .i64 1, .int .i64 x, .string s] 38)) hbc (by simp); have HV := (Has.new wr 38 #[.int .i64 1, .int .i64 x, .string s]).belowS hbc; obtain ⟨d0, d1, d2⟩ := HV.cells3; have df := HV.frozen; have dz := HV.lt)
          have HV2 := Lib.hid (HV.set3 (x := .int .i64 1) (y := .int .i64 (1)) (z := .string (⟨#[]⟩)))
          have HB2 := Lib.hid (((HBc.setCell (p := ⟨wr.heap.size, 0, none⟩) (Nat.le_refl _) (.int .i64 1)).setCell (p := ⟨wr.heap.size, 1, none⟩) (Nat.le_refl _) (.int .i64 (1))).setCell (p := ⟨wr.heap.size, 2, none⟩) (Nat.le_refl _) (.string (⟨#[]⟩)))
          clear HBc HV d0 d1 d2 df dz hbc c0 c1 c2
          generalize ((wc.setCell ⟨wr.heap.size, 0, none⟩ (.int .i64 1)).setCell ⟨wr.heap.size, 1, none⟩ (.int .i64 (1))).setCell ⟨wr.heap.size, 2, none⟩ (.string (⟨#[]⟩)) = W at *
          have HO2 := Lib.hid (own_keep HO.out HB2.out)
          have HBW := Lib.hid (HB.out.trans (HB2.out.mono HB.out.size))
          have G3 := Lib.hid (Nat.le_trans HB.out.size HB2.out.size)
          have TT := Lib.hid (show m + (keyV ⟨1, x, s⟩).length ≤ 50000000 from TOT.out)
          rw [PK.out] at TT
          have m1 : m ≤ 50000000 := by have := TT.out; omega
          have G1 := Lib.hid (show m + 1 ≤ maxLen by unfold maxLen; omega)
          have G2 := Lib.hid (show (m + 1) * 1 ≤ 140737488355328 by omega)
          have E1 := Lib.hid (u8s_k3 L)
          obtain ⟨d0, d1, d2⟩ := HV2.out.cells3
          have dz := HV2.out.lt
          go_wp2_with (first | ((at_builtin; refine wpList_append_src _ rfl (.tmp 21) (.tmp 26) 55 55 rfl (w.heap.size) 5 i0 _ 1 1 Tryd.underlying55 hi hz0 hz1 hz2 zeroByte1 (by decide) (_) (m) (_) rfl (HO2.out.alloc _) (.slice (some ⟨_, 0, none⟩) 1 1) (1) ([Value.int .u8 3]) rfl (Src.ofSlice _ Tryd.underlying55 ⟨_, 0, none⟩ 1 1 ([Value.int .u8 3]) rfl (World.news_of_block (heap_alloc_new _ _)) (by simp [Value.oneCell'])) (G1.out) (G2.out) (Nat.le_trans G3.out (by simp)) ?_; intro v1 w1 hown1 hg1 _ hat1); (have HO3 := Lib.hid hown1); rw [E1.out] at HO3; (have HB3 := Lib.hid ((HBW.out.alloc G3.out (.cells #[Value.int .u8 3] 5)).grown hg1 (Nat.le_trans G3.out (by simp)) (fun k hk => (HO.out.lt k hk).1))); (have NE := Lib.hid (own_far2 (own_far HO.out (Nat.le_refl _)) hat1 (by simp; omega))); (have HV3 := Lib.hid ((HV2.out.alloc (.cells #[Value.int .u8 3] 5)).grown hg1 (own_far HO.out (Nat.le_refl _)))); (obtain ⟨f0, f1, f2⟩ := HV3.out.cells3); (have fz := HV3.out.lt); clear hown1 hg1 hat1))
          clear f0 f1 f2 fz d0 d1 d2 dz
          go_roundw
          case rel =>
            refine ⟨i + 1, by omega, by simp, ?_, HB3.out⟩
            rw [HT.out, keyL_snoc, PK.out, HL.out, List.length_append, HM.out]
            simpa using HO3.out
          case measure => simp [intOf]; omega
      · by_cases k2 : k = 2
        · subst k2
          clear k1
          have T1 : Hid (∀ w1, Calls Tryd.prog 37 #[.agg #[.int .i64 2, .int .i64 x, .string s]] w1 fun e w' => e = .returned (.agg #[.int .i64 2, .int .i64 x, .string ⟨#[]⟩]) ∧ Below w1.heap.size w1 w') := T
          have PK := Lib.hid (show keyV ⟨2, x, s⟩ = 4 :: beK (keyN x) 8 from rfl)
          obtain ⟨X, hX⟩ : ∃ X, u64N x = X := ⟨_, rfl⟩
          have wX : IntKind.u64.wrap x = (X : Int) := by rw [← hX, IntKind.wrap_u64]; unfold u64N; omega
          have xX := keyN_xor x
          obtain ⟨Y, hY⟩ : ∃ Y, keyN x = Y := ⟨_, rfl⟩
          have lY : Y < 18446744073709551616 := hY ▸ keyN_lt x
          rw [hX, hY] at xX
          rw [hY] at PK
          clear T hX hY
          go_upto_region 6 with (go_at_call 37; (with_reducible refine (T1.out _).mono ?_); rintro e wc ⟨rfl, hbc⟩; have HBc := bel_step (below_new wr (.cells #[.int .i64 2, .int .i64 x, .string s] 38)) hbc (by simp); have HV := (Has.new wr 38 #[.int .i64 2, .int .i64 x, .string s]).belowS hbc; obtain ⟨d0, d1, d2⟩ := HV.cells3; have df := HV.frozen; have dz := HV.lt)
          have HV2 := Lib.hid (HV.set3 (x := .int .i64 2) (y := .int .i64 (x)) (z := .string (⟨#[]⟩)))
          have HB2 := Lib.hid (((HBc.setCell (p := ⟨wr.heap.size, 0, none⟩) (Nat.le_refl _) (.int .i64 2)).setCell (p := ⟨wr.heap.size, 1, none⟩) (Nat.le_refl _) (.int .i64 (x))).setCell (p := ⟨wr.heap.size, 2, none⟩) (Nat.le_refl _) (.string (⟨#[]⟩)))
          clear HBc HV d0 d1 d2 df dz hbc c0 c1 c2
          generalize ((wc.setCell ⟨wr.heap.size, 0, none⟩ (.int .i64 2)).setCell ⟨wr.heap.size, 1, none⟩ (.int .i64 (x))).setCell ⟨wr.heap.size, 2, none⟩ (.string (⟨#[]⟩)) = W at *
          have HO2 := Lib.hid (own_keep HO.out HB2.out)
          have HBW := Lib.hid (HB.out.trans (HB2.out.mono HB.out.size))
          have G3 := Lib.hid (Nat.le_trans HB.out.size HB2.out.size)
          have TT := Lib.hid (show m + (keyV ⟨2, x, s⟩).length ≤ 50000000 from TOT.out)
          rw [PK.out] at TT
          have m1 : m ≤ 50000000 := by have := TT.out; omega
          have G1 := Lib.hid (show m + 1 ≤ maxLen by unfold maxLen; omega)
          have G2 := Lib.hid (show (m + 1) * 1 ≤ 140737488355328 by omega)
          have E1 := Lib.hid (u8s_k4 L)
          obtain ⟨d0, d1, d2⟩ := HV2.out.cells3
          have dz := HV2.out.lt
          go_wp2_with fail
          go_region_law (first | (refine step_app_row (by rfl) _ _ _ _ (by rfl) w.heap.size 5 i0 _ 1 1 Tryd.underlying55 hi hz0 hz1 hz2 zeroByte1 (by omega) _ m (u8s L) (by rfl) (HO2.out.drew.alloc _) _ 1 [Value.int .u8 4] (by rfl) (Src.ofSlice _ Tryd.underlying55 ⟨_, 0, none⟩ 1 1 [Value.int .u8 4] rfl (World.news_of_block (heap_alloc_new _ _)) (by simp [Value.oneCell'])) G1.out G2.out (Nat.le_trans G3.out (by simp)) ?_; intro A1 c1 w1 hown1 hg1 hat1; have HO3 := Lib.hid hown1; rw [E1.out] at HO3; have HB3 := Lib.hid ((HBW.out.drew.alloc G3.out (.cells #[Value.int .u8 4] 5)).grown hg1 (Nat.le_trans G3.out (by simp)) (fun k hk => (HO.out.lt k hk).1)); have HV3 := Lib.hid (((HV2.out.belowS (Below.refl _ _).drew).alloc (.cells #[Value.int .u8 4] 5)).grown hg1 (own_far HO.out (Nat.le_refl _))); obtain ⟨f0, f1, f2⟩ := HV3.out.cells3; have fz := HV3.out.lt; clear hown1 hg1 hat1) | (go_simp; go_at_call 38; (refine (value_long w.heap.size _ (m + 1) (L ++ [4]) Y _ HO3.out HB3.out.size (by omega) lY).mono ?_); rintro e w2 ⟨v2, rfl, hown2, hb2⟩; have HO4 := Lib.hid hown2; have HB4 := Lib.hid (HB3.out.trans hb2); clear hown2 hb2))
          all_goals
            go_wp2_with fail
            clear f0 f1 f2 fz d0 d1 d2 dz wX xX
            go_roundw
            case rel =>
              refine ⟨i + 1, by omega, by simp, ?_, HB4.out⟩
              rw [HT.out, keyL_snoc, PK.out, HL.out, List.length_append, HM.out, List.length_cons, beK_len]
              simpa using HO4.out
            case measure => simp [intOf]; omega
        · by_cases k3 : k = 3
          · subst k3
            clear k1 k2
            have T1 : Hid (∀ w1, Calls Tryd.prog 37 #[.agg #[.int .i64 3, .int .i64 x, .string s]] w1 fun e w' => e = .returned (.agg #[.int .i64 3, .int .i64 0, .string s]) ∧ Below w1.heap.size w1 w') := T
            have PK := Lib.hid (show keyV ⟨3, x, s⟩ = 5 :: (esc s.data.toList ++ [0, 1]) from rfl)
            clear T
            obtain ⟨t, ht⟩ : ∃ t, bsOf (esc s.data.toList) = t := ⟨_, rfl⟩
            have lt0 : t.size = (esc s.data.toList).length := by rw [← ht, bsOf_size]
            have ls : s.size ≤ t.size := by rw [lt0]; exact (by have := (esc_len s.data.toList).1; rw [Array.length_toList] at this; exact this)
            have tt : t.data.toList = esc s.data.toList := by rw [← ht, bsOf_data]
            go_upto_region 6 with (go_at_call 37; (with_reducible refine (T1.out _).mono ?_); rintro e wc ⟨rfl, hbc⟩; have HBc := bel_step (below_new wr (.cells #[.int .i64 3, .int .i64 x, .string s] 38)) hbc (by simp); have HV := (Has.new wr 38 #[.int .i64 3, .int .i64 x, .string s]).belowS hbc; obtain ⟨d0, d1, d2⟩ := HV.cells3; have df := HV.frozen; have dz := HV.lt)
            have HV2 := Lib.hid (HV.set3 (x := .int .i64 3) (y := .int .i64 (0)) (z := .string (s)))
            have HB2 := Lib.hid (((HBc.setCell (p := ⟨wr.heap.size, 0, none⟩) (Nat.le_refl _) (.int .i64 3)).setCell (p := ⟨wr.heap.size, 1, none⟩) (Nat.le_refl _) (.int .i64 (0))).setCell (p := ⟨wr.heap.size, 2, none⟩) (Nat.le_refl _) (.string (s)))
            clear HBc HV d0 d1 d2 df dz hbc c0 c1 c2
            generalize ((wc.setCell ⟨wr.heap.size, 0, none⟩ (.int .i64 3)).setCell ⟨wr.heap.size, 1, none⟩ (.int .i64 (0))).setCell ⟨wr.heap.size, 2, none⟩ (.string (s)) = W at *
            have HO2 := Lib.hid (own_keep HO.out HB2.out)
            have HBW := Lib.hid (HB.out.trans (HB2.out.mono HB.out.size))
            have G3 := Lib.hid (Nat.le_trans HB.out.size HB2.out.size)
            have TT := Lib.hid (show m + (keyV ⟨3, x, s⟩).length ≤ 50000000 from TOT.out)
            rw [PK.out] at TT
            have m1 : m ≤ 50000000 := by have := TT.out; omega
            have G1 := Lib.hid (show m + 1 ≤ maxLen by unfold maxLen; omega)
            have G2 := Lib.hid (show (m + 1) * 1 ≤ 140737488355328 by omega)
            have E1 := Lib.hid (u8s_k5 L)
            obtain ⟨d0, d1, d2⟩ := HV2.out.cells3
            have dz := HV2.out.lt
            have ts : m + 1 + t.size + 2 ≤ 50000000 := by
              have := TT.out
              rw [lt0]
              simp only [List.length_cons, List.length_append, List.length_nil] at this
              omega
            have RA := Lib.hid (fun w1 (h1 : HasMax w1) => text_esc s w1 h1 (by omega))
            rw [ht] at RA
            have TTL := Lib.hid tt
            have E2 := Lib.hid (u8s_str (L ++ [5]) t)
            have E3 := Lib.hid (u8s_k01 (L ++ [5] ++ t.data.toList))
            have G4 := Lib.hid (show m + 1 + t.size ≤ maxLen by unfold maxLen; omega)
            have G5 := Lib.hid (show (m + 1 + t.size) * 1 ≤ 140737488355328 by omega)
            have G6 := Lib.hid (show m + 1 + t.size + 2 ≤ maxLen by unfold maxLen; omega)
            have G7 := Lib.hid (show (m + 1 + t.size + 2) * 1 ≤ 140737488355328 by omega)
            clear ht lt0 ls tt ts
            go_wp2_with (first | ((at_builtin; refine wpList_append_src _ rfl (.tmp 40) (.tmp 41) 55 55 rfl (w.heap.size) 5 i0 _ 1 1 Tryd.underlying55 hi hz0 hz1 hz2 zeroByte1 (by decide) (_) (m) (_) rfl (HO2.out.alloc _) (.slice (some ⟨_, 0, none⟩) 1 1) (1) ([Value.int .u8 5]) rfl (Src.ofSlice _ Tryd.underlying55 ⟨_, 0, none⟩ 1 1 ([Value.int .u8 5]) rfl (World.news_of_block (heap_alloc_new _ _)) (by simp [Value.oneCell'])) (G1.out) (G2.out) (Nat.le_trans G3.out (by simp)) ?_; intro v1 w1 hown1 hg1 _ hat1); (have HO3 := Lib.hid hown1); rw [E1.out] at HO3; (have HB3 := Lib.hid ((HBW.out.alloc G3.out (.cells #[Value.int .u8 5] 5)).grown hg1 (Nat.le_trans G3.out (by simp)) (fun k hk => (HO.out.lt k hk).1))); (have NE := Lib.hid (own_far2 (own_far HO.out (Nat.le_refl _)) hat1 (by simp; omega))); (have HV3 := Lib.hid ((HV2.out.alloc (.cells #[Value.int .u8 5] 5)).grown hg1 (own_far HO.out (Nat.le_refl _)))); (obtain ⟨f0, f1, f2⟩ := HV3.out.cells3); (have fz := HV3.out.lt); clear hown1 hg1 hat1) | (go_at_call 39; (refine (RA.out _ (HX.out.below HB3.out)).mono ?_); rintro e w2 ⟨rfl, hb2⟩; have HO4 := Lib.hid (own_keep HO3.out hb2); have HB4 := Lib.hid (bel_step HB3.out hb2 HB3.out.size); clear hb2) | ((at_builtin; refine wpList_append_src _ rfl (.tmp 43) (.tmp 46) 55 9 rfl (w.heap.size) 5 i0 _ 1 1 Tryd.underlying55 hi hz0 hz1 hz2 zeroByte1 (by decide) (v1) (m + 1) (_) rfl (HO4.out) (.string t) (t.size) (byteCells t) rfl (Src.ofString _ Tryd.underlying9 t) (G4.out) (G5.out) (HB4.out.size) ?_; intro v3 w3 hown3 hg3 _ hat3); have HO5 := Lib.hid hown3; rw [E2.out] at HO5; have HB5 := Lib.hid (HB4.out.grown hg3 HB4.out.size (fun k hk => (HO4.out.lt k hk).1)); clear hown3 hg3 hat3) | ((at_builtin; refine wpList_append_src _ rfl (.tmp 48) (.tmp 49) 55 55 rfl (w.heap.size) 5 i0 _ 1 1 Tryd.underlying55 hi hz0 hz1 hz2 zeroByte1 (by decide) (v3) (m + 1 + t.size) (_) rfl (HO5.out.alloc _) (.slice (some ⟨_, 0, none⟩) 2 2) (2) ([Value.int .u8 0, Value.int .u8 1]) rfl (Src.ofSlice _ Tryd.underlying55 ⟨_, 0, none⟩ 2 2 ([Value.int .u8 0, Value.int .u8 1]) rfl (World.news_of_block (heap_alloc_new _ _)) (by simp [Value.oneCell'])) (G6.out) (G7.out) (Nat.le_trans HB5.out.size (by simp)) ?_; intro v4 w4 hown4 hg4 _ hat4); have HO6 := Lib.hid hown4; rw [E3.out] at HO6; have HB6 := Lib.hid ((HB5.out.alloc HB5.out.size (.cells #[Value.int .u8 0, Value.int .u8 1] 5)).grown hg4 (Nat.le_trans HB5.out.size (by simp)) (fun k hk => (HO5.out.lt k hk).1)); clear hown4 hg4 hat4))
            clear f0 f1 f2 fz d0 d1 d2 dz
            go_roundw
            case rel =>
              refine ⟨i + 1, by omega, by simp, ?_, HB6.out⟩
              have hq := HO6.out
              rw [HT.out, keyL_snoc, PK.out, HL.out, ← TTL.out]
              have e1 : L ++ 5 :: (t.data.toList ++ [0, 1]) = L ++ [5] ++ t.data.toList ++ [0, 1] := by simp
              have e2 : (L ++ 5 :: (t.data.toList ++ [0, 1])).length = m + 1 + t.size + 2 := by
                have e3 : t.data.toList.length = t.size := Array.length_toList
                simp only [List.length_append, List.length_cons, List.length_nil, HM.out]; omega
              rw [e2, e1]
              exact hq
            case measure => simp [intOf]; omega
          · have T1 : Hid (∀ w1, Calls Tryd.prog 37 #[.agg #[.int .i64 k, .int .i64 x, .string s]] w1 fun e w' => e = .returned (.agg #[.int .i64 0, .int .i64 0, .string ⟨#[]⟩]) ∧ Below w1.heap.size w1 w') := fun w1 => by
              have := T w1
              simp only [cleanK, cleanN, cleanS, if_neg k1, if_neg k2, if_neg k3] at this
              exact this
            have PK := Lib.hid (show keyV ⟨k, x, s⟩ = [1] by simp only [keyV, cleanV, cleanK, if_neg k1, if_neg k2, if_neg k3]; rfl)
            clear T k1 k2 k3
            go_upto_region 6 with (go_at_call 37; (with_reducible refine (T1.out _).mono ?_); rintro e wc ⟨rfl, hbc⟩; have HBc := bel_step (below_new wr (.cells #[.int .i64 k, .int .i64 x, .string s] 38)) hbc (by simp); have HV := (Has.new wr 38 #[.int .i64 k, .int .i64 x, .string s]).belowS hbc; obtain ⟨d0, d1, d2⟩ := HV.cells3; have df := HV.frozen; have dz := HV.lt)
            have HV2 := Lib.hid (HV.set3 (x := .int .i64 0) (y := .int .i64 (0)) (z := .string (⟨#[]⟩)))
            have HB2 := Lib.hid (((HBc.setCell (p := ⟨wr.heap.size, 0, none⟩) (Nat.le_refl _) (.int .i64 0)).setCell (p := ⟨wr.heap.size, 1, none⟩) (Nat.le_refl _) (.int .i64 (0))).setCell (p := ⟨wr.heap.size, 2, none⟩) (Nat.le_refl _) (.string (⟨#[]⟩)))
            clear HBc HV d0 d1 d2 df dz hbc c0 c1 c2
            generalize ((wc.setCell ⟨wr.heap.size, 0, none⟩ (.int .i64 0)).setCell ⟨wr.heap.size, 1, none⟩ (.int .i64 (0))).setCell ⟨wr.heap.size, 2, none⟩ (.string (⟨#[]⟩)) = W at *
            have HO2 := Lib.hid (own_keep HO.out HB2.out)
            have HBW := Lib.hid (HB.out.trans (HB2.out.mono HB.out.size))
            have G3 := Lib.hid (Nat.le_trans HB.out.size HB2.out.size)
            have TT := Lib.hid (show m + (keyV ⟨k, x, s⟩).length ≤ 50000000 from TOT.out)
            rw [PK.out] at TT
            have m1 : m ≤ 50000000 := by have := TT.out; omega
            have G1 := Lib.hid (show m + 1 ≤ maxLen by unfold maxLen; omega)
            have G2 := Lib.hid (show (m + 1) * 1 ≤ 140737488355328 by omega)
            have E1 := Lib.hid (u8s_k1 L)
            obtain ⟨d0, d1, d2⟩ := HV2.out.cells3
            have dz := HV2.out.lt
            go_wp2_with (first | ((at_builtin; refine wpList_append_src _ rfl (.tmp 16) (.tmp 17) 55 55 rfl (w.heap.size) 5 i0 _ 1 1 Tryd.underlying55 hi hz0 hz1 hz2 zeroByte1 (by decide) (_) (m) (_) rfl (HO2.out.alloc _) (.slice (some ⟨_, 0, none⟩) 1 1) (1) ([Value.int .u8 1]) rfl (Src.ofSlice _ Tryd.underlying55 ⟨_, 0, none⟩ 1 1 ([Value.int .u8 1]) rfl (World.news_of_block (heap_alloc_new _ _)) (by simp [Value.oneCell'])) (G1.out) (G2.out) (Nat.le_trans G3.out (by simp)) ?_; intro v1 w1 hown1 hg1 _ hat1); (have HO3 := Lib.hid hown1); rw [E1.out] at HO3; (have HB3 := Lib.hid ((HBW.out.alloc G3.out (.cells #[Value.int .u8 1] 5)).grown hg1 (Nat.le_trans G3.out (by simp)) (fun k hk => (HO.out.lt k hk).1))); (have NE := Lib.hid (own_far2 (own_far HO.out (Nat.le_refl _)) hat1 (by simp; omega))); (have HV3 := Lib.hid ((HV2.out.alloc (.cells #[Value.int .u8 1] 5)).grown hg1 (own_far HO.out (Nat.le_refl _)))); (obtain ⟨f0, f1, f2⟩ := HV3.out.cells3); (have fz := HV3.out.lt); clear hown1 hg1 hat1))
            clear f0 f1 f2 fz d0 d1 d2 dz
            go_roundw
            case rel =>
              refine ⟨i + 1, by omega, by simp, ?_, HB3.out⟩
              rw [HT.out, keyL_snoc, PK.out, HL.out, List.length_append, HM.out]
              simpa using HO3.out
            case measure => simp [intOf]; omega
    · obtain rfl : i = n := by omega
      obtain ⟨A4, c4, rfl, _, h4⟩ := BS.of_own HO.out
      have hcv := conv_BS (c := c4) h4
      have e0 : vs.take i = vs := by rw [← HH.out.1, List.take_length]
      rw [e0] at hcv
      obtain ⟨t, ht⟩ : ∃ t, bsOf (keyL vs) = t := ⟨_, rfl⟩
      rw [ht] at hcv
      have RES := Lib.hid ht
      rw [e0]
      clear ht h4 e0
      go_wp2_with fail
      go_ret
      exact ⟨congrArg (fun s => Ending.returned (.string s)) RES.out.symm, HB.out⟩

end Go.Proofs.YtlkkpgdgnnknpaaDoor
