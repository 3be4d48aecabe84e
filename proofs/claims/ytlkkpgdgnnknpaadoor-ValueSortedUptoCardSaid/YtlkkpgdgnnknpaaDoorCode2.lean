/-
  value.Pack.
-/
import Derived.Test.YtlkkpgdgnnknpaaDoorCode1
import Derived.WalkLawsBesides
namespace Go.Proofs.YtlkkpgdgnnknpaaDoor
open Go.RowKit
open Go.BigFrame
set_option linter.unusedVariables false
set_option linter.unusedSimpArgs false

theorem own_keep {w w' : World} {base : Nat} {e : TypeId} {size : Nat} {v : Value} {n : Nat} {xs : List Value} (h : w.ownsRow base e size v n xs) (hb : Below w.heap.size w w') : w'.ownsRow base e size v n xs := by
  refine ⟨h.1, ?_⟩
  rcases h.2 with h | ⟨g, cap, cur, hv, hbg, hg, r⟩
  · exact .inl h
  · exact .inr ⟨g, cap, cur, hv, hbg, (hb.block g (Array.getElem?_eq_some_iff.1 hg).1).trans hg, r⟩
theorem own_far {w : World} {base : Nat} {e : TypeId} {size : Nat} {v : Value} {n : Nat} {xs : List Value} (h : w.ownsRow base e size v n xs) {g : Nat} (hg : w.heap.size ≤ g) : some g ≠ v.ownBlock := fun e => by
  have := (h.lt g e.symm).2; omega
theorem own_far2 {W : World} {v v' : Value} {g : Nat} (h : some g ≠ v.ownBlock) (hat : v'.ownBlock = v.ownBlock ∨ v'.ownBlock = some W.heap.size) (hg : g < W.heap.size) : some g ≠ v'.ownBlock := by
  rcases hat with e | e <;> rw [e]
  · exact h
  · intro e2; cases e2; omega
theorem below_new (w : World) (o : Obj) : Below w.heap.size w (w.alloc o) := (Below.refl _ _).alloc (Nat.le_refl _) _
theorem pack_len (v : Val) (h : ¬ bigV v) : (packV v).length ≤ 1003 := by
  unfold bigV at h
  unfold packV packC
  split
  · simp
  · split
    · simp [beK_len]
    · split
      · rename_i hk
        have : (cleanV v).s.size ≤ 1000 := by
          simp only [cleanV, cleanS, cleanK] at hk ⊢
          split at hk
          · omega
          · split at hk
            · omega
            · split at hk
              · rw [if_pos ‹_›]; omega
              · omega
        simp only [List.length_cons, List.length_append, beK_len, Array.length_toList]
        rw [show (cleanV v).s.data.size = (cleanV v).s.size from rfl]; omega
      · simp
theorem u8s_k0 (l : List UInt8) : u8s l ++ [Value.int .u8 0] = u8s (l ++ [0]) := by rw [u8s_append]; rfl
theorem u8s_k1 (l : List UInt8) : u8s l ++ [Value.int .u8 1] = u8s (l ++ [1]) := by rw [u8s_append]; rfl
theorem u8s_k2 (l : List UInt8) : u8s l ++ [Value.int .u8 2] = u8s (l ++ [2]) := by rw [u8s_append]; rfl
theorem u8s_k3 (l : List UInt8) : u8s l ++ [Value.int .u8 3] = u8s (l ++ [3]) := by rw [u8s_append]; rfl
theorem u8s_two (l : List UInt8) (n : Nat) (h : n < 65536) : u8s l ++ [Value.int .u8 ((n : Int) / 256), Value.int .u8 ((n : Int) % 256)] = u8s (l ++ beK n 2) := by
  rw [u8s_append, beK_two]
  congr 1
  simp only [u8s, u8v, List.map_cons, List.map_nil, toNat_ofNat8]
  rw [show ((n / 256 : Nat) : Int) % 256 = (n : Int) / 256 by omega]
theorem u8s_str (l : List UInt8) (s : ByteArray) : u8s l ++ byteCells s = u8s (l ++ s.data.toList) := by rw [u8s_append]; rfl
theorem take_snocV {vs : List Val} {i : Nat} (h : i < vs.length) : vs.take (i + 1) = vs.take i ++ [vs[i]] := List.take_succ_eq_append_getElem h
theorem small_snoc {vs : List Val} {i : Nat} (h : i < vs.length) (hs : ∀ v ∈ vs.take i, ¬ bigV v) (hv : ¬ bigV vs[i]) : ∀ v ∈ vs.take (i + 1), ¬ bigV v := by
  rw [take_snocV h]
  intro v hm
  rcases List.mem_append.1 hm with hm | hm
  · exact hs v hm
  · rw [List.mem_singleton.1 hm]; exact hv

set_option maxRecDepth 100000 in
set_option maxHeartbeats 6400000 in
theorem value_Pack (A : Option Addr) (n c : Nat) (vs : List Val) (w : World) (h : VS w A n vs) (hn : n ≤ 9223372036854775807) :
    Calls Tryd.prog 20 #[.slice A n c] w fun e w' => e = .returned (.tuple #[.string (packS vs), .int .i64 (packE vs)]) ∧ Below w.heap.size w w' := by
  obtain ⟨i0, hi, hz0, hz1, hz2⟩ := info_parts infoByte
  by_cases hlen : 64 < n
  · have hbad : badL vs := .inl (by rw [h.1]; exact hlen)
    have ANS : Hid (Ending.returned (.tuple #[.string ⟨#[]⟩, .int .i64 8]) = .returned (.tuple #[.string (packS vs), .int .i64 (packE vs)])) := by
      show _ = _
      rw [packS, packE, if_pos hbad, if_pos hbad]
    clear hbad h
    go_enter Tryd.func20, Tryd.ntmps20
    go_wp2_with fail
    go_ret2
    exact ⟨ANS.out, Below.refl _ _⟩
  · have HH := Lib.hid h
    have n64 : n ≤ 64 := by omega
    clear h hlen hn
    have HO0 : Hid ((w.alloc (.cells #[Value.int .u8 (n : Int)] 5)).ownsRow w.heap.size 5 1 (.slice (some ⟨w.heap.size, 0, none⟩) 1 1) 1 (u8s (UInt8.ofNat n :: packL (vs.take 0)))) := by
      have := (Has.new w 5 (u8s [UInt8.ofNat n]).toArray).own (B := w.heap.size) (Nat.le_refl _) (n := 1) rfl (by unfold maxLen; omega)
      rw [show (u8s [UInt8.ofNat n]).toArray = #[Value.int .u8 (n : Int)] by rw [← u8s_one_val (n : Int) n (by omega)]] at this
      exact Lib.hid this
    go_enter Tryd.func20, Tryd.ntmps20
    go_wp2_with fail
    go_loopw [4, 16] (fun v4 v16 wr => ∃ i m : Nat, i ≤ n ∧ v16 = .int .i64 i ∧ wr.ownsRow w.heap.size 5 1 v4 m (u8s (UInt8.ofNat n :: packL (vs.take i))) ∧ m ≤ 1 + 1003 * i ∧ (∀ v ∈ vs.take i, ¬ bigV v) ∧ Below w.heap.size w wr) (fun _ v16 _ => n - (intOf v16).toNat)
    case atStart => exact ⟨0, 1, Nat.zero_le _, rfl, HO0.out, by omega, by simp, below_new _ _⟩
    case round =>
      clear HO0
      obtain ⟨i, m, hi', rfl, hO, hm, hs, hb⟩ := hrel
      have HO := Lib.hid hO; have HB := Lib.hid hb; have HSM := Lib.hid hs
      clear hO hb hs
      by_cases hin : i < n
      · obtain ⟨b, off, rfl, hbl, hc⟩ := HH.out.2 (by omega)
        have hl : i < vs.length := by rw [HH.out.1]; exact hin
        obtain ⟨v, hv⟩ : ∃ v, vs[i] = v := ⟨_, rfl⟩
        obtain ⟨a0, a1, a2⟩ := hc i v (by rw [← hv]; simp [hl])
        have HT := Lib.hid (take_snocV hl)
        have SM := Lib.hid (small_snoc hl HSM.out)
        rw [hv] at HT SM
        obtain ⟨wc, wf⟩ := bcell HB.out
        have c0 := (wc b (off + i * 3) hbl).trans a0
        have c1 := (wc b (off + i * 3 + 1) hbl).trans a1
        have c2 := (wc b (off + i * 3 + 2) hbl).trans a2
        have zz : b < wr.heap.size := by have := HB.out.size; omega
        have BAD : Hid (bigV v → badL vs) := fun hb => .inr ⟨v, by rw [← hv]; exact List.getElem_mem hl, hb⟩
        clear hc a0 a1 a2 wc wf hv hl
        obtain ⟨k, x, s⟩ := v
        simp only at c0 c1 c2
        have T := (fun w1 => value_Clean k x s w1)
        by_cases k1 : k = 1
        · subst k1
          by_cases x0 : x = 0
          · have HN : cleanN 1 x = 0 := by rw [x0]; rfl
            clear x0
            have T1 : Hid (∀ w1, Calls Tryd.prog 37 #[.agg #[.int .i64 1, .int .i64 x, .string s]] w1 fun e w' => e = .returned (.agg #[.int .i64 1, .int .i64 (0), .string ⟨#[]⟩]) ∧ Below w1.heap.size w1 w') := fun w1 => by
              have := T w1
              rw [show cleanN 1 x = 0 from HN] at this
              exact this
            have PK := Lib.hid (show packV ⟨1, x, s⟩ = [1, 0] by unfold packV cleanV; rw [show cleanN 1 x = 0 from HN]; rfl)
            clear T HN
            go_upto_region 8 with (go_at_call 37; (with_reducible refine (T1.out _).mono ?_); rintro e wc ⟨rfl, hbc⟩; have HBc := bel_step (below_new wr (.cells #[.int .i64 1, .int .i64 x, .string s] 38)) hbc (by simp); have HV := (Has.new wr 38 #[.int .i64 1, .int .i64 x, .string s]).belowS hbc; obtain ⟨d0, d1, d2⟩ := HV.cells3; have df := HV.frozen; have dz := HV.lt)
            have HV2 := Lib.hid (HV.set3 (x := .int .i64 1) (y := .int .i64 (0)) (z := .string (⟨#[]⟩)))
            have HB2 := Lib.hid (((HBc.setCell (p := ⟨wr.heap.size, 0, none⟩) (Nat.le_refl _) (.int .i64 1)).setCell (p := ⟨wr.heap.size, 1, none⟩) (Nat.le_refl _) (.int .i64 (0))).setCell (p := ⟨wr.heap.size, 2, none⟩) (Nat.le_refl _) (.string (⟨#[]⟩)))
            clear HBc HV d0 d1 d2 df dz hbc c0 c1 c2
            generalize ((wc.setCell ⟨wr.heap.size, 0, none⟩ (.int .i64 1)).setCell ⟨wr.heap.size, 1, none⟩ (.int .i64 (0))).setCell ⟨wr.heap.size, 2, none⟩ (.string (⟨#[]⟩)) = W at *
            have HO2 := Lib.hid (own_keep HO.out HB2.out)
            have HBW := Lib.hid (HB.out.trans (HB2.out.mono HB.out.size))
            have G3 := Lib.hid (Nat.le_trans HB.out.size HB2.out.size)
            have G1 := Lib.hid (show m + 1 ≤ maxLen by unfold maxLen; omega)
            have G2 := Lib.hid (show (m + 1) * 1 ≤ 140737488355328 by omega)
            have E1 := Lib.hid (u8s_k1 (UInt8.ofNat n :: packL (vs.take i)))
            obtain ⟨d0, d1, d2⟩ := HV2.out.cells3
            have dz := HV2.out.lt
            have E2 := Lib.hid (u8s_k0 ((UInt8.ofNat n :: packL (vs.take i)) ++ [1]))
            have G4 := Lib.hid (show m + 1 + 1 ≤ maxLen by unfold maxLen; omega)
            have G5 := Lib.hid (show (m + 1 + 1) * 1 ≤ 140737488355328 by omega)
            go_wp2_with (first | ((at_builtin; refine wpList_append_src _ rfl (.tmp 22) (.tmp 26) 55 55 rfl (w.heap.size) 5 i0 _ 1 1 Tryd.underlying55 hi hz0 hz1 hz2 zeroByte1 (by decide) (_) (m) (_) rfl (HO2.out.alloc _) (.slice (some ⟨_, 0, none⟩) 1 1) (1) ([Value.int .u8 1]) rfl (Src.ofSlice _ Tryd.underlying55 ⟨_, 0, none⟩ 1 1 ([Value.int .u8 1]) rfl (World.news_of_block (heap_alloc_new _ _)) (by simp [Value.oneCell'])) (G1.out) (G2.out) (Nat.le_trans G3.out (by simp)) ?_; intro v1 w1 hown1 hg1 _ hat1); (have HO3 := Lib.hid hown1); rw [E1.out] at HO3; (have HB3 := Lib.hid ((HBW.out.alloc G3.out (.cells #[Value.int .u8 1] 5)).grown hg1 (Nat.le_trans G3.out (by simp)) (fun k hk => (HO.out.lt k hk).1))); (have NE := Lib.hid (own_far2 (own_far HO.out (Nat.le_refl _)) hat1 (by simp; omega))); (have HV3 := Lib.hid ((HV2.out.alloc (.cells #[Value.int .u8 1] 5)).grown hg1 (own_far HO.out (Nat.le_refl _)))); (obtain ⟨f0, f1, f2⟩ := HV3.out.cells3); (have fz := HV3.out.lt); clear hown1 hg1 hat1) | ((at_builtin; refine wpList_append_src _ rfl (.tmp 32) (.tmp 36) 55 55 rfl (w.heap.size) 5 i0 _ 1 1 Tryd.underlying55 hi hz0 hz1 hz2 zeroByte1 (by decide) (v1) (m + 1) (_) rfl (HO3.out.alloc _) (.slice (some ⟨_, 0, none⟩) 1 1) (1) ([Value.int .u8 0]) rfl (Src.ofSlice _ Tryd.underlying55 ⟨_, 0, none⟩ 1 1 ([Value.int .u8 0]) rfl (World.news_of_block (heap_alloc_new _ _)) (by simp [Value.oneCell'])) (G4.out) (G5.out) (Nat.le_trans HB3.out.size (by simp)) ?_; intro v2 w2 hown2 hg2 _ hat2); have HO4 := Lib.hid hown2; rw [E2.out] at HO4; have HB4 := Lib.hid ((HB3.out.alloc HB3.out.size (.cells #[Value.int .u8 0] 5)).grown hg2 (Nat.le_trans HB3.out.size (by simp)) (fun k hk => (HO3.out.lt k hk).1)); clear hown2 hg2 hat2))
            clear f0 f1 f2 fz d0 d1 d2 dz
            go_roundw
            case rel =>
              refine ⟨i + 1, m + 1 + 1, by omega, by simp, ?_, by omega, SM.out (by simp [bigV]), HB4.out⟩
              rw [HT.out, packL_snoc, PK.out]
              simpa using HO4.out
            case measure => simp [intOf]; omega
          · have HN : cleanN 1 x = 1 := by simp [cleanN, flagN, x0]
            clear x0
            have T1 : Hid (∀ w1, Calls Tryd.prog 37 #[.agg #[.int .i64 1, .int .i64 x, .string s]] w1 fun e w' => e = .returned (.agg #[.int .i64 1, .int .i64 (1), .string ⟨#[]⟩]) ∧ Below w1.heap.size w1 w') := fun w1 => by
              have := T w1
              rw [show cleanN 1 x = 1 from HN] at this
              exact this
            have PK := Lib.hid (show packV ⟨1, x, s⟩ = [1, 1] by unfold packV cleanV; rw [show cleanN 1 x = 1 from HN]; rfl)
            clear T HN
            go_upto_region 8 with (go_at_call 37; (with_reducible refine (T1.out _).mono ?_); rintro e wc ⟨rfl, hbc⟩; have HBc := bel_step (below_new wr (.cells #[.int .i64 1, .int .i64 x, .string s] 38)) hbc (by simp); have HV := (Has.new wr 38 #[.int .i64 1, .int .i64 x, .string s]).belowS hbc; obtain ⟨d0, d1, d2⟩ := HV.cells3; have df := HV.frozen; have dz := HV.lt)
            have HV2 := Lib.hid (HV.set3 (x := .int .i64 1) (y := .int .i64 (1)) (z := .string (⟨#[]⟩)))
            have HB2 := Lib.hid (((HBc.setCell (p := ⟨wr.heap.size, 0, none⟩) (Nat.le_refl _) (.int .i64 1)).setCell (p := ⟨wr.heap.size, 1, none⟩) (Nat.le_refl _) (.int .i64 (1))).setCell (p := ⟨wr.heap.size, 2, none⟩) (Nat.le_refl _) (.string (⟨#[]⟩)))
            clear HBc HV d0 d1 d2 df dz hbc c0 c1 c2
            generalize ((wc.setCell ⟨wr.heap.size, 0, none⟩ (.int .i64 1)).setCell ⟨wr.heap.size, 1, none⟩ (.int .i64 (1))).setCell ⟨wr.heap.size, 2, none⟩ (.string (⟨#[]⟩)) = W at *
            have HO2 := Lib.hid (own_keep HO.out HB2.out)
            have HBW := Lib.hid (HB.out.trans (HB2.out.mono HB.out.size))
            have G3 := Lib.hid (Nat.le_trans HB.out.size HB2.out.size)
            have G1 := Lib.hid (show m + 1 ≤ maxLen by unfold maxLen; omega)
            have G2 := Lib.hid (show (m + 1) * 1 ≤ 140737488355328 by omega)
            have E1 := Lib.hid (u8s_k1 (UInt8.ofNat n :: packL (vs.take i)))
            obtain ⟨d0, d1, d2⟩ := HV2.out.cells3
            have dz := HV2.out.lt
            have E2 := Lib.hid (u8s_k1 ((UInt8.ofNat n :: packL (vs.take i)) ++ [1]))
            have G4 := Lib.hid (show m + 1 + 1 ≤ maxLen by unfold maxLen; omega)
            have G5 := Lib.hid (show (m + 1 + 1) * 1 ≤ 140737488355328 by omega)
            go_wp2_with (first | ((at_builtin; refine wpList_append_src _ rfl (.tmp 22) (.tmp 26) 55 55 rfl (w.heap.size) 5 i0 _ 1 1 Tryd.underlying55 hi hz0 hz1 hz2 zeroByte1 (by decide) (_) (m) (_) rfl (HO2.out.alloc _) (.slice (some ⟨_, 0, none⟩) 1 1) (1) ([Value.int .u8 1]) rfl (Src.ofSlice _ Tryd.underlying55 ⟨_, 0, none⟩ 1 1 ([Value.int .u8 1]) rfl (World.news_of_block (heap_alloc_new _ _)) (by simp [Value.oneCell'])) (G1.out) (G2.out) (Nat.le_trans G3.out (by simp)) ?_; intro v1 w1 hown1 hg1 _ hat1); (have HO3 := Lib.hid hown1); rw [E1.out] at HO3; (have HB3 := Lib.hid ((HBW.out.alloc G3.out (.cells #[Value.int .u8 1] 5)).grown hg1 (Nat.le_trans G3.out (by simp)) (fun k hk => (HO.out.lt k hk).1))); (have NE := Lib.hid (own_far2 (own_far HO.out (Nat.le_refl _)) hat1 (by simp; omega))); (have HV3 := Lib.hid ((HV2.out.alloc (.cells #[Value.int .u8 1] 5)).grown hg1 (own_far HO.out (Nat.le_refl _)))); (obtain ⟨f0, f1, f2⟩ := HV3.out.cells3); (have fz := HV3.out.lt); clear hown1 hg1 hat1) | ((at_builtin; refine wpList_append_src _ rfl (.tmp 32) (.tmp 36) 55 55 rfl (w.heap.size) 5 i0 _ 1 1 Tryd.underlying55 hi hz0 hz1 hz2 zeroByte1 (by decide) (v1) (m + 1) (_) rfl (HO3.out.alloc _) (.slice (some ⟨_, 0, none⟩) 1 1) (1) ([Value.int .u8 1]) rfl (Src.ofSlice _ Tryd.underlying55 ⟨_, 0, none⟩ 1 1 ([Value.int .u8 1]) rfl (World.news_of_block (heap_alloc_new _ _)) (by simp [Value.oneCell'])) (G4.out) (G5.out) (Nat.le_trans HB3.out.size (by simp)) ?_; intro v2 w2 hown2 hg2 _ hat2); have HO4 := Lib.hid hown2; rw [E2.out] at HO4; have HB4 := Lib.hid ((HB3.out.alloc HB3.out.size (.cells #[Value.int .u8 1] 5)).grown hg2 (Nat.le_trans HB3.out.size (by simp)) (fun k hk => (HO3.out.lt k hk).1)); clear hown2 hg2 hat2))
            clear f0 f1 f2 fz d0 d1 d2 dz
            go_roundw
            case rel =>
              refine ⟨i + 1, m + 1 + 1, by omega, by simp, ?_, by omega, SM.out (by simp [bigV]), HB4.out⟩
              rw [HT.out, packL_snoc, PK.out]
              simpa using HO4.out
            case measure => simp [intOf]; omega
        · by_cases k2 : k = 2
          · subst k2
            clear k1
            have T1 : Hid (∀ w1, Calls Tryd.prog 37 #[.agg #[.int .i64 2, .int .i64 x, .string s]] w1 fun e w' => e = .returned (.agg #[.int .i64 2, .int .i64 x, .string ⟨#[]⟩]) ∧ Below w1.heap.size w1 w') := T
            have PK := Lib.hid (show packV ⟨2, x, s⟩ = 2 :: beK (u64N x) 8 from rfl)
            obtain ⟨X, hX⟩ : ∃ X, u64N x = X := ⟨_, rfl⟩
            have lX := u64N_lt x
            have wX : IntKind.u64.wrap x = (X : Int) := by rw [← hX, IntKind.wrap_u64]; unfold u64N; omega
            rw [hX] at PK lX
            clear T hX
            go_upto_region 8 with (go_at_call 37; (with_reducible refine (T1.out _).mono ?_); rintro e wc ⟨rfl, hbc⟩; have HBc := bel_step (below_new wr (.cells #[.int .i64 2, .int .i64 x, .string s] 38)) hbc (by simp); have HV := (Has.new wr 38 #[.int .i64 2, .int .i64 x, .string s]).belowS hbc; obtain ⟨d0, d1, d2⟩ := HV.cells3; have df := HV.frozen; have dz := HV.lt)
            have HV2 := Lib.hid (HV.set3 (x := .int .i64 2) (y := .int .i64 (x)) (z := .string (⟨#[]⟩)))
            have HB2 := Lib.hid (((HBc.setCell (p := ⟨wr.heap.size, 0, none⟩) (Nat.le_refl _) (.int .i64 2)).setCell (p := ⟨wr.heap.size, 1, none⟩) (Nat.le_refl _) (.int .i64 (x))).setCell (p := ⟨wr.heap.size, 2, none⟩) (Nat.le_refl _) (.string (⟨#[]⟩)))
            clear HBc HV d0 d1 d2 df dz hbc c0 c1 c2
            generalize ((wc.setCell ⟨wr.heap.size, 0, none⟩ (.int .i64 2)).setCell ⟨wr.heap.size, 1, none⟩ (.int .i64 (x))).setCell ⟨wr.heap.size, 2, none⟩ (.string (⟨#[]⟩)) = W at *
            have HO2 := Lib.hid (own_keep HO.out HB2.out)
            have HBW := Lib.hid (HB.out.trans (HB2.out.mono HB.out.size))
            have G3 := Lib.hid (Nat.le_trans HB.out.size HB2.out.size)
            have G1 := Lib.hid (show m + 1 ≤ maxLen by unfold maxLen; omega)
            have G2 := Lib.hid (show (m + 1) * 1 ≤ 140737488355328 by omega)
            have E1 := Lib.hid (u8s_k2 (UInt8.ofNat n :: packL (vs.take i)))
            obtain ⟨d0, d1, d2⟩ := HV2.out.cells3
            have dz := HV2.out.lt
            go_wp2_with (first | ((at_builtin; refine wpList_append_src _ rfl (.tmp 22) (.tmp 26) 55 55 rfl (w.heap.size) 5 i0 _ 1 1 Tryd.underlying55 hi hz0 hz1 hz2 zeroByte1 (by decide) (_) (m) (_) rfl (HO2.out.alloc _) (.slice (some ⟨_, 0, none⟩) 1 1) (1) ([Value.int .u8 2]) rfl (Src.ofSlice _ Tryd.underlying55 ⟨_, 0, none⟩ 1 1 ([Value.int .u8 2]) rfl (World.news_of_block (heap_alloc_new _ _)) (by simp [Value.oneCell'])) (G1.out) (G2.out) (Nat.le_trans G3.out (by simp)) ?_; intro v1 w1 hown1 hg1 _ hat1); (have HO3 := Lib.hid hown1); rw [E1.out] at HO3; (have HB3 := Lib.hid ((HBW.out.alloc G3.out (.cells #[Value.int .u8 2] 5)).grown hg1 (Nat.le_trans G3.out (by simp)) (fun k hk => (HO.out.lt k hk).1))); (have NE := Lib.hid (own_far2 (own_far HO.out (Nat.le_refl _)) hat1 (by simp; omega))); (have HV3 := Lib.hid ((HV2.out.alloc (.cells #[Value.int .u8 2] 5)).grown hg1 (own_far HO.out (Nat.le_refl _)))); (obtain ⟨f0, f1, f2⟩ := HV3.out.cells3); (have fz := HV3.out.lt); clear hown1 hg1 hat1) | (go_at_call 38; (with_reducible refine (value_long w.heap.size v1 (m + 1) ((UInt8.ofNat n :: packL (vs.take i)) ++ [2]) X w1 HO3.out HB3.out.size (by omega) lX).mono ?_); rintro e w2 ⟨v2, rfl, hown2, hb2⟩; have HO4 := Lib.hid hown2; have HB4 := Lib.hid (HB3.out.trans hb2); clear hown2 hb2))
            clear f0 f1 f2 fz d0 d1 d2 dz wX
            go_roundw
            case rel =>
              refine ⟨i + 1, m + 1 + 8, by omega, by simp, ?_, by omega, SM.out (by simp [bigV]), HB4.out⟩
              rw [HT.out, packL_snoc, PK.out]
              simpa using HO4.out
            case measure => simp [intOf]; omega
          · by_cases k3 : k = 3
            · subst k3
              clear k1 k2
              by_cases big : 1000 < s.size
              · have T1 : Hid (∀ w1, Calls Tryd.prog 37 #[.agg #[.int .i64 3, .int .i64 x, .string s]] w1 fun e w' => e = .returned (.agg #[.int .i64 3, .int .i64 0, .string s]) ∧ Below w1.heap.size w1 w') := T
                have hbad : badL vs := BAD.out ⟨rfl, big⟩
                have ANS : Hid (Ending.returned (.tuple #[.string ⟨#[]⟩, .int .i64 8]) = .returned (.tuple #[.string (packS vs), .int .i64 (packE vs)])) := by
                  show _ = _
                  rw [packS, packE, if_pos hbad, if_pos hbad]
                clear T hbad
                go_upto_region 8 with (go_at_call 37; (with_reducible refine (T1.out _).mono ?_); rintro e wc ⟨rfl, hbc⟩; have HBc := bel_step (below_new wr (.cells #[.int .i64 3, .int .i64 x, .string s] 38)) hbc (by simp); have HV := (Has.new wr 38 #[.int .i64 3, .int .i64 x, .string s]).belowS hbc; obtain ⟨d0, d1, d2⟩ := HV.cells3; have df := HV.frozen; have dz := HV.lt)
                have HV2 := Lib.hid (HV.set3 (x := .int .i64 3) (y := .int .i64 (0)) (z := .string (s)))
                have HB2 := Lib.hid (((HBc.setCell (p := ⟨wr.heap.size, 0, none⟩) (Nat.le_refl _) (.int .i64 3)).setCell (p := ⟨wr.heap.size, 1, none⟩) (Nat.le_refl _) (.int .i64 (0))).setCell (p := ⟨wr.heap.size, 2, none⟩) (Nat.le_refl _) (.string (s)))
                clear HBc HV d0 d1 d2 df dz hbc c0 c1 c2
                generalize ((wc.setCell ⟨wr.heap.size, 0, none⟩ (.int .i64 3)).setCell ⟨wr.heap.size, 1, none⟩ (.int .i64 (0))).setCell ⟨wr.heap.size, 2, none⟩ (.string (s)) = W at *
                have HO2 := Lib.hid (own_keep HO.out HB2.out)
                have HBW := Lib.hid (HB.out.trans (HB2.out.mono HB.out.size))
                have G3 := Lib.hid (Nat.le_trans HB.out.size HB2.out.size)
                have G1 := Lib.hid (show m + 1 ≤ maxLen by unfold maxLen; omega)
                have G2 := Lib.hid (show (m + 1) * 1 ≤ 140737488355328 by omega)
                have E1 := Lib.hid (u8s_k3 (UInt8.ofNat n :: packL (vs.take i)))
                obtain ⟨d0, d1, d2⟩ := HV2.out.cells3
                have dz := HV2.out.lt
                go_wp2_with (first | ((at_builtin; refine wpList_append_src _ rfl (.tmp 22) (.tmp 26) 55 55 rfl (w.heap.size) 5 i0 _ 1 1 Tryd.underlying55 hi hz0 hz1 hz2 zeroByte1 (by decide) (_) (m) (_) rfl (HO2.out.alloc _) (.slice (some ⟨_, 0, none⟩) 1 1) (1) ([Value.int .u8 3]) rfl (Src.ofSlice _ Tryd.underlying55 ⟨_, 0, none⟩ 1 1 ([Value.int .u8 3]) rfl (World.news_of_block (heap_alloc_new _ _)) (by simp [Value.oneCell'])) (G1.out) (G2.out) (Nat.le_trans G3.out (by simp)) ?_; intro v1 w1 hown1 hg1 _ hat1); (have HO3 := Lib.hid hown1); rw [E1.out] at HO3; (have HB3 := Lib.hid ((HBW.out.alloc G3.out (.cells #[Value.int .u8 3] 5)).grown hg1 (Nat.le_trans G3.out (by simp)) (fun k hk => (HO.out.lt k hk).1))); (have NE := Lib.hid (own_far2 (own_far HO.out (Nat.le_refl _)) hat1 (by simp; omega))); (have HV3 := Lib.hid ((HV2.out.alloc (.cells #[Value.int .u8 3] 5)).grown hg1 (own_far HO.out (Nat.le_refl _)))); (obtain ⟨f0, f1, f2⟩ := HV3.out.cells3); (have fz := HV3.out.lt); clear hown1 hg1 hat1))
                go_ret2
                exact ⟨ANS.out, HB3.out⟩
              · have T1 : Hid (∀ w1, Calls Tryd.prog 37 #[.agg #[.int .i64 3, .int .i64 x, .string s]] w1 fun e w' => e = .returned (.agg #[.int .i64 3, .int .i64 0, .string s]) ∧ Below w1.heap.size w1 w') := T
                have PK := Lib.hid (show packV ⟨3, x, s⟩ = 3 :: (beK s.size 2 ++ s.data.toList) from rfl)
                have sm : s.size ≤ 1000 := by omega
                clear T big
                go_upto_region 8 with (go_at_call 37; (with_reducible refine (T1.out _).mono ?_); rintro e wc ⟨rfl, hbc⟩; have HBc := bel_step (below_new wr (.cells #[.int .i64 3, .int .i64 x, .string s] 38)) hbc (by simp); have HV := (Has.new wr 38 #[.int .i64 3, .int .i64 x, .string s]).belowS hbc; obtain ⟨d0, d1, d2⟩ := HV.cells3; have df := HV.frozen; have dz := HV.lt)
                have HV2 := Lib.hid (HV.set3 (x := .int .i64 3) (y := .int .i64 (0)) (z := .string (s)))
                have HB2 := Lib.hid (((HBc.setCell (p := ⟨wr.heap.size, 0, none⟩) (Nat.le_refl _) (.int .i64 3)).setCell (p := ⟨wr.heap.size, 1, none⟩) (Nat.le_refl _) (.int .i64 (0))).setCell (p := ⟨wr.heap.size, 2, none⟩) (Nat.le_refl _) (.string (s)))
                clear HBc HV d0 d1 d2 df dz hbc c0 c1 c2
                generalize ((wc.setCell ⟨wr.heap.size, 0, none⟩ (.int .i64 3)).setCell ⟨wr.heap.size, 1, none⟩ (.int .i64 (0))).setCell ⟨wr.heap.size, 2, none⟩ (.string (s)) = W at *
                have HO2 := Lib.hid (own_keep HO.out HB2.out)
                have HBW := Lib.hid (HB.out.trans (HB2.out.mono HB.out.size))
                have G3 := Lib.hid (Nat.le_trans HB.out.size HB2.out.size)
                have G1 := Lib.hid (show m + 1 ≤ maxLen by unfold maxLen; omega)
                have G2 := Lib.hid (show (m + 1) * 1 ≤ 140737488355328 by omega)
                have E1 := Lib.hid (u8s_k3 (UInt8.ofNat n :: packL (vs.take i)))
                obtain ⟨d0, d1, d2⟩ := HV2.out.cells3
                have dz := HV2.out.lt
                have E2 := Lib.hid (u8s_two ((UInt8.ofNat n :: packL (vs.take i)) ++ [3]) s.size (by omega))
                have E3 := Lib.hid (u8s_str (((UInt8.ofNat n :: packL (vs.take i)) ++ [3]) ++ beK s.size 2) s)
                have G4 := Lib.hid (show m + 1 + 2 ≤ maxLen by unfold maxLen; omega)
                have G5 := Lib.hid (show (m + 1 + 2) * 1 ≤ 140737488355328 by omega)
                have G6 := Lib.hid (show m + 1 + 2 + s.size ≤ maxLen by unfold maxLen; omega)
                have G7 := Lib.hid (show (m + 1 + 2 + s.size) * 1 ≤ 140737488355328 by omega)
                go_wp2_with (first | ((at_builtin; refine wpList_append_src _ rfl (.tmp 22) (.tmp 26) 55 55 rfl (w.heap.size) 5 i0 _ 1 1 Tryd.underlying55 hi hz0 hz1 hz2 zeroByte1 (by decide) (_) (m) (_) rfl (HO2.out.alloc _) (.slice (some ⟨_, 0, none⟩) 1 1) (1) ([Value.int .u8 3]) rfl (Src.ofSlice _ Tryd.underlying55 ⟨_, 0, none⟩ 1 1 ([Value.int .u8 3]) rfl (World.news_of_block (heap_alloc_new _ _)) (by simp [Value.oneCell'])) (G1.out) (G2.out) (Nat.le_trans G3.out (by simp)) ?_; intro v1 w1 hown1 hg1 _ hat1); (have HO3 := Lib.hid hown1); rw [E1.out] at HO3; (have HB3 := Lib.hid ((HBW.out.alloc G3.out (.cells #[Value.int .u8 3] 5)).grown hg1 (Nat.le_trans G3.out (by simp)) (fun k hk => (HO.out.lt k hk).1))); (have NE := Lib.hid (own_far2 (own_far HO.out (Nat.le_refl _)) hat1 (by simp; omega))); (have HV3 := Lib.hid ((HV2.out.alloc (.cells #[Value.int .u8 3] 5)).grown hg1 (own_far HO.out (Nat.le_refl _)))); (obtain ⟨f0, f1, f2⟩ := HV3.out.cells3); (have fz := HV3.out.lt); clear hown1 hg1 hat1) | ((at_builtin; refine wpList_append_src _ rfl (.tmp 51) (.tmp 61) 55 55 rfl (w.heap.size) 5 i0 _ 1 1 Tryd.underlying55 hi hz0 hz1 hz2 zeroByte1 (by decide) (v1) (m + 1) (_) rfl (HO3.out.alloc _) (.slice (some ⟨_, 0, none⟩) 2 2) (2) ([Value.int .u8 ((s.size : Int) / 256), Value.int .u8 ((s.size : Int) % 256)]) rfl (Src.ofSlice _ Tryd.underlying55 ⟨_, 0, none⟩ 2 2 ([Value.int .u8 ((s.size : Int) / 256), Value.int .u8 ((s.size : Int) % 256)]) rfl (World.news_of_block (heap_alloc_new _ _)) (by simp [Value.oneCell'])) (G4.out) (G5.out) (Nat.le_trans HB3.out.size (by simp)) ?_; intro v2 w2 hown2 hg2 _ hat2); have HO4 := Lib.hid hown2; rw [E2.out] at HO4; have HB4 := Lib.hid ((HB3.out.alloc HB3.out.size (.cells #[Value.int .u8 ((s.size : Int) / 256), Value.int .u8 ((s.size : Int) % 256)] 5)).grown hg2 (Nat.le_trans HB3.out.size (by simp)) (fun k hk => (HO3.out.lt k hk).1)); have HV4 := Lib.hid ((HV3.out.alloc (.cells #[Value.int .u8 ((s.size : Int) / 256), Value.int .u8 ((s.size : Int) % 256)] 5)).grown hg2 NE.out); obtain ⟨f0, f1, f2⟩ := HV4.out.cells3; have fz := HV4.out.lt; clear hown2 hg2 hat2) | ((at_builtin; refine wpList_append_src _ rfl (.tmp 63) (.tmp 65) 55 9 rfl (w.heap.size) 5 i0 _ 1 1 Tryd.underlying55 hi hz0 hz1 hz2 zeroByte1 (by decide) (v2) (m + 1 + 2) (_) rfl (HO4.out) (.string s) (s.size) (byteCells s) rfl (Src.ofString _ Tryd.underlying9 s) (G6.out) (G7.out) (HB4.out.size) ?_; intro v3 w3 hown3 hg3 _ hat3); have HO5 := Lib.hid hown3; rw [E3.out] at HO5; have HB5 := Lib.hid (HB4.out.grown hg3 HB4.out.size (fun k hk => (HO4.out.lt k hk).1)); clear hown3 hg3 hat3))
                clear f0 f1 f2 fz d0 d1 d2 dz
                go_roundw
                case rel =>
                  refine ⟨i + 1, m + 1 + 2 + s.size, by omega, by simp, ?_, by omega, SM.out (by simp [bigV]; omega), HB5.out⟩
                  rw [HT.out, packL_snoc, PK.out]
                  simpa using HO5.out
                case measure => simp [intOf]; omega
            · have T1 : Hid (∀ w1, Calls Tryd.prog 37 #[.agg #[.int .i64 k, .int .i64 x, .string s]] w1 fun e w' => e = .returned (.agg #[.int .i64 0, .int .i64 0, .string ⟨#[]⟩]) ∧ Below w1.heap.size w1 w') := fun w1 => by
                have := T w1
                simp only [cleanK, cleanN, cleanS, if_neg k1, if_neg k2, if_neg k3] at this
                exact this
              have PK := Lib.hid (show packV ⟨k, x, s⟩ = [0] by simp only [packV, cleanV, cleanK, if_neg k1, if_neg k2, if_neg k3]; rfl)
              have NB : ¬ bigV ⟨k, x, s⟩ := fun h => k3 h.1
              have SM2 := Lib.hid (SM.out NB)
              clear T k1 k2 k3 NB
              go_upto_region 8 with (go_at_call 37; (with_reducible refine (T1.out _).mono ?_); rintro e wc ⟨rfl, hbc⟩; have HBc := bel_step (below_new wr (.cells #[.int .i64 k, .int .i64 x, .string s] 38)) hbc (by simp); have HV := (Has.new wr 38 #[.int .i64 k, .int .i64 x, .string s]).belowS hbc; obtain ⟨d0, d1, d2⟩ := HV.cells3; have df := HV.frozen; have dz := HV.lt)
              have HV2 := Lib.hid (HV.set3 (x := .int .i64 0) (y := .int .i64 (0)) (z := .string (⟨#[]⟩)))
              have HB2 := Lib.hid (((HBc.setCell (p := ⟨wr.heap.size, 0, none⟩) (Nat.le_refl _) (.int .i64 0)).setCell (p := ⟨wr.heap.size, 1, none⟩) (Nat.le_refl _) (.int .i64 (0))).setCell (p := ⟨wr.heap.size, 2, none⟩) (Nat.le_refl _) (.string (⟨#[]⟩)))
              clear HBc HV d0 d1 d2 df dz hbc c0 c1 c2
              generalize ((wc.setCell ⟨wr.heap.size, 0, none⟩ (.int .i64 0)).setCell ⟨wr.heap.size, 1, none⟩ (.int .i64 (0))).setCell ⟨wr.heap.size, 2, none⟩ (.string (⟨#[]⟩)) = W at *
              have HO2 := Lib.hid (own_keep HO.out HB2.out)
              have HBW := Lib.hid (HB.out.trans (HB2.out.mono HB.out.size))
              have G3 := Lib.hid (Nat.le_trans HB.out.size HB2.out.size)
              have G1 := Lib.hid (show m + 1 ≤ maxLen by unfold maxLen; omega)
              have G2 := Lib.hid (show (m + 1) * 1 ≤ 140737488355328 by omega)
              have E1 := Lib.hid (u8s_k0 (UInt8.ofNat n :: packL (vs.take i)))
              obtain ⟨d0, d1, d2⟩ := HV2.out.cells3
              have dz := HV2.out.lt
              go_wp2_with (first | ((at_builtin; refine wpList_append_src _ rfl (.tmp 22) (.tmp 26) 55 55 rfl (w.heap.size) 5 i0 _ 1 1 Tryd.underlying55 hi hz0 hz1 hz2 zeroByte1 (by decide) (_) (m) (_) rfl (HO2.out.alloc _) (.slice (some ⟨_, 0, none⟩) 1 1) (1) ([Value.int .u8 0]) rfl (Src.ofSlice _ Tryd.underlying55 ⟨_, 0, none⟩ 1 1 ([Value.int .u8 0]) rfl (World.news_of_block (heap_alloc_new _ _)) (by simp [Value.oneCell'])) (G1.out) (G2.out) (Nat.le_trans G3.out (by simp)) ?_; intro v1 w1 hown1 hg1 _ hat1); (have HO3 := Lib.hid hown1); rw [E1.out] at HO3; (have HB3 := Lib.hid ((HBW.out.alloc G3.out (.cells #[Value.int .u8 0] 5)).grown hg1 (Nat.le_trans G3.out (by simp)) (fun k hk => (HO.out.lt k hk).1))); (have NE := Lib.hid (own_far2 (own_far HO.out (Nat.le_refl _)) hat1 (by simp; omega))); (have HV3 := Lib.hid ((HV2.out.alloc (.cells #[Value.int .u8 0] 5)).grown hg1 (own_far HO.out (Nat.le_refl _)))); (obtain ⟨f0, f1, f2⟩ := HV3.out.cells3); (have fz := HV3.out.lt); clear hown1 hg1 hat1))
              clear f0 f1 f2 fz d0 d1 d2 dz
              go_roundw
              case rel =>
                refine ⟨i + 1, m + 1, by omega, by simp, ?_, by omega, SM2.out, HB3.out⟩
                rw [HT.out, packL_snoc, PK.out]
                simpa using HO3.out
              case measure => simp [intOf]; omega
      · obtain rfl : i = n := by omega
        have hbad : ¬ badL vs := by
          rintro (hl | ⟨v, hv, hb⟩)
          · rw [HH.out.1] at hl; omega
          · exact HSM.out v (by rw [← HH.out.1, List.take_length]; exact hv) hb
        have ANS : Hid (Ending.returned (.tuple #[.string (bsOf (UInt8.ofNat i :: packL (vs.take i))), .int .i64 0]) = .returned (.tuple #[.string (packS vs), .int .i64 (packE vs)])) := by
          show _ = _
          rw [packS, packE, if_neg hbad, if_neg hbad, HH.out.1, ← HH.out.1, List.take_length]
        obtain ⟨A4, c4, rfl, _, h4⟩ := BS.of_own HO.out
        have hcv := conv_BS (c := c4) h4
        obtain ⟨t, ht⟩ : ∃ t, bsOf (UInt8.ofNat i :: packL (vs.take i)) = t := ⟨_, rfl⟩
        rw [ht] at hcv ANS
        clear ht hbad h4
        go_wp2_with fail
        go_ret2
        exact ⟨ANS.out, HB.out⟩

end Go.Proofs.YtlkkpgdgnnknpaaDoor
