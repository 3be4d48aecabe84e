/-
  Unkey of the reference.
-/
import Derived.Test.YtlkkpgdgnnknpaaDoorKey6
import Derived.Test.YtlkkpgdgnnknpaaDoorSr
import Derived.Deep.CutBlock
import Derived.Deep.DeepCutAuto
namespace Go.Proofs.YtlkkpgdgnnknpaaDoor
open Go.RowKit
open Go.BigFrame
set_option linter.unusedVariables false
set_option linter.unusedSimpArgs false

theorem refT_len : ∀ l : List UInt8, (refT l).length ≤ l.length
  | [] => Nat.le_refl _
  | [_] => Nat.zero_le _
  | c :: d :: l => by
    have h1 := refT_len l
    have h2 := refT_len (d :: l)
    rw [refT]
    split
    · split
      · exact Nat.zero_le _
      · simp only [List.length_cons] at *; omega
    · simp only [List.length_cons] at *; omega
theorem cand_size (s : List UInt8) : (cand s).s.size ≤ s.length := by
  cases s with
  | nil => exact Nat.le_refl _
  | cons k r =>
    rw [cand]
    by_cases h1 : k.toNat = 2 ∨ k.toNat = 3
    · rw [if_pos h1]; exact Nat.zero_le _
    · rw [if_neg h1]
      by_cases h2 : k.toNat = 4 ∧ 8 ≤ r.length
      · rw [if_pos h2]; exact Nat.zero_le _
      · rw [if_neg h2]
        by_cases h3 : k.toNat = 5
        · rw [if_pos h3]
          show (bsOf (refT r)).size ≤ _
          rw [bsOf_size]
          have := refT_len r
          simp only [List.length_cons]; omega
        · rw [if_neg h3]; exact Nat.zero_le _
theorem refT_short {l : List UInt8} (h : l.length ≤ 1) : refT l = [] := by
  cases l with
  | nil => rfl
  | cons c r =>
    cases r with
    | nil => rfl
    | cons d t => simp at h
theorem sub_top {X : Nat} (h : X < 18446744073709551616) : IntKind.u64.wrap ((X : Int) - 9223372036854775808) = (((X + 9223372036854775808) % 18446744073709551616 : Nat) : Int) := by
  rw [IntKind.wrap_u64]; omega

theorem VS.single {w : World} {g : Nat} {t : TypeId} {v : Val} (h : Has w g t #[.int .i64 v.k, .int .i64 v.n, .string v.s]) : VS w (some ⟨g, 0, none⟩) 1 [v] := by
  refine ⟨rfl, fun _ => ⟨g, 0, rfl, h.lt, fun i u hu => ?_⟩⟩
  cases i with
  | zero =>
    simp at hu
    subst hu
    exact ⟨h.cell 0, h.cell 1, h.cell 2⟩
  | succ i => simp at hu
theorem Sr.set {w0 w : World} {v : Value} {vs : List Val} (h : Sr w0 w v vs) (b : Nat) {i : Nat} (u : Value) (hb : w0.heap.size ≤ b) (hn : v.ownBlock ≠ some b) : Sr w0 (w.setCell ⟨b, i, none⟩ u) v vs := by
  refine ⟨h.own.kept (grownBy_setCell ⟨b, i, none⟩ u) ?_, h.bel.setCell hb _⟩
  cases e : v.ownBlock with
  | none => exact .inl rfl
  | some k => exact .inr (fun e2 => hn (by rw [e]; exact e2))

set_option maxRecDepth 100000 in
set_option maxHeartbeats 12800000 in
theorem ref_Unkey (l : List UInt8) (w : World) (hl : l.length ≤ 20000000) :
    Calls Tryd.prog 7 #[.string (bsOf l)] w (UnpackPost w (unkey l)) := by
  obtain ⟨i0, hi, hz0, hz1, hz2⟩ := info_parts infoValue
  have LL := Lib.hid hl
  obtain ⟨S0, hS0⟩ : ∃ S, bsOf l = S := ⟨_, rfl⟩
  have HS0 := Lib.hid hS0
  rw [hS0]
  clear hS0 hl
  go_enter Tryd.func7, Tryd.ntmps7
  go_wp2_with fail
  go_loopw [0, 4] (fun v0 v4 wr => ∃ (rest : List UInt8) (S : ByteArray) (vs : List Val), v0 = .string S ∧ bsOf rest = S ∧ Sr w wr v4 vs ∧ KeyAt l rest vs ∧ rest.length + vs.length ≤ l.length) (fun v0 _ _ => match v0 with | .string s => s.size | _ => 0)
  case atStart => exact ⟨l, S0, [], rfl, HS0.out, ⟨World.ownsRow_nil _ _ _ _, Below.refl _ _⟩, KeyAt.start l, Nat.le_refl _⟩
  case round =>
    obtain ⟨rest, S, vs, rfl, hS, hR, hK, hN⟩ := hrel
    have HR := Lib.hid hR
    have HK := Lib.hid hK
    have lr : rest.length + vs.length ≤ 20000000 := by have := LL.out; omega
    have HN := Lib.hid hN
    have HSB := Lib.hid hS
    have HSL := Lib.hid (show S.data.toList = rest by rw [← hS, bsOf_data])
    have sz : S.size = rest.length := by rw [← hS, bsOf_size]
    clear hR hK hN hS
    cases rest with
    | nil =>
      have e1 : S.toList.isEmpty = true := by rw [Lib.toList_data, HSL.out]; rfl
      have e2 : S.toList = [] := by rw [Lib.toList_data, HSL.out]
      have ANS := Lib.hid HK.out.done
      go_wp2_with fail
      go_ret2
      exact UnpackPost.good ANS.out HR.out.own HR.out.bel
    | cons k r =>
      have l0 : 0 < S.size := by rw [sz]; simp
      have e1 : S.toList.isEmpty = false := by rw [Lib.toList_data, HSL.out]; rfl
      have hk0 : S[0] = k := by
        have h1 : S.data.toList[0]? = some S[0] := by rw [List.getElem?_eq_getElem (by simpa using l0)]; rfl
        rw [HSL.out] at h1
        simp at h1
        exact h1.symm
      have HK0 := Lib.hid hk0
      have lS : S.size ≤ 20000000 := by rw [sz]; omega
      have lrr : r.length + 1 + vs.length ≤ 20000000 := by simpa using lr
      have szr : S.size = r.length + 1 := by rw [sz]; rfl
      have SZ := Lib.hid sz
      have SZR := Lib.hid szr
      have hkb := byte_lt k
      clear sz szr lr
      obtain ⟨v, hv⟩ : ∃ v, cand (k :: r) = v := ⟨_, rfl⟩
      have HV := Lib.hid hv
      have vz : v.s.size ≤ S.size := by rw [← hv, SZ.out]; exact cand_size _
      have N0 := Lib.hid (fun w1 => relstoreref_null w1)
      go_upto_block 2 with (go_at_call 32; (refine (N0.out _).mono ?_); rintro e w1 ⟨rfl, hb1⟩; have R1 := Lib.hid (HR.out.step hb1); clear hb1)
      have R2 := Lib.hid (R1.out.alloc (.cells #[.int .i64 0, .int .i64 0, .string ⟨#[]⟩] 38))
      have B2 := Lib.hid (Has.new w1 38 #[.int .i64 0, .int .i64 0, .string ⟨#[]⟩])
      obtain ⟨B, hB⟩ : ∃ B, w1.heap.size = B := ⟨_, rfl⟩
      rw [hB] at B2 ⊢
      have HBE := Lib.hid (show w.heap.size ≤ B from hB ▸ R1.out.bel.size)
      have FAR := Lib.hid (show u4.ownBlock ≠ some B from fun e => by have := (R1.out.own.lt B e).2; omega)
      generalize w1.alloc (.cells #[.int .i64 0, .int .i64 0, .string ⟨#[]⟩] 38) = W at *
      clear hB
      go_cut [6, 7] from 9 to 103 (fun _ _ wx => Has wx B 38 #[.int .i64 v.k, .int .i64 v.n, .string v.s] ∧ Sr w wx u4 vs)
      case first =>
        have HW := Lib.hid (show B < W.heap.size from B2.out.lt)
        by_cases kk : k.toNat = 2
        · have hs : S[0] = 2 := hk0.trans (byte_eq (n := 2) kk (by omega))
          have hv2 : v = ⟨1, 0, ⟨#[]⟩⟩ := by rw [← hv, cand, if_pos (.inl kk), kk]; rfl
          subst hv2
          clear kk hk0 hkb hv
          go_wp2_with (first | (go_at_call 33; (refine (relstoreref_truth false _).mono ?_); rintro e w2 ⟨rfl, hbm⟩; have R3 := Lib.hid (R2.out.step hbm); have B3 := Lib.hid (B2.out.belowS hbm); clear hbm; obtain ⟨d0, d1, d2⟩ := B3.out.cells3; have df := B3.out.frozen; have dz := B3.out.lt))
          go_meet
          exact ⟨B3.out.set3, ((R3.out.set B _ HBE.out FAR.out).set B _ HBE.out FAR.out).set B _ HBE.out FAR.out⟩
        have k2 := kk
        clear kk
        by_cases kk : k.toNat = 3
        · have hs : S[0] = 3 := hk0.trans (byte_eq (n := 3) kk (by omega))
          have hv2 : v = ⟨1, 1, ⟨#[]⟩⟩ := by rw [← hv, cand, if_pos (.inr kk), kk]; rfl
          subst hv2
          clear kk hk0 hkb hv
          go_wp2_with (first | (go_at_call 33; (refine (relstoreref_truth true _).mono ?_); rintro e w2 ⟨rfl, hbm⟩; have R3 := Lib.hid (R2.out.step hbm); have B3 := Lib.hid (B2.out.belowS hbm); clear hbm; obtain ⟨d0, d1, d2⟩ := B3.out.cells3; have df := B3.out.frozen; have dz := B3.out.lt))
          go_meet
          exact ⟨B3.out.set3, ((R3.out.set B _ HBE.out FAR.out).set B _ HBE.out FAR.out).set B _ HBE.out FAR.out⟩
        have k3 := kk
        clear kk
        by_cases kk : k.toNat = 4 ∧ 8 ≤ r.length
        · have hs : S[0] = 4 := hk0.trans (byte_eq (n := 4) kk.1 (by omega))
          have h8 : 9 ≤ S.size := by have := SZR.out; omega
          obtain ⟨X, hX⟩ : ∃ X, unK (r.take 8) = X := ⟨_, rfl⟩
          have lX : X < 18446744073709551616 := by
            rw [← hX]
            exact Nat.lt_of_lt_of_eq (unK_lt 8 (r.take 8) (by rw [List.length_take]; omega)) (by decide)
          obtain ⟨Y, hY⟩ : ∃ Y, (X + 9223372036854775808) % 18446744073709551616 = Y := ⟨_, rfl⟩
          have lY : Y < 18446744073709551616 := hY ▸ mod_top _
          have xX := sub_top lX
          have wY := (s64_wrap lY).symm
          obtain ⟨Z, hZ⟩ : ∃ Z, s64 Y = Z := ⟨_, rfl⟩
          rw [hY] at xX
          rw [hZ] at wY
          have hv2 : v = ⟨2, Z, ⟨#[]⟩⟩ := by rw [← hv, cand, if_neg (by omega), if_pos kk, hX, hY, hZ]
          subst hv2
          have hE : S.extract 1 9 = bsOf (r.take 8) := ext_mid HSL.out 1 8
          have UB := Lib.hid (fun w1 => ref_unbytes8 (bsOf (r.take 8)) (by rw [bsOf_size, List.length_take]; omega) w1)
          rw [bsOf_data, hX] at UB
          obtain ⟨E, hEE⟩ : ∃ E, bsOf (r.take 8) = E := ⟨_, rfl⟩
          rw [hEE] at hE UB
          clear kk hk0 hkb hv hX lX hY lY hZ hEE k2 k3
          have T2 := Lib.hid (fun w1 => relstoreref_num Z w1)
          go_wp2_with (first | (go_at_call 35; (refine (UB.out _).mono ?_); rintro e w1 ⟨rfl, rfl⟩) | (go_at_call 34; (refine (T2.out _).mono ?_); rintro e w2 ⟨rfl, hbm⟩; have R3 := Lib.hid (R2.out.step hbm); have B3 := Lib.hid (B2.out.belowS hbm); clear hbm; obtain ⟨d0, d1, d2⟩ := B3.out.cells3; have df := B3.out.frozen; have dz := B3.out.lt))
          go_meet
          exact ⟨B3.out.set3, ((R3.out.set B _ HBE.out FAR.out).set B _ HBE.out FAR.out).set B _ HBE.out FAR.out⟩
        have k4 := kk
        clear kk
        by_cases kk : k.toNat = 5
        · have hs : S[0] = 5 := hk0.trans (byte_eq (n := 5) kk (by omega))
          have hv2 : v = ⟨3, 0, bsOf (refT r)⟩ := by rw [← hv, cand, if_neg (by omega), if_neg k4, if_pos kk]
          subst hv2
          clear kk hk0 hkb hv k2 k3 k4
          go_wp2_with fail
          go_loopw [6, 7] (fun v6 v7 wx => ∃ (i : Nat) (t : List UInt8) (Q : ByteArray), 1 ≤ i ∧ i ≤ S.size ∧ v7 = .int .i64 i ∧ v6 = .string Q ∧ bsOf t = Q ∧ refT r = t ++ refT ((k :: r).drop i) ∧ t.length ≤ i ∧ wx = W) (fun _ v7 _ => S.size - (intOf v7).toNat)
          case atStart => exact ⟨1, [], ⟨#[]⟩, Nat.le_refl _, by omega, rfl, rfl, rfl, rfl, by simp, rfl⟩
          case round =>
            obtain ⟨i, t, Q, hi1, hi2, rfl, rfl, hQ, hT, htl, rfl⟩ := hrel
            have zq : Q.size ≤ 20000000 := by rw [← hQ, bsOf_size]; omega
            have HQ := Lib.hid hQ
            have HT := Lib.hid hT
            clear hQ hT
            have TS := Lib.hid (fun w1 => relstoreref_str Q w1)
            by_cases hin : i + 1 < S.size
            · have hin2 : i < S.size := by omega
              have D1 := drop_at HSL.out hin2
              have D2 := drop_at HSL.out hin
              have EO := ext_oneB S i hin2
              obtain ⟨c, hc⟩ : ∃ c, S[i] = c := ⟨_, rfl⟩
              obtain ⟨d, hd⟩ : ∃ d, S[i + 1] = d := ⟨_, rfl⟩
              rw [hc] at D1 EO
              rw [hd] at D2
              rw [D2] at D1
              have DD1 := Lib.hid D1
              have DD2 := Lib.hid D2
              obtain ⟨E, hE⟩ : ∃ E, bsOf [c] = E := ⟨_, rfl⟩
              rw [hE] at EO
              have ze : E.size = 1 := by rw [← hE, bsOf_size]; rfl
              have HE := Lib.hid hE
              clear D1 D2 hE
              by_cases c0 : c = 0
              · subst c0
                have hc' : S[i] = 0 := hc
                clear hc
                by_cases d1 : d = 1
                · subst d1
                  have hd' : S[i + 1] = 1 := hd
                  have EQ : Q = bsOf (refT r) := by
                    rw [← HQ.out]
                    have h := HT.out
                    rw [DD1.out, refT, if_pos rfl, if_pos rfl, List.append_nil] at h
                    rw [h]
                  subst EQ
                  clear hd
                  go_wp2_with (first | (go_at_call 36; (refine (TS.out _).mono ?_); rintro e w2 ⟨rfl, hbm⟩; have R3 := Lib.hid (R2.out.step hbm); have B3 := Lib.hid (B2.out.belowS hbm); clear hbm; obtain ⟨d0, d1, d2⟩ := B3.out.cells3; have df := B3.out.frozen; have dz := B3.out.lt))
                  go_meet
                  exact ⟨B3.out.set3, ((R3.out.set B _ HBE.out FAR.out).set B _ HBE.out FAR.out).set B _ HBE.out FAR.out⟩
                · have n1 : ((d.toNat : Int) == 1) = false := by
                    simp only [beq_eq_false_iff_ne, ne_eq]
                    intro e
                    exact d1 (byte_eq (n := 1) (by omega) (by omega))
                  have RT := Lib.hid (show refT (0 :: d :: (k :: r).drop (i + 1 + 1)) = 0 :: refT ((k :: r).drop (i + 1 + 1)) by rw [refT, if_pos rfl, if_neg d1])
                  have hd' : S[i + 1] = d := hd
                  clear d1 hd
                  go_wp2_with fail
                  go_roundw
                  case rel =>
                    refine ⟨i + 1 + 1, t ++ [0], Q ++ E, by omega, by omega, by simp, rfl, ?_, ?_, by simp; omega, by first | rfl | trivial⟩
                    · rw [← bsOf_append, HQ.out, HE.out]
                    · rw [HT.out, DD1.out, RT.out]; simp
                  case measure => simp [intOf]; omega
              · have n0 : ((c.toNat : Int) == 0) = false := by
                  simp only [beq_eq_false_iff_ne, ne_eq]
                  intro e
                  exact c0 (byte_eq (n := 0) (by omega) (by omega))
                have RT := Lib.hid (show refT (c :: d :: (k :: r).drop (i + 1 + 1)) = c :: refT (d :: (k :: r).drop (i + 1 + 1)) by rw [refT, if_neg c0])
                have hc' : S[i] = c := hc
                have hd' : S[i + 1] = d := hd
                clear c0 hc hd
                go_wp2_with fail
                go_roundw
                case rel =>
                  refine ⟨i + 1, t ++ [c], Q ++ E, by omega, by omega, by simp, rfl, ?_, ?_, by simp; omega, by first | rfl | trivial⟩
                  · rw [← bsOf_append, HQ.out, HE.out]
                  · rw [HT.out, DD1.out, RT.out, DD2.out]; simp
                case measure => simp [intOf]; omega
            · have EQ : Q = bsOf (refT r) := by
                rw [← HQ.out]
                have h := HT.out
                have hdl : ((k :: r).drop i).length ≤ 1 := by rw [List.length_drop, List.length_cons]; have := SZR.out; omega
                rw [refT_short hdl, List.append_nil] at h
                rw [h]
              subst EQ
              go_wp2_with (first | (go_at_call 36; (refine (TS.out _).mono ?_); rintro e w2 ⟨rfl, hbm⟩; have R3 := Lib.hid (R2.out.step hbm); have B3 := Lib.hid (B2.out.belowS hbm); clear hbm; obtain ⟨d0, d1, d2⟩ := B3.out.cells3; have df := B3.out.frozen; have dz := B3.out.lt))
              go_meet
              exact ⟨B3.out.set3, ((R3.out.set B _ HBE.out FAR.out).set B _ HBE.out FAR.out).set B _ HBE.out FAR.out⟩
        by_cases k44 : k.toNat = 4
        · have hs : S[0] = 4 := hk0.trans (byte_eq (n := 4) k44 (by omega))
          have h8 : ¬ 9 ≤ S.size := by have := SZR.out; omega
          have hv2 : v = ⟨0, 0, ⟨#[]⟩⟩ := by rw [← hv, cand, if_neg (by omega), if_neg k4, if_neg kk]
          subst hv2
          clear kk hk0 hkb hv k2 k3 k4 k44
          go_wp2_with fail
          go_meet
          exact ⟨B2.out, R2.out⟩
        · have hv2 : v = ⟨0, 0, ⟨#[]⟩⟩ := by rw [← hv, cand, if_neg (by omega), if_neg k4, if_neg kk]
          subst hv2
          obtain ⟨x, hx⟩ : ∃ x, k.toNat = x := ⟨_, rfl⟩
          have hs : S[0].toNat = x := by rw [hk0]; exact hx
          rw [hx] at k2 k3 k44 kk
          have e2 : ((x : Int) == 2) = false := by rw [beq_eq_false_iff_ne]; omega
          have e3 : ((x : Int) == 3) = false := by rw [beq_eq_false_iff_ne]; omega
          have e4 : ((x : Int) == 4) = false := by rw [beq_eq_false_iff_ne]; omega
          have e5 : ((x : Int) == 5) = false := by rw [beq_eq_false_iff_ne]; omega
          clear kk hk0 hkb hv k2 k3 k4 k44 hx
          go_wp2_with fail
          go_meet
          exact ⟨B2.out, R2.out⟩
      case rest =>
        obtain ⟨hB3, hR3⟩ := hcut
        have B3 := Lib.hid hB3
        have R3 := Lib.hid hR3
        obtain ⟨d0, d1, d2⟩ := hB3.cells3
        have dz := hB3.lt
        clear hB3 hR3 R2 B2 R1 N0
        obtain ⟨K, hK⟩ : ∃ K, keyV v = K := ⟨_, rfl⟩
        have hKL : keyL [v] = K := by rw [← hK]; simp [keyL]
        have zK : K.length ≤ 50000000 := by
          have := (keyC_len (cand (k :: r))).2
          have h2 := cand_okK (k :: r)
          rw [← hK, ← hv]
          unfold keyV
          rw [h2.clean]
          have h3 := cand_size (k :: r)
          rw [← SZ.out] at h3
          omega
        have KR := Lib.hid (fun g w1 (h1 : VS w1 (some ⟨g, 0, none⟩) 1 [v]) => ref_Key (some ⟨g, 0, none⟩) 1 1 [v] w1 h1 (by omega) (by rw [hKL]; exact zK))
        rw [hKL] at KR
        obtain ⟨KB, hKB⟩ : ∃ KB, bsOf K = KB := ⟨_, rfl⟩
        have zb : KB.size = K.length := by rw [← hKB, bsOf_size]
        rw [hKB] at KR
        have HKB := Lib.hid hKB
        have CT := Lib.hid (cand_test (k :: r))
        have CS := Lib.hid (fun r' (h : k :: r = K ++ r') => (show oneK (k :: r) = some (v, r') by
          have := cand_step (s := k :: r) (r := r') (by rw [hv, hK]; exact h)
          rw [hv] at this; exact this))
        rw [hv, hK] at CT
        have G1 := Lib.hid (show vs.length + 1 ≤ maxLen by unfold maxLen; omega)
        have G2 := Lib.hid (show (vs.length + 1) * 32 ≤ 140737488355328 by omega)
        have zk2 : KB.size ≤ 50000000 := by omega
        have ZB := Lib.hid zb
        clear hK hKL hKB zK hv zb
        by_cases hp : ∃ r', k :: r = K ++ r'
        · obtain ⟨r', hr'⟩ := hp
          have hS : S = KB ++ bsOf r' := by
            have h : S = bsOf (k :: r) := by rw [← HSL.out, bsOf_of]
            rw [h, hr', ← bsOf_append, HKB.out]
          have zs : S.size = KB.size + r'.length := by rw [hS, ByteArray.size_append, bsOf_size]
          have hx : S.extract 0 KB.size = KB := by
            apply ByteArray.ext; apply Array.toList_inj.1
            rw [Lib.extract_data, HSL.out, hr', ← HKB.out, bsOf_size, bsOf_data]; simp
          have hy : S.extract KB.size S.size = bsOf r' := by
            apply ByteArray.ext; apply Array.toList_inj.1
            rw [Lib.extract_data, HSL.out, hr', bsOf_data, SZ.out, hr', ← HKB.out, bsOf_size]
            rw [List.take_of_length_le (by simp)]; simp
          obtain ⟨S2, hS2⟩ : ∃ S2, bsOf r' = S2 := ⟨_, rfl⟩
          rw [hS2] at hy
          have zs2 : S2.size = r'.length := by rw [← hS2, bsOf_size]
          have HS2 := Lib.hid hS2
          have OK := Lib.hid (CS.out r' hr')
          have s1 : (KB.toList == KB.toList) = true := by simp
          have ls : KB.size ≤ S.size := by omega
          have ZZ := Lib.hid (show S2.size = r'.length ∧ S.size = KB.size + r'.length from ⟨zs2, zs⟩)
          clear hS hr' zs hS2 zs2
          go_wp2_with (first | (go_at_call 10; (refine (KR.out _ _ (VS.single (Has.new _ _ _))).mono ?_); rintro e w2 ⟨rfl, hb2⟩; have R4 := Lib.hid ((R3.out.alloc _).step hb2); have B4 := Lib.hid ((B3.out.alloc _).belowS hb2); obtain ⟨f0, f1, f2⟩ := B4.out.cells3; have fz := B4.out.lt; clear hb2) | ((at_builtin; refine wpList_append_src _ rfl (.tmp 96) (.tmp 98) 22 22 rfl (w.heap.size) 38 i0 _ 3 32 Tryd.underlying22 hi hz0 hz1 hz2 zeroCellsValue (by decide) (_) (vs.length) (_) rfl ((R4.out.alloc _).own) (.slice (some ⟨_, 0, none⟩) 1 1) (1) ([.int .i64 v.k, .int .i64 v.n, .string v.s]) rfl (Src.ofSlice _ Tryd.underlying22 ⟨_, 0, none⟩ 1 1 ([.int .i64 v.k, .int .i64 v.n, .string v.s]) rfl (World.news_of_block (heap_alloc_new _ _)) (by simp [Value.oneCell'])) (G1.out) (G2.out) ((R4.out.alloc _).bel.size) ?_; intro v3 w3 hown3 hg3 _ hat3); have R5 := Lib.hid ((R4.out.alloc _).app (x := v) hown3 hg3); clear hown3 hg3 hat3))
          go_roundw
          case rel =>
            refine ⟨r', S2, vs ++ [v], rfl, HS2.out, R5.out, (HK.out.step OK.out).1, ?_⟩
            have q1 := (HK.out.step OK.out).2
            have q2 := HN.out
            simp only [List.length_append, List.length_cons, List.length_nil] at *
            omega
          case measure =>
            have q1 := (HK.out.step OK.out).2
            have q2 := ZZ.out.1
            have q3 := SZR.out
            simp only [List.length_cons] at q1
            show S2.size < S.size
            omega
        · have ANS := Lib.hid (show unkey l = none from HK.out.bad (by simp) (by
            cases ho : oneK (k :: r) with
            | none => rfl
            | some x => exact absurd (CT.out.2 ⟨x.1, x.2, ho⟩) hp))
          by_cases hlen : S.size < KB.size
          · clear hp
            go_wp2_with (first | (go_at_call 10; (refine (KR.out _ _ (VS.single (Has.new _ _ _))).mono ?_); rintro e w2 ⟨rfl, hb2⟩; have R4 := Lib.hid ((R3.out.alloc _).step hb2); have B4 := Lib.hid ((B3.out.alloc _).belowS hb2); obtain ⟨f0, f1, f2⟩ := B4.out.cells3; have fz := B4.out.lt; clear hb2))
            go_ret2
            exact UnpackPost.bad ANS.out R4.out.bel
          · have ls : KB.size ≤ S.size := by omega
            obtain ⟨E, hE⟩ : ∃ E, S.extract 0 KB.size = E := ⟨_, rfl⟩
            have ne : ¬ E = KB := by
              intro e
              apply hp
              refine ⟨(k :: r).drop KB.size, ?_⟩
              have h1 : (k :: r).take KB.size = K := by
                have h2 := congrArg (fun x : ByteArray => x.data.toList) (hE.trans e)
                rw [Lib.extract_data, HSL.out, ← HKB.out, bsOf_data, bsOf_size] at h2
                rw [← HKB.out, bsOf_size]
                simpa using h2
              have h3 := (List.take_append_drop KB.size (k :: r)).symm
              rw [h1] at h3
              exact h3
            have n2 : (E.toList == KB.toList) = false := by
              rw [Lib.toList_data, Lib.toList_data, beq_eq_false_iff_ne]
              intro e
              exact ne (ByteArray.ext (Array.toList_inj.1 e))
            clear hp ne
            go_wp2_with (first | (go_at_call 10; (refine (KR.out _ _ (VS.single (Has.new _ _ _))).mono ?_); rintro e w2 ⟨rfl, hb2⟩; have R4 := Lib.hid ((R3.out.alloc _).step hb2); have B4 := Lib.hid ((B3.out.alloc _).belowS hb2); obtain ⟨f0, f1, f2⟩ := B4.out.cells3; have fz := B4.out.lt; clear hb2))
            go_ret2
            exact UnpackPost.bad ANS.out R4.out.bel

end Go.Proofs.YtlkkpgdgnnknpaaDoor
