/-
  The law LogRuns.
-/
import Derived.Test.YtjihboddejaelaaLogZ1
import Derived.Deep.CutBlock
import Derived.Deep.DeepCutAuto
import Derived.Deep.RegionHeld3
import Derived.BigQuiet
namespace Go.Proofs.Ytjihboddejaelaa
open Go.RowKit
open Go.BigFrame
open Go.Maps
set_option linter.unusedVariables false
set_option linter.unusedSimpArgs false

structure Duo (w0 w : World) (b : List (Option Nat)) (gd g m1 m2 : Nat) (c : List (Option Nat)) (rd r : Nat) (d : List (Option Nat)) (L M : Lg) : Prop where
  p : LR w b gd g m1 m2 L.rw
  q : LQ w c rd r d M
  disj : Disj (b ++ lb g m1 m2) (c ++ d)
  low1 : ∀ k, some k ∈ b ++ lb g m1 m2 → w0.heap.size ≤ k
  low2 : ∀ k, some k ∈ c ++ d → w0.heap.size ≤ k
  bel : Below w0.heap.size w0 w
section
variable {w0 w w' : World} {b b' c c' d d' : List (Option Nat)} {gd g g' m1 m2 m1' m2' rd r r' ab : Nat} {a : ActV} {L M L' M' : Lg}
theorem Duo.tri (h : Duo w0 w b gd g m1 m2 c rd r d L M) (a : ActV) : Tri w0 (w.alloc (.cells a.arr 31)) b gd g m1 m2 c rd r d w.heap.size a L M := by
  have hb := below_mk w (.cells a.arr 31)
  exact ⟨h.p.below hb, h.q.below hb, h.disj, h.low1, h.low2, bel_step h.bel hb h.bel.size, Has.new _ _ _, fun h2 => by have := h.p.lt h2; omega, fun h2 => by have := h.q.lt h2; omega⟩
theorem Tri.duo (h : Tri w0 w b gd g m1 m2 c rd r d ab a L M) : Duo w0 w b gd g m1 m2 c rd r d L M := ⟨h.p, h.q, h.disj, h.low1, h.low2, h.bel⟩
theorem duo_start {w1 w2 w3 w4 : World} {L : Lg} {D : Dk} (hp : DP w1 b gd D) (t1 : Turn [] b w w1) (hq : RP w2 c rd D) (t2 : Turn [] c w1 w2) (h3 : LR w3 b' gd g m1 m2 L.rw) (t3 : Turn b (b' ++ lb g m1 m2) w2 w3) (h4 : LQ w4 c' rd r d L) (t4 : Turn c (c' ++ d) w3 w4) : Duo w w4 b' gd g m1 m2 c' rd r d L L := by
  have dj : Disj b c := fun k hk h2 => by have := hp.lt hk; have := t2.newN k h2; omega
  have dj2 : Disj (b' ++ lb g m1 m2) c := disj_turn dj t3 (fun k hk => hq.lt hk)
  have dj3 : Disj (c' ++ d) (b' ++ lb g m1 m2) := disj_turn dj2.symm t4 (fun k hk => h3.lt hk)
  have s12 := Nat.le_trans t1.size t2.size
  have l1 : ∀ k, some k ∈ b' ++ lb g m1 m2 → w.heap.size ≤ k := t3.low (fun k hk => t1.newN k hk) s12
  have l2 : ∀ k, some k ∈ c' ++ d → w.heap.size ≤ k := t4.low (fun k hk => Nat.le_trans t1.size (t2.newN k hk)) (Nat.le_trans s12 t3.size)
  have b2 : Below w.heap.size w w2 := bel_step t1.belowN t2.belowN t1.size
  have b3 : Below w.heap.size w w3 := t3.bel b2 (fun k hk => t1.newN k hk) s12
  exact ⟨h3.far t4 dj2.symm, h4, dj3.symm, l1, l2, t4.bel b3 (fun k hk => Nat.le_trans t1.size (t2.newN k hk)) (Nat.le_trans s12 t3.size)⟩
end

set_option maxRecDepth 100000 in
set_option maxHeartbeats 100000000 in
theorem law_LogRuns (A : Option Addr) (n c : Nat) (acts : List ActV) (w : World) (h : AS w A n acts) (hc : n ≤ c) :
    Calls Try.prog 5 #[.slice A n c] w fun e w' => e = .returned (.bool true) ∧ Below w.heap.size w w' := by
  have HA := Lib.hid (h.take (k := min n 250) (by omega))
  have TS := Lib.hid (fun w1 => law_short A n c hc w1)
  obtain ⟨N, hN⟩ : ∃ N, min n 250 = N := ⟨_, rfl⟩
  have hN2 : N ≤ 250 := by omega
  obtain ⟨al, has⟩ : ∃ al, acts.take (min n 250) = al := ⟨_, rfl⟩
  rw [has] at HA
  rw [hN] at HA TS
  clear h hc hN has
  go_enter Try.func5, Try.ntmps5
  go_wp2_with fail
  refine (disk_New w).mono ?_
  rintro e w1 ⟨gd, b0, rfl, hp, ht1⟩
  go_wp2_with fail
  refine (refd_New w1).mono ?_
  rintro e w2 ⟨rd, c0, rfl, hq, ht2⟩
  have OP := Lib.hid (wal_Open b0 gd Dk.new w2 (hp.below ht2.belowN) (new_fit.less (by omega)) ⟨rfl, rfl⟩)
  have OQ := Lib.hid (fun w3 (h3 : RP w3 c0 rd Dk.new) => ref_OpenLog c0 rd Dk.new w3 h3 (new_fit.less (by omega)) ⟨rfl, rfl⟩)
  have HP0 := Lib.hid hp; have HT1 := Lib.hid ht1; have HQ0 := Lib.hid hq; have HT2 := Lib.hid ht2
  have L0K := Lib.hid (opened_ok Dk.new_ok)
  have L0D := Lib.hid (opened_calm (D := Dk.new) ⟨rfl, rfl⟩)
  have L0F := Lib.hid (opened_fit (k := 251 * 100000) (new_fit.less (by omega)))
  obtain ⟨L0, hL0⟩ : ∃ L, Lg.opened Dk.new = L := ⟨_, rfl⟩
  rw [hL0] at OP OQ L0K L0D L0F
  clear hp ht1 hq ht2 hL0
  go_upto_region 8 with (first
    | (go_at_call 12; (with_reducible refine OP.out.mono ?_); rintro e w3 ⟨g, b1, m1, m2, rfl, hl3, ht3⟩; have HL3 := Lib.hid hl3; have HT3 := Lib.hid ht3; clear hl3 ht3)
    | (go_at_call 26; (refine (OQ.out _ (HQ0.out.turn HT3.out (fun k hk h2 => by have := HP0.out.lt hk; have := HT2.out.newN k h2; omega))).mono ?_); rintro e w4 ⟨r, c1, d1, rfl, hl4, ht4⟩; have HL4 := Lib.hid hl4; have HT4 := Lib.hid ht4; clear hl4 ht4)
    | (go_at_call 27; refine (law_numS _ _).mono ?_; rintro e w1 ⟨rfl, rfl⟩))
  have H0 := Lib.hid (duo_start HP0.out HT1.out HQ0.out HT2.out HL3.out HT3.out HL4.out HT4.out)
  clear HP0 HT1 HQ0 HT2 HL3 HT3 HL4 HT4 OP OQ
  go_wp2_with (go_at_call 9; (with_reducible refine (TS.out _).mono ?_); rintro e w5 ⟨rfl, rfl⟩)
  go_loopw [5, 7, 42] (fun v5 v7 v42 wr => ∃ (i : Nat) (L : Lg) (b : List (Option Nat)) (g m1 m2 : Nat) (c : List (Option Nat)) (r : Nat) (d : List (Option Nat)), i ≤ N ∧ v42 = .int .i64 i ∧ v5 = .pointer (some ⟨g, 0, none⟩) ∧ v7 = .pointer (some ⟨r, 0, none⟩) ∧ Duo w wr b gd g m1 m2 c rd r d L L ∧ L.ok ∧ L.D.down = false ∧ Fit L.D ((251 - i) * 100000)) (fun _ _ v42 _ => N - (intOf v42).toNat)
  case atStart => exact ⟨0, L0, _, _, _, _, _, _, _, Nat.zero_le _, rfl, rfl, rfl, H0.out, L0K.out, L0D.out.1, L0F.out⟩
  case round =>
    clear H0 L0K L0D L0F
    obtain ⟨i, L, b, g, m1, m2, c, r, d, hi, rfl, rfl, rfl, hT, hok, hdn, hft⟩ := hrel
    have HT := Lib.hid hT
    have OK := Lib.hid hok
    have DN := Lib.hid hdn
    have FT := Lib.hid hft
    clear hT hok hdn hft
    by_cases hin : i < N
    · obtain ⟨k, off, rfl, hk, hcell⟩ := HA.out.2.1 (by omega)
      have hl : i < al.length := by rw [HA.out.1]; exact hin
      have hcell2 := hcell i al[i] (by simp [hl])
      have AO := Lib.hid (HA.out.2.2 al[i] (List.getElem_mem hl))
      obtain ⟨a, ha⟩ : ∃ a, al[i] = a := ⟨_, rfl⟩
      rw [ha] at hcell2 AO
      obtain ⟨wcl, wfl⟩ := bcell HT.out.bel
      have d0 : wr.cell? ⟨k, off + i * 8, none⟩ = some (.int .i64 a.kind) := (wcl k (off + i * 8 + 0) hk).trans (hcell2 0 _ rfl)
      have d1 : wr.cell? ⟨k, off + i * 8 + 1, none⟩ = some (.int .i64 a.f) := (wcl k (off + i * 8 + 1) hk).trans (hcell2 1 _ rfl)
      have d2 : wr.cell? ⟨k, off + i * 8 + 2, none⟩ = some (.int .i64 a.at_) := (wcl k (off + i * 8 + 2) hk).trans (hcell2 2 _ rfl)
      have d3 : wr.cell? ⟨k, off + i * 8 + 3, none⟩ = some (.int .i64 a.n) := (wcl k (off + i * 8 + 3) hk).trans (hcell2 3 _ rfl)
      have d4 : wr.cell? ⟨k, off + i * 8 + 4, none⟩ = some (.string a.s) := (wcl k (off + i * 8 + 4) hk).trans (hcell2 4 _ rfl)
      have d5 : wr.cell? ⟨k, off + i * 8 + 5, none⟩ = some (.string a.t) := (wcl k (off + i * 8 + 5) hk).trans (hcell2 5 _ rfl)
      have d6 : wr.cell? ⟨k, off + i * 8 + 6, none⟩ = some (.slice a.kA a.kn a.kc) := (wcl k (off + i * 8 + 6) hk).trans (hcell2 6 _ rfl)
      have d7 : wr.cell? ⟨k, off + i * 8 + 7, none⟩ = some (.slice a.cA a.cn a.cc) := (wcl k (off + i * 8 + 7) hk).trans (hcell2 7 _ rfl)
      have zz : k < wr.heap.size := by have := HT.out.bel.size; omega
      have AO2 := Lib.hid (AO.out.below HT.out.bel)
      have T0 := Lib.hid (HT.out.tri a)
      clear hcell hcell2 ha wcl wfl hl
      obtain ⟨K, hK⟩ : ∃ K, K = (250 - i) * 100000 := ⟨_, rfl⟩
      have FT := Lib.hid (show Fit L.D (K + 100000) from FT.out.less (by omega))
      have T0 := Lib.hid (show Tri w (wr.alloc (.cells #[.int .i64 a.kind, .int .i64 a.f, .int .i64 a.at_, .int .i64 a.n, .string a.s, .string a.t, .slice a.kA a.kn a.kc, .slice a.cA a.cn a.cc] 31)) b gd g m1 m2 c rd r d wr.heap.size a L L from T0.out)
      have y0 : (wr.alloc (.cells #[.int .i64 a.kind, .int .i64 a.f, .int .i64 a.at_, .int .i64 a.n, .string a.s, .string a.t, .slice a.kA a.kn a.kc, .slice a.cA a.cn a.cc] 31)).cell? ⟨wr.heap.size, 0, none⟩ = some (.int .i64 a.kind) := T0.out.act.cell 0
      go_upto_block 2 with fail
      generalize wr.alloc (.cells #[.int .i64 a.kind, .int .i64 a.f, .int .i64 a.at_, .int .i64 a.n, .string a.s, .string a.t, .slice a.kA a.kn a.kc, .slice a.cA a.cn a.cc] 31) = V at *
      go_cut [5, 6, 7, 8, 11, 12, 13, 14, 15] from 43 to 276 (fun v5 _ v7 _ v11 _ _ _ _ wx => v11 = .bool true ∧ ∃ (L' : Lg) (b' : List (Option Nat)) (g' n1 n2 : Nat) (c' : List (Option Nat)) (r' : Nat) (d' : List (Option Nat)), v5 = .pointer (some ⟨g', 0, none⟩) ∧ v7 = .pointer (some ⟨r', 0, none⟩) ∧ Tri w wx b' gd g' n1 n2 c' rd r' d' wr.heap.size a L' L' ∧ L'.ok ∧ Fit L'.D (K + 1000))
      case first =>
        by_cases k1 : a.kind = 1
        · as_aux_lemma =>
            have TC := Lib.hid T0.out
            obtain ⟨x0, x1, x2, x3, x4, x6⟩ := TC.out.act.arr
            have xz := TC.out.act.lt
            rw [k1] at x0
            have okL := OK.out
            have RS := Lib.hid (fun w1 (h1 : Tri w w1 b gd g m1 m2 c rd r d wr.heap.size a L L) => tri_Read h1 OK.out DN.out a.n)
            have RQ := Lib.hid (fun w1 (h1 : Tri w w1 b gd g m1 m2 c rd r d wr.heap.size a L L) => triq_Read h1 OK.out DN.out (by have := FT.out.waits; omega) a.n)
            obtain ⟨S, hS⟩ : ∃ S, L.readS a.n = S := ⟨_, rfl⟩
            obtain ⟨E, hE⟩ : ∃ S, L.readE a.n = S := ⟨_, rfl⟩
            rw [hS, hE] at RS RQ
            have s1 : (S.toList == S.toList) = true := by simp
            clear hS hE okL
            go_wp2_with (first | (go_at_call 28; (with_reducible refine (RS.out _ TC.out).mono ?_); rintro e w2 ⟨rfl, rfl⟩) | (go_at_call 29; (with_reducible refine (RQ.out _ TC.out).mono ?_); rintro e w2 ⟨rfl, hb⟩; have TC := Lib.hid (TC.out.step hb); clear hb) | (go_at_call 27; refine (law_numS _ _).mono ?_; rintro e w1 ⟨rfl, rfl⟩))
            go_meet
            exact ⟨rfl, L, _, _, _, _, _, _, _, rfl, rfl, TC.out, OK.out, FT.out.less (by omega)⟩
        by_cases k2 : a.kind = 2
        · as_aux_lemma =>
            have TC := Lib.hid T0.out
            obtain ⟨x0, x1, x2, x3, x4, x6⟩ := TC.out.act.arr
            have xz := TC.out.act.lt
            rw [k2] at x0
            have TC := Lib.hid (TC.out.step (Below.refl _ _).drew)
            go_wp2_with fail
            go_region_held3 (fun w' => w'.cell? ⟨wr.heap.size, 2, none⟩ = some (.int .i64 a.at_) ∧ w'.cell? ⟨wr.heap.size, 3, none⟩ = some (.int .i64 a.n)) (first | exact ⟨TC.out.act.cell 2, TC.out.act.cell 3⟩ | go_keep)
              (first | (go_at_call 30; (refine (law_sheet a.at_ _).mono ?_); rintro e w2 ⟨rfl, hb⟩; have TC := Lib.hid (TC.out.step hb); clear hb) | (go_at_call 17; (refine (tri_Append TC.out OK.out (FT.out.less (by omega)) a.n (sheetB a.at_)).mono ?_); rintro e w2 ⟨rfl, b1, n1, n2, ht⟩; have TC := Lib.hid ht; clear ht; obtain ⟨x0, x1, x2, x3, x4, x6⟩ := TC.out.act.arr; have xz := TC.out.act.lt) | (go_at_call 31; (refine (triq_Append TC.out OK.out (FT.out.less (by omega)) a.n (sheetB a.at_) (by rw [sheetB_size]; omega)).mono ?_); rintro e w2 ⟨rfl, c1, e1, ht⟩; have TC := Lib.hid ht; clear ht; obtain ⟨x0, x1, x2, x3, x4, x6⟩ := TC.out.act.arr; have xz := TC.out.act.lt) | (go_at_call 27; refine (law_numS _ _).mono ?_; rintro e w1 ⟨rfl, rfl⟩))
            go_wp2_with fail
            go_meet
            exact ⟨rfl, (L.append a.n (sheetB a.at_)), _, _, _, _, _, _, _, rfl, rfl, TC.out, append_ok OK.out _ _, append_fit (FT.out.less (by omega)) _ _⟩
        by_cases k3 : a.kind = 3
        · as_aux_lemma =>
            have TC := Lib.hid T0.out
            obtain ⟨x0, x1, x2, x3, x4, x6⟩ := TC.out.act.arr
            have xz := TC.out.act.lt
            rw [k3] at x0
            have TC := Lib.hid (TC.out.step (Below.refl _ _).drew)
            go_wp2_with fail
            go_region_held3 (fun w' => w'.cell? ⟨wr.heap.size, 1, none⟩ = some (.int .i64 a.f) ∧ w'.cell? ⟨wr.heap.size, 2, none⟩ = some (.int .i64 a.at_) ∧ w'.cell? ⟨wr.heap.size, 3, none⟩ = some (.int .i64 a.n)) (first | exact ⟨TC.out.act.cell 1, TC.out.act.cell 2, TC.out.act.cell 3⟩ | go_keep)
              (first | (go_at_call 30; (refine (law_sheet a.at_ _).mono ?_); rintro e w2 ⟨rfl, hb⟩; have TC := Lib.hid (TC.out.step hb); clear hb) | (go_at_call 19; (refine (tri_Commit TC.out OK.out (FT.out.less (by omega)) a.n (sheetB a.at_) a.f).mono ?_); rintro e w2 ⟨rfl, b1, n1, n2, ht⟩; have TC := Lib.hid ht; clear ht; obtain ⟨x0, x1, x2, x3, x4, x6⟩ := TC.out.act.arr; have xz := TC.out.act.lt) | (go_at_call 32; (refine (triq_Commit TC.out OK.out (FT.out.less (by omega)) a.n (sheetB a.at_) a.f (by rw [sheetB_size]; omega)).mono ?_); rintro e w2 ⟨rfl, c1, e1, ht⟩; have TC := Lib.hid ht; clear ht; obtain ⟨x0, x1, x2, x3, x4, x6⟩ := TC.out.act.arr; have xz := TC.out.act.lt) | (go_at_call 27; refine (law_numS _ _).mono ?_; rintro e w1 ⟨rfl, rfl⟩))
            go_wp2_with fail
            go_meet
            exact ⟨rfl, (L.commit a.n (sheetB a.at_) a.f), _, _, _, _, _, _, _, rfl, rfl, TC.out, commit_ok OK.out _ _ _, commit_fit (FT.out.less (by omega)) _ _ _⟩
        by_cases k4 : a.kind = 4
        · as_aux_lemma =>
            have TC := Lib.hid T0.out
            obtain ⟨x0, x1, x2, x3, x4, x6⟩ := TC.out.act.arr
            have xz := TC.out.act.lt
            rw [k4] at x0
            go_wp2_with (first | (go_at_call 20; (refine (tri_Back TC.out OK.out).mono ?_); rintro e w2 ⟨rfl, b1, n1, n2, ht⟩; have TC := Lib.hid ht; clear ht; obtain ⟨x0, x1, x2, x3, x4, x6⟩ := TC.out.act.arr; have xz := TC.out.act.lt) | (go_at_call 33; (refine (triq_Back TC.out OK.out).mono ?_); rintro e w2 ⟨rfl, c1, e1, ht⟩; have TC := Lib.hid ht; clear ht; obtain ⟨x0, x1, x2, x3, x4, x6⟩ := TC.out.act.arr; have xz := TC.out.act.lt))
            go_meet
            exact ⟨rfl, L.back, _, _, _, _, _, _, _, rfl, rfl, TC.out, back_ok OK.out, FT.out.less (by omega)⟩
        by_cases k5 : a.kind = 5
        · as_aux_lemma =>
            have TC := Lib.hid T0.out
            obtain ⟨x0, x1, x2, x3, x4, x6⟩ := TC.out.act.arr
            have xz := TC.out.act.lt
            rw [k5] at x0
            go_wp2_with (first | (go_at_call 21; (refine (tri_Checkpoint TC.out OK.out (FT.out.less (by omega)) DN.out).mono ?_); rintro e w2 ⟨rfl, b1, n1, n2, ht⟩; have TC := Lib.hid ht; clear ht; obtain ⟨x0, x1, x2, x3, x4, x6⟩ := TC.out.act.arr; have xz := TC.out.act.lt) | (go_at_call 34; (refine (triq_Checkpoint TC.out OK.out (FT.out.less (by omega)) DN.out).mono ?_); rintro e w2 ⟨rfl, c1, e1, ht⟩; have TC := Lib.hid ht; clear ht; obtain ⟨x0, x1, x2, x3, x4, x6⟩ := TC.out.act.arr; have xz := TC.out.act.lt) | (go_at_call 27; refine (law_numS _ _).mono ?_; rintro e w1 ⟨rfl, rfl⟩))
            go_meet
            exact ⟨rfl, L.checkpoint.1, _, _, _, _, _, _, _, rfl, rfl, TC.out, checkpoint_ok OK.out, checkpoint_fit (FT.out.less (by omega))⟩
        by_cases k6 : a.kind = 6
        · as_aux_lemma =>
            have TC := Lib.hid T0.out
            obtain ⟨x0, x1, x2, x3, x4, x6⟩ := TC.out.act.arr
            have xz := TC.out.act.lt
            rw [k6] at x0
            go_wp2_with (first | (go_at_call 13; (refine (disk_Fail gd L.D _ a.n _ TC.out.p.disk).mono ?_); rintro e w2 ⟨rfl, b1, hd2, ht2⟩; obtain ⟨q1, q2⟩ := TC.out.p.onDisk hd2 ht2; have TC := Lib.hid (TC.out.lr (L' := { L with D := L.D.fail a.n }) q1 q2); clear hd2 ht2 q1 q2; obtain ⟨x0, x1, x2, x3, x4, x6⟩ := TC.out.act.arr; have xz := TC.out.act.lt) | (go_at_call 35; (refine (refd_Fail rd L.D _ a.n _ TC.out.q.disk).mono ?_); rintro e w2 ⟨rfl, c1, hd2, ht2⟩; obtain ⟨q1, q2⟩ := TC.out.q.onDisk hd2 ht2; have TC := Lib.hid (TC.out.lq q1 q2); clear hd2 ht2 q1 q2; obtain ⟨x0, x1, x2, x3, x4, x6⟩ := TC.out.act.arr; have xz := TC.out.act.lt))
            go_meet
            exact ⟨rfl, { L with D := L.D.fail a.n }, _, _, _, _, _, _, _, rfl, rfl, TC.out, OK.out.same (Dk.fail_ok OK.out.disk AO.out.n) rfl, (fail_fit FT.out AO.out.n).less (by omega)⟩
        by_cases k7 : a.kind = 7
        · as_aux_lemma =>
            have TC := Lib.hid T0.out
            obtain ⟨x0, x1, x2, x3, x4, x6⟩ := TC.out.act.arr
            have xz := TC.out.act.lt
            rw [k7] at x0
            go_wp2_with (first | (go_at_call 23; (refine (disk_Crash gd L.D _ a.kA a.kn a.kc a.ks _ TC.out.p.disk OK.out.disk (by have := (FT.out).waits; omega) (AO.out.below TC.out.bel).keep (by have := AO.out.len; omega) (fun h0 j hj h2 => by have := AO.out.lt h0 j hj; have := TC.out.low1 j (List.mem_append_left _ h2); omega)).mono ?_); rintro e w2 ⟨rfl, b1, hd2, ht2⟩; obtain ⟨q1, q2⟩ := TC.out.p.onDisk hd2 ht2; have TC := Lib.hid (TC.out.lr (L' := { L with D := L.D.crash a.ks }) q1 q2); clear hd2 ht2 q1 q2; obtain ⟨x0, x1, x2, x3, x4, x6⟩ := TC.out.act.arr; have xz := TC.out.act.lt) | (go_at_call 36; (refine (refd_Crash rd L.D _ a.kA a.kn a.kc a.ks _ TC.out.q.disk OK.out.disk (by have := (FT.out).waits; omega) (AO.out.below TC.out.bel).keep (by have := AO.out.len; omega) (fun h0 j hj h2 => by have := AO.out.lt h0 j hj; have := TC.out.low2 j (List.mem_append_left _ h2); omega)).mono ?_); rintro e w2 ⟨rfl, c1, hd2, ht2⟩; obtain ⟨q1, q2⟩ := TC.out.q.onDisk hd2 ht2; have TC := Lib.hid (TC.out.lq q1 q2); clear hd2 ht2 q1 q2; obtain ⟨x0, x1, x2, x3, x4, x6⟩ := TC.out.act.arr; have xz := TC.out.act.lt) | (go_at_call 12; (refine (wal_Open _ gd (L.D.crash a.ks) _ TC.out.p.disk ((crash_fit (FT.out) a.ks).less (by omega)) (crash_calm _ _)).mono ?_); rintro e w2 ⟨g1, b1, n1, n2, rfl, q1, q2⟩; have TC := Lib.hid (TC.out.lr q1 (q2.widen _)); clear q1 q2; obtain ⟨x0, x1, x2, x3, x4, x6⟩ := TC.out.act.arr; have xz := TC.out.act.lt) | (go_at_call 26; (refine (ref_OpenLog _ rd (L.D.crash a.ks) _ TC.out.q.disk ((crash_fit (FT.out) a.ks).less (by omega)) (crash_calm _ _)).mono ?_); rintro e w2 ⟨r1, c1, e1, rfl, q1, q2⟩; have TC := Lib.hid (TC.out.lq q1 (q2.widen _)); clear q1 q2; obtain ⟨x0, x1, x2, x3, x4, x6⟩ := TC.out.act.arr; have xz := TC.out.act.lt) | (go_at_call 27; refine (law_numS _ _).mono ?_; rintro e w1 ⟨rfl, rfl⟩))
            go_meet
            exact ⟨rfl, (Lg.opened (L.D.crash a.ks)), _, _, _, _, _, _, _, rfl, rfl, TC.out, opened_ok (Dk.crash_ok OK.out.disk _), opened_fit ((crash_fit FT.out a.ks).less (by omega))⟩
        by_cases k8 : a.kind = 8
        · as_aux_lemma =>
            have TC := Lib.hid T0.out
            obtain ⟨x0, x1, x2, x3, x4, x6⟩ := TC.out.act.arr
            have xz := TC.out.act.lt
            rw [k8] at x0
            have TC := Lib.hid (TC.out.step (Below.refl _ _).drew)
            cases hdw : (L.append a.n a.s).D.down with
            | true =>
              go_wp2_with fail
              refine wp_region_held_drew (S := fun w' => w'.cell? ⟨wr.heap.size, 3, none⟩ = some (.int .i64 a.n) ∧ w'.cell? ⟨wr.heap.size, 4, none⟩ = some (.string a.s)) (by kernel_rfl) ?_ (fun hHeld => ?_)
              · exact ⟨TC.out.act.cell 3, TC.out.act.cell 4⟩
              refine wpAnyH_take (i := 0) (oi := _) (v := ?_) rfl (by kernel_rfl) (by kernel_rfl) (by kernel_rfl) (fun _ _ _ h => h) (Or.inl ⟨by kernel_rfl, ?_⟩) (by assumption) ?_
              rotate_left
              any_goals (intro w hSw; (try dsimp only at hSw); go_simp; first | done | (with_reducible rfl))
              try simp only [Act.put, List.getElem_toArray, List.getElem_cons_succ, List.getElem_cons_zero, List.setIfInBounds_toArray, List.set_cons_zero, List.set_cons_succ]
              refine wpAnyH_take (i := 1) (oi := _) (v := ?_) rfl (by kernel_rfl) (by kernel_rfl) (by kernel_rfl) (fun _ _ _ h => h) (Or.inl ⟨by kernel_rfl, ?_⟩) (by assumption) ?_
              rotate_left
              any_goals (intro w hSw; (try dsimp only at hSw); go_simp; first | done | (with_reducible rfl))
              try simp only [Act.put, List.getElem_toArray, List.getElem_cons_succ, List.getElem_cons_zero, List.setIfInBounds_toArray, List.set_cons_zero, List.set_cons_succ]
              refine wpAnyH_take (i := 2) (oi := _) (v := ?_) rfl (by kernel_rfl) (by kernel_rfl) (by kernel_rfl) (fun _ _ _ h => h) (Or.inl ⟨by kernel_rfl, ?_⟩) (by assumption) ?_
              rotate_left
              any_goals (intro w hSw; (try dsimp only at hSw); go_simp; first | done | (with_reducible rfl))
              try simp only [Act.put, List.getElem_toArray, List.getElem_cons_succ, List.getElem_cons_zero, List.setIfInBounds_toArray, List.set_cons_zero, List.set_cons_succ]
              refine wpAnyH_take (i := 3) (oi := _) (v := ?_) rfl (by kernel_rfl) (by kernel_rfl) (by kernel_rfl) (fun _ _ _ h => h) (Or.inl ⟨by kernel_rfl, ?_⟩) (by assumption) ?_
              rotate_left
              any_goals (intro w hSw; (try dsimp only at hSw); go_simp; first | done | (with_reducible rfl))
              try simp only [Act.put, List.getElem_toArray, List.getElem_cons_succ, List.getElem_cons_zero, List.setIfInBounds_toArray, List.set_cons_zero, List.set_cons_succ]
              refine wpAnyH_take (i := 4) (oi := _) (v := ?_) rfl (by kernel_rfl) (by kernel_rfl) (by kernel_rfl) (fun _ _ _ h => h) (Or.inl ⟨by kernel_rfl, ?_⟩) (by assumption) ?_
              rotate_left
              any_goals (intro w hSw; (try dsimp only at hSw); go_simp; first | done | (with_reducible rfl))
              try simp only [Act.put, List.getElem_toArray, List.getElem_cons_succ, List.getElem_cons_zero, List.setIfInBounds_toArray, List.set_cons_zero, List.set_cons_succ]
              refine wpAnyH_take (i := 7) (oi := _) (v := ?_) rfl (by kernel_rfl) (by kernel_rfl) (by kernel_rfl) (fun _ _ _ h => h) (Or.inl ⟨by kernel_rfl, ?_⟩) (by assumption) ?_
              rotate_left
              any_goals (intro w hSw; (try dsimp only at hSw); go_simp; first | done | (with_reducible rfl))
              try simp only [Act.put, List.getElem_toArray, List.getElem_cons_succ, List.getElem_cons_zero, List.setIfInBounds_toArray, List.set_cons_zero, List.set_cons_succ]
              refine wpAnyH_take (i := 8) (oi := _) (v := ?_) rfl (by kernel_rfl) (by kernel_rfl) (by kernel_rfl) (fun _ _ _ h => h) (Or.inl ⟨by kernel_rfl, ?_⟩) (by assumption) ?_
              rotate_left
              any_goals (intro w hSw; (try dsimp only at hSw); go_simp; first | done | (with_reducible rfl))
              try simp only [Act.put, List.getElem_toArray, List.getElem_cons_succ, List.getElem_cons_zero, List.setIfInBounds_toArray, List.set_cons_zero, List.set_cons_succ]
              refine wpAnyH_take (i := 9) (oi := _) (v := ?_) rfl (by kernel_rfl) (by kernel_rfl) (by kernel_rfl) (fun _ _ _ h => h) (Or.inl ⟨by kernel_rfl, ?_⟩) (by assumption) ?_
              rotate_left
              any_goals (intro w hSw; (try dsimp only at hSw); go_simp; first | done | (with_reducible rfl))
              try simp only [Act.put, List.getElem_toArray, List.getElem_cons_succ, List.getElem_cons_zero, List.setIfInBounds_toArray, List.set_cons_zero, List.set_cons_succ]
              refine wpAnyH_take (i := 10) (oi := _) (v := ?_) rfl (by kernel_rfl) (by kernel_rfl) (by kernel_rfl) (fun _ _ _ h => h) (Or.inl ⟨by kernel_rfl, ?_⟩) (by assumption) ?_
              rotate_left
              any_goals (intro w hSw; (try dsimp only at hSw); go_simp; first | done | (with_reducible rfl))
              try simp only [Act.put, List.getElem_toArray, List.getElem_cons_succ, List.getElem_cons_zero, List.setIfInBounds_toArray, List.set_cons_zero, List.set_cons_succ]
              refine wpAnyH_take (i := 11) (oi := _) (v := ?_) rfl (by kernel_rfl) (by kernel_rfl) (by kernel_rfl) (fun _ _ _ h => h) (Or.inl ⟨by kernel_rfl, ?_⟩) (by assumption) ?_
              rotate_left
              any_goals (intro w hSw; (try dsimp only at hSw); go_simp; first | done | (with_reducible rfl))
              try simp only [Act.put, List.getElem_toArray, List.getElem_cons_succ, List.getElem_cons_zero, List.setIfInBounds_toArray, List.set_cons_zero, List.set_cons_succ]
              refine wpAnyH_ready (rs := [5]) (by kernel_rfl) (by simp) ?_
              refine AllReadyH.cons (o := _) rfl (fun K hK => ?_) AllReadyH.nil
              go_simp
              (go_at_call 17; (refine (tri_Append TC.out OK.out (FT.out.less (by omega)) a.n a.s).mono ?_); rintro e w2 ⟨rfl, b1, n1, n2, ht⟩; have TC := Lib.hid ht; clear ht; obtain ⟨x0, x1, x2, x3, x4, x6⟩ := TC.out.act.arr; have xz := TC.out.act.lt)
              (try go_wp2_with fail)
              refine hK.out _ _ ?_ (fun hHeld => ?_)
              · exact ⟨TC.out.act.cell 3, TC.out.act.cell 4⟩
              clear hK K
              try simp only [Act.put, List.getElem_toArray, List.getElem_cons_succ, List.getElem_cons_zero, List.setIfInBounds_toArray, List.set_cons_zero, List.set_cons_succ]
              refine wpAnyH_ready (rs := [6]) (by kernel_rfl) (by simp) ?_
              refine AllReadyH.cons (o := _) rfl (fun K hK => ?_) AllReadyH.nil
              go_simp
              (go_at_call 27; refine (law_numS _ _).mono ?_; rintro e w1 ⟨rfl, rfl⟩)
              (try go_wp2_with fail)
              refine hK.out _ _ ?_ (fun hHeld => ?_)
              · exact ⟨TC.out.act.cell 3, TC.out.act.cell 4⟩
              clear hK K
              try simp only [Act.put, List.getElem_toArray, List.getElem_cons_succ, List.getElem_cons_zero, List.setIfInBounds_toArray, List.set_cons_zero, List.set_cons_succ]
              refine wpAnyH_ready (rs := [12]) (by kernel_rfl) (by simp) ?_
              refine AllReadyH.cons (o := _) rfl (fun K hK => ?_) AllReadyH.nil
              go_simp
              (go_at_call 31; (refine (triq_Append TC.out OK.out (FT.out.less (by omega)) a.n a.s AO.out.s).mono ?_); rintro e w2 ⟨rfl, c1, e1, ht⟩; have TC := Lib.hid ht; clear ht; obtain ⟨x0, x1, x2, x3, x4, x6⟩ := TC.out.act.arr; have xz := TC.out.act.lt)
              (try go_wp2_with fail)
              refine hK.out _ _ ?_ (fun hHeld => ?_)
              · exact ⟨TC.out.act.cell 3, TC.out.act.cell 4⟩
              clear hK K
              try simp only [Act.put, List.getElem_toArray, List.getElem_cons_succ, List.getElem_cons_zero, List.setIfInBounds_toArray, List.set_cons_zero, List.set_cons_succ]
              refine wpAnyH_take (i := 13) (oi := _) (v := ?_) rfl (by kernel_rfl) (by kernel_rfl) (by kernel_rfl) (fun _ _ _ h => h) (Or.inl ⟨by kernel_rfl, ?_⟩) (by assumption) ?_
              rotate_left
              any_goals (intro w hSw; (try dsimp only at hSw); go_simp; first | done | (with_reducible rfl))
              try simp only [Act.put, List.getElem_toArray, List.getElem_cons_succ, List.getElem_cons_zero, List.setIfInBounds_toArray, List.set_cons_zero, List.set_cons_succ]
              refine wpAnyH_take (i := 14) (oi := _) (v := ?_) rfl (by kernel_rfl) (by kernel_rfl) (by kernel_rfl) (fun _ _ _ h => h) (Or.inl ⟨by kernel_rfl, ?_⟩) (by assumption) ?_
              rotate_left
              any_goals (intro w hSw; (try dsimp only at hSw); go_simp; first | done | (with_reducible rfl))
              try simp only [Act.put, List.getElem_toArray, List.getElem_cons_succ, List.getElem_cons_zero, List.setIfInBounds_toArray, List.set_cons_zero, List.set_cons_succ]
              refine wpAnyH_take (i := 15) (oi := _) (v := ?_) rfl (by kernel_rfl) (by kernel_rfl) (by kernel_rfl) (fun _ _ _ h => h) (Or.inl ⟨by kernel_rfl, ?_⟩) (by assumption) ?_
              rotate_left
              any_goals (intro w hSw; (try dsimp only at hSw); go_simp; first | done | (with_reducible rfl))
              try simp only [Act.put, List.getElem_toArray, List.getElem_cons_succ, List.getElem_cons_zero, List.setIfInBounds_toArray, List.set_cons_zero, List.set_cons_succ]
              refine wpAnyH_ready (rs := [16]) (by kernel_rfl) (by simp) ?_
              refine AllReadyH.cons (o := _) rfl (fun K hK => ?_) AllReadyH.nil
              go_simp
              (go_at_call 22; (refine (disk_Down gd (L.append a.n a.s).D _ _ TC.out.p.disk).mono ?_); rintro e w2 ⟨rfl, rfl⟩; rw [hdw])
              (try go_wp2_with fail)
              refine hK.out _ _ ?_ (fun hHeld => ?_)
              · exact ⟨TC.out.act.cell 3, TC.out.act.cell 4⟩
              clear hK K
              try simp only [Act.put, List.getElem_toArray, List.getElem_cons_succ, List.getElem_cons_zero, List.setIfInBounds_toArray, List.set_cons_zero, List.set_cons_succ]
              refine wpAnyH_take (i := 17) (oi := _) (v := ?_) rfl (by kernel_rfl) (by kernel_rfl) (by kernel_rfl) (fun _ _ _ h => h) (Or.inl ⟨by kernel_rfl, ?_⟩) (by assumption) ?_
              rotate_left
              any_goals (intro w hSw; (try dsimp only at hSw); go_simp; first | done | (with_reducible rfl))
              try simp only [Act.put, List.getElem_toArray, List.getElem_cons_succ, List.getElem_cons_zero, List.setIfInBounds_toArray, List.set_cons_zero, List.set_cons_succ]
              refine wpAnyH_take (i := 18) (oi := _) (v := undef) rfl (by kernel_rfl) (by kernel_rfl) (by kernel_rfl) (fun _ _ _ h => h) (Or.inr ⟨by kernel_rfl, rfl⟩) (by assumption) ?_
              try simp only [Act.put, List.getElem_toArray, List.getElem_cons_succ, List.getElem_cons_zero, List.setIfInBounds_toArray, List.set_cons_zero, List.set_cons_succ]
              refine wpAnyH_take (i := 19) (oi := _) (v := undef) rfl (by kernel_rfl) (by kernel_rfl) (by kernel_rfl) (fun _ _ _ h => h) (Or.inr ⟨by kernel_rfl, rfl⟩) (by assumption) ?_
              try simp only [Act.put, List.getElem_toArray, List.getElem_cons_succ, List.getElem_cons_zero, List.setIfInBounds_toArray, List.set_cons_zero, List.set_cons_succ]
              refine wpAnyH_take (i := 20) (oi := _) (v := undef) rfl (by kernel_rfl) (by kernel_rfl) (by kernel_rfl) (fun _ _ _ h => h) (Or.inr ⟨by kernel_rfl, rfl⟩) (by assumption) ?_
              try simp only [Act.put, List.getElem_toArray, List.getElem_cons_succ, List.getElem_cons_zero, List.setIfInBounds_toArray, List.set_cons_zero, List.set_cons_succ]
              refine wpAnyH_take (i := 21) (oi := _) (v := undef) rfl (by kernel_rfl) (by kernel_rfl) (by kernel_rfl) (fun _ _ _ h => h) (Or.inr ⟨by kernel_rfl, rfl⟩) (by assumption) ?_
              try simp only [Act.put, List.getElem_toArray, List.getElem_cons_succ, List.getElem_cons_zero, List.setIfInBounds_toArray, List.set_cons_zero, List.set_cons_succ]
              refine wpAnyH_take (i := 22) (oi := _) (v := undef) rfl (by kernel_rfl) (by kernel_rfl) (by kernel_rfl) (fun _ _ _ h => h) (Or.inr ⟨by kernel_rfl, rfl⟩) (by assumption) ?_
              try simp only [Act.put, List.getElem_toArray, List.getElem_cons_succ, List.getElem_cons_zero, List.setIfInBounds_toArray, List.set_cons_zero, List.set_cons_succ]
              refine wpAnyH_take (i := 23) (oi := _) (v := undef) rfl (by kernel_rfl) (by kernel_rfl) (by kernel_rfl) (fun _ _ _ h => h) (Or.inr ⟨by kernel_rfl, rfl⟩) (by assumption) ?_
              try simp only [Act.put, List.getElem_toArray, List.getElem_cons_succ, List.getElem_cons_zero, List.setIfInBounds_toArray, List.set_cons_zero, List.set_cons_succ]
              refine wpAnyH_take (i := 24) (oi := _) (v := undef) rfl (by kernel_rfl) (by kernel_rfl) (by kernel_rfl) (fun _ _ _ h => h) (Or.inr ⟨by kernel_rfl, rfl⟩) (by assumption) ?_
              try simp only [Act.put, List.getElem_toArray, List.getElem_cons_succ, List.getElem_cons_zero, List.setIfInBounds_toArray, List.set_cons_zero, List.set_cons_succ]
              refine wpAnyH_take (i := 25) (oi := _) (v := undef) rfl (by kernel_rfl) (by kernel_rfl) (by kernel_rfl) (fun _ _ _ h => h) (Or.inr ⟨by kernel_rfl, rfl⟩) (by assumption) ?_
              try simp only [Act.put, List.getElem_toArray, List.getElem_cons_succ, List.getElem_cons_zero, List.setIfInBounds_toArray, List.set_cons_zero, List.set_cons_succ]
              refine wpAnyH_take (i := 26) (oi := _) (v := undef) rfl (by kernel_rfl) (by kernel_rfl) (by kernel_rfl) (fun _ _ _ h => h) (Or.inr ⟨by kernel_rfl, rfl⟩) (by assumption) ?_
              try simp only [Act.put, List.getElem_toArray, List.getElem_cons_succ, List.getElem_cons_zero, List.setIfInBounds_toArray, List.set_cons_zero, List.set_cons_succ]
              refine wpAnyH_take (i := 27) (oi := _) (v := undef) rfl (by kernel_rfl) (by kernel_rfl) (by kernel_rfl) (fun _ _ _ h => h) (Or.inr ⟨by kernel_rfl, rfl⟩) (by assumption) ?_
              try simp only [Act.put, List.getElem_toArray, List.getElem_cons_succ, List.getElem_cons_zero, List.setIfInBounds_toArray, List.set_cons_zero, List.set_cons_succ]
              refine wpAnyH_take (i := 28) (oi := _) (v := undef) rfl (by kernel_rfl) (by kernel_rfl) (by kernel_rfl) (fun _ _ _ h => h) (Or.inr ⟨by kernel_rfl, rfl⟩) (by assumption) ?_
              try simp only [Act.put, List.getElem_toArray, List.getElem_cons_succ, List.getElem_cons_zero, List.setIfInBounds_toArray, List.set_cons_zero, List.set_cons_succ]
              refine wpAnyH_take (i := 29) (oi := _) (v := undef) rfl (by kernel_rfl) (by kernel_rfl) (by kernel_rfl) (fun _ _ _ h => h) (Or.inr ⟨by kernel_rfl, rfl⟩) (by assumption) ?_
              try simp only [Act.put, List.getElem_toArray, List.getElem_cons_succ, List.getElem_cons_zero, List.setIfInBounds_toArray, List.set_cons_zero, List.set_cons_succ]
              refine wpAnyH_take (i := 30) (oi := _) (v := undef) rfl (by kernel_rfl) (by kernel_rfl) (by kernel_rfl) (fun _ _ _ h => h) (Or.inr ⟨by kernel_rfl, rfl⟩) (by assumption) ?_
              try simp only [Act.put, List.getElem_toArray, List.getElem_cons_succ, List.getElem_cons_zero, List.setIfInBounds_toArray, List.set_cons_zero, List.set_cons_succ]
              refine wpAnyH_take (i := 31) (oi := _) (v := undef) rfl (by kernel_rfl) (by kernel_rfl) (by kernel_rfl) (fun _ _ _ h => h) (Or.inr ⟨by kernel_rfl, rfl⟩) (by assumption) ?_
              try simp only [Act.put, List.getElem_toArray, List.getElem_cons_succ, List.getElem_cons_zero, List.setIfInBounds_toArray, List.set_cons_zero, List.set_cons_succ]
              refine wpAnyH_take (i := 32) (oi := _) (v := ?_) rfl (by kernel_rfl) (by kernel_rfl) (by kernel_rfl) (fun _ _ _ h => h) (Or.inl ⟨by kernel_rfl, ?_⟩) (by assumption) ?_
              rotate_left
              any_goals (intro w hSw; (try dsimp only at hSw); go_simp; first | done | (with_reducible rfl))
              try simp only [Act.put, List.getElem_toArray, List.getElem_cons_succ, List.getElem_cons_zero, List.setIfInBounds_toArray, List.set_cons_zero, List.set_cons_succ]
              refine wpAnyH_take (i := 33) (oi := _) (v := ?_) rfl (by kernel_rfl) (by kernel_rfl) (by kernel_rfl) (fun _ _ _ h => h) (Or.inl ⟨by kernel_rfl, ?_⟩) (by assumption) ?_
              rotate_left
              any_goals (intro w hSw; (try dsimp only at hSw); go_simp; first | done | (with_reducible rfl))
              try simp only [Act.put, List.getElem_toArray, List.getElem_cons_succ, List.getElem_cons_zero, List.setIfInBounds_toArray, List.set_cons_zero, List.set_cons_succ]
              refine wpAnyH_take (i := 34) (oi := _) (v := ?_) rfl (by kernel_rfl) (by kernel_rfl) (by kernel_rfl) (fun _ _ _ h => h) (Or.inl ⟨by kernel_rfl, ?_⟩) (by assumption) ?_
              rotate_left
              any_goals (intro w hSw; (try dsimp only at hSw); go_simp; first | done | (with_reducible rfl))
              try simp only [Act.put, List.getElem_toArray, List.getElem_cons_succ, List.getElem_cons_zero, List.setIfInBounds_toArray, List.set_cons_zero, List.set_cons_succ]
              refine wpAnyH_done (by kernel_rfl) ?_ _
              go_wp2_with fail
              go_meet
              exact ⟨rfl, (L.append a.n a.s), _, _, _, _, _, _, _, rfl, rfl, TC.out, append_ok OK.out _ _, append_fit (FT.out.less (by omega)) _ _⟩
            | false =>
              go_wp2_with fail
              go_region_held3 (fun w' => w'.cell? ⟨wr.heap.size, 3, none⟩ = some (.int .i64 a.n) ∧ w'.cell? ⟨wr.heap.size, 4, none⟩ = some (.string a.s)) (first | exact ⟨TC.out.act.cell 3, TC.out.act.cell 4⟩ | go_keep)
                (first | (go_at_call 17; (refine (tri_Append TC.out OK.out (FT.out.less (by omega)) a.n a.s).mono ?_); rintro e w2 ⟨rfl, b1, n1, n2, ht⟩; have TC := Lib.hid ht; clear ht; obtain ⟨x0, x1, x2, x3, x4, x6⟩ := TC.out.act.arr; have xz := TC.out.act.lt) | (go_at_call 31; (refine (triq_Append TC.out OK.out (FT.out.less (by omega)) a.n a.s AO.out.s).mono ?_); rintro e w2 ⟨rfl, c1, e1, ht⟩; have TC := Lib.hid ht; clear ht; obtain ⟨x0, x1, x2, x3, x4, x6⟩ := TC.out.act.arr; have xz := TC.out.act.lt) | (go_at_call 22; (refine (disk_Down gd (L.append a.n a.s).D _ _ TC.out.p.disk).mono ?_); rintro e w2 ⟨rfl, rfl⟩; rw [hdw]) | (go_at_call 19; (refine (tri_Commit TC.out (append_ok OK.out _ _) ((append_fit (k := K + 1004) (FT.out.less (by omega)) a.n a.s).less (by omega)) a.n a.s 3).mono ?_); rintro e w2 ⟨rfl, b1, n1, n2, ht⟩; have TC := Lib.hid ht; clear ht; obtain ⟨x0, x1, x2, x3, x4, x6⟩ := TC.out.act.arr; have xz := TC.out.act.lt) | (go_at_call 32; (refine (triq_Commit TC.out (append_ok OK.out _ _) ((append_fit (k := K + 1004) (FT.out.less (by omega)) a.n a.s).less (by omega)) a.n a.s 3 AO.out.s).mono ?_); rintro e w2 ⟨rfl, c1, e1, ht⟩; have TC := Lib.hid ht; clear ht; obtain ⟨x0, x1, x2, x3, x4, x6⟩ := TC.out.act.arr; have xz := TC.out.act.lt) | (go_at_call 27; refine (law_numS _ _).mono ?_; rintro e w1 ⟨rfl, rfl⟩))
              go_wp2_with fail
              go_meet
              exact ⟨rfl, ((L.append a.n a.s).commit a.n a.s 3), _, _, _, _, _, _, _, rfl, rfl, TC.out, commit_ok (append_ok OK.out _ _) _ _ _, commit_fit (append_fit (k := K + 1004) (FT.out.less (by omega)) _ _) _ _ _⟩
        · as_aux_lemma =>
            have TC := Lib.hid T0.out
            obtain ⟨x0, x1, x2, x3, x4, x6⟩ := TC.out.act.arr
            have xz := TC.out.act.lt
            obtain ⟨kk, hkk⟩ : ∃ k, a.kind = k := ⟨_, rfl⟩
            rw [hkk] at x0 k1 k2 k3 k4 k5 k6 k7 k8
            have e1 : (kk == 1) = false := beq_eq_false_iff_ne.2 k1
            have e2 : (kk == 2) = false := beq_eq_false_iff_ne.2 k2
            have e3 : (kk == 3) = false := beq_eq_false_iff_ne.2 k3
            have e4 : (kk == 4) = false := beq_eq_false_iff_ne.2 k4
            have e5 : (kk == 5) = false := beq_eq_false_iff_ne.2 k5
            have e6 : (kk == 6) = false := beq_eq_false_iff_ne.2 k6
            have e7 : (kk == 7) = false := beq_eq_false_iff_ne.2 k7
            have e8 : (kk == 8) = false := beq_eq_false_iff_ne.2 k8
            clear k1 k2 k3 k4 k5 k6 k7 k8
            go_wp2_with fail
            go_meet
            exact ⟨rfl, L, _, _, _, _, _, _, _, rfl, rfl, TC.out, OK.out, FT.out.less (by omega)⟩
      case rest =>
        as_aux_lemma =>
          obtain ⟨rfl, L1, b, g, m1, m2, c, r, d, rfl, rfl, hT, hok, hft⟩ := hcut
          have P0 := Lib.hid hT
          have TC := Lib.hid hT
          have OK1 := Lib.hid hok
          have FT1 := Lib.hid hft
          clear hT hok hft
          obtain ⟨x0, x1, x2, x3, x4, x6⟩ := TC.out.act.arr
          have xz := TC.out.act.lt
          obtain ⟨Ar, kr, y1, _, _⟩ := TC.out.q.frames
          have yz := TC.out.q.cells.2.2.2.2.2.1
          have TD := Lib.hid (fun w1 (h1 : Tri w w1 b gd g m1 m2 c rd r d wr.heap.size a L1 L1) => disk_Down gd L1.D b w1 h1.p.disk)
          have TP := Lib.hid (fun w1 (h1 : Tri w w1 b gd g m1 m2 c rd r d wr.heap.size a L1 L1) => wal_Pages b gd g m1 m2 L1.rw w1 h1.p)
          have TF := Lib.hid (fun w1 (h1 : Tri w w1 b gd g m1 m2 c rd r d wr.heap.size a L1 L1) => wal_Frames b gd g m1 m2 L1.rw w1 h1.p)
          have TQ := Lib.hid (fun w1 (h1 : Tri w w1 b gd g m1 m2 c rd r d wr.heap.size a L1 L1) => ref_Pages c rd r d L1 w1 h1.q)
          rw [show L1.rw.kp = L1.pages from rfl] at TP
          rw [show L1.rw.nf = L1.fs.length from rfl] at TF
          obtain ⟨pg, hpg⟩ : ∃ x, L1.pages = x := ⟨_, rfl⟩
          obtain ⟨fl, hfl⟩ : ∃ x, L1.fs.length = x := ⟨_, rfl⟩
          rw [hpg] at TP TQ
          rw [hfl] at TF y1
          clear hpg hfl
          cases hdw : L1.D.down with
          | true =>
            rw [hdw] at TD
            have DW := Lib.hid hdw
            clear hdw
            go_wp2_with fail
            refine wp_region_cls (wc) (by kernel_rfl) (by kernel_rfl) (Cls.start _) ?_
            repeat
              first
                | go_big_quiet_skip
                | (go_big_quiet_want; (first | go_big_quiet_op | go_simp); first | go_big_quiet_on | (apply Exists.intro; refine ⟨fun w' hw' => ?_, ?_⟩; (· (first | (with_reducible exact rfl) | (first | (go_at_call 22; (with_reducible refine (TD.out _ (P0.out.step hw'.bel)).mono ?_); rintro e w9 ⟨rfl, rfl⟩; exact ⟨rfl, hw'⟩) | (go_at_call 37; (with_reducible refine (TP.out _ (P0.out.step hw'.bel)).mono ?_); rintro e w9 ⟨rfl, rfl⟩; exact ⟨rfl, hw'⟩) | (go_at_call 39; (with_reducible refine (TF.out _ (P0.out.step hw'.bel)).mono ?_); rintro e w9 ⟨rfl, rfl⟩; exact ⟨rfl, hw'⟩) | (go_at_call 38; (with_reducible refine (TQ.out _ (P0.out.step hw'.bel)).mono ?_); rintro e w9 ⟨rfl, rfl⟩; exact ⟨rfl, hw'⟩)) | (obtain ⟨hc, hf⟩ := hw'.facts; go_simp; first | done | (with_reducible exact rfl) | (with_reducible exact ⟨rfl, rfl⟩)))); go_big_quiet_on))
            refine wpQuiet_nil ?_
            intro wq hq
            have TC := Lib.hid (P0.out.step hq.bel)
            have BQ := Lib.hid hq.bel
            clear hq y1 yz x0 x1 x2 x3 x4 x6 xz
            obtain ⟨x0, x1, x2, x3, x4, x6⟩ := TC.out.act.arr
            have xz := TC.out.act.lt
            have TDD := Lib.hid (fun b1 w1 (h1 : DP w1 b1 gd L1.D) => disk_Down gd L1.D b1 w1 h1)
            rw [DW.out] at TDD
            go_wp2_with (first | (go_at_call 11; (refine (law_files w gd rd _ _ L1.D _ TC.out.two OK1.out.disk (by have := (FT1.out).waits; omega)).mono ?_); rintro e w2 ⟨rfl, hb⟩; have TC := Lib.hid (TC.out.step hb); clear hb; obtain ⟨x0, x1, x2, x3, x4, x6⟩ := TC.out.act.arr; have xz := TC.out.act.lt) | (go_at_call 22; (with_reducible refine (TDD.out _ _ TC.out.p.disk).mono ?_); rintro e w9 ⟨rfl, rfl⟩) | (go_at_call 23; (refine (disk_Crash gd L1.D _ a.kA a.kn a.kc a.ks _ TC.out.p.disk OK1.out.disk (by have := (FT1.out).waits; omega) (AO.out.below TC.out.bel).keep (by have := AO.out.len; omega) (fun h0 j hj h2 => by have := AO.out.lt h0 j hj; have := TC.out.low1 j (List.mem_append_left _ h2); omega)).mono ?_); rintro e w2 ⟨rfl, b1, hd2, ht2⟩; obtain ⟨q1, q2⟩ := TC.out.p.onDisk hd2 ht2; have TC := Lib.hid (TC.out.lr (L' := { L1 with D := L1.D.crash a.ks }) q1 q2); clear hd2 ht2 q1 q2; obtain ⟨x0, x1, x2, x3, x4, x6⟩ := TC.out.act.arr; have xz := TC.out.act.lt) | (go_at_call 36; (refine (refd_Crash rd L1.D _ a.kA a.kn a.kc a.ks _ TC.out.q.disk OK1.out.disk (by have := (FT1.out).waits; omega) (AO.out.below TC.out.bel).keep (by have := AO.out.len; omega) (fun h0 j hj h2 => by have := AO.out.lt h0 j hj; have := TC.out.low2 j (List.mem_append_left _ h2); omega)).mono ?_); rintro e w2 ⟨rfl, c1, hd2, ht2⟩; obtain ⟨q1, q2⟩ := TC.out.q.onDisk hd2 ht2; have TC := Lib.hid (TC.out.lq q1 q2); clear hd2 ht2 q1 q2; obtain ⟨x0, x1, x2, x3, x4, x6⟩ := TC.out.act.arr; have xz := TC.out.act.lt) | (go_at_call 12; (refine (wal_Open _ gd (L1.D.crash a.ks) _ TC.out.p.disk ((crash_fit (FT1.out) a.ks).less (by omega)) (crash_calm _ _)).mono ?_); rintro e w2 ⟨g1, b1, n1, n2, rfl, q1, q2⟩; have TC := Lib.hid (TC.out.lr q1 (q2.widen _)); clear q1 q2; obtain ⟨x0, x1, x2, x3, x4, x6⟩ := TC.out.act.arr; have xz := TC.out.act.lt) | (go_at_call 26; (refine (ref_OpenLog _ rd (L1.D.crash a.ks) _ TC.out.q.disk ((crash_fit (FT1.out) a.ks).less (by omega)) (crash_calm _ _)).mono ?_); rintro e w2 ⟨r1, c1, e1, rfl, q1, q2⟩; have TC := Lib.hid (TC.out.lq q1 (q2.widen _)); clear q1 q2; obtain ⟨x0, x1, x2, x3, x4, x6⟩ := TC.out.act.arr; have xz := TC.out.act.lt) | (go_at_call 11; (refine (law_files w gd rd _ _ (Lg.opened (L1.D.crash a.ks)).D _ TC.out.two (opened_ok (Dk.crash_ok OK1.out.disk _)).disk (by have := (opened_fit (k := K) ((crash_fit FT1.out a.ks).less (by omega))).waits; omega)).mono ?_); rintro e w2 ⟨rfl, hb⟩; have TC := Lib.hid (TC.out.step hb); clear hb; obtain ⟨x0, x1, x2, x3, x4, x6⟩ := TC.out.act.arr; have xz := TC.out.act.lt) | (go_at_call 27; refine (law_numS _ _).mono ?_; rintro e w1 ⟨rfl, rfl⟩))
            go_roundw
            case rel => exact ⟨i + 1, Lg.opened (L1.D.crash a.ks), _, _, _, _, _, _, _, by omega, by simp, rfl, rfl, TC.out.duo, opened_ok (Dk.crash_ok OK1.out.disk _), (opened_calm (crash_calm _ _)).1, (opened_fit (k := K) ((crash_fit FT1.out a.ks).less (by omega))).less (by omega)⟩
            case measure => simp [intOf]; omega
          | false =>
            rw [hdw] at TD
            have DW := Lib.hid hdw
            clear hdw
            go_wp2_with fail
            refine wp_region_cls (wc) (by kernel_rfl) (by kernel_rfl) (Cls.start _) ?_
            repeat
              first
                | go_big_quiet_skip
                | (go_big_quiet_want; (first | go_big_quiet_op | go_simp); first | go_big_quiet_on | (apply Exists.intro; refine ⟨fun w' hw' => ?_, ?_⟩; (· (first | (with_reducible exact rfl) | (first | (go_at_call 22; (with_reducible refine (TD.out _ (P0.out.step hw'.bel)).mono ?_); rintro e w9 ⟨rfl, rfl⟩; exact ⟨rfl, hw'⟩) | (go_at_call 37; (with_reducible refine (TP.out _ (P0.out.step hw'.bel)).mono ?_); rintro e w9 ⟨rfl, rfl⟩; exact ⟨rfl, hw'⟩) | (go_at_call 39; (with_reducible refine (TF.out _ (P0.out.step hw'.bel)).mono ?_); rintro e w9 ⟨rfl, rfl⟩; exact ⟨rfl, hw'⟩) | (go_at_call 38; (with_reducible refine (TQ.out _ (P0.out.step hw'.bel)).mono ?_); rintro e w9 ⟨rfl, rfl⟩; exact ⟨rfl, hw'⟩)) | (obtain ⟨hc, hf⟩ := hw'.facts; go_simp; first | done | (with_reducible exact rfl) | (with_reducible exact ⟨rfl, rfl⟩)))); go_big_quiet_on))
            refine wpQuiet_nil ?_
            intro wq hq
            have TC := Lib.hid (P0.out.step hq.bel)
            clear hq y1 yz x0 x1 x2 x3 x4 x6 xz
            obtain ⟨x0, x1, x2, x3, x4, x6⟩ := TC.out.act.arr
            have xz := TC.out.act.lt
            have TDD := Lib.hid (fun b1 w1 (h1 : DP w1 b1 gd L1.D) => disk_Down gd L1.D b1 w1 h1)
            rw [DW.out] at TDD
            go_wp2_with (first | (go_at_call 11; (refine (law_files w gd rd _ _ L1.D _ TC.out.two OK1.out.disk (by have := (FT1.out).waits; omega)).mono ?_); rintro e w2 ⟨rfl, hb⟩; have TC := Lib.hid (TC.out.step hb); clear hb; obtain ⟨x0, x1, x2, x3, x4, x6⟩ := TC.out.act.arr; have xz := TC.out.act.lt) | (go_at_call 22; (with_reducible refine (TDD.out _ _ TC.out.p.disk).mono ?_); rintro e w9 ⟨rfl, rfl⟩))
            go_roundw
            case rel => exact ⟨i + 1, L1, _, _, _, _, _, _, _, by omega, by simp, rfl, rfl, TC.out.duo, OK1.out, DW.out, FT1.out.less (by omega)⟩
            case measure => simp [intOf]; omega
    · obtain rfl : i = N := by omega
      go_wp2_with fail
      go_ret
      exact ⟨rfl, HT.out.bel⟩

end Go.Proofs.Ytjihboddejaelaa
