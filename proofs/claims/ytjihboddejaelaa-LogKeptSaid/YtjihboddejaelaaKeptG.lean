/-
  The law LogKept.
-/
import Derived.Test.YtjihboddejaelaaKeptF
import Derived.Deep.CutBlock
import Derived.Deep.DeepCutAuto
import Derived.Deep.RegionHeld3
import Derived.BigQuiet
namespace Go.Proofs.Ytjihboddejaelaa
open Go.RowKit
open Go.BigFrame
open Go.Maps
set_option linter.unusedVariables false
set_option linter.unusedSimpArgs false

theorem new_plain : Dk.new = plainD [] [] (-1) 0 := rfl
/-- where the loop ends -/
def EndOf (w0 w : World) (gd g kb yb : Nat) (E : Int) : Prop :=
  ∃ (b : List (Option Nat)) (m1 m2 c : Nat) (L : Lg) (K M : Nat → Option ByteArray), KW w0 w b gd g m1 m2 L kb yb c K M ∧ L.ok ∧ Fit L.D 1000 ∧ (E ≠ 0 → L.D.down = true) ∧ Tot L.D K M
structure Going (w0 w : World) (gd g kb nb i : Nat) (b : List (Option Nat)) (m1 m2 : Nat) (L : Lg) (K N : Nat → Option ByteArray) : Prop where
  kw : KW w0 w b gd g m1 m2 L kb nb i K N
  inv : Inv L K N
  up : L.D.down = false
  fit : Fit L.D ((251 - i) * 100000)
  len : L.fs.length ≤ i
theorem Going.ends {w0 w : World} {gd g kb nb i : Nat} {b : List (Option Nat)} {m1 m2 : Nat} {L : Lg} {K N : Nat → Option ByteArray} (h : Going w0 w gd g kb nb i b m1 m2 L K N) (hi : i ≤ 250) : EndOf w0 w gd g kb kb 0 :=
  ⟨b, m1, m2, i, L, K, K, h.kw.backNow, h.inv.safe.ok, h.fit.less (by omega), fun h => absurd rfl h, h.inv.tot⟩

/-- a disk in the blocks b, and two maps apart from it -/
structure Hd (w0 w : World) (b : List (Option Nat)) (kb yb c : Nat) (K M : Nat → Option ByteArray) : Prop where
  low : ∀ k, some k ∈ b → w0.heap.size ≤ k
  bel : Below w0.heap.size w0 w
  mK : MS w kb c (lift K)
  mM : MS w yb c (lift M)
  offk : some kb ∉ b
  offy : some yb ∉ b
theorem Hd.turn {w0 w w' : World} {b b' : List (Option Nat)} {kb yb c : Nat} {K M : Nat → Option ByteArray} (h : Hd w0 w b kb yb c K M) (ht : Turn b b' w w') : Hd w0 w' b' kb yb c K M :=
  ⟨ht.low h.low h.bel.size, ht.bel h.bel h.low h.bel.size, h.mK.turn ht h.offk, h.mM.turn ht h.offy, ht.not h.mK.lt h.offk, ht.not h.mM.lt h.offy⟩
theorem Hd.less {w0 w : World} {b b' : List (Option Nat)} {kb yb c : Nat} {K M : Nat → Option ByteArray} (h : Hd w0 w b kb yb c K M) (hs : ∀ k, some k ∈ b' → some k ∈ b) : Hd w0 w b' kb yb c K M :=
  ⟨fun k hk => h.low k (hs k hk), h.bel, h.mK, h.mM, fun h2 => h.offk (hs _ h2), fun h2 => h.offy (hs _ h2)⟩
theorem Hd.fresh {w0 w w' : World} {b b' : List (Option Nat)} {kb yb c : Nat} {K M : Nat → Option ByteArray} (h : Hd w0 w b kb yb c K M) (ht : Turn [] b' w w') : Hd w0 w' b' kb yb c K M :=
  ⟨fun k hk => Nat.le_trans h.bel.size (ht.newN k hk), bel_step h.bel ht.belowN h.bel.size, h.mK.below ht.belowN, h.mM.below ht.belowN, fun h2 => by have := ht.newN _ h2; have := h.mK.lt; omega, fun h2 => by have := ht.newN _ h2; have := h.mM.lt; omega⟩
theorem KW.hd {w0 w : World} {b : List (Option Nat)} {gd g m1 m2 kb nb c : Nat} {L : Lg} {K N : Nat → Option ByteArray} (h : KW w0 w b gd g m1 m2 L kb nb c K N) : Hd w0 w b kb nb c K N :=
  ⟨fun k hk => h.low k (List.mem_append_left _ hk), h.bel, h.mK, h.mN, fun h2 => h.offk (List.mem_append_left _ h2), fun h2 => h.offn (List.mem_append_left _ h2)⟩
theorem fits_of {l0 l1 : List UInt8} {K : Nat → Option ByteArray} (h : TellsL l0 l1 K) (hok : (Lg.opened (plainD l0 l1 (-1) 4)).ok) (hd : (Lg.opened (plainD l0 l1 (-1) 4)).D.down = false) (k : Nat) (hk : k < 6) : FitP (lift K k) ((Lg.opened (plainD l0 l1 (-1) 4)).rw.readE k) ((Lg.opened (plainD l0 l1 (-1) 4)).rw.readS k) := by
  have := tells_reads h 4 k hk
  obtain ⟨e1, e2⟩ := rw_read hok hd k
  rw [e1, e2] at this
  rw [lift_nat]; exact this

set_option maxRecDepth 100000 in
set_option maxHeartbeats 100000000 in
theorem law_LogKept (A : Option Addr) (n c : Nat) (acts : List ActK) (fails again : Int) (KA : Option Addr) (kn kc : Nat) (ks : List Int) (w : World) (h : KS w A n acts) (hc : n ≤ c) (hf : in64 fails) (ha : in64 again) (hK : IS w KA kn ks) (hKb : 0 < kn → ∀ k, blkOf KA = some k → k < w.heap.size) (hkn : kn ≤ 9223372036854775807) :
    Calls Try.prog 4 #[.slice A n c, .int .i64 fails, .int .i64 again, .slice KA kn kc] w fun e w' => e = .returned (.bool true) ∧ Below w.heap.size w w' := by
  have HA := Lib.hid (h.take (k := min n 250) (by omega))
  have TS := Lib.hid (fun w1 => keep_short A n c hc w1)
  have PF := Lib.hid (fun w1 => keep_pick fails 60 hf (by omega) (by omega) w1)
  have PA := Lib.hid (fun w1 => keep_pick again 8 ha (by omega) (by omega) w1)
  rw [show ((60 : Nat) : Int) = 60 from rfl] at PF
  rw [show ((8 : Nat) : Int) = 8 from rfl] at PA
  obtain ⟨pf, hpf⟩ : ∃ p, pickN fails 60 = p := ⟨_, rfl⟩
  obtain ⟨pa, hpa⟩ : ∃ p, pickN again 8 = p := ⟨_, rfl⟩
  have PF1 := Lib.hid (show pf < 60 from hpf ▸ pickN_lt fails (by omega))
  have PA1 := Lib.hid (show pa < 8 from hpa ▸ pickN_lt again (by omega))
  rw [hpf] at PF
  rw [hpa] at PA
  obtain ⟨N, hN⟩ : ∃ N, min n 250 = N := ⟨_, rfl⟩
  have hN2 : N ≤ 250 := by omega
  obtain ⟨al, has⟩ : ∃ al, acts.take (min n 250) = al := ⟨_, rfl⟩
  rw [has] at HA
  rw [hN] at HA TS
  have HK := Lib.hid hK
  have HKB := Lib.hid hKb
  have HKN := Lib.hid hkn
  have hmm := make_mapS
  clear h hc hN has hf ha hK hKb hkn hpf hpa
  go_enter Try.func4, Try.ntmps4
  go_wp2_with fail
  refine (disk_New w).mono ?_
  rintro e w1 ⟨gd, b0, rfl, hp, ht1⟩
  have OP := Lib.hid (wal_Open b0 gd Dk.new w1 hp (new_fit.less (by omega)) ⟨rfl, rfl⟩)
  have IV := Lib.hid (inv_start 0)
  have HP0 := Lib.hid hp; have HT1 := Lib.hid ht1
  have L0D := Lib.hid (opened_calm (D := Dk.new) ⟨rfl, rfl⟩)
  have L0F := Lib.hid (opened_fit (k := 252 * 100000) (new_fit.less (by omega)))
  have L0E := Lib.hid (show (Lg.opened (plainD [] [] (-1) 0)).fs.length ≤ 0 by rw [start_eq]; exact Nat.le_refl _)
  rw [← new_plain] at IV L0E
  obtain ⟨L0, hL0⟩ : ∃ L, Lg.opened Dk.new = L := ⟨_, rfl⟩
  rw [hL0] at OP IV L0D L0F L0E
  clear hp ht1 hL0
  go_upto_region 8 with (first
    | (go_at_call 12; (with_reducible refine OP.out.mono ?_); rintro e w3 ⟨g, b1, m1, m2, rfl, hl3, ht3⟩; have HL3 := Lib.hid hl3; have HT3 := Lib.hid (HT1.out.trans ht3); clear hl3 ht3)
    | (go_at_call 14; refine (PF.out _).mono ?_; rintro e w1 ⟨rfl, rfl⟩)
    | (go_at_call 13; (refine (disk_Fail gd _ _ _ _ HL3.out.disk).mono ?_); rintro e w4 ⟨rfl, b2, hd4, ht4⟩; obtain ⟨hl4, hu4⟩ := HL3.out.onDisk hd4 ht4; have HL4 := Lib.hid hl4; have HT4 := Lib.hid (HT3.out.trans hu4); clear hd4 ht4 hl4 hu4))
  have ST := Lib.hid (show Going w ((w4.alloc (.map #[] 0)).alloc (.map #[] 0)) gd g w4.heap.size (w4.heap.size + 1) 0 b2 m1 m2 ({ L0 with D := L0.D.fail pf } : Lg) nothing nothing from by
    have hb1 := (Below.refl w4.heap.size w4).alloc (Nat.le_refl _) (.map #[] 0)
    have hb2 : Below w4.heap.size w4 ((w4.alloc (.map #[] 0)).alloc (.map #[] 0)) := hb1.alloc (by simp) _
    have k1 : MS ((w4.alloc (.map #[] 0)).alloc (.map #[] 0)) w4.heap.size 0 (lift nothing) := by
      rw [lift_nothing]; exact (MS.made w4).below ((Below.refl _ _).alloc (Nat.le_refl _) _)
    have k2 : MS ((w4.alloc (.map #[] 0)).alloc (.map #[] 0)) (w4.heap.size + 1) 0 (lift nothing) := by
      rw [lift_nothing]
      have := MS.made (w4.alloc (.map #[] 0))
      rw [World.size_alloc] at this
      exact this
    exact ⟨⟨HL4.out.below hb2, HT4.out.newN, bel_step HT4.out.belowN hb2 HT4.out.size, k1, k2, fun h2 => by have := HL4.out.lt h2; omega, fun h2 => by have := HL4.out.lt h2; omega⟩,
      inv_fail IV.out (by have := PF1.out; omega), L0D.out.1, fail_fit (L0F.out.less (by omega)) (by have := PF1.out; omega), L0E.out⟩)
  clear HP0 HT1 OP IV L0D L0F L0E HL3 HT3 HL4 HT4
  go_upto_block 0 with (go_at_call 15; (with_reducible refine (TS.out _).mono ?_); rintro e w5 ⟨rfl, rfl⟩)
  generalize (w4.alloc (.map #[] 0)).alloc (.map #[] 0) = W at *
  go_cut [11, 12, 13, 14, 16, 17, 18] from 45 to 101 (fun v11 v12 v13 _ _ _ _ wx => ∃ (kb yb : Nat) (E : Int), v11 = .int .i64 E ∧ v12 = .map (some kb) ∧ v13 = .map (some yb) ∧ EndOf w wx gd g kb yb E)
  case first =>
    go_wp2_with fail
    go_loopw [11, 12, 13, 14, 45] (fun v11 v12 v13 v14 v45 wr => ∃ (i kb nb : Nat) (b : List (Option Nat)) (m1 m2 : Nat) (L : Lg) (K N' : Nat → Option ByteArray), i ≤ N ∧ v45 = .int .i64 i ∧ v11 = .int .i64 0 ∧ v12 = .map (some kb) ∧ v13 = .map (some kb) ∧ v14 = .map (some nb) ∧ Going w wr gd g kb nb i b m1 m2 L K N') (fun _ _ _ _ v45 _ => N - (intOf v45).toNat)
    case atStart => exact ⟨0, _, _, _, _, _, _, _, _, Nat.zero_le _, rfl, rfl, rfl, rfl, rfl, ST.out⟩
    case round =>
      clear ST hmm
      obtain ⟨i, kb, nb, b, m1', m2', L, K, N', hi, rfl, rfl, rfl, rfl, rfl, hG⟩ := hrel
      have HG := Lib.hid hG
      clear hG
      by_cases hin : i < N
      · obtain ⟨k, off, rfl, hk, hcell⟩ := HA.out.cells (by omega)
        have hl : i < al.length := by rw [HA.out.len]; exact hin
        have hcell2 := hcell i al[i] (by simp [hl])
        have AO := Lib.hid (HA.out.ok al[i] (List.getElem_mem hl))
        obtain ⟨a, ha⟩ : ∃ a, al[i] = a := ⟨_, rfl⟩
        rw [ha] at hcell2 AO
        obtain ⟨wcl, wfl⟩ := bcell HG.out.kw.bel
        have d0 : wr.cell? ⟨k, off + i * 6, none⟩ = some (.int .i64 a.kind) := (wcl k (off + i * 6 + 0) hk).trans (hcell2 0 _ rfl)
        have d1 : wr.cell? ⟨k, off + i * 6 + 1, none⟩ = some (.int .i64 a.f) := (wcl k (off + i * 6 + 1) hk).trans (hcell2 1 _ rfl)
        have d2 : wr.cell? ⟨k, off + i * 6 + 2, none⟩ = some (.int .i64 a.at_) := (wcl k (off + i * 6 + 2) hk).trans (hcell2 2 _ rfl)
        have d3 : wr.cell? ⟨k, off + i * 6 + 3, none⟩ = some (.int .i64 a.n) := (wcl k (off + i * 6 + 3) hk).trans (hcell2 3 _ rfl)
        have d4 : wr.cell? ⟨k, off + i * 6 + 4, none⟩ = some (.string a.s) := (wcl k (off + i * 6 + 4) hk).trans (hcell2 4 _ rfl)
        have d5 : wr.cell? ⟨k, off + i * 6 + 5, none⟩ = some (.string a.t) := (wcl k (off + i * 6 + 5) hk).trans (hcell2 5 _ rfl)
        have zz : k < wr.heap.size := by have := HG.out.kw.bel.size; omega
        have PN := Lib.hid (fun w1 => keep_pick a.n 6 AO.out.n (by omega) (by omega) w1)
        have PK := Lib.hid (fun w1 => keep_pick a.kind 8 AO.out.kind (by omega) (by omega) w1)
        rw [show ((6 : Nat) : Int) = 6 from rfl] at PN
        rw [show ((8 : Nat) : Int) = 8 from rfl] at PK
        obtain ⟨pn, hpn⟩ : ∃ p, pickN a.n 6 = p := ⟨_, rfl⟩
        obtain ⟨pk, hpk⟩ : ∃ p, pickN a.kind 8 = p := ⟨_, rfl⟩
        have PN1 := Lib.hid (show pn < 6 from hpn ▸ pickN_lt a.n (by omega))
        have hpk8 : pk < 8 := hpk ▸ pickN_lt a.kind (by omega)
        rw [hpn] at PN
        rw [hpk] at PK
        have SH := Lib.hid (fun w1 => keep_sheet a.at_ w1)
        obtain ⟨S, hS⟩ : ∃ S, sheetB a.at_ = S := ⟨_, rfl⟩
        have SZ := Lib.hid (show S.size = 1024 from hS ▸ sheetB_size a.at_)
        rw [hS] at SH
        have HB := Lib.hid (Has.new wr 45 #[.int .i64 a.kind, .int .i64 a.f, .int .i64 a.at_, .int .i64 a.n, .string a.s, .string a.t])
        have y0 := HB.out.cell 0
        have y2 := HB.out.cell 2
        have y3 := HB.out.cell 3
        simp only [List.getElem?_toArray, List.getElem?_cons_zero, List.getElem?_cons_succ] at y0 y2 y3
        have T0 := Lib.hid (HG.out.kw.step ((Below.refl _ _).alloc (Nat.le_refl _) (.cells #[.int .i64 a.kind, .int .i64 a.f, .int .i64 a.at_, .int .i64 a.n, .string a.s, .string a.t] 45)))
        have BW := Lib.hid (show wr.heap.size < (wr.alloc (.cells #[.int .i64 a.kind, .int .i64 a.f, .int .i64 a.at_, .int .i64 a.n, .string a.s, .string a.t] 45)).heap.size by simp)
        clear hcell hcell2 ha wcl wfl hl hpn hpk hS
        go_wp2_with fail
        generalize (wr.alloc (.cells #[.int .i64 a.kind, .int .i64 a.f, .int .i64 a.at_, .int .i64 a.n, .string a.s, .string a.t] 45)) = W2 at *
        have bw := BW.out
        refine wp_region_cls (W2) (by kernel_rfl) (by kernel_rfl) (Cls.start _) ?_
        repeat
          first
            | go_big_quiet_skip
            | (go_big_quiet_want; (first | go_big_quiet_op | go_simp); first | go_big_quiet_on | (apply Exists.intro; refine ⟨fun w' hw' => ?_, ?_⟩; (· (first | (with_reducible exact rfl) | (first | (go_at_call 14; (with_reducible refine (PN.out _).mono ?_); rintro e w1 ⟨rfl, rfl⟩; exact ⟨rfl, hw'⟩) | (go_at_call 16; (with_reducible refine (SH.out _).mono ?_); rintro e w1 ⟨rfl, hb⟩; exact ⟨rfl, Cls.step hw' hb⟩)) | (obtain ⟨hc, hf⟩ := hw'.facts; go_simp; first | done | (with_reducible exact rfl) | (with_reducible exact ⟨rfl, rfl⟩)))); go_big_quiet_on))
        refine wpQuiet_nil ?_
        intro wq hq
        have TW := Lib.hid (T0.out.step hq.bel)
        have z0 : wq.cell? ⟨wr.heap.size, 0, none⟩ = some (.int .i64 a.kind) := (hq.facts.1 wr.heap.size 0 BW.out).trans y0
        clear y0 y2 y3 bw d0 d1 d2 d3 d4 d5 zz
        have ok := HG.out.inv.safe.ok
        have ft := HG.out.fit
        have F1 := Lib.hid (show Fit L.D ((250 - i) * 100000 + 70000) from HG.out.fit.less (by omega))
        have I1 := Lib.hid (show i < 250 by omega)
        have L1 := Lib.hid (show L.fs.length ≤ 1000 by have := HG.out.len; omega)
        have WT := Lib.hid (fun w1 b1 n1 n2 L1 nb1 K1 N1 (h1 : KW w w1 b1 gd g n1 n2 L1 kb nb1 i K1 N1) => kw_with h1 (by have := I1.out; omega) pn (by have := PN1.out; omega) S (by have := SZ.out; unfold maxLen; omega))
        clear ok ft
        by_cases k0 : pk = 0
        · as_aux_lemma =>
            subst k0
            rw [show ((0 : Nat) : Int) = 0 from rfl] at PK
            clear hpk8
            have AP := Lib.hid (fun w1 (h1 : KW w w1 b gd g m1' m2' L kb nb i K N') => kw_Append h1 HG.out.inv.safe.ok (HG.out.fit.less (by have := I1.out; omega)) (pn : Int) S)
            by_cases e0 : L.appendE (pn : Int) S = 0
            · have E0 := Lib.hid e0
              rw [e0] at AP
              clear e0
              go_wp2_with (first
                | (go_at_call 14; refine (PK.out _).mono ?_; rintro e w1 ⟨rfl, rfl⟩)
                | (go_at_call 17; (with_reducible refine (AP.out _ TW.out).mono ?_); rintro e w6 ⟨rfl, b6, m61, m62, h6⟩; have H6 := Lib.hid h6; clear h6)
                | (go_at_call 18; (refine (WT.out _ _ _ _ _ _ _ _ H6.out).mono ?_); rintro e w7 ⟨nb2, rfl, h7⟩; have H7 := Lib.hid h7; clear h7))
              go_roundw
              case rel =>
                obtain ⟨v1, v2⟩ := (append_inv HG.out.inv L1.out PN1.out SZ.out).1 E0.out
                exact ⟨i + 1, kb, nb2, b6, m61, m62, _, K, _, by omega, by simp, rfl, rfl, rfl, rfl, ⟨H7.out, v1, append_up HG.out.inv.safe.ok L1.out PN1.out SZ.out E0.out, append_fit (F1.out.less (by have := I1.out; omega)) _ _, by have := HG.out.len; omega⟩⟩
              case measure => simp [intOf]; omega
            · obtain ⟨E, hE⟩ : ∃ E, L.appendE (pn : Int) S = E := ⟨_, rfl⟩
              have E0 := Lib.hid e0
              rw [hE] at AP
              have n1 : (E == 0) = false := by rw [hE] at e0; simpa using e0
              have n2 : (E != 0) = true := by rw [hE] at e0; simpa using e0
              clear e0 hE
              go_wp2_with (first
                | (go_at_call 14; refine (PK.out _).mono ?_; rintro e w1 ⟨rfl, rfl⟩)
                | (go_at_call 17; (with_reducible refine (AP.out _ TW.out).mono ?_); rintro e w6 ⟨rfl, b6, m61, m62, h6⟩; have H6 := Lib.hid h6; clear h6)
                | (go_at_call 18; (refine (WT.out _ _ _ _ _ _ _ _ H6.out).mono ?_); rintro e w7 ⟨nb2, rfl, h7⟩; have H7 := Lib.hid h7; clear h7))
              go_meet
              obtain ⟨l1, l2⟩ := (append_inv HG.out.inv L1.out PN1.out SZ.out).2 E0.out
              exact ⟨kb, kb, E, rfl, rfl, rfl, ⟨b6, m61, m62, _, _, K, K, H7.out.backNow, append_ok HG.out.inv.safe.ok _ _, append_fit (F1.out.less (by have := I1.out; omega)) _ _, fun _ => l1, l2⟩⟩
        by_cases k1 : pk = 1
        · as_aux_lemma =>
            subst k1
            rw [show ((1 : Nat) : Int) = 1 from rfl] at PK
            clear k0
            clear hpk8
            have AP := Lib.hid (fun w1 (h1 : KW w w1 b gd g m1' m2' L kb nb i K N') => kw_Append h1 HG.out.inv.safe.ok (HG.out.fit.less (by have := I1.out; omega)) (pn : Int) S)
            by_cases e0 : L.appendE (pn : Int) S = 0
            · have E0 := Lib.hid e0
              rw [e0] at AP
              clear e0
              go_wp2_with (first
                | (go_at_call 14; refine (PK.out _).mono ?_; rintro e w1 ⟨rfl, rfl⟩)
                | (go_at_call 17; (with_reducible refine (AP.out _ TW.out).mono ?_); rintro e w6 ⟨rfl, b6, m61, m62, h6⟩; have H6 := Lib.hid h6; clear h6)
                | (go_at_call 18; (refine (WT.out _ _ _ _ _ _ _ _ H6.out).mono ?_); rintro e w7 ⟨nb2, rfl, h7⟩; have H7 := Lib.hid h7; clear h7))
              go_roundw
              case rel =>
                obtain ⟨v1, v2⟩ := (append_inv HG.out.inv L1.out PN1.out SZ.out).1 E0.out
                exact ⟨i + 1, kb, nb2, b6, m61, m62, _, K, _, by omega, by simp, rfl, rfl, rfl, rfl, ⟨H7.out, v1, append_up HG.out.inv.safe.ok L1.out PN1.out SZ.out E0.out, append_fit (F1.out.less (by have := I1.out; omega)) _ _, by have := HG.out.len; omega⟩⟩
              case measure => simp [intOf]; omega
            · obtain ⟨E, hE⟩ : ∃ E, L.appendE (pn : Int) S = E := ⟨_, rfl⟩
              have E0 := Lib.hid e0
              rw [hE] at AP
              have n1 : (E == 0) = false := by rw [hE] at e0; simpa using e0
              have n2 : (E != 0) = true := by rw [hE] at e0; simpa using e0
              clear e0 hE
              go_wp2_with (first
                | (go_at_call 14; refine (PK.out _).mono ?_; rintro e w1 ⟨rfl, rfl⟩)
                | (go_at_call 17; (with_reducible refine (AP.out _ TW.out).mono ?_); rintro e w6 ⟨rfl, b6, m61, m62, h6⟩; have H6 := Lib.hid h6; clear h6)
                | (go_at_call 18; (refine (WT.out _ _ _ _ _ _ _ _ H6.out).mono ?_); rintro e w7 ⟨nb2, rfl, h7⟩; have H7 := Lib.hid h7; clear h7))
              go_meet
              obtain ⟨l1, l2⟩ := (append_inv HG.out.inv L1.out PN1.out SZ.out).2 E0.out
              exact ⟨kb, kb, E, rfl, rfl, rfl, ⟨b6, m61, m62, _, _, K, K, H7.out.backNow, append_ok HG.out.inv.safe.ok _ _, append_fit (F1.out.less (by have := I1.out; omega)) _ _, fun _ => l1, l2⟩⟩
        by_cases k2 : pk = 2
        · as_aux_lemma =>
            subst k2
            rw [show ((2 : Nat) : Int) = 2 from rfl] at PK
            clear k0 k1
            clear hpk8
            have AP := Lib.hid (fun w1 (h1 : KW w w1 b gd g m1' m2' L kb nb i K N') => kw_Append h1 HG.out.inv.safe.ok (HG.out.fit.less (by have := I1.out; omega)) (pn : Int) S)
            by_cases e0 : L.appendE (pn : Int) S = 0
            · have E0 := Lib.hid e0
              rw [e0] at AP
              clear e0
              go_wp2_with (first
                | (go_at_call 14; refine (PK.out _).mono ?_; rintro e w1 ⟨rfl, rfl⟩)
                | (go_at_call 17; (with_reducible refine (AP.out _ TW.out).mono ?_); rintro e w6 ⟨rfl, b6, m61, m62, h6⟩; have H6 := Lib.hid h6; clear h6)
                | (go_at_call 18; (refine (WT.out _ _ _ _ _ _ _ _ H6.out).mono ?_); rintro e w7 ⟨nb2, rfl, h7⟩; have H7 := Lib.hid h7; clear h7))
              go_roundw
              case rel =>
                obtain ⟨v1, v2⟩ := (append_inv HG.out.inv L1.out PN1.out SZ.out).1 E0.out
                exact ⟨i + 1, kb, nb2, b6, m61, m62, _, K, _, by omega, by simp, rfl, rfl, rfl, rfl, ⟨H7.out, v1, append_up HG.out.inv.safe.ok L1.out PN1.out SZ.out E0.out, append_fit (F1.out.less (by have := I1.out; omega)) _ _, by have := HG.out.len; omega⟩⟩
              case measure => simp [intOf]; omega
            · obtain ⟨E, hE⟩ : ∃ E, L.appendE (pn : Int) S = E := ⟨_, rfl⟩
              have E0 := Lib.hid e0
              rw [hE] at AP
              have n1 : (E == 0) = false := by rw [hE] at e0; simpa using e0
              have n2 : (E != 0) = true := by rw [hE] at e0; simpa using e0
              clear e0 hE
              go_wp2_with (first
                | (go_at_call 14; refine (PK.out _).mono ?_; rintro e w1 ⟨rfl, rfl⟩)
                | (go_at_call 17; (with_reducible refine (AP.out _ TW.out).mono ?_); rintro e w6 ⟨rfl, b6, m61, m62, h6⟩; have H6 := Lib.hid h6; clear h6)
                | (go_at_call 18; (refine (WT.out _ _ _ _ _ _ _ _ H6.out).mono ?_); rintro e w7 ⟨nb2, rfl, h7⟩; have H7 := Lib.hid h7; clear h7))
              go_meet
              obtain ⟨l1, l2⟩ := (append_inv HG.out.inv L1.out PN1.out SZ.out).2 E0.out
              exact ⟨kb, kb, E, rfl, rfl, rfl, ⟨b6, m61, m62, _, _, K, K, H7.out.backNow, append_ok HG.out.inv.safe.ok _ _, append_fit (F1.out.less (by have := I1.out; omega)) _ _, fun _ => l1, l2⟩⟩
        by_cases k3 : pk = 3
        · as_aux_lemma =>
            subst k3
            rw [show ((3 : Nat) : Int) = 3 from rfl] at PK
            clear k0 k1 k2
            clear hpk8
            have CM := Lib.hid (fun w1 nb1 (h1 : KW w w1 b gd g m1' m2' L kb nb1 (i + 1) K (withP N' pn S)) => kw_Commit h1 HG.out.inv.safe.ok (HG.out.fit.less (by have := I1.out; omega)) (pn : Int) S 6)
            by_cases e0 : L.commitE (pn : Int) S 6 = 0
            · have E0 := Lib.hid e0
              rw [e0] at CM
              clear e0
              go_wp2_with (first
                | (go_at_call 14; refine (PK.out _).mono ?_; rintro e w1 ⟨rfl, rfl⟩)
                | (go_at_call 18; (refine (WT.out _ _ _ _ _ _ _ _ TW.out).mono ?_); rintro e w6 ⟨nb2, rfl, h6⟩; have H6 := Lib.hid h6; clear h6)
                | (go_at_call 19; (refine (CM.out _ _ H6.out).mono ?_); rintro e w7 ⟨rfl, b7, m71, m72, h7⟩; have H7 := Lib.hid h7; clear h7))
              go_roundw
              case rel =>
                obtain ⟨v1, v2⟩ := (commit_inv HG.out.inv L1.out PN1.out SZ.out).1 E0.out
                exact ⟨i + 1, nb2, nb2, b7, m71, m72, _, _, _, by omega, by simp, rfl, rfl, rfl, rfl, ⟨H7.out.keepNow, v1, commit_up E0.out, commit_fit (F1.out.less (by have := I1.out; omega)) _ _ _, by have := HG.out.len; omega⟩⟩
              case measure => simp [intOf]; omega
            · obtain ⟨E, hE⟩ : ∃ E, L.commitE (pn : Int) S 6 = E := ⟨_, rfl⟩
              have E0 := Lib.hid e0
              rw [hE] at CM
              have n1 : (E == 0) = false := by rw [hE] at e0; simpa using e0
              have n2 : (E != 0) = true := by rw [hE] at e0; simpa using e0
              clear e0 hE
              go_wp2_with (first
                | (go_at_call 14; refine (PK.out _).mono ?_; rintro e w1 ⟨rfl, rfl⟩)
                | (go_at_call 18; (refine (WT.out _ _ _ _ _ _ _ _ TW.out).mono ?_); rintro e w6 ⟨nb2, rfl, h6⟩; have H6 := Lib.hid h6; clear h6)
                | (go_at_call 19; (refine (CM.out _ _ H6.out).mono ?_); rintro e w7 ⟨rfl, b7, m71, m72, h7⟩; have H7 := Lib.hid h7; clear h7))
              go_meet
              obtain ⟨l1, l2⟩ := (commit_inv HG.out.inv L1.out PN1.out SZ.out).2 E0.out
              exact ⟨kb, nb2, E, rfl, rfl, rfl, ⟨b7, m71, m72, _, _, K, _, H7.out, commit_ok HG.out.inv.safe.ok _ _ _, commit_fit (F1.out.less (by have := I1.out; omega)) _ _ _, fun _ => l1, l2⟩⟩
        by_cases k4 : pk = 4
        · as_aux_lemma =>
            subst k4
            rw [show ((4 : Nat) : Int) = 4 from rfl] at PK
            clear k0 k1 k2 k3
            clear hpk8
            have CM := Lib.hid (fun w1 nb1 (h1 : KW w w1 b gd g m1' m2' L kb nb1 (i + 1) K (withP N' pn S)) => kw_Commit h1 HG.out.inv.safe.ok (HG.out.fit.less (by have := I1.out; omega)) (pn : Int) S 6)
            by_cases e0 : L.commitE (pn : Int) S 6 = 0
            · have E0 := Lib.hid e0
              rw [e0] at CM
              clear e0
              go_wp2_with (first
                | (go_at_call 14; refine (PK.out _).mono ?_; rintro e w1 ⟨rfl, rfl⟩)
                | (go_at_call 18; (refine (WT.out _ _ _ _ _ _ _ _ TW.out).mono ?_); rintro e w6 ⟨nb2, rfl, h6⟩; have H6 := Lib.hid h6; clear h6)
                | (go_at_call 19; (refine (CM.out _ _ H6.out).mono ?_); rintro e w7 ⟨rfl, b7, m71, m72, h7⟩; have H7 := Lib.hid h7; clear h7))
              go_roundw
              case rel =>
                obtain ⟨v1, v2⟩ := (commit_inv HG.out.inv L1.out PN1.out SZ.out).1 E0.out
                exact ⟨i + 1, nb2, nb2, b7, m71, m72, _, _, _, by omega, by simp, rfl, rfl, rfl, rfl, ⟨H7.out.keepNow, v1, commit_up E0.out, commit_fit (F1.out.less (by have := I1.out; omega)) _ _ _, by have := HG.out.len; omega⟩⟩
              case measure => simp [intOf]; omega
            · obtain ⟨E, hE⟩ : ∃ E, L.commitE (pn : Int) S 6 = E := ⟨_, rfl⟩
              have E0 := Lib.hid e0
              rw [hE] at CM
              have n1 : (E == 0) = false := by rw [hE] at e0; simpa using e0
              have n2 : (E != 0) = true := by rw [hE] at e0; simpa using e0
              clear e0 hE
              go_wp2_with (first
                | (go_at_call 14; refine (PK.out _).mono ?_; rintro e w1 ⟨rfl, rfl⟩)
                | (go_at_call 18; (refine (WT.out _ _ _ _ _ _ _ _ TW.out).mono ?_); rintro e w6 ⟨nb2, rfl, h6⟩; have H6 := Lib.hid h6; clear h6)
                | (go_at_call 19; (refine (CM.out _ _ H6.out).mono ?_); rintro e w7 ⟨rfl, b7, m71, m72, h7⟩; have H7 := Lib.hid h7; clear h7))
              go_meet
              obtain ⟨l1, l2⟩ := (commit_inv HG.out.inv L1.out PN1.out SZ.out).2 E0.out
              exact ⟨kb, nb2, E, rfl, rfl, rfl, ⟨b7, m71, m72, _, _, K, _, H7.out, commit_ok HG.out.inv.safe.ok _ _ _, commit_fit (F1.out.less (by have := I1.out; omega)) _ _ _, fun _ => l1, l2⟩⟩
        by_cases k5 : pk = 5
        · as_aux_lemma =>
            subst k5
            rw [show ((5 : Nat) : Int) = 5 from rfl] at PK
            clear k0 k1 k2 k3 k4
            clear hpk8
            have CM := Lib.hid (fun w1 nb1 (h1 : KW w w1 b gd g m1' m2' L kb nb1 (i + 1) K (withP N' pn S)) => kw_Commit h1 HG.out.inv.safe.ok (HG.out.fit.less (by have := I1.out; omega)) (pn : Int) S 6)
            by_cases e0 : L.commitE (pn : Int) S 6 = 0
            · have E0 := Lib.hid e0
              rw [e0] at CM
              clear e0
              go_wp2_with (first
                | (go_at_call 14; refine (PK.out _).mono ?_; rintro e w1 ⟨rfl, rfl⟩)
                | (go_at_call 18; (refine (WT.out _ _ _ _ _ _ _ _ TW.out).mono ?_); rintro e w6 ⟨nb2, rfl, h6⟩; have H6 := Lib.hid h6; clear h6)
                | (go_at_call 19; (refine (CM.out _ _ H6.out).mono ?_); rintro e w7 ⟨rfl, b7, m71, m72, h7⟩; have H7 := Lib.hid h7; clear h7))
              go_roundw
              case rel =>
                obtain ⟨v1, v2⟩ := (commit_inv HG.out.inv L1.out PN1.out SZ.out).1 E0.out
                exact ⟨i + 1, nb2, nb2, b7, m71, m72, _, _, _, by omega, by simp, rfl, rfl, rfl, rfl, ⟨H7.out.keepNow, v1, commit_up E0.out, commit_fit (F1.out.less (by have := I1.out; omega)) _ _ _, by have := HG.out.len; omega⟩⟩
              case measure => simp [intOf]; omega
            · obtain ⟨E, hE⟩ : ∃ E, L.commitE (pn : Int) S 6 = E := ⟨_, rfl⟩
              have E0 := Lib.hid e0
              rw [hE] at CM
              have n1 : (E == 0) = false := by rw [hE] at e0; simpa using e0
              have n2 : (E != 0) = true := by rw [hE] at e0; simpa using e0
              clear e0 hE
              go_wp2_with (first
                | (go_at_call 14; refine (PK.out _).mono ?_; rintro e w1 ⟨rfl, rfl⟩)
                | (go_at_call 18; (refine (WT.out _ _ _ _ _ _ _ _ TW.out).mono ?_); rintro e w6 ⟨nb2, rfl, h6⟩; have H6 := Lib.hid h6; clear h6)
                | (go_at_call 19; (refine (CM.out _ _ H6.out).mono ?_); rintro e w7 ⟨rfl, b7, m71, m72, h7⟩; have H7 := Lib.hid h7; clear h7))
              go_meet
              obtain ⟨l1, l2⟩ := (commit_inv HG.out.inv L1.out PN1.out SZ.out).2 E0.out
              exact ⟨kb, nb2, E, rfl, rfl, rfl, ⟨b7, m71, m72, _, _, K, _, H7.out, commit_ok HG.out.inv.safe.ok _ _ _, commit_fit (F1.out.less (by have := I1.out; omega)) _ _ _, fun _ => l1, l2⟩⟩
        by_cases k6 : pk = 6
        · as_aux_lemma =>
            subst k6
            rw [show ((6 : Nat) : Int) = 6 from rfl] at PK
            clear k0 k1 k2 k3 k4 k5
            clear hpk8
            have BK := Lib.hid (fun w1 (h1 : KW w w1 b gd g m1' m2' L kb nb i K N') => kw_Back h1 HG.out.inv.safe.ok)
            go_wp2_with (first
              | (go_at_call 14; refine (PK.out _).mono ?_; rintro e w1 ⟨rfl, rfl⟩)
              | (go_at_call 20; (with_reducible refine (BK.out _ TW.out).mono ?_); rintro e w6 ⟨rfl, b6, m61, m62, h6⟩; have H6 := Lib.hid h6; clear h6))
            go_roundw
            case rel =>
              exact ⟨i + 1, kb, kb, b6, m61, m62, _, K, K, by omega, by simp, rfl, rfl, rfl, rfl, ⟨H6.out.backNow.mono (Nat.le_succ _), back_inv HG.out.inv, HG.out.up, F1.out.less (by have := I1.out; omega), by have := HG.out.len; show (L.fs.take L.kept).length ≤ _; rw [List.length_take]; omega⟩⟩
            case measure => simp [intOf]; omega
        by_cases k7 : pk = 7
        · as_aux_lemma =>
            subst k7
            rw [show ((7 : Nat) : Int) = 7 from rfl] at PK
            clear k0 k1 k2 k3 k4 k5 k6
            clear hpk8
            have CK := Lib.hid (fun w1 (h1 : KW w w1 b gd g m1' m2' L kb nb i K N') => kw_Checkpoint h1 HG.out.inv.safe.ok (F1.out.less (by omega)) HG.out.up)
            have CI := Lib.hid (check_inv HG.out.inv)
            have CU := Lib.hid (check_up HG.out.inv.safe.ok HG.out.inv.six HG.out.up)
            have CF := Lib.hid (checkpoint_fit F1.out)
            have CO := Lib.hid (checkpoint_ok HG.out.inv.safe.ok)
            obtain ⟨L2, hL2⟩ : ∃ L2, L.checkpoint.1 = L2 := ⟨_, rfl⟩
            obtain ⟨E, hE⟩ : ∃ E, L.checkpoint.2 = E := ⟨_, rfl⟩
            rw [hL2, hE] at CK CI CU
            rw [hL2] at CF CO
            clear hL2 hE
            by_cases e0 : E = 0
            · subst e0
              go_wp2_with (first
                | (go_at_call 14; refine (PK.out _).mono ?_; rintro e w1 ⟨rfl, rfl⟩)
                | (go_at_call 21; (with_reducible refine (CK.out _ TW.out).mono ?_); rintro e w6 ⟨rfl, b6, m61, m62, h6⟩; have H6 := Lib.hid h6; clear h6))
              go_roundw
              case rel =>
                obtain ⟨v1, v2⟩ := CI.out.1 (by simp)
                exact ⟨i + 1, kb, nb, b6, m61, m62, _, K, N', by omega, by simp, rfl, rfl, rfl, rfl, ⟨H6.out.mono (Nat.le_succ _), v1, CU.out (by simp), CF.out.less (by have := I1.out; omega), by have := HG.out.len; omega⟩⟩
              case measure => simp [intOf]; omega
            by_cases e1 : E = 11
            · subst e1
              go_wp2_with (first
                | (go_at_call 14; refine (PK.out _).mono ?_; rintro e w1 ⟨rfl, rfl⟩)
                | (go_at_call 21; (with_reducible refine (CK.out _ TW.out).mono ?_); rintro e w6 ⟨rfl, b6, m61, m62, h6⟩; have H6 := Lib.hid h6; clear h6))
              go_roundw
              case rel =>
                obtain ⟨v1, v2⟩ := CI.out.1 (by simp)
                exact ⟨i + 1, kb, nb, b6, m61, m62, _, K, N', by omega, by simp, rfl, rfl, rfl, rfl, ⟨H6.out.mono (Nat.le_succ _), v1, CU.out (by simp), CF.out.less (by have := I1.out; omega), by have := HG.out.len; omega⟩⟩
              case measure => simp [intOf]; omega
            obtain ⟨l1, l2⟩ := CI.out.2 (fun h => h.elim e0 e1)
            subst l2
            have LL := Lib.hid l1
            clear e0 e1 l1
            go_wp2_with (first
              | (go_at_call 14; refine (PK.out _).mono ?_; rintro e w1 ⟨rfl, rfl⟩)
              | (go_at_call 21; (with_reducible refine (CK.out _ TW.out).mono ?_); rintro e w6 ⟨rfl, b6, m61, m62, h6⟩; have H6 := Lib.hid h6; clear h6))
            go_meet
            exact ⟨kb, kb, 2, rfl, rfl, rfl, ⟨b6, m61, m62, _, _, K, K, H6.out.backNow, CO.out, CF.out.less (by have := I1.out; omega), fun _ => LL.out.1, LL.out.2⟩⟩
        exact absurd hpk8 (by omega)
      · have hiN : i = N := by omega
        subst hiN
        go_wp2_with fail
        go_meet
        exact ⟨kb, kb, 0, rfl, rfl, rfl, HG.out.ends (by omega)⟩
  case rest =>
    clear ST
    obtain ⟨kb, yb, E, rfl, rfl, rfl, b, m1', m2', c', L, K, M, hk, ok, fit, hd, tot⟩ := hcut
    have H0 := Lib.hid hk.hd
    have HP := Lib.hid hk.p.disk
    have OK := Lib.hid ok.disk
    have FT := Lib.hid fit
    have DN := Lib.hid hd
    have TT := Lib.hid (tot ks)
    clear hk ok fit hd tot hmm
    generalize wc = WC at *
    go_upto_region 40 with fail
    go_cut [108] from 102 to 108 (fun s108 wx => s108 = .bool false ∧ wx = WC)
    case first =>
      by_cases e0 : E = 0
      · subst e0
        go_wp2_with fail
        go_meet
        exact ⟨rfl, rfl⟩
      · have n1 : (E == 0) = false := by simpa using e0
        have n2 : (E != 0) = true := by simpa using e0
        have hdn := disk_Down gd L.D b WC HP.out
        rw [DN.out e0] at hdn
        have TD := Lib.hid hdn
        clear e0 hdn
        go_wp2_with (go_at_call 22; (with_reducible refine TD.out.mono ?_); rintro e w3 ⟨rfl, rfl⟩)
        go_meet
        exact ⟨rfl, rfl⟩
    case rest =>
      obtain ⟨rfl, rfl⟩ := hcut
      have CR := Lib.hid (fun b1 w1 D (h1 : DP w1 b1 gd D) (hd : Hd w w1 b1 kb yb c' K M) (hok : D.ok) (hw : D.waits.length ≤ 1000000000) => disk_Crash gd D b1 KA kn kc ks w1 h1 hok hw (HK.out.keep hd.bel) HKN.out (fun h0 k hk h2 => by have := HKB.out h0 k hk; have := hd.low k h2; omega))
      have f1 : Fit ((L.D.crash ks).fail pa) 1000 := fail_fit (crash_fit FT.out ks) (by have := PA1.out; omega)
      have TL : TellsL ((L.D.crash ks).fail pa).l0 ((L.D.crash ks).fail pa).l1 K ∨ TellsL ((L.D.crash ks).fail pa).l0 ((L.D.crash ks).fail pa).l1 M := TT.out
      have dn1 : ((L.D.crash ks).fail pa).down = false := rfl
      have ws1 : ((L.D.crash ks).fail pa).waits = [] := rfl
      have TF := Lib.hid (fun b1 w1 (h1 : DP w1 b1 gd (L.D.crash ks)) => disk_Fail gd (L.D.crash ks) b1 pa w1 h1)
      obtain ⟨D1, hD1⟩ : ∃ D, (L.D.crash ks).fail pa = D := ⟨_, rfl⟩
      rw [hD1] at f1 TL dn1 ws1 TF
      have sn : D1.seen 1 = D1.l1 := by unfold Dk.seen; rw [ws1]; rfl
      have hne : slotIx (D1.seen 1) ≠ 2 := by rw [sn]; exact TL.elim (fun h => h.1) (fun h => h.1)
      have OP1 := Lib.hid (fun b1 w1 (h1 : DP w1 b1 gd D1) => wal_Open2 b1 gd D1 w1 h1 (f1.less (by omega)) dn1 (fun h => absurd h hne))
      have OE := Lib.hid (show (Lg.opened D1).rw.D = D1 from by
        have : Lg.opened D1 = ⟨D1, framesOf (D1.seen 1) (slotOf (D1.seen 1) (slotIx (D1.seen 1))).2.1, (slotOf (D1.seen 1) (slotIx (D1.seen 1))).2.1, (slotOf (D1.seen 1) (slotIx (D1.seen 1))).2.2, slotIx (D1.seen 1), (slotOf (D1.seen 1) (slotIx (D1.seen 1))).1⟩ := if_neg hne
        rw [this]; rfl)
      have e0 : (D1.crash ks).l0 = D1.l0 := by show crashL ks D1.waits 0 0 D1.l0 = _; rw [ws1]; rfl
      have e1 : (D1.crash ks).l1 = D1.l1 := by show crashL ks D1.waits 0 1 D1.l1 = _; rw [ws1]; rfl
      have MV := Lib.hid (fun b1 w1 (h1 : DP w1 b1 gd (D1.crash ks)) => keep_moved b1 gd (D1.crash ks) w1 h1 (Dk.crash_ok f1.ok ks) rfl rfl)
      unfold MovedPost at MV
      rw [e0, e1] at MV
      have ok4 : (plainD D1.l0 D1.l1 (-1) 4).ok := ⟨f1.ok.l0, f1.ok.l1, fun c hc => (by cases hc), by show -1 ≤ (-1 : Int) ∧ (-1 : Int) ≤ 9223372036854775807; decide⟩
      have f4 : Fit (plainD D1.l0 D1.l1 (-1) 4) 4 := ⟨ok4, by show 4 + 4 ≤ _; decide, by show 0 + 4 ≤ _; decide⟩
      have cm4 : (plainD D1.l0 D1.l1 (-1) 4).calm := ⟨rfl, rfl⟩
      have OP2 := Lib.hid (fun b1 g1 w1 (h1 : DP w1 b1 g1 (plainD D1.l0 D1.l1 (-1) 4)) => wal_Open b1 g1 (plainD D1.l0 D1.l1 (-1) 4) w1 h1 f4 cm4)
      have lok : (Lg.opened (plainD D1.l0 D1.l1 (-1) 4)).ok := opened_ok ok4
      have ldn : (Lg.opened (plainD D1.l0 D1.l1 (-1) 4)).D.down = false := (opened_calm cm4).1
      have lf1 : ∀ x, (Lg.opened (plainD D1.l0 D1.l1 (-1) 4)).rw.f1 x ≤ 1000000 := fun x => by
        show lastAt (Lg.opened (plainD D1.l0 D1.l1 (-1) 4)).fs x ≤ _
        have := lastAt_le (Lg.opened (plainD D1.l0 D1.l1 (-1) 4)).fs x; have := lok.len; omega
      have FF := Lib.hid (show (∀ k : Nat, k < 6 → FitP (lift K k) ((Lg.opened (plainD D1.l0 D1.l1 (-1) 4)).rw.readE k) ((Lg.opened (plainD D1.l0 D1.l1 (-1) 4)).rw.readS k)) ∨ (∀ k : Nat, k < 6 → FitP (lift M k) ((Lg.opened (plainD D1.l0 D1.l1 (-1) 4)).rw.readE k) ((Lg.opened (plainD D1.l0 D1.l1 (-1) 4)).rw.readS k)) from
        TL.imp (fun h k hk => fits_of h lok ldn k hk) (fun h k hk => fits_of h lok ldn k hk))
      obtain ⟨R, hR⟩ : ∃ R, (Lg.opened (plainD D1.l0 D1.l1 (-1) 4)).rw = R := ⟨_, rfl⟩
      have ROK : R.D.ok := by rw [← hR]; exact lok.disk
      rw [hR] at OP2 FF lf1
      have RO := Lib.hid ROK
      have LF := Lib.hid lf1
      have O1 := Lib.hid f1.ok
      have W1 := Lib.hid (show D1.waits.length ≤ 1000000000 by rw [ws1]; exact Nat.zero_le _)
      clear f1 TL dn1 ws1 hD1 sn hne e0 e1 ok4 f4 cm4 lok ldn lf1 hR ROK TT
      by_cases FK : ∀ k : Nat, k < 6 → FitP (lift K k) (R.readE k) (R.readS k)
      · have FKH := Lib.hid FK
        clear FK FF
        go_wp2_with (first
          | (go_at_call 23; (refine (CR.out b3 _ D1 HP3.out H3.out O1.out W1.out).mono ?_); rintro e w4 ⟨rfl, b4, hp4, ht4⟩; have HP4 := Lib.hid hp4; have H4 := Lib.hid (H3.out.turn ht4); clear hp4 ht4)
          | (go_at_call 23; (refine (CR.out b _ L.D HP.out H0.out OK.out (by have := FT.out.waits; omega)).mono ?_); rintro e w1 ⟨rfl, b1, hp1, ht1⟩; have HP1 := Lib.hid hp1; have H1 := Lib.hid (H0.out.turn ht1); clear hp1 ht1)
          | (go_at_call 14; refine (PA.out _).mono ?_; rintro e w1 ⟨rfl, rfl⟩)
          | (go_at_call 13; (refine (TF.out b1 _ HP1.out).mono ?_); rintro e w2 ⟨rfl, b2, hp2, ht2⟩; have HP2 := Lib.hid hp2; have H2 := Lib.hid (H1.out.turn ht2); clear hp2 ht2)
          | (go_at_call 12; (refine (OP2.out _ _ _ HP5.out).mono ?_); rintro e w6 ⟨g6, b6, n3, n4, rfl, hl6, ht6⟩; have HL6 := Lib.hid hl6; have H6 := Lib.hid (H5.out.turn ht6); clear hl6 ht6)
          | (go_at_call 12; (refine (OP1.out _ _ HP2.out).mono ?_); rintro e w3 ⟨g3, b3, n1, n2, rfl, hl3, ht3⟩; have hp3 := hl3.disk; rw [OE.out] at hp3; have HP3 := Lib.hid hp3; have H3 := Lib.hid ((H2.out.turn ht3).less (b' := b3) (fun k hk => List.mem_append_left _ hk)); clear hl3 ht3 hp3)
          | (go_at_call 24; (refine (MV.out _ _ HP4.out).mono ?_); rintro e w5 ⟨gn, bn, rfl, hp5, ht5⟩; have HP5 := Lib.hid hp5; have H5 := Lib.hid (H4.out.fresh ht5); clear hp5 ht5)
          | (go_at_call 25; (refine (keep_has_yes b6 gn g6 n3 n4 kb c' R (lift K) _ HL6.out RO.out LF.out H6.out.mK FKH.out).mono ?_); rintro e w7 ⟨rfl, hb⟩; have HB := Lib.hid (bel_step H6.out.bel hb H6.out.bel.size); clear hb))
        go_ret
        exact ⟨rfl, HB.out⟩
      · have FKH := Lib.hid FK
        have FMH := Lib.hid (FF.out.resolve_left FK)
        clear FK FF
        go_wp2_with (first
          | (go_at_call 23; (refine (CR.out b3 _ D1 HP3.out H3.out O1.out W1.out).mono ?_); rintro e w4 ⟨rfl, b4, hp4, ht4⟩; have HP4 := Lib.hid hp4; have H4 := Lib.hid (H3.out.turn ht4); clear hp4 ht4)
          | (go_at_call 23; (refine (CR.out b _ L.D HP.out H0.out OK.out (by have := FT.out.waits; omega)).mono ?_); rintro e w1 ⟨rfl, b1, hp1, ht1⟩; have HP1 := Lib.hid hp1; have H1 := Lib.hid (H0.out.turn ht1); clear hp1 ht1)
          | (go_at_call 14; refine (PA.out _).mono ?_; rintro e w1 ⟨rfl, rfl⟩)
          | (go_at_call 13; (refine (TF.out b1 _ HP1.out).mono ?_); rintro e w2 ⟨rfl, b2, hp2, ht2⟩; have HP2 := Lib.hid hp2; have H2 := Lib.hid (H1.out.turn ht2); clear hp2 ht2)
          | (go_at_call 12; (refine (OP2.out _ _ _ HP5.out).mono ?_); rintro e w6 ⟨g6, b6, n3, n4, rfl, hl6, ht6⟩; have HL6 := Lib.hid hl6; have H6 := Lib.hid (H5.out.turn ht6); clear hl6 ht6)
          | (go_at_call 12; (refine (OP1.out _ _ HP2.out).mono ?_); rintro e w3 ⟨g3, b3, n1, n2, rfl, hl3, ht3⟩; have hp3 := hl3.disk; rw [OE.out] at hp3; have HP3 := Lib.hid hp3; have H3 := Lib.hid ((H2.out.turn ht3).less (b' := b3) (fun k hk => List.mem_append_left _ hk)); clear hl3 ht3 hp3)
          | (go_at_call 24; (refine (MV.out _ _ HP4.out).mono ?_); rintro e w5 ⟨gn, bn, rfl, hp5, ht5⟩; have HP5 := Lib.hid hp5; have H5 := Lib.hid (H4.out.fresh ht5); clear hp5 ht5)
          | (go_at_call 25; (refine (keep_has_yes b6 gn g6 n3 n4 yb c' R (lift M) _ (HL6.out.below B7.out) RO.out LF.out (H6.out.mM.below B7.out) FMH.out).mono ?_); rintro e w8 ⟨rfl, hb8⟩; have HB := Lib.hid (bel_step (bel_step H6.out.bel B7.out H6.out.bel.size) hb8 (Nat.le_trans H6.out.bel.size B7.out.size)); clear hb8)
          | (go_at_call 25; (refine (keep_has_no b6 gn g6 n3 n4 kb c' R (lift K) _ HL6.out RO.out LF.out H6.out.mK FKH.out).mono ?_); rintro e w7 ⟨rfl, hb7⟩; have B7 := Lib.hid hb7; clear hb7))
        go_ret
        exact ⟨rfl, HB.out⟩

end Go.Proofs.Ytjihboddejaelaa
