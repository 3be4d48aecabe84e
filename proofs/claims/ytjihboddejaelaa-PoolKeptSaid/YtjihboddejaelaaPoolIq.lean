/-
  The law PoolKept.
-/
import Derived.Test.YtjihboddejaelaaPoolA1q
import Derived.Test.YtjihboddejaelaaPoolA2q
import Derived.Test.YtjihboddejaelaaPoolA3q
namespace Go.Proofs.Ytjihboddejaelaa
open Go.RowKit
open Go.BigFrame
open Go.Maps
attribute [local go_sem] OpGood goodUpon fillA Act.put
set_option linter.unusedVariables false
set_option linter.unusedSimpArgs false

set_option maxRecDepth 100000 in
set_option maxHeartbeats 100000000 in
theorem law_PoolKept (A : Option Addr) (n c : Nat) (acts : List ActK) (fails again : Int) (KA : Option Addr) (kn kc : Nat) (ks : List Int) (w : World) (h : KS w A n acts) (hc : n ≤ c) (hf : in64 fails) (ha : in64 again) (hK : IS w KA kn ks) (hKb : 0 < kn → ∀ k, blkOf KA = some k → k < w.heap.size) (hkn : kn ≤ 9223372036854775807) :
    Calls Try.prog 6 #[.slice A n c, .int .i64 fails, .int .i64 again, .slice KA kn kc] w fun e w' => e = .returned (.bool true) ∧ Below w.heap.size w w' := by
  have HA := Lib.hid (h.take (k := min n 250) (by omega))
  have TS := Lib.hid (fun w1 => keep_short A n c hc w1)
  have PF := Lib.hid (fun w1 => keep_pick fails 90 hf (by omega) (by omega) w1)
  have PA := Lib.hid (fun w1 => keep_pick again 8 ha (by omega) (by omega) w1)
  rw [show ((90 : Nat) : Int) = 90 from rfl] at PF
  rw [show ((8 : Nat) : Int) = 8 from rfl] at PA
  obtain ⟨pf, hpf⟩ : ∃ p, pickN fails 90 = p := ⟨_, rfl⟩
  obtain ⟨pa, hpa⟩ : ∃ p, pickN again 8 = p := ⟨_, rfl⟩
  have PF1 := Lib.hid (show pf < 90 from hpf ▸ pickN_lt fails (by omega))
  have PA1 := Lib.hid (show pa < 8 from hpa ▸ pickN_lt again (by omega))
  rw [hpf] at PF
  rw [hpa] at PA
  obtain ⟨N, hN⟩ : ∃ N, min n 250 = N := ⟨_, rfl⟩
  have hN2 : N ≤ 250 := by omega
  obtain ⟨al, has⟩ : ∃ al, acts.take (min n 250) = al := ⟨_, rfl⟩
  rw [has] at HA
  rw [hN] at HA TS
  have HK := Lib.hid hK
  have HKB := Lib.hid hKb
  have HKN := Lib.hid hkn
  have hmm := make_mapS
  obtain ⟨fp1, fp2, P0, fp3, fp4, fp5, fp6, fp7, fp8⟩ := first_pool
  have IV := Lib.hid fp4; have I5 := Lib.hid fp5; have I6 := Lib.hid fp6; have I7 := Lib.hid fp7; have I8 := Lib.hid fp8
  have PO := Lib.hid (fun (b0 : List (Option Nat)) (gd : Nat) (w1 : World) (hp : DP w1 b0 gd Dk.new) => by
    have := pool_Open b0 gd Dk.new 8 (Nat.le_refl _) (by omega) w1 hp (new_fit.less (by omega)) rfl (fun _ => ⟨rfl, rfl⟩) fp1 (opened_fit (new_fit.less (by omega))) fp2
    rw [fp3, show ((8 : Nat) : Int) = 8 from rfl] at this
    exact this)
  clear h hc hN has hf ha hK hKb hkn hpf hpa fp1 fp2 fp3 fp4 fp5 fp6 fp7 fp8
  go_enter Try.func6, Try.ntmps6
  go_wp2_with fail
  refine (disk_New w).mono ?_
  rintro e w1 ⟨gd, b0, rfl, hp, ht1⟩
  have OP := Lib.hid (PO.out b0 gd w1 hp)
  have HT1 := Lib.hid ht1
  clear hp ht1
  go_upto_region 8 with (first
    | (go_at_call 40; (with_reducible refine OP.out.mono ?_); rintro e w3 ⟨b1, g, m1, m2, p, e1, h1, t1, rfl, hl3, ht3⟩; have HL3 := Lib.hid hl3; have HT3 := Lib.hid (HT1.out.trans ht3); clear hl3 ht3)
    | (go_at_call 14; refine (PF.out _).mono ?_; rintro e w1 ⟨rfl, rfl⟩)
    | (go_at_call 13; (refine (disk_Fail gd _ _ _ _ HL3.out.log.disk).mono ?_); rintro e w4 ⟨rfl, b2, hd4, ht4⟩; obtain ⟨hl4, hu4⟩ := pm_onDisk HL3.out hd4 ht4; have HL4 := Lib.hid hl4; have HT4 := Lib.hid (HT3.out.trans hu4); clear hd4 ht4 hl4 hu4))
  go_upto_region 9 with fail
  have hb1 := (Below.refl w4.heap.size w4).alloc (Nat.le_refl _) (.map #[] 0)
  have hb2 : Below w4.heap.size w4 ((w4.alloc (.map #[] 0)).alloc (.cells #[.int .i64 1, .map (some w4.heap.size)] 74)) := hb1.alloc (by simp) _
  have PW := Lib.hid (HL4.out.below hb2)
  have LW := Lib.hid HT4.out.newN
  have BW := Lib.hid (bel_step HT4.out.belowN hb2 HT4.out.size)
  have SK := Lib.hid (show Sheet ((w4.alloc (.map #[] 0)).alloc (.cells #[.int .i64 1, .map (some w4.heap.size)] 74)) (allB b2 g m1 m2 p e1 h1 t1 []) w.heap.size (w4.heap.size + 1) w4.heap.size 0 1 noText from by
    have hh := Has.new (w4.alloc (.map #[] 0)) 74 #[.int .i64 1, .map (some w4.heap.size)]
    rw [World.size_alloc] at hh
    have hs := HT4.out.size
    refine ⟨hh, ?_, fun h2 => (by have := HL4.out.lt _ h2; omega), fun h2 => (by have := HL4.out.lt _ h2; omega), by omega, by omega⟩
    rw [show lift noText = fun _ => none from lift_nothing]
    exact (MS.made w4).below ((Below.refl _ _).alloc (Nat.le_refl _) _))
  clear hb1 hb2 OP HT1 HL3 HT3 HL4 HT4 PO
  obtain ⟨W, hW⟩ : ∃ W, ((w4.alloc (.map #[] 0)).alloc (.cells #[.int .i64 1, .map (some w4.heap.size)] 74)) = W := ⟨_, rfl⟩
  rw [hW] at PW BW SK ⊢
  obtain ⟨mk, hmk⟩ : ∃ m, w4.heap.size = m := ⟨_, rfl⟩
  rw [hmk] at SK ⊢
  obtain ⟨xk, hxk⟩ : ∃ x, mk + 1 = x := ⟨_, rfl⟩
  rw [hxk] at SK ⊢
  clear hW hmk hxk
  have x0 : W.cell? ⟨xk, 0, none⟩ = some (.int .i64 1) := SK.out.has.cell 0
  have x1 : W.cell? ⟨xk, 1, none⟩ = some (.map (some mk)) := SK.out.has.cell 1
  obtain ⟨P1, hP1, PW⟩ : ∃ P : Pl, P = { P0 with L := { P0.L with D := P0.L.D.fail pf } } ∧ Hid (PM W b2 gd g m1 m2 p e1 h1 t1 [] P) := ⟨_, rfl, PW⟩
  have S1 := Lib.hid (show St P1 firstB firstB noText noText 0 1 1 from by
    rw [hP1]
    exact ⟨IV.out.onDisk (n := pf) (by have := PF1.out; omega), good_first, by show Good firstB noText P0.free; rw [I5.out]; exact good_first, I6.out, Nat.le_refl _⟩)
  have F1 := Lib.hid (show Fit P1.L.D (251 * 100000) from by
    rw [hP1]
    exact fail_fit (n := pf) (I8.out.less (by omega)) (by have := PF1.out; omega))
  clear IV I5 I6 I7 I8 hP1
  have hxl := SK.out.has.lt
  have NW := Lib.hid (fun (W2 : World) (a b : Nat) => KP.begin (W2 := W2) (a := a) (b := b) (x := ⟨b2, g, m1, m2, e1, h1, t1, []⟩) PW.out LW.out BW.out SK.out)
  have EA : Has ((W.alloc (.cells #[.int .i64 1, .map (some mk)] 74)).alloc (.cells #[.int .i64 1, .map (some mk)] 74)).drew W.heap.size 74 #[.int .i64 (1 : Nat), .map (some mk)] := ((Has.new W _ _).alloc _).drew
  have EB : Has ((W.alloc (.cells #[.int .i64 1, .map (some mk)] 74)).alloc (.cells #[.int .i64 1, .map (some mk)] 74)).drew (W.heap.size + 1) 74 #[.int .i64 (1 : Nat), .map (some mk)] := by
    have := Has.new (W.alloc (.cells #[.int .i64 1, .map (some mk)] 74)) 74 #[.int .i64 (1 : Nat), .map (some mk)]
    rw [World.size_alloc] at this
    exact this.drew
  have EC : Below W.heap.size W ((W.alloc (.cells #[.int .i64 1, .map (some mk)] 74)).alloc (.cells #[.int .i64 1, .map (some mk)] 74)).drew := (((Below.refl _ _).alloc (Nat.le_refl _) _).alloc (by simp) _).drew
  have K1 := Lib.hid (NW.out _ _ _ EC EA EB (Nat.le_refl _) (Nat.le_succ _) (by omega))
  have K2 := Lib.hid (NW.out _ _ _ EC EB EA (Nat.le_succ _) (Nat.le_refl _) (by omega))
  clear EA EB EC NW
  go_cut [13, 14] (fun v13 v14 wx => ∃ a b : Nat, v13 = ptrB a ∧ v14 = ptrB b ∧ KP w wx gd p ⟨b2, g, m1, m2, e1, h1, t1, []⟩ P1 xk a b mk mk mk 0 1 1 1 noText noText noText)
  case first =>
    go_region
    all_goals (go_wp2_with fail; go_meet; first | exact ⟨_, _, rfl, rfl, K1.out⟩ | exact ⟨_, _, rfl, rfl, K2.out⟩)
  case rest =>
    obtain ⟨xn, xm, rfl, rfl, hkp⟩ := hcut
    have KS0 := Lib.hid hkp
    clear K1 K2 hkp x0 x1 hxl PW LW BW SK
    generalize wc = WC at *
    go_upto_block 0 with (go_at_call 15; (with_reducible refine (TS.out _).mono ?_); rintro e w5 ⟨rfl, rfl⟩)
    go_cut [11, 15, 17, 18, 19, 20, 21, 22] from 50 to 158 (fun _ v15 _ _ _ _ _ _ wx => ∃ r : Bool, v15 = .bool r ∧ EndP w wx gd p xk xn xm r)
    case first =>
      go_wp2_with fail
      go_loopw [11, 15, 50] (fun v11 v15 v50 wr => ∃ (i : Nat) (x : Bx) (P : Pl) (B C : Bk) (mk mn mm qm fB : Nat) (TK TN TM : Nat → Option ByteArray), i ≤ N ∧ v50 = .int .i64 i ∧ v11 = .int .i64 0 ∧ v15 = .bool true ∧ GoP w wr gd p xk xn xm i x P B C mk mn mm qm fB TK TN TM) (fun _ _ v50 _ => N - (intOf v50).toNat)
      case atStart => exact ⟨0, _, _, firstB, firstB, _, _, _, _, _, _, _, _, Nat.zero_le _, rfl, rfl, rfl, ⟨KS0.out, S1.out, F1.out⟩⟩
      case round =>
        clear KS0 S1 F1 hmm
        obtain ⟨i, x, P, B, C, mk, mn, mm, qm, fB, TK, TN, TM, hi, rfl, rfl, rfl, hG⟩ := hrel
        have HG := Lib.hid hG
        clear hG
        by_cases hin : i < N
        · obtain ⟨k, off, rfl, hk, hcell⟩ := HA.out.cells (by omega)
          have hl : i < al.length := by rw [HA.out.len]; exact hin
          have hcell2 := hcell i al[i] (by simp [hl])
          have AO := Lib.hid (HA.out.ok al[i] (List.getElem_mem hl))
          obtain ⟨a, ha⟩ : ∃ a, al[i] = a := ⟨_, rfl⟩
          rw [ha] at hcell2 AO
          obtain ⟨wcl, wfl⟩ := bcell HG.out.kp.bel
          have d0 : wr.cell? ⟨k, off + i * 6, none⟩ = some (.int .i64 a.kind) := (wcl k (off + i * 6 + 0) hk).trans (hcell2 0 _ rfl)
          have d1 : wr.cell? ⟨k, off + i * 6 + 1, none⟩ = some (.int .i64 a.f) := (wcl k (off + i * 6 + 1) hk).trans (hcell2 1 _ rfl)
          have d2 : wr.cell? ⟨k, off + i * 6 + 2, none⟩ = some (.int .i64 a.at_) := (wcl k (off + i * 6 + 2) hk).trans (hcell2 2 _ rfl)
          have d3 : wr.cell? ⟨k, off + i * 6 + 3, none⟩ = some (.int .i64 a.n) := (wcl k (off + i * 6 + 3) hk).trans (hcell2 3 _ rfl)
          have d4 : wr.cell? ⟨k, off + i * 6 + 4, none⟩ = some (.string a.s) := (wcl k (off + i * 6 + 4) hk).trans (hcell2 4 _ rfl)
          have d5 : wr.cell? ⟨k, off + i * 6 + 5, none⟩ = some (.string a.t) := (wcl k (off + i * 6 + 5) hk).trans (hcell2 5 _ rfl)
          have zz : k < wr.heap.size := by have := HG.out.kp.bel.size; omega
          have PN := Lib.hid (fun w1 => keep_pick a.n 20 AO.out.n (by omega) (by omega) w1)
          have PK := Lib.hid (fun w1 => keep_pick a.kind 8 AO.out.kind (by omega) (by omega) w1)
          rw [show ((20 : Nat) : Int) = 20 from rfl] at PN
          rw [show ((8 : Nat) : Int) = 8 from rfl] at PK
          obtain ⟨pn, hpn⟩ : ∃ p, pickN a.n 20 = p := ⟨_, rfl⟩
          obtain ⟨pk, hpk⟩ : ∃ p, pickN a.kind 8 = p := ⟨_, rfl⟩
          have PN1 := Lib.hid (show pn < 20 from hpn ▸ pickN_lt a.n (by omega))
          have hpk8 : pk < 8 := hpk ▸ pickN_lt a.kind (by omega)
          rw [hpn] at PN
          rw [hpk] at PK
          have SH := Lib.hid (fun w1 => keep_sheet a.at_ w1)
          obtain ⟨S, hS⟩ : ∃ S, sheetB a.at_ = S := ⟨_, rfl⟩
          have SZ := Lib.hid (show S.size = 1024 from hS ▸ sheetB_size a.at_)
          rw [hS] at SH
          have HB := Lib.hid (Has.new wr 45 #[.int .i64 a.kind, .int .i64 a.f, .int .i64 a.at_, .int .i64 a.n, .string a.s, .string a.t])
          have T0 := Lib.hid (HG.out.kp.below ((Below.refl _ _).alloc (Nat.le_refl _) (.cells #[.int .i64 a.kind, .int .i64 a.f, .int .i64 a.at_, .int .i64 a.n, .string a.s, .string a.t] 45)))
          clear hcell hcell2 ha wcl wfl hl hpn hpk hS
          go_upto_region 14 with fail
          obtain ⟨W2, hW2⟩ : ∃ W, (wr.alloc (.cells #[.int .i64 a.kind, .int .i64 a.f, .int .i64 a.at_, .int .i64 a.n, .string a.s, .string a.t] 45)) = W := ⟨_, rfl⟩
          have HZX : Hid (wr.heap.size ≠ xm ∧ wr.heap.size ≠ xn ∧ wr.heap.size ≠ xk ∧ some wr.heap.size ∉ x.all p ∧ w.heap.size ≤ wr.heap.size) := Lib.hid ⟨by have := HG.out.kp.m.has.lt; omega, by have := HG.out.kp.n.has.lt; omega, by have := HG.out.kp.k.has.lt; omega, fun h2 => by have := PM.lt HG.out.kp.pm _ h2; omega, HG.out.kp.bel.size⟩
          rw [hW2] at HB T0 ⊢
          obtain ⟨z, hz⟩ : ∃ z, wr.heap.size = z := ⟨_, rfl⟩
          rw [hz] at HB HZX ⊢
          clear hW2 hz d0 d1 d2 d3 d4 d5 zz
          have x0 : W2.cell? ⟨xk, 0, none⟩ = some (.int .i64 B.q) := T0.out.k.has.cell 0
          have x1 : W2.cell? ⟨xk, 1, none⟩ = some (.map (some mk)) := T0.out.k.has.cell 1
          have y0 : W2.cell? ⟨xm, 0, none⟩ = some (.int .i64 qm) := T0.out.m.has.cell 0
          have y1 : W2.cell? ⟨xm, 1, none⟩ = some (.map (some mm)) := T0.out.m.has.cell 1
          have yf := T0.out.m.has.frozen
          have K3 := Lib.hid (T0.out.storeM (q' := B.q) T0.out.k.map T0.out.k.offm T0.out.k.lowm)
          have H3 := Lib.hid (HB.out.turn (two_turn W2 xm (.int .i64 B.q) (.map (some mk))) (by simpa using HZX.out.1))
          go_upto_region 15 with fail
          obtain ⟨W3, hW3⟩ : ∃ W, two W2 xm (.int .i64 B.q) (.map (some mk)) = W := ⟨_, rfl⟩
          rw [hW3] at K3 H3
          rw [show ((W2.setCell ⟨xm, 0, none⟩ (.int .i64 B.q)).setCell ⟨xm, 1, none⟩ (.map (some mk))) = W3 from hW3]
          clear hW3
          clear T0 HB x0 x1 y0 y1 yf
          have z0 : W3.cell? ⟨z, 0, none⟩ = some (.int .i64 a.kind) := H3.out.cell 0
          have z3 : W3.cell? ⟨z, 3, none⟩ = some (.int .i64 a.n) := H3.out.cell 3
          go_upto_block 2 with (first | (go_at_call 14; (with_reducible refine (PN.out _).mono ?_); rintro e w6 ⟨rfl, rfl⟩) | (go_at_call 14; (with_reducible refine (PK.out _).mono ?_); rintro e w6 ⟨rfl, rfl⟩))
          rw [show wrap64 (1 + (pn : Int)) = ((pn + 1 : Nat) : Int) by rw [IntWalk.wrap64_in _ (by have := PN1.out; omega)]; omega]
          obtain ⟨nn, hnn⟩ : ∃ nn, pn + 1 = nn := ⟨_, rfl⟩
          have NN := Lib.hid (show 1 ≤ nn ∧ nn ≤ 20 by have := PN1.out; omega)
          rw [hnn]
          clear hnn z0 z3
          have I1 := Lib.hid (show i < 250 by omega)
          have S3 := Lib.hid HG.out.st
          have F3 := Lib.hid (show Fit P.L.D ((250 - i) * 100000 + 90000) from HG.out.fit.less (by omega))
          have OKP := Lib.hid HG.out.st.inv.ok
          clear PN PN1
          go_cut [11, 18, 19, 20, 21, 22, 50] from 50 to 158 (fun v11 _ _ _ _ _ v50 wx => v50 = .int .i64 i ∧ ∃ E : Int, v11 = .int .i64 E ∧ MidP w wx gd p xk xn xm i E)
          case first =>
            by_cases k0 : pk = 0
            · exact law_act0 w W3 gd p xk xn xm z i nn pk mk mn fB k0 x P B C TK TN a S K3 H3 S3 F3 OKP SH SZ NN I1 HZX _ _ _ _ _ _ _ _ _ _ _ _ _ _ _ _ _ _ _ _ _ _ _ _ _ _ _ _ _ _ _ _ _ _ _ _ _ _ _ _ _ _ _ _ _ _ _ _ _ _ _ _ _ _ _ _ _ _ _ _ _ _ _ _ _ _ _ _ _ _ _ _ _ _ _ _ _ _ _ _ _ _ _ _ _ _ _ _ _ _ _ _ _ _ _ _ _ _ _ _ _ _ _ _ _ _ _ _ _ _ _ _ _ _ _ _ _ _ _ _ _ _ _ _ _ _ _ _ _ _ _ _ _ _ _ _ _ _ _ _ _ _ _ _ _ _ _ _ _ _ _ _ _ _ _ _ _ _ _ _ _ _ _ _ _ _ _ _ _ _ _ _ _ _ _ _ _ _ _ _ _ _ _ _ _ _ _ _ _ _ _ _ _ _ _ _ _ _ _ _ _ _ _ _ _ _ _ _ _ _ _ _ _ (fun e w' => e = .returned (.bool true) ∧ Below w.heap.size w w') (by assumption) (by assumption)
            by_cases k1 : pk = 1
            · exact law_act1 w W3 gd p xk xn xm z i nn pk mk mn fB k1 x P B C TK TN a S K3 H3 S3 F3 OKP SH SZ NN I1 HZX _ _ _ _ _ _ _ _ _ _ _ _ _ _ _ _ _ _ _ _ _ _ _ _ _ _ _ _ _ _ _ _ _ _ _ _ _ _ _ _ _ _ _ _ _ _ _ _ _ _ _ _ _ _ _ _ _ _ _ _ _ _ _ _ _ _ _ _ _ _ _ _ _ _ _ _ _ _ _ _ _ _ _ _ _ _ _ _ _ _ _ _ _ _ _ _ _ _ _ _ _ _ _ _ _ _ _ _ _ _ _ _ _ _ _ _ _ _ _ _ _ _ _ _ _ _ _ _ _ _ _ _ _ _ _ _ _ _ _ _ _ _ _ _ _ _ _ _ _ _ _ _ _ _ _ _ _ _ _ _ _ _ _ _ _ _ _ _ _ _ _ _ _ _ _ _ _ _ _ _ _ _ _ _ _ _ _ _ _ _ _ _ _ _ _ _ _ _ _ _ _ _ _ _ _ _ _ _ _ _ _ _ _ (fun e w' => e = .returned (.bool true) ∧ Below w.heap.size w w') (by assumption) (by assumption)
            by_cases k2 : pk = 2
            · exact law_act2 w W3 gd p xk xn xm z i nn pk mk mn fB k2 x P B C TK TN a S K3 H3 S3 F3 OKP SH SZ NN I1 HZX _ _ _ _ _ _ _ _ _ _ _ _ _ _ _ _ _ _ _ _ _ _ _ _ _ _ _ _ _ _ _ _ _ _ _ _ _ _ _ _ _ _ _ _ _ _ _ _ _ _ _ _ _ _ _ _ _ _ _ _ _ _ _ _ _ _ _ _ _ _ _ _ _ _ _ _ _ _ _ _ _ _ _ _ _ _ _ _ _ _ _ _ _ _ _ _ _ _ _ _ _ _ _ _ _ _ _ _ _ _ _ _ _ _ _ _ _ _ _ _ _ _ _ _ _ _ _ _ _ _ _ _ _ _ _ _ _ _ _ _ _ _ _ _ _ _ _ _ _ _ _ _ _ _ _ _ _ _ _ _ _ _ _ _ _ _ _ _ _ _ _ _ _ _ _ _ _ _ _ _ _ _ _ _ _ _ _ _ _ _ _ _ _ _ _ _ _ _ _ _ _ _ _ _ _ _ _ _ _ _ _ _ _ (fun e w' => e = .returned (.bool true) ∧ Below w.heap.size w w') (by assumption) (by assumption)
            by_cases k3 : pk = 3
            · exact law_act3 w W3 gd p xk xn xm z i nn pk mk mn fB k3 x P B C TK TN a S K3 H3 S3 F3 OKP SH SZ NN I1 HZX _ _ _ _ _ _ _ _ _ _ _ _ _ _ _ _ _ _ _ _ _ _ _ _ _ _ _ _ _ _ _ _ _ _ _ _ _ _ _ _ _ _ _ _ _ _ _ _ _ _ _ _ _ _ _ _ _ _ _ _ _ _ _ _ _ _ _ _ _ _ _ _ _ _ _ _ _ _ _ _ _ _ _ _ _ _ _ _ _ _ _ _ _ _ _ _ _ _ _ _ _ _ _ _ _ _ _ _ _ _ _ _ _ _ _ _ _ _ _ _ _ _ _ _ _ _ _ _ _ _ _ _ _ _ _ _ _ _ _ _ _ _ _ _ _ _ _ _ _ _ _ _ _ _ _ _ _ _ _ _ _ _ _ _ _ _ _ _ _ _ _ _ _ _ _ _ _ _ _ _ _ _ _ _ _ _ _ _ _ _ _ _ _ _ _ _ _ _ _ _ _ _ _ _ _ _ _ _ _ _ _ _ _ (fun e w' => e = .returned (.bool true) ∧ Below w.heap.size w w') (by assumption) (by assumption)
            by_cases k4 : pk = 4
            · exact law_act4 w W3 gd p xk xn xm z i nn pk mk mn fB k4 x P B C TK TN a S K3 H3 S3 F3 OKP SH SZ NN I1 HZX _ _ _ _ _ _ _ _ _ _ _ _ _ _ _ _ _ _ _ _ _ _ _ _ _ _ _ _ _ _ _ _ _ _ _ _ _ _ _ _ _ _ _ _ _ _ _ _ _ _ _ _ _ _ _ _ _ _ _ _ _ _ _ _ _ _ _ _ _ _ _ _ _ _ _ _ _ _ _ _ _ _ _ _ _ _ _ _ _ _ _ _ _ _ _ _ _ _ _ _ _ _ _ _ _ _ _ _ _ _ _ _ _ _ _ _ _ _ _ _ _ _ _ _ _ _ _ _ _ _ _ _ _ _ _ _ _ _ _ _ _ _ _ _ _ _ _ _ _ _ _ _ _ _ _ _ _ _ _ _ _ _ _ _ _ _ _ _ _ _ _ _ _ _ _ _ _ _ _ _ _ _ _ _ _ _ _ _ _ _ _ _ _ _ _ _ _ _ _ _ _ _ _ _ _ _ _ _ _ _ _ _ _ (fun e w' => e = .returned (.bool true) ∧ Below w.heap.size w w') (by assumption) (by assumption)
            by_cases k5 : pk = 5
            · exact law_act5 w W3 gd p xk xn xm z i nn pk mk mn fB k5 x P B C TK TN a S K3 H3 S3 F3 OKP SH SZ NN I1 HZX _ _ _ _ _ _ _ _ _ _ _ _ _ _ _ _ _ _ _ _ _ _ _ _ _ _ _ _ _ _ _ _ _ _ _ _ _ _ _ _ _ _ _ _ _ _ _ _ _ _ _ _ _ _ _ _ _ _ _ _ _ _ _ _ _ _ _ _ _ _ _ _ _ _ _ _ _ _ _ _ _ _ _ _ _ _ _ _ _ _ _ _ _ _ _ _ _ _ _ _ _ _ _ _ _ _ _ _ _ _ _ _ _ _ _ _ _ _ _ _ _ _ _ _ _ _ _ _ _ _ _ _ _ _ _ _ _ _ _ _ _ _ _ _ _ _ _ _ _ _ _ _ _ _ _ _ _ _ _ _ _ _ _ _ _ _ _ _ _ _ _ _ _ _ _ _ _ _ _ _ _ _ _ _ _ _ _ _ _ _ _ _ _ _ _ _ _ _ _ _ _ _ _ _ _ _ _ _ _ _ _ _ _ (fun e w' => e = .returned (.bool true) ∧ Below w.heap.size w w') (by assumption) (by assumption)
            by_cases k6 : pk = 6
            · exact law_act6 w W3 gd p xk xn xm z i nn pk mk mn fB k6 x P B C TK TN a S K3 H3 S3 F3 OKP SH SZ NN I1 HZX _ _ _ _ _ _ _ _ _ _ _ _ _ _ _ _ _ _ _ _ _ _ _ _ _ _ _ _ _ _ _ _ _ _ _ _ _ _ _ _ _ _ _ _ _ _ _ _ _ _ _ _ _ _ _ _ _ _ _ _ _ _ _ _ _ _ _ _ _ _ _ _ _ _ _ _ _ _ _ _ _ _ _ _ _ _ _ _ _ _ _ _ _ _ _ _ _ _ _ _ _ _ _ _ _ _ _ _ _ _ _ _ _ _ _ _ _ _ _ _ _ _ _ _ _ _ _ _ _ _ _ _ _ _ _ _ _ _ _ _ _ _ _ _ _ _ _ _ _ _ _ _ _ _ _ _ _ _ _ _ _ _ _ _ _ _ _ _ _ _ _ _ _ _ _ _ _ _ _ _ _ _ _ _ _ _ _ _ _ _ _ _ _ _ _ _ _ _ _ _ _ _ _ _ _ _ _ _ _ _ _ _ _ (fun e w' => e = .returned (.bool true) ∧ Below w.heap.size w w') (by assumption) (by assumption)
            by_cases k7 : pk = 7
            · exact law_act7 w W3 gd p xk xn xm z i nn pk mk mn fB k7 x P B C TK TN a S K3 H3 S3 F3 OKP SH SZ NN I1 HZX _ _ _ _ _ _ _ _ _ _ _ _ _ _ _ _ _ _ _ _ _ _ _ _ _ _ _ _ _ _ _ _ _ _ _ _ _ _ _ _ _ _ _ _ _ _ _ _ _ _ _ _ _ _ _ _ _ _ _ _ _ _ _ _ _ _ _ _ _ _ _ _ _ _ _ _ _ _ _ _ _ _ _ _ _ _ _ _ _ _ _ _ _ _ _ _ _ _ _ _ _ _ _ _ _ _ _ _ _ _ _ _ _ _ _ _ _ _ _ _ _ _ _ _ _ _ _ _ _ _ _ _ _ _ _ _ _ _ _ _ _ _ _ _ _ _ _ _ _ _ _ _ _ _ _ _ _ _ _ _ _ _ _ _ _ _ _ _ _ _ _ _ _ _ _ _ _ _ _ _ _ _ _ _ _ _ _ _ _ _ _ _ _ _ _ _ _ _ _ _ _ _ _ _ _ _ _ _ _ _ _ _ _ (fun e w' => e = .returned (.bool true) ∧ Below w.heap.size w w') (by assumption) (by assumption)
            exact absurd hpk8 (by omega)
          case rest =>
            obtain ⟨rfl, E, rfl, hmid⟩ := hcut
            clear K3 H3 S3 F3 OKP SH SZ HG PK hpk8 NN AO
            rcases hmid with ⟨rfl, x', P', B', C', mk', mn', mm', qm', fB', TK', TN', TM', hkp, hst, hft⟩ | ⟨e0, hend⟩
            · have K4 := Lib.hid hkp; have S4 := Lib.hid hst; have F4 := Lib.hid hft
              clear hkp hst hft
              generalize wc = W4 at *
              have n0 : W4.cell? ⟨xn, 0, none⟩ = some (.int .i64 C'.q) := K4.out.n.has.cell 0
              have n1 : W4.cell? ⟨xn, 1, none⟩ = some (.map (some mn')) := K4.out.n.has.cell 1
              have RD := Lib.hid (keep_read x'.b gd x'.g x'.m1 x'.m2 p x'.e x'.h x'.t x'.A P' (fun R => St R B' C' TK' TN' fB' (1 + 3 * (i + 1)) (1 + (i + 1))) C'.K C'.q ((250 - i) * 100000) mn' (i + 1) TN' W4 K4.out.pm K4.out.n.map K4.out.n.offm S4.out (st_reads S4.out (by have := I1.out; omega)) (by have := S4.out.q; have := I1.out; omega) (F4.out.less (by have := S4.out.q; have := I1.out; omega)))
              go_upto_region 44 with ((go_at_call 47; refine RD.out.mono ?_; rintro en w5 ⟨r, P5, b5, n5, n6, A5, rfl, q5, f5, hr5, hpm5, ht5⟩))
              have K6 := Lib.hid (K4.out.turn (x' := ⟨b5, x'.g, n5, n6, x'.e, x'.h, x'.t, A5⟩) hpm5 ht5)
              have Q5 := Lib.hid q5; have F5 := Lib.hid f5; have R5 := Lib.hid hr5
              clear q5 f5 hr5 hpm5 ht5 n0 n1 RD K4 F4
              cases r
              · have DN := Lib.hid ((R5.out rfl).resolve_left (st_right S4.out))
                go_wp2_with fail
                go_meet
                exact ⟨false, rfl, _, P5, B', mk', mn', mm', i + 1, C'.q, qm', TK', TN', TM', K6.out, F5.out.less (by have := I1.out; omega), fun _ => DN.out, Q5.out.bad (by have := I1.out; omega) _ _⟩
              · have x0 : w5.cell? ⟨xk, 0, none⟩ = some (.int .i64 B'.q) := K6.out.k.has.cell 0
                have x1 : w5.cell? ⟨xk, 1, none⟩ = some (.map (some mk')) := K6.out.k.has.cell 1
                have y0 : w5.cell? ⟨xm, 0, none⟩ = some (.int .i64 qm') := K6.out.m.has.cell 0
                have y1 : w5.cell? ⟨xm, 1, none⟩ = some (.map (some mm')) := K6.out.m.has.cell 1
                have yf := K6.out.m.has.frozen
                have K7 := Lib.hid (K6.out.storeM (q' := B'.q) K6.out.k.map K6.out.k.offm K6.out.k.lowm)
                go_wp2_with fail
                go_roundw
                case rel => exact ⟨i + 1, _, P5, B', C', mk', mn', mk', B'.q, fB', TK', TN', TK', by have := I1.out; omega, by simp, rfl, rfl, ⟨K7.out, Q5.out, F5.out.less (by have := I1.out; omega)⟩⟩
                case measure => simp [intOf]; omega
            · generalize wc = W4 at *
              have n1 : (E == 0) = false := by simpa using e0
              have HE := Lib.hid hend
              clear e0 hend
              go_wp2_with fail
              go_meet
              exact ⟨false, rfl, HE.out⟩
        · have hiN : i = N := by omega
          subst hiN
          go_wp2_with fail
          go_meet
          exact ⟨true, rfl, x, P, B, mk, mn, mm, i, C.q, qm, TK, TN, TM, HG.out.kp, HG.out.fit.less (by omega), fun h => (by cases h), HG.out.st.bad (by omega) _ _⟩
    case rest =>
      rename_i ha
      exact ha _ _ (law_rest _ _ _ _ _ _ _ _ _ _ _ _ PA PA1 HK HKB HKN _ _ _ _ _ _ _ _ _ _ _ _ _ _ _ _ _ _ _ _ _ _ _ _ _ _ _ _ _ _ _ _ _ _ _ _ _ _ _ _ _ _ _ _ _ _ _ _ _ _ _ _ _ _ _ _ _ _ _ _ _ _ _ _ _ _ _ _ _ _ _ _ _ _ _ _ _ _ _ _ _ _ _ _ _ _ _ _ _ _ _ _ _ _ _ _ _ _ _ _ _ _ _ _ _ _ _ _ _ _ _ _ _ _ _ _ _ _ _ _ _ _ _ _ _ _ _ _ _ _ _ _ _ _ _ _ _ _ _ _ _ _ _ _ _ _ _ _ _ _ _ _ _ _ _ _ _ _ _ _ _ _ _ _ _ _ _ _ _ _ _ _ _ _ _ _ _ _ _ _ _ _ _ _ _ _ _ _ _ _ _ _ _ _ _ _ _ _ _ _ _ _ _ hcut)

end Go.Proofs.Ytjihboddejaelaa
